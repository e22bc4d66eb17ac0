/- labels: the statements' own helpers: long, own, is. -/
import Derived.Test.YtkpjfibpaojelaaGreatDoorLabN
namespace Go.Proofs.YtkpjfibpaojelaaGreatDoor
open Go Go.Abs
set_option maxRecDepth 100000
set_option maxHeartbeats 4000000

theorem row_place {P : Program} {t e : TypeId} {k : Nat} {b n cp : Nat} {i : Int} {kd : IntKind} (hu : P.underlying t = some (.slice e)) (hi : (P.info? e).map (·.size) = some k) (h0 : 0 ≤ i) (h1 : i < (n : Nat)) :
    indexAddrE P t (.slice (some ⟨b, 0, none⟩) n cp) (.int kd i) = some (.pointer (some ⟨b, 0 + i.toNat * k, none⟩)) := by
  unfold indexAddrE
  rw [hu]
  simp only
  cases h40 : P.info? e with
  | none => rw [h40] at hi; cases hi
  | some inf =>
    rw [h40] at hi
    simp only [Option.map_some, Option.some.injEq] at hi
    simp only [hi]
    rw [if_pos (by omega)]


/-- baton/batonlaw05.long -/
theorem f12_spec {h : Heap} {n : Nat} {a : Option Addr} {cp : Nat} (ls : List Lab) (hl : IsRow encLab h (.slice a ls.length cp) ls) :
    Makes Tryz.prog 12 [.slice a (ls.length) cp] h n [] (fun u _ _ => ∃ b, u = .bool b ∧ (b = false → ls.length ≤ 500 ∧ ∀ x ∈ ls, x.1.data.toList.length < 5000 ∧ x.2.data.toList.length < 5000)) := by
  refine Makes.free fun hf => ?_
  have hs : SubBut h h [] := .refl _ _
  have hn : n ≤ n := Nat.le_refl _
  have hf0 := hf
  refine Makes.of_bodyV (args := [.slice a (ls.length) cp]) (vs := [.slice a (ls.length) cp, undef, undef, undef, undef, undef, undef, undef, undef, undef, undef, undef, undef, undef, undef, undef, undef, undef, undef, undef, undef, undef, undef, undef, undef, undef, undef, undef, undef, undef, undef, undef, undef, undef, undef]) Tryz.func12 rfl rfl ?_
  refine AWp.seq ?_
  refine AWp.rowV (l := _) pok ?_
  refine sq.c (v := .bool false) rfl rfl rfl rfl ?_
  refine sq.e ?_
  refine AWp.seq ?_
  refine AWp.rowV (l := _) pok ?_
  refine sq.c (v := .int .i64 (0)) rfl rfl rfl rfl ?_
  refine sq.e ?_
  refine AWp.seq ?_
  refine AWp.seq ?_
  refine AWp.rowV (l := _) pok ?_
  refine sq.c (v := .int .i64 (0)) rfl rfl rfl rfl ?_
  refine sq.e ?_
  refine AWp.block ?_
  refine AWp.loopV (fun d vs h' n2 => ∃ (i k : Int), d = ((ls.length : Nat) - i + 1).toNat ∧ h = h' ∧ n ≤ n2 ∧ Free h n2 ∧ (0 ≤ i) ∧ (i ≤ (ls.length : Nat)) ∧ (0 ≤ k) ∧ (k < 20000) ∧ (10 * i ≤ k) ∧ (∀ (j : Nat) (x : Lab), (j : Int) < i → ls[j]? = some x → 5000 ≤ k ∨ x.1.data.toList.length < 5000 ∧ x.2.data.toList.length < 5000) ∧ ∃ y1 : Nat → Value, vs = [.slice a (ls.length) cp, undef, .bool false, .int .i64 (k), .int .i64 (i), (y1 5), (y1 6), (y1 7), (y1 8), (y1 9), (y1 10), (y1 11), (y1 12), (y1 13), (y1 14), (y1 15), (y1 16), (y1 17), (y1 18), (y1 19), (y1 20), (y1 21), (y1 22), (y1 23), (y1 24), (y1 25), (y1 26), (y1 27), (y1 28), (y1 29), (y1 30), (y1 31), (y1 32), undef, undef]) (((ls.length : Nat) - (0 : Int) + 1).toNat) ⟨0, 0, rfl, rfl, hn, hf, (by omega), (by omega), (by omega), (by omega), (by omega), (fun j x hj => by omega), getV [undef, undef, undef, undef, undef, undef, undef, undef, undef, undef, undef, undef, undef, undef, undef, undef, undef, undef, undef, undef, undef, undef, undef, undef, undef, undef, undef, undef, undef, undef, undef, undef, undef], rfl⟩ ?_
  rintro d vs h' n2 ⟨i, k, rfl, rfl, hn, hf, hi0, hi1, hk0, hk1, hki, hyes, y1, rfl⟩
  refine AWp.seq ?_
  refine AWp.seq ?_
  refine AWp.rowV (l := _) pok ?_
  refine sq.c (v := .int .i64 (i)) rfl rfl rfl rfl ?_
  refine sq.c (v := .slice a (ls.length) cp) rfl rfl rfl rfl ?_
  refine sq.c (v := .int .i64 (((ls.length : Nat) : Int))) rfl rfl (by kernel_rfl) rfl ?_
  refine sq.c (v := .bool (decide (i < (((ls.length : Nat) : Int))))) rfl rfl rfl rfl ?_
  refine sq.c (v := .bool (decide (i < (((ls.length : Nat) : Int))))) rfl rfl rfl rfl ?_
  by_cases c3_3 : i < (((ls.length : Nat) : Int))
  · rw [decide_eq_true c3_3]
    refine sq.c (v := .int .i64 (k)) (wantT (g := 4) (d := 9) rfl rfl rfl) rfl rfl rfl ?_
    refine sq.c (v := .bool (decide (k < (5000 : Int)))) (wantT (g := 4) (d := 9) rfl rfl rfl) rfl rfl rfl ?_
    refine sq.c (v := .bool (decide (k < (5000 : Int)))) rfl rfl rfl rfl ?_
    refine sq.e ?_
    by_cases c3_6 : k < (5000 : Int)
    · rw [decide_eq_true c3_6]
      refine AWp.condT rfl rfl ?_
      refine AWp.skip ?_
      refine AWp.seq ?_
      refine AWp.block ?_
      refine AWp.anyV pok [] [0, 1, 2, 3, 4, 5, 6, 7, 8, 9, 10, 11, 12, 13, 14, 15, 16, 17, 18] (by kernel_rfl) (by kernel_rfl) rfl (fun x fr fr' h n hd _ q => ⟨hd ▸ q.1, q.2⟩) ?_
      refine dq.c (v := .int .i64 (k)) rfl (by kernel_rfl) rfl rfl rfl rfl ?_
      refine dq.c (v := .int .i64 (k + 10)) rfl (by kernel_rfl) rfl rfl (okI (wrap_i64 (by omega) (by omega))) rfl ?_
      refine dq.c (v := .slice a (ls.length) cp) rfl (by kernel_rfl) rfl rfl rfl rfl ?_
      refine dq.c (v := .int .i64 (i)) rfl (by kernel_rfl) rfl rfl rfl rfl ?_
      have i9 : (0 : Int) ≤ (i : Int) := by omega
      obtain ⟨x10, hx_x10⟩ : ∃ x, (ls)[((i : Int)).toNat]? = some x := ⟨_, List.getElem?_eq_getElem (by omega)⟩
      obtain ⟨b3, o4, cs_b3, ow_b3, ci_b3, ie8, hb5, hc6, hr7⟩ := IsRow.at (P := Tryz.prog) (t := 22) (e := 40) (k := .i64) (by kernel_rfl) (by kernel_rfl) (hl.keep hs) i9 hx_x10
      refine dq.c (v := .pointer (some ⟨b3, o4, none⟩)) rfl (by kernel_rfl) rfl rfl ie8 rfl ?_
      refine dq.c (v := .pointer (some ⟨b3, o4, none⟩)) rfl (by kernel_rfl) rfl rfl (by kernel_rfl) rfl ?_
      refine dq.g (v := .string (x10.1)) rfl (by kernel_rfl) rfl rfl (ld1 (P := Tryz.prog) (t := 9) (p := o4 + 0) (v := .string (x10.1)) (by kernel_rfl) (by kernel_rfl) hb5 (hc6 0 _ rfl)) rfl ?_
      refine dq.c (v := .int .i64 ((((x10.1).data.toList.length : Nat) : Int))) rfl (by kernel_rfl) rfl rfl (by kernel_rfl) rfl ?_
      refine dq.c (v := .int .i64 (min ((((x10.1).data.toList.length : Nat) : Int)) (5000))) rfl (by kernel_rfl) rfl rfl (okI (minE _ _)) rfl ?_
      refine dq.c (v := .int .i64 ((k + 10) + (min ((((x10.1).data.toList.length : Nat) : Int)) (5000)))) rfl (by kernel_rfl) rfl rfl (okI (wrap_i64 (by omega) (by omega))) rfl ?_
      refine dq.c (v := .slice a (ls.length) cp) rfl (by kernel_rfl) rfl rfl rfl rfl ?_
      refine dq.c (v := .int .i64 (i)) rfl (by kernel_rfl) rfl rfl rfl rfl ?_
      have i17 : (0 : Int) ≤ (i : Int) := by omega
      obtain ⟨b11, o12, cs_b11, ow_b11, ci_b11, ie16, hb13, hc14, hr15⟩ := IsRow.at (P := Tryz.prog) (t := 22) (e := 40) (k := .i64) (by kernel_rfl) (by kernel_rfl) (hl.keep hs) i17 hx_x10
      refine dq.c (v := .pointer (some ⟨b11, o12, none⟩)) rfl (by kernel_rfl) rfl rfl ie16 rfl ?_
      refine dq.c (v := .pointer (some ⟨b11, o12 + 1, none⟩)) rfl (by kernel_rfl) rfl rfl (by kernel_rfl) rfl ?_
      refine dq.g (v := .string (x10.2)) rfl (by kernel_rfl) rfl rfl (ld1 (P := Tryz.prog) (t := 9) (p := o12 + 1) (v := .string (x10.2)) (by kernel_rfl) (by kernel_rfl) hb13 (hc14 1 _ rfl)) rfl ?_
      refine dq.c (v := .int .i64 ((((x10.2).data.toList.length : Nat) : Int))) rfl (by kernel_rfl) rfl rfl (by kernel_rfl) rfl ?_
      refine dq.c (v := .int .i64 (min ((((x10.2).data.toList.length : Nat) : Int)) (5000))) rfl (by kernel_rfl) rfl rfl (okI (minE _ _)) rfl ?_
      refine dq.c (v := .int .i64 (((k + 10) + (min ((((x10.1).data.toList.length : Nat) : Int)) (5000))) + (min ((((x10.2).data.toList.length : Nat) : Int)) (5000)))) rfl (by kernel_rfl) rfl rfl (okI (wrap_i64 (by omega) (by omega))) rfl ?_
      refine dq.c (v := .int .i64 (((k + 10) + (min ((((x10.1).data.toList.length : Nat) : Int)) (5000))) + (min ((((x10.2).data.toList.length : Nat) : Int)) (5000)))) rfl (by kernel_rfl) rfl rfl rfl rfl ?_
      refine dq.e ?_
      refine AWp.rowV (l := _) pok ?_
      refine sq.c (v := .int .i64 (i)) rfl rfl rfl rfl ?_
      refine sq.c (v := .int .i64 (i + 1)) rfl rfl (okI (wrap_i64 (by omega) (by omega))) rfl ?_
      refine sq.c (v := .int .i64 (i + 1)) rfl rfl rfl rfl ?_
      refine sq.e ?_
      have hy : ∀ (j : Nat) (x : Lab), (j : Int) < i + 1 → ls[j]? = some x → 5000 ≤ k + 10 + min (x10.1.data.toList.length : Int) 5000 + min (x10.2.data.toList.length : Int) 5000 ∨ x.1.data.toList.length < 5000 ∧ x.2.data.toList.length < 5000 := by
        intro j x hj hx
        by_cases e : j = i.toNat
        · rw [e, hx_x10] at hx; cases hx; omega
        · rcases hyes j x (by omega) hx with q | q
          · left; omega
          · exact .inr q
      refine ⟨_, _, rfl, by omega, i + 1, _, rfl, rfl, hn, hf, (by omega), (by omega), (by omega), (by omega), (by omega), (hy), getV [undef, undef, undef, undef, undef, .int .i64 (i), .slice a (ls.length) cp, .int .i64 (((ls.length : Nat) : Int)), .bool true, .bool true, .int .i64 (k), .bool true, .bool true, .int .i64 (i), .int .i64 (i + 1), .int .i64 (k), .int .i64 (k + 10), .slice a (ls.length) cp, .int .i64 (i), .pointer (some ⟨b3, o4, none⟩), .pointer (some ⟨b3, o4, none⟩), .string (x10.1), .int .i64 ((((x10.1).data.toList.length : Nat) : Int)), .int .i64 (min ((((x10.1).data.toList.length : Nat) : Int)) (5000)), .int .i64 ((k + 10) + (min ((((x10.1).data.toList.length : Nat) : Int)) (5000))), .slice a (ls.length) cp, .int .i64 (i), .pointer (some ⟨b11, o12, none⟩), .pointer (some ⟨b11, o12 + 1, none⟩), .string (x10.2), .int .i64 ((((x10.2).data.toList.length : Nat) : Int)), .int .i64 (min ((((x10.2).data.toList.length : Nat) : Int)) (5000)), .int .i64 (((k + 10) + (min ((((x10.1).data.toList.length : Nat) : Int)) (5000))) + (min ((((x10.2).data.toList.length : Nat) : Int)) (5000)))], rfl⟩
    · rw [decide_eq_false c3_6]
      refine AWp.condF rfl rfl ?_
      refine AWp.exit ?_
      refine AWp.seq ?_
      refine AWp.rowV (l := _) pok ?_
      refine sq.c (v := .int .i64 (k)) rfl rfl rfl rfl ?_
      refine sq.c (v := .bool (decide ((5000 : Int) ≤ k))) rfl rfl rfl rfl ?_
      refine sq.c (v := .bool (decide ((5000 : Int) ≤ k))) rfl rfl rfl rfl ?_
      refine sq.e ?_
      refine AWp.ret ?_
      -- end 1: L3 c3_3 ¬c3_6
      refine ⟨rfl, [.bool (decide ((5000 : Int) ≤ k))], rfl, .bool (decide ((5000 : Int) ≤ k)), rfl, hs, hn, ?_⟩
      refine ⟨_, rfl, fun hb => ?_⟩
      have hb : ¬ 5000 ≤ k := by simpa using hb
      refine ⟨by omega, fun x hx => ?_⟩
      obtain ⟨j, hj⟩ := List.getElem?_of_mem hx
      have hlt := (List.getElem?_eq_some_iff.1 hj).1
      rcases hyes j x (by omega) hj with q | q
      · omega
      · exact q
  · rw [decide_eq_false c3_3]
    refine sq.s (wantF (g := 4) (d := 9) rfl rfl rfl) rfl ?_
    refine sq.s (wantF (g := 4) (d := 9) rfl rfl rfl) rfl ?_
    refine sq.c (v := .bool false) rfl rfl rfl rfl ?_
    refine sq.e ?_
    refine AWp.condF rfl rfl ?_
    refine AWp.exit ?_
    refine AWp.seq ?_
    refine AWp.rowV (l := _) pok ?_
    refine sq.c (v := .int .i64 (k)) rfl rfl rfl rfl ?_
    refine sq.c (v := .bool (decide ((5000 : Int) ≤ k))) rfl rfl rfl rfl ?_
    refine sq.c (v := .bool (decide ((5000 : Int) ≤ k))) rfl rfl rfl rfl ?_
    refine sq.e ?_
    refine AWp.ret ?_
    -- end 2: L3 ¬c3_3
    refine ⟨rfl, [.bool (decide ((5000 : Int) ≤ k))], rfl, .bool (decide ((5000 : Int) ≤ k)), rfl, hs, hn, ?_⟩
    refine ⟨_, rfl, fun hb => ?_⟩
    have hb : ¬ 5000 ≤ k := by simpa using hb
    refine ⟨by omega, fun x hx => ?_⟩
    obtain ⟨j, hj⟩ := List.getElem?_of_mem hx
    have hlt := (List.getElem?_eq_some_iff.1 hj).1
    rcases hyes j x (by omega) hj with q | q
    · omega
    · exact q

/-- baton/batonlaw05.own -/
theorem f14_spec {h : Heap} {n : Nat} {a : Option Addr} {cp : Nat} (ls : List Lab) (hl : IsRow encLab h (.slice a ls.length cp) ls) (hlen : ls.length < 1000000) :
    Makes Tryz.prog 14 [.slice a (ls.length) cp] h n [] (fun v h2 _ => OwnRow encLab 40 h h2 v ls) := by
  refine Makes.free fun hf => ?_
  have hs : SubBut h h [] := .refl _ _
  have hn : n ≤ n := Nat.le_refl _
  have hf0 := hf
  refine Makes.of_bodyV (args := [.slice a (ls.length) cp]) (vs := [.slice a (ls.length) cp, undef, undef, undef, undef, undef]) Tryz.func14 rfl rfl ?_
  refine AWp.seq ?_
  refine AWp.rowV (l := _) pok ?_
  refine sq.c (v := .slice none (0) (0)) rfl rfl rfl rfl ?_
  refine sq.e ?_
  refine AWp.seq ?_
  refine AWp.rowV (l := _) pok ?_
  have z_n : h.get n = none := hf0 _ hn
  refine sq.op rfl rfl (Does.build (e := 40) (cs := []) hf (fun _ _ => by kernel_rfl)) ?_
  rintro _ h2 n3 ⟨rfl, hb1⟩ s4 hn2 hf
  refine sq.w ?_
  have hs := hs.trans s4
  have hn := Nat.le_trans hn hn2
  refine sq.c (v := .slice a (ls.length) cp) rfl rfl rfl rfl ?_
  have hz0 : h.get n3 = none := hf0 _ hn
  have hfo := hf
  refine sq.op rfl rfl (Does.append (E := encLab) (xs := []) (ys := ls) appLab ⟨.slice 40, by kernel_rfl, fun _ q => by cases q⟩ hf hs (.inl ⟨rfl, .inr ⟨_, _, rfl⟩⟩) (hl.keep hs) rfl rfl (by simp only [List.length_nil]; omega) (by simp only [List.length_nil]; omega) hz0) ?_
  rintro v8 h5 n6 ⟨R_o, hs, hB9⟩ s7 hn2 hf
  refine sq.w ?_
  simp only [List.nil_append] at R_o
  have d_o_n : ∀ c ∈ blkOf v8, c ≠ n := fun c hc => (hB9 c hc).elim (fun q => absurd q (by simp [blkOf])) (fun q => by rw [q]; exact (hfo.ne hb1).symm)
  have s7 : SubBut _ _ [] := s7.mono (by simp [blkOf])
  have hb1 := s7.sub _ _ hb1
  obtain ⟨a10, cp11, rfl⟩ := R_o.slice
  have hn := Nat.le_trans hn hn2
  refine sq.c (v := .slice a10 (ls).length cp11) rfl rfl rfl rfl ?_
  refine sq.e ?_
  refine AWp.ret ?_
  -- end 1: 
  refine ⟨rfl, [.slice a10 (ls).length cp11], rfl, .slice a10 (ls).length cp11, rfl, hs, hn, ?_⟩
  exact R_o

/-- baton/batonlaw05.is -/
theorem f17_row {h : Heap} {n : Nat} {b cp : Nat} {ci : CI} {a2 : Option Addr} {cp2 : Nat} (ls ms : List Lab) (hb : h.get b = some (.cells (encLab.row ls) true ci)) (hlc : ls.length ≤ cp) (hm : IsRow encLab h (.slice a2 ms.length cp2) ms) (hlen : ls.length < 9223372036854775808) :
    Makes Tryz.prog 17 [.slice (some ⟨b, 0, none⟩) (ls.length) cp, .slice a2 (ms.length) cp2] h n [b] (fun u _ _ => u = .bool (decide (ls = ms))) := by
  refine Makes.free fun hf => ?_
  have hs : SubBut h h [b] := .refl _ _
  have hn : n ≤ n := Nat.le_refl _
  have hf0 := hf
  refine Makes.of_bodyV (args := [.slice (some ⟨b, 0, none⟩) (ls.length) cp, .slice a2 (ms.length) cp2]) (vs := [.slice (some ⟨b, 0, none⟩) (ls.length) cp, .slice a2 (ms.length) cp2, undef, undef, undef, undef, undef, undef, undef, undef, undef, undef, undef, undef, undef, undef, undef, undef, undef, undef, undef]) Tryz.func17 rfl rfl ?_
  refine AWp.seq ?_
  refine AWp.rowV (l := _) pok ?_
  refine sq.c (v := .bool false) rfl rfl rfl rfl ?_
  refine sq.e ?_
  refine AWp.seq ?_
  refine AWp.rowV (l := _) pok ?_
  refine sq.c (v := .slice (some ⟨b, 0, none⟩) (ls.length) cp) rfl rfl rfl rfl ?_
  refine sq.c (v := .slice a2 (ms.length) cp2) rfl rfl rfl rfl ?_
  refine sq.t (v := .bool (decide (ls = ms))) rfl (CallsF.fn rfl (by kernel_rfl) rfl rfl) (fun hf => f27_spec _ _ (IsRow.of hb hlc) hm hlen) hf rfl ?_
  intro n1 hn2 hf
  have hn := Nat.le_trans hn hn2
  refine sq.c (v := .bool (decide (ls = ms))) rfl rfl rfl rfl ?_
  refine sq.e ?_
  refine AWp.seq ?_
  refine AWp.seq ?_
  refine AWp.rowV (l := _) pok ?_
  refine sq.c (v := .int .i64 (0)) rfl rfl rfl rfl ?_
  refine sq.e ?_
  refine AWp.block ?_
  refine AWp.loopV (fun d vs h3 n4 => ∃ (i : Int) (zs : List Lab), d = ((ls.length : Nat) - i + 1).toNat ∧ SubBut h h3 [b] ∧ n ≤ n4 ∧ Free h3 n4 ∧ h3.get b = some (.cells (encLab.row zs) true ci) ∧ (0 ≤ i) ∧ (i ≤ (ls.length : Nat)) ∧ (zs.length = ls.length) ∧ ∃ y2 : Nat → Value, vs = [.slice (some ⟨b, 0, none⟩) (ls.length) cp, .slice a2 (ms.length) cp2, undef, undef, .bool false, .bool (decide (ls = ms)), .int .i64 (i), .slice (some ⟨b, 0, none⟩) (ls.length) cp, .slice a2 (ms.length) cp2, .bool (decide (ls = ms)), (y2 10), (y2 11), (y2 12), (y2 13), (y2 14), (y2 15), (y2 16), (y2 17), (y2 18), (y2 19), undef]) (((ls.length : Nat) - (0 : Int) + 1).toNat) ⟨0, ls, rfl, hs, hn, hf, hb, (by omega), (by omega), (rfl), getV [undef, undef, undef, undef, undef, undef, undef, undef, undef, undef, undef, undef, undef, undef, undef, undef, undef, undef, undef, undef], rfl⟩ ?_
  rintro d vs h3 n4 ⟨i, zs, rfl, hs, hn, hf, hb, hi0, hi1, hz, y2, rfl⟩
  refine AWp.seq ?_
  refine AWp.seq ?_
  refine AWp.rowV (l := _) pok ?_
  refine sq.c (v := .int .i64 (i)) rfl rfl rfl rfl ?_
  refine sq.c (v := .slice (some ⟨b, 0, none⟩) (ls.length) cp) rfl rfl rfl rfl ?_
  refine sq.c (v := .int .i64 (((ls.length : Nat) : Int))) rfl rfl (by kernel_rfl) rfl ?_
  refine sq.c (v := .bool (decide (i < (((ls.length : Nat) : Int))))) rfl rfl rfl rfl ?_
  refine sq.e ?_
  by_cases c3_3 : i < (((ls.length : Nat) : Int))
  · rw [decide_eq_true c3_3]
    refine AWp.condT rfl rfl ?_
    refine AWp.skip ?_
    refine AWp.seq ?_
    refine AWp.block ?_
    refine AWp.rowV (l := _) pok ?_
    refine sq.c (v := .slice (some ⟨b, 0, none⟩) (ls.length) cp) rfl rfl rfl rfl ?_
    refine sq.c (v := .int .i64 (i)) rfl rfl rfl rfl ?_
    refine sq.c (v := .agg #[.string (⟨#[115, 112, 111, 105, 108, 116]⟩), .string (⟨#[]⟩)]) rfl rfl (by kernel_rfl) rfl ?_
    refine sq.c (v := .pointer (some ⟨b, 0 + i.toNat * 2, none⟩)) rfl rfl (row_place (P := Tryz.prog) (t := 22) (e := 40) (kd := .i64) (cp := cp) (by kernel_rfl) (by kernel_rfl) (by omega) (by omega)) rfl ?_
    refine sq.op rfl rfl (Does.store (k := 2) (xs := encLab.cells (⟨#[115, 112, 111, 105, 108, 116]⟩, ⟨#[]⟩)) (cs' := encLab.row (zs.set i.toNat (⟨#[115, 112, 111, 105, 108, 116]⟩, ⟨#[]⟩))) hf (by kernel_rfl) rfl rfl rfl hb rfl rfl (by rw [encLab.row_length]; show 0 + i.toNat * 2 + 2 ≤ 2 * zs.length; omega) (by rw [Nat.zero_add, Nat.mul_comm]; exact encLab.row_set _ _ _ (by omega))) ?_
    rintro _ h6 n7 ⟨rfl, hb5⟩ s8 hn2 hf
    refine sq.w0 ?_
    have hs := hs.at (by simp) s8
    have hn := Nat.le_trans hn hn2
    refine sq.e ?_
    refine AWp.rowV (l := _) pok ?_
    refine sq.c (v := .int .i64 (i)) rfl rfl rfl rfl ?_
    refine sq.c (v := .int .i64 (i + 1)) rfl rfl (okI (wrap_i64 (by omega) (by omega))) rfl ?_
    refine sq.c (v := .int .i64 (i + 1)) rfl rfl rfl rfl ?_
    refine sq.e ?_
    refine ⟨_, _, rfl, by omega, i + 1, _, rfl, hs, hn, hf, hb5, (by omega), (by omega), (by rw [List.length_set, hz]), getV [undef, undef, undef, undef, undef, undef, undef, undef, undef, undef, .int .i64 (i), .slice (some ⟨b, 0, none⟩) (ls.length) cp, .int .i64 (((ls.length : Nat) : Int)), .bool true, .int .i64 (i), .int .i64 (i + 1), .slice (some ⟨b, 0, none⟩) (ls.length) cp, .int .i64 (i), .agg #[.string (⟨#[115, 112, 111, 105, 108, 116]⟩), .string (⟨#[]⟩)], .pointer (some ⟨b, 0 + i.toNat * 2, none⟩)], rfl⟩
  · rw [decide_eq_false c3_3]
    refine AWp.condF rfl rfl ?_
    refine AWp.exit ?_
    refine AWp.seq ?_
    refine AWp.rowV (l := _) pok ?_
    refine sq.c (v := .bool (decide (ls = ms))) rfl rfl rfl rfl ?_
    refine sq.c (v := .bool (decide (ls = ms))) rfl rfl rfl rfl ?_
    refine sq.e ?_
    refine AWp.ret ?_
    -- end 1: L3 ¬c3_3
    refine ⟨rfl, [.bool (decide (ls = ms))], rfl, .bool (decide (ls = ms)), rfl, hs, hn, ?_⟩
    rfl

/-- baton/batonlaw05.is -/
theorem f17_nil {h : Heap} {n : Nat} {a a2 : Option Addr} {cp cp2 : Nat} (ms : List Lab) (hl : IsRow encLab h (.slice a 0 cp) []) (hm : IsRow encLab h (.slice a2 ms.length cp2) ms) :
    Makes Tryz.prog 17 [.slice a (0) cp, .slice a2 (ms.length) cp2] h n [] (fun u _ _ => u = .bool (decide (([] : List Lab) = ms))) := by
  refine Makes.free fun hf => ?_
  have hs : SubBut h h [] := .refl _ _
  have hn : n ≤ n := Nat.le_refl _
  have hf0 := hf
  refine Makes.of_bodyV (args := [.slice a (0) cp, .slice a2 (ms.length) cp2]) (vs := [.slice a (0) cp, .slice a2 (ms.length) cp2, undef, undef, undef, undef, undef, undef, undef, undef, undef, undef, undef, undef, undef, undef, undef, undef, undef, undef, undef]) Tryz.func17 rfl rfl ?_
  refine AWp.seq ?_
  refine AWp.rowV (l := _) pok ?_
  refine sq.c (v := .bool false) rfl rfl rfl rfl ?_
  refine sq.e ?_
  refine AWp.seq ?_
  refine AWp.rowV (l := _) pok ?_
  refine sq.c (v := .slice a (0) cp) rfl rfl rfl rfl ?_
  refine sq.c (v := .slice a2 (ms.length) cp2) rfl rfl rfl rfl ?_
  refine sq.t (v := .bool (decide (([] : List Lab) = ms))) rfl (CallsF.fn rfl (by kernel_rfl) rfl rfl) (fun hf => f27_spec [] _ hl hm (by decide)) hf rfl ?_
  intro n1 hn2 hf
  have hn := Nat.le_trans hn hn2
  refine sq.c (v := .bool (decide (([] : List Lab) = ms))) rfl rfl rfl rfl ?_
  refine sq.e ?_
  refine AWp.seq ?_
  refine AWp.seq ?_
  refine AWp.rowV (l := _) pok ?_
  refine sq.c (v := .int .i64 (0)) rfl rfl rfl rfl ?_
  refine sq.e ?_
  refine AWp.block ?_
  refine AWp.loopV (fun d vs h' n3 => ∃ (i : Int), d = (0 : Nat) ∧ h = h' ∧ n ≤ n3 ∧ Free h n3 ∧ (0 ≤ i) ∧ ∃ y2 : Nat → Value, vs = [.slice a (0) cp, .slice a2 (ms.length) cp2, undef, undef, .bool false, .bool (decide (([] : List Lab) = ms)), .int .i64 (i), .slice a (0) cp, .slice a2 (ms.length) cp2, .bool (decide (([] : List Lab) = ms)), (y2 10), (y2 11), (y2 12), (y2 13), (y2 14), (y2 15), (y2 16), (y2 17), (y2 18), (y2 19), undef]) ((0 : Nat)) ⟨0, rfl, rfl, hn, hf, (by omega), getV [undef, undef, undef, undef, undef, undef, undef, undef, undef, undef, undef, undef, undef, undef, undef, undef, undef, undef, undef, undef], rfl⟩ ?_
  rintro d vs h' n3 ⟨i, rfl, rfl, hn, hf, hi0, y2, rfl⟩
  refine AWp.seq ?_
  refine AWp.seq ?_
  refine AWp.rowV (l := _) pok ?_
  refine sq.c (v := .int .i64 (i)) rfl rfl rfl rfl ?_
  refine sq.c (v := .slice a (0) cp) rfl rfl rfl rfl ?_
  refine sq.c (v := .int .i64 (0)) rfl rfl (by kernel_rfl) rfl ?_
  refine sq.c (v := .bool (decide (i < (0 : Int)))) rfl rfl rfl rfl ?_
  refine sq.e ?_
  by_cases c3_3 : i < (0 : Int)
  · exfalso; omega
  · rw [decide_eq_false c3_3]
    refine AWp.condF rfl rfl ?_
    refine AWp.exit ?_
    refine AWp.seq ?_
    refine AWp.rowV (l := _) pok ?_
    refine sq.c (v := .bool (decide (([] : List Lab) = ms))) rfl rfl rfl rfl ?_
    refine sq.c (v := .bool (decide (([] : List Lab) = ms))) rfl rfl rfl rfl ?_
    refine sq.e ?_
    refine AWp.ret ?_
    -- end 1: L3 ¬c3_3
    refine ⟨rfl, [.bool (decide (([] : List Lab) = ms))], rfl, .bool (decide (([] : List Lab) = ms)), rfl, hs, hn, ?_⟩
    rfl

end Go.Proofs.YtkpjfibpaojelaaGreatDoor
