/- labels: DeleteFunc in a slice that is its own; Without. -/
import Derived.Test.YtkpjfibpaojelaaGreatDoorLabG
namespace Go.Proofs.YtkpjfibpaojelaaGreatDoor
open Go Go.Abs
set_option maxRecDepth 100000
set_option maxHeartbeats 4000000

def woN (name : ByteArray) (ls : List Lab) : List Lab := ls.filter fun x => !decide (x.1 = name)

theorem IsRow_ofn {α : Type} {E : Enc α} {h : Heap} {b n cap : Nat} {own : Bool} {ci : CI} {xs : List α} (hb : h.get b = some (.cells (E.row xs) own ci)) (hl : xs.length = n) (hc : n ≤ cap) : IsRow E h (.slice (some ⟨b, 0, none⟩) n cap) xs := by
  subst hl; exact IsRow.of hb hc

/-- The capacity of a part of a slice. -/
def capF (cp l : Nat) : Nat := if cp = U then U else cp - l
theorem slice_from {P : Program} {t e k : Nat} {kd : IntKind} {h : Heap} {b n cp : Nat} {cs : List Value} {own : Bool} {ci : CI} {l : Int} (hu : P.underlying t = some (.slice e)) (hi : (P.info? e).map (·.size) = some k) (hb : h.get b = some (.cells cs own ci)) (hk : (cp = U ∧ ci.k = k) ∨ cp = n) (h0 : 0 ≤ l) (h1 : l < (n : Nat)) (hn : n < U) :
    sliceE P t (.slice (some ⟨b, 0, none⟩) n cp) (some (.int kd l)) none none h = some (.slice (some ⟨b, 0 + l.toNat * k, none⟩) (n - l.toNat) (capF cp l.toNat)) := by
  unfold sliceE
  rw [hu]
  simp only
  cases h40 : P.info? e with
  | none => rw [h40] at hi; cases hi
  | some inf =>
    rw [h40] at hi
    simp only [Option.map_some, Option.some.injEq] at hi
    simp only
    rw [if_neg (by omega)]
    have hl : boundE (some (.int kd l)) n 0 = some l.toNat := by simp only [boundE]; rw [if_pos (by omega)]
    unfold capF
    by_cases hc : cp = U
    · have hk' : ci.k = k := by
        rcases hk with ⟨_, q⟩ | q
        · exact q
        · omega
      rw [if_pos hc, if_pos hc]
      have hb2 : boundE none n n = some n := rfl
      simp only [boundsE, hl, hb2]
      rw [if_pos (by omega)]
      simp only [hb]
      rw [if_pos (by omega), hi]
    · have hk' : cp = n := by
        rcases hk with ⟨q, _⟩ | q
        · exact (hc q).elim
        · exact q
      subst hk'
      rw [if_neg hc, if_neg hc, if_pos (by omega)]
      have hb2 : boundE none cp cp = some cp := rfl
      simp only [boundsE, hl, hb2, Option.getD_none]
      rw [if_neg (by omega), hi]

theorem slice_to {P : Program} {t e k : Nat} {kd : IntKind} {h : Heap} {b n cp : Nat} {cs : List Value} {own : Bool} {ci : CI} {u : Int} (hu : P.underlying t = some (.slice e)) (hi : (P.info? e).map (·.size) = some k) (hb : h.get b = some (.cells cs own ci)) (hk : (cp = U ∧ ci.k = k) ∨ cp = n) (h0 : 0 ≤ u) (h1 : u ≤ (n : Nat)) (hn : n < U) :
    sliceE P t (.slice (some ⟨b, 0, none⟩) n cp) none (some (.int kd u)) none h = some (.slice (some ⟨b, 0, none⟩) u.toNat cp) := by
  unfold sliceE
  rw [hu]
  simp only
  cases h40 : P.info? e with
  | none => rw [h40] at hi; cases hi
  | some inf =>
    rw [h40] at hi
    simp only [Option.map_some, Option.some.injEq] at hi
    simp only
    rw [if_neg (by omega)]
    have hl : boundE (some (.int kd u)) n n = some u.toNat := by simp only [boundE]; rw [if_pos (by omega)]
    have hb2 : boundE none u.toNat 0 = some 0 := rfl
    by_cases hc : cp = U
    · have hk' : ci.k = k := by
        rcases hk with ⟨_, q⟩ | q
        · exact q
        · omega
      rw [if_pos hc]
      simp only [boundsE, hl, hb2]
      rw [if_pos (.inr trivial)]
      simp only [hb]
      rw [if_pos (by omega), hc]
      simp
    · have hk' : cp = n := by
        rcases hk with ⟨q, _⟩ | q
        · exact (hc q).elim
        · exact q
      subst hk'
      rw [if_neg hc, if_pos (by omega)]
      simp only [boundsE, hl, hb2, Option.getD_none]
      simp

theorem zero_lab (n : Nat) : (Builtin.zeroCells (.agg #[.string ⟨#[]⟩, .string ⟨#[]⟩] : Value).cells n).toList = encLab.row (List.replicate n (⟨#[]⟩, ⟨#[]⟩)) := by
  unfold Builtin.zeroCells
  rw [zeros_model]
  unfold zerosE Enc.row
  rw [List.flatMap_def, List.map_replicate]
  rfl

theorem Does.clearLab {ρ : Operand → Value} {h : Heap} {n : Nat} {a : Operand} {ty : TypeId} {pos : String} {after : Array Edge} {b p i m cp : Nat} {zs : List Lab} {ci : CI} (hf : Free h n) (hx : ρ a = .slice (some ⟨b, p, none⟩) m cp) (hp : p = 2 * i) (hb : h.get b = some (.cells (encLab.row zs) true ci)) (hm : i + m ≤ zs.length) (h0 : 0 < m) :
    Does Tryz.prog ⟨none, .call { callee := .builtin .clear, args := #[a], argTypes := #[22] }, ty, pos, after, none⟩ ρ h n [b] fun u h2 _ => u = .tuple #[] ∧ h2.get b = some (.cells (encLab.row (zs.take i ++ List.replicate m (⟨#[]⟩, ⟨#[]⟩) ++ zs.drop (i + m))) true ci) := by
  have hu : Tryz.prog.underlying 22 = some (.slice 40) := by kernel_rfl
  have hz : zeroOf Tryz.prog 40 = some (.agg #[.string ⟨#[]⟩, .string ⟨#[]⟩]) := by kernel_rfl
  have hl : (encLab.row (List.replicate m ((⟨#[]⟩, ⟨#[]⟩) : Lab))).length = 2 * m := by rw [encLab.row_length, List.length_replicate]; rfl
  have hcs : setAll (encLab.row zs) p (encLab.row (List.replicate m (⟨#[]⟩, ⟨#[]⟩))) = encLab.row (zs.take i ++ List.replicate m (⟨#[]⟩, ⟨#[]⟩) ++ zs.drop (i + m)) := by
    have hk : (2 : Nat) = encLab.k := rfl
    rw [setAll_eq _ _ _ (by rw [hl, encLab.row_length, hp, ← hk]; omega), hl, hp, show 2 * i + 2 * m = encLab.k * (i + m) by rw [← hk]; omega, hk, encLab.row_take, encLab.row_drop, encLab.row_append, encLab.row_append]
  refine ⟨rfl, _, _, h.set b (.cells (encLab.row (zs.take i ++ List.replicate m (⟨#[]⟩, ⟨#[]⟩) ++ zs.drop (i + m))) true ci), n, ?_, .inl rfl, .set _ _ _, Nat.le_refl _, hf.setAt hb, rfl, Trie.get_set_same _ _ _⟩
  show clearE Tryz.prog [22] [ρ a] h n = _
  obtain ⟨m', rfl⟩ : ∃ m', m = m' + 1 := ⟨m - 1, by omega⟩
  rw [hx]
  simp only [clearE, hu, hz, hb, zero_lab, hcs]
  rw [if_pos]
  refine ⟨appLab.row_one _, ?_, ?_⟩
  · rw [List.all_eq_true]
    intro y hy
    obtain ⟨x, _, hx⟩ := List.mem_flatMap.1 hy
    simp only [encLab, List.mem_cons, List.not_mem_nil, or_false] at hx
    rcases hx with rfl | rfl <;> rfl
  · have hk : encLab.k = 2 := rfl
    rw [hl, encLab.row_length, hk, hp]; omega

theorem wo_step {ls : List Lab} {j : Nat} {x : Lab} {name : ByteArray} (hx : ls[j]? = some x) : woN name (ls.take (j + 1)) = woN name (ls.take j) ++ (if x.1 = name then [] else [x]) := by
  obtain ⟨hlt, he⟩ := List.getElem?_eq_some_iff.1 hx
  unfold woN
  rw [List.take_succ_eq_append_getElem hlt, he, List.filter_append]
  by_cases h : x.1 = name <;> simp [h]
theorem wo_init {ls : List Lab} {j : Nat} {name : ByteArray} (hb : ∀ (k : Nat) (y : Lab), k < j → ls[k]? = some y → ¬ y.1 = name) : woN name (ls.take j) = ls.take j := by
  unfold woN
  rw [List.filter_eq_self]
  intro x hx
  obtain ⟨k, hk⟩ := List.getElem?_of_mem hx
  rw [List.getElem?_take] at hk
  split at hk
  · rename_i hlt
    have := hb k x hlt hk
    simpa using this
  · cases hk
theorem wo_none {ls : List Lab} {name : ByteArray} (h : ∀ x ∈ ls, ¬ x.1 = name) : woN name ls = ls := by
  unfold woN
  rw [List.filter_eq_self]
  intro x hx
  simpa using h x hx


/-- slices.DeleteFunc[[]baton/api.Label,baton/api.Label] -/
theorem f51_row {h : Heap} {n : Nat} {b cb cp : Nat} {ow : Bool} {ci : CI} {cj : CI} (ls : List Lab) (name : ByteArray) (hb : h.get b = some (.cells (encLab.row ls) true ci)) (hcp : (cp = U ∧ ci.k = 2) ∨ cp = ls.length) (hlen : ls.length < 1000000) (hc : h.get cb = some (.cells [.string (name)] ow cj)) (hne : cb ≠ b) :
    Makes Tryz.prog 51 [.slice (some ⟨b, 0, none⟩) (ls.length) cp, .func (.func 53) #[] #[.pointer (some ⟨cb, 0, none⟩)]] h n [b] (fun v h2 _ => IsRow encLab h2 v (woN name ls)) := by
  refine Makes.free fun hf => ?_
  have hU : (1000000 : Nat) < U := by decide
  have hid := idx_lt ls name
  have hs : SubBut h h [b] := .refl _ _
  have hn : n ≤ n := Nat.le_refl _
  have hf0 := hf
  refine Makes.of_bodyV (args := [.slice (some ⟨b, 0, none⟩) (ls.length) cp, .func (.func 53) #[] #[.pointer (some ⟨cb, 0, none⟩)]]) (vs := [.slice (some ⟨b, 0, none⟩) (ls.length) cp, .func (.func 53) #[] #[.pointer (some ⟨cb, 0, none⟩)], undef, undef, undef, undef, undef, undef, undef, undef, undef, undef, undef, undef, undef, undef, undef, undef, undef, undef, undef, undef, undef, undef, undef, undef, undef, undef, undef, undef, undef, undef, undef, undef, undef, undef, undef, undef, undef, undef, undef, undef]) Tryz.func51 rfl rfl ?_
  refine AWp.seq ?_
  refine AWp.rowV (l := _) pok ?_
  refine sq.c (v := .slice none (0) (0)) rfl rfl rfl rfl ?_
  refine sq.e ?_
  refine AWp.seq ?_
  refine AWp.rowV (l := _) pok ?_
  refine sq.c (v := .slice (some ⟨b, 0, none⟩) (ls.length) cp) rfl rfl rfl rfl ?_
  refine sq.c (v := .func (.func 53) #[] #[.pointer (some ⟨cb, 0, none⟩)]) rfl rfl rfl rfl ?_
  refine sq.t (v := .int .i64 (idxN ls name)) rfl (CallsF.fn rfl (by kernel_rfl) rfl rfl) (fun hf => f49_53 ls name (IsRow.of hb (by omega)) (by omega) hc) hf rfl ?_
  intro n1 hn2 hf
  have hn := Nat.le_trans hn hn2
  refine sq.c (v := .int .i64 (idxN ls name)) rfl rfl rfl rfl ?_
  refine sq.e ?_
  refine AWp.seq ?_
  refine AWp.seq ?_
  refine AWp.rowV (l := _) pok ?_
  refine sq.c (v := .int .i64 (idxN ls name)) rfl rfl rfl rfl ?_
  refine sq.c (v := .bool (decide ((idxN ls name) = (-1 : Int)))) rfl rfl rfl rfl ?_
  refine sq.e ?_
  by_cases c2_1 : (idxN ls name) = (-1 : Int)
  · rw [decide_eq_true c2_1]
    refine AWp.condT rfl rfl ?_
    refine AWp.seq ?_
    refine AWp.rowV (l := _) pok ?_
    refine sq.c (v := .slice (some ⟨b, 0, none⟩) (ls.length) cp) rfl rfl rfl rfl ?_
    refine sq.c (v := .slice (some ⟨b, 0, none⟩) (ls.length) cp) rfl rfl rfl rfl ?_
    refine sq.e ?_
    refine AWp.ret ?_
    -- end 1: c2_1
    refine ⟨rfl, [.slice (some ⟨b, 0, none⟩) (ls.length) cp], rfl, .slice (some ⟨b, 0, none⟩) (ls.length) cp, rfl, hs, hn, ?_⟩
    rcases idx_cases ls name with ⟨_, hb0⟩ | ⟨k, y, e, _⟩
    · rw [wo_none hb0]; exact IsRow.of hb (by omega)
    · exfalso; omega
  · rw [decide_eq_false c2_1]
    refine AWp.condF rfl rfl ?_
    refine AWp.skip ?_
    refine AWp.seq ?_
    refine AWp.seq ?_
    refine AWp.rowV (l := _) pok ?_
    refine sq.c (v := .int .i64 (idxN ls name)) rfl rfl rfl rfl ?_
    refine sq.c (v := .int .i64 ((idxN ls name) + 1)) rfl rfl (okI (wrap_i64 (by omega) (by omega))) rfl ?_
    refine sq.c (v := .int .i64 ((idxN ls name) + 1)) rfl rfl rfl rfl ?_
    refine sq.e ?_
    refine AWp.block ?_
    have hq : 0 ≤ idxN ls name ∧ ls.take (idxN ls name).toNat = woN name (ls.take (idxN ls name + 1).toNat) := by
      rcases idx_cases ls name with ⟨e, _⟩ | ⟨k, y, e, hy, hn0, hb0⟩
      · exact (c2_1 e).elim
      · refine ⟨by omega, ?_⟩
        rw [show (idxN ls name + 1).toNat = k + 1 by omega, show (idxN ls name).toNat = k by omega, wo_step hy, if_pos hn0, List.append_nil, wo_init hb0]
    refine AWp.loopV (fun d vs h3 n4 => ∃ (i j : Int) (zs : List Lab), d = ((ls.length : Nat) - j + 1).toNat ∧ SubBut h h3 [b] ∧ n ≤ n4 ∧ Free h3 n4 ∧ h3.get b = some (.cells (encLab.row zs) true ci) ∧ h3.get cb = some (.cells [.string (name)] ow cj) ∧ (0 ≤ i) ∧ (i < j) ∧ (j ≤ (ls.length : Nat)) ∧ (zs.length = ls.length) ∧ (zs.take i.toNat = woN name (ls.take j.toNat)) ∧ (∀ m : Nat, j ≤ (m : Int) → zs[m]? = ls[m]?) ∧ ∃ y2 : Nat → Value, vs = [.slice (some ⟨b, 0, none⟩) (ls.length) cp, .func (.func 53) #[] #[.pointer (some ⟨cb, 0, none⟩)], undef, undef, .slice none (0) (0), .int .i64 (i), .int .i64 (j), (y2 7), .slice (some ⟨b, 0, none⟩) (ls.length) cp, .func (.func 53) #[] #[.pointer (some ⟨cb, 0, none⟩)], .int .i64 (idxN ls name), .int .i64 (idxN ls name), .bool false, undef, .int .i64 (idxN ls name), .int .i64 ((idxN ls name) + 1), (y2 16), (y2 17), (y2 18), (y2 19), (y2 20), (y2 21), (y2 22), (y2 23), (y2 24), (y2 25), (y2 26), (y2 27), (y2 28), (y2 29), (y2 30), (y2 31), (y2 32), (y2 33), (y2 34), (y2 35), undef, undef, undef, undef, undef, undef]) (((ls.length : Nat) - (idxN ls name + 1) + 1).toNat) ⟨idxN ls name, idxN ls name + 1, ls, rfl, hs, hn, hf, hb, hc, (by omega), (by omega), (by omega), (rfl), (hq.2), (fun m hm => rfl), getV [undef, undef, undef, undef, undef, undef, undef, undef, undef, undef, undef, undef, undef, undef, undef, undef, undef, undef, undef, undef, undef, undef, undef, undef, undef, undef, undef, undef, undef, undef, undef, undef, undef, undef, undef, undef], rfl⟩ ?_
    rintro d vs h3 n4 ⟨i, j, zs, rfl, hs, hn, hf, hb, hc, hi0, hij, hj, hz, ht, hr, y2, rfl⟩
    refine AWp.seq ?_
    refine AWp.seq ?_
    refine AWp.rowV (l := _) pok ?_
    refine sq.c (v := .int .i64 (j)) rfl rfl rfl rfl ?_
    refine sq.c (v := .slice (some ⟨b, 0, none⟩) (ls.length) cp) rfl rfl rfl rfl ?_
    refine sq.c (v := .int .i64 (((ls.length : Nat) : Int))) rfl rfl (by kernel_rfl) rfl ?_
    refine sq.c (v := .bool (decide (j < (((ls.length : Nat) : Int))))) rfl rfl rfl rfl ?_
    refine sq.e ?_
    by_cases c5_3 : j < (((ls.length : Nat) : Int))
    · rw [decide_eq_true c5_3]
      refine AWp.condT rfl rfl ?_
      refine AWp.skip ?_
      refine AWp.seq ?_
      refine AWp.block ?_
      refine AWp.seq ?_
      refine AWp.rowV (l := _) pok ?_
      refine sq.c (v := .slice (some ⟨b, 0, none⟩) (ls.length) cp) rfl rfl rfl rfl ?_
      refine sq.c (v := .int .i64 (j)) rfl rfl rfl rfl ?_
      obtain ⟨x11, hx_x11⟩ : ∃ x, zs[(j : Int).toNat]? = some x := ⟨_, List.getElem?_eq_getElem (by omega)⟩
      obtain ⟨b5, o6, cs_b5, ow_b5, ci_b5, ie10, hb7, hc8, hr9⟩ := IsRow.at (P := Tryz.prog) (t := 22) (e := 40) (k := .i64) (by kernel_rfl) (by kernel_rfl) (IsRow_ofn (cap := cp) hb hz (by omega)) (by omega) hx_x11
      refine sq.c (v := .pointer (some ⟨b5, o6, none⟩)) rfl rfl ie10 rfl ?_
      refine sq.c (v := .agg #[.string (x11.1), .string (x11.2)]) rfl rfl (ldR (P := Tryz.prog) (t := 40) (k := 2) (xs := [.string (x11.1), .string (x11.2)]) (by kernel_rfl) (by kernel_rfl) hr9) rfl ?_
      have e_b_n4 : b ≠ n4 := hf.ne hb
      have e_cb_n4 : cb ≠ n4 := hf.ne hc
      have e_b5_n4 : b5 ≠ n4 := hf.ne hb7
      have z_n4 : h.get n4 = none := hf0 _ hn
      refine sq.op rfl rfl (Does.alloc (cs := [.string (⟨#[]⟩), .string (⟨#[]⟩)]) hf (z := .agg #[.string (⟨#[]⟩), .string (⟨#[]⟩)]) (by kernel_rfl) rfl) ?_
      rintro _ h13 n14 ⟨rfl, hb12⟩ s15 hn2 hf
      refine sq.w ?_
      have hb := s15.sub _ _ hb
      have hc := s15.sub _ _ hc
      have hb7 := s15.sub _ _ hb7
      have hr9 := rowE_sub s15.sub hr9
      have hs := hs.trans (s15.mono (by simp))
      have hn := Nat.le_trans hn hn2
      refine sq.op rfl rfl (Does.store (k := 2) (xs := [.string (x11.1), .string (x11.2)]) (cs' := [.string (x11.1), .string (x11.2)]) hf (by kernel_rfl) rfl rfl rfl hb12 rfl rfl (Nat.le_of_ble_eq_true rfl) rfl) ?_
      rintro _ h17 n18 ⟨rfl, hb16⟩ s19 hn2 hf
      refine sq.w0 ?_
      have hb := s19.get1 (e_b_n4) hb
      have hc := s19.get1 (e_cb_n4) hc
      have hs := hs.fresh z_n4 s19
      have hn := Nat.le_trans hn hn2
      refine sq.e ?_
      refine AWp.seq ?_
      refine AWp.rowV (l := _) pok ?_
      refine sq.c (v := .func (.func 53) #[] #[.pointer (some ⟨cb, 0, none⟩)]) rfl rfl rfl rfl ?_
      refine sq.c (v := .agg #[.string (x11.1), .string (x11.2)]) rfl rfl (ldA (P := Tryz.prog) (t := 40) (p := 0) (k := 2) (xs := [.string (x11.1), .string (x11.2)]) (by kernel_rfl) (by kernel_rfl) hb16 rfl (Nat.le_of_ble_eq_true rfl)) rfl ?_
      refine sq.t (v := .bool (decide (x11.1 = name))) rfl (CallsF.val rfl rfl (by kernel_rfl) rfl rfl) (fun hf => f53_spec x11 name hc) hf rfl ?_
      intro n20 hn2 hf
      have hn := Nat.le_trans hn hn2
      refine sq.c (v := .bool (!decide (x11.1 = name))) rfl rfl rfl rfl ?_
      refine sq.e ?_
      by_cases c8_2 : x11.1 = name
      · rw [decide_eq_true c8_2]
        refine AWp.condF rfl rfl ?_
        refine AWp.skip ?_
        refine AWp.rowV (l := _) pok ?_
        refine sq.c (v := .int .i64 (j)) rfl rfl rfl rfl ?_
        refine sq.c (v := .int .i64 (j + 1)) rfl rfl (okI (wrap_i64 (by omega) (by omega))) rfl ?_
        refine sq.c (v := .int .i64 (j + 1)) rfl rfl rfl rfl ?_
        refine sq.e ?_
        have hlx : ls[j.toNat]? = some x11 := by rw [← hr j.toNat (by omega)]; exact hx_x11
        have hst := wo_step (name := name) hlx
        rw [show j.toNat + 1 = (j + 1).toNat by omega] at hst
        rw [if_pos c8_2, List.append_nil] at hst
        refine ⟨_, _, rfl, by omega, _, j + 1, _, rfl, hs, hn, hf, hb, hc, (by omega), (by omega), (by omega), (hz), (by rw [ht, hst]), (fun m hm => hr m (by omega)), getV [undef, undef, undef, undef, undef, undef, undef, .pointer (some ⟨n4, 0, none⟩), undef, undef, undef, undef, undef, undef, undef, undef, .int .i64 (j), .slice (some ⟨b, 0, none⟩) (ls.length) cp, .int .i64 (((ls.length : Nat) : Int)), .bool true, .int .i64 (j), .int .i64 (j + 1), .slice (some ⟨b, 0, none⟩) (ls.length) cp, .int .i64 (j), .pointer (some ⟨b5, o6, none⟩), .agg #[.string (x11.1), .string (x11.2)], .func (.func 53) #[] #[.pointer (some ⟨cb, 0, none⟩)], .agg #[.string (x11.1), .string (x11.2)], .bool true, .bool false, (y2 30), (y2 31), (y2 32), (y2 33), (y2 34), (y2 35)], rfl⟩
      · rw [decide_eq_false c8_2]
        refine AWp.condT rfl rfl ?_
        refine AWp.seq ?_
        refine AWp.rowV (l := _) pok ?_
        refine sq.c (v := .slice (some ⟨b, 0, none⟩) (ls.length) cp) rfl rfl rfl rfl ?_
        refine sq.c (v := .int .i64 (i)) rfl rfl rfl rfl ?_
        refine sq.c (v := .agg #[.string (x11.1), .string (x11.2)]) rfl rfl (ldA (P := Tryz.prog) (t := 40) (p := 0) (k := 2) (xs := [.string (x11.1), .string (x11.2)]) (by kernel_rfl) (by kernel_rfl) hb16 rfl (Nat.le_of_ble_eq_true rfl)) rfl ?_
        refine sq.c (v := .pointer (some ⟨b, 0 + i.toNat * 2, none⟩)) rfl rfl (row_place (P := Tryz.prog) (t := 22) (e := 40) (kd := .i64) (n := ls.length) (cp := cp) (by kernel_rfl) (by kernel_rfl) (by omega) (by omega)) rfl ?_
        refine sq.op rfl rfl (Does.store (k := 2) (xs := encLab.cells x11) (cs' := encLab.row (zs.set i.toNat x11)) hf (by kernel_rfl) rfl rfl rfl hb rfl rfl (by rw [encLab.row_length]; show 0 + i.toNat * 2 + 2 ≤ 2 * zs.length; omega) (by rw [Nat.zero_add, Nat.mul_comm]; exact encLab.row_set _ _ _ (by omega))) ?_
        rintro _ h22 n23 ⟨rfl, hb21⟩ s24 hn2 hf
        refine sq.w0 ?_
        have hc := s24.get1 (hne) hc
        have hb16 := s24.get1 (Ne.symm e_b_n4) hb16
        have hs := hs.at (by simp) s24
        have hn := Nat.le_trans hn hn2
        refine sq.e ?_
        refine AWp.rowV (l := _) pok ?_
        refine sq.c (v := .int .i64 (i)) rfl rfl rfl rfl ?_
        refine sq.c (v := .int .i64 (i + 1)) rfl rfl (okI (wrap_i64 (by omega) (by omega))) rfl ?_
        refine sq.c (v := .int .i64 (i + 1)) rfl rfl rfl rfl ?_
        refine sq.e ?_
        refine AWp.rowV (l := _) pok ?_
        refine sq.c (v := .int .i64 (j)) rfl rfl rfl rfl ?_
        refine sq.c (v := .int .i64 (j + 1)) rfl rfl (okI (wrap_i64 (by omega) (by omega))) rfl ?_
        refine sq.c (v := .int .i64 (j + 1)) rfl rfl rfl rfl ?_
        refine sq.e ?_
        have hlx : ls[j.toNat]? = some x11 := by rw [← hr j.toNat (by omega)]; exact hx_x11
        have hst := wo_step (name := name) hlx
        rw [show j.toNat + 1 = (j + 1).toNat by omega] at hst
        rw [if_neg c8_2] at hst
        have ht2 : (zs.set i.toNat x11).take (i + 1).toNat = woN name (ls.take (j + 1).toNat) := by
          rw [hst, ← ht, show (i + 1).toNat = i.toNat + 1 by omega, List.take_succ_eq_append_getElem (by rw [List.length_set]; omega), List.take_set, List.getElem_set_self, List.set_eq_of_length_le (by rw [List.length_take]; omega)]
        have hr2 : ∀ m : Nat, j + 1 ≤ (m : Int) → (zs.set i.toNat x11)[m]? = ls[m]? := by
          intro m hm
          rw [List.getElem?_set_ne (by omega)]
          exact hr m (by omega)
        refine ⟨_, _, rfl, by omega, _, j + 1, _, rfl, hs, hn, hf, hb21, hc, (by omega), (by omega), (by omega), (by rw [List.length_set, hz]), (ht2), (hr2), getV [undef, undef, undef, undef, undef, undef, undef, .pointer (some ⟨n4, 0, none⟩), undef, undef, undef, undef, undef, undef, undef, undef, .int .i64 (j), .slice (some ⟨b, 0, none⟩) (ls.length) cp, .int .i64 (((ls.length : Nat) : Int)), .bool true, .int .i64 (j), .int .i64 (j + 1), .slice (some ⟨b, 0, none⟩) (ls.length) cp, .int .i64 (j), .pointer (some ⟨b5, o6, none⟩), .agg #[.string (x11.1), .string (x11.2)], .func (.func 53) #[] #[.pointer (some ⟨cb, 0, none⟩)], .agg #[.string (x11.1), .string (x11.2)], .bool false, .bool true, .slice (some ⟨b, 0, none⟩) (ls.length) cp, .int .i64 (i), .agg #[.string (x11.1), .string (x11.2)], .pointer (some ⟨b, 0 + i.toNat * 2, none⟩), .int .i64 (i), .int .i64 (i + 1)], rfl⟩
    · rw [decide_eq_false c5_3]
      refine AWp.condF rfl rfl ?_
      refine AWp.exit ?_
      refine AWp.seq ?_
      refine AWp.rowV (l := _) pok ?_
      refine sq.c (v := .slice (some ⟨b, 0, none⟩) (ls.length) cp) rfl rfl rfl rfl ?_
      refine sq.c (v := .int .i64 (i)) rfl rfl rfl rfl ?_
      refine sq.c (v := .slice (some ⟨b, 0 + i.toNat * 2, none⟩) (ls.length - i.toNat) (capF cp i.toNat)) rfl rfl (slice_from (P := Tryz.prog) (h := h3) (t := 22) (e := 40) (k := 2) (kd := .i64) (by kernel_rfl) (by kernel_rfl) hb hcp (by omega) (by omega) (by omega)) rfl ?_
      refine sq.op rfl rfl (Does.clearLab (i := i.toNat) hf rfl (by omega) hb (by omega) (by omega)) ?_
      rintro _ h26 n27 ⟨rfl, hb25⟩ s28 hn2 hf
      refine sq.w0 ?_
      have hc := s28.get1 (hne) hc
      have hs := hs.at (by simp) s28
      have hn := Nat.le_trans hn hn2
      refine sq.e ?_
      refine AWp.seq ?_
      refine AWp.rowV (l := _) pok ?_
      refine sq.c (v := .slice (some ⟨b, 0, none⟩) (ls.length) cp) rfl rfl rfl rfl ?_
      refine sq.c (v := .int .i64 (i)) rfl rfl rfl rfl ?_
      refine sq.c (v := .slice (some ⟨b, 0, none⟩) (i.toNat) cp) rfl rfl (slice_to (P := Tryz.prog) (h := h26) (t := 22) (e := 40) (k := 2) (kd := .i64) (by kernel_rfl) (by kernel_rfl) hb25 hcp (by omega) (by omega) (by omega)) rfl ?_
      refine sq.c (v := .slice (some ⟨b, 0, none⟩) (i.toNat) cp) rfl rfl rfl rfl ?_
      refine sq.e ?_
      refine AWp.ret ?_
      -- end 2: ¬c2_1 L5 ¬c5_3
      refine ⟨rfl, [.slice (some ⟨b, 0, none⟩) (i.toNat) cp], rfl, .slice (some ⟨b, 0, none⟩) (i.toNat) cp, rfl, hs, hn, ?_⟩
      have hj : j.toNat = ls.length := by omega
      rw [hj, List.take_length] at ht
      have hl : (woN name ls).length = i.toNat := by rw [← ht, List.length_take]; omega
      refine .inr ⟨b, 0, cp, _, true, ci, by rw [hl], by rw [hl]; omega, hb25, ?_, ?_⟩
      · rw [List.drop_zero, encLab.row_take, hl, List.append_assoc, List.take_append, ht, hl, Nat.sub_self, List.take_zero, List.append_nil, List.take_of_length_le (by omega)]
      · rw [encLab.row_length, hl, Nat.zero_add]
        exact Nat.mul_le_mul_left _ (by simp only [List.length_append, List.length_take, List.length_replicate, List.length_drop]; omega)

/-- slices.DeleteFunc[[]baton/api.Label,baton/api.Label] -/
theorem f51_nil {h : Heap} {n : Nat} {a : Option Addr} {cp cb : Nat} {ow : Bool} {cj : CI} (name : ByteArray) (hl : IsRow encLab h (.slice a 0 cp) []) (hc : h.get cb = some (.cells [.string (name)] ow cj)) :
    Tells Tryz.prog 51 [.slice a (0) cp, .func (.func 53) #[] #[.pointer (some ⟨cb, 0, none⟩)]] h n (.slice a 0 cp) := by
  refine Makes.tells (Makes.free fun hf => ?_)
  have hs : SubBut h h [] := .refl _ _
  have hn : n ≤ n := Nat.le_refl _
  have hf0 := hf
  refine Makes.of_bodyV (args := [.slice a (0) cp, .func (.func 53) #[] #[.pointer (some ⟨cb, 0, none⟩)]]) (vs := [.slice a (0) cp, .func (.func 53) #[] #[.pointer (some ⟨cb, 0, none⟩)], undef, undef, undef, undef, undef, undef, undef, undef, undef, undef, undef, undef, undef, undef, undef, undef, undef, undef, undef, undef, undef, undef, undef, undef, undef, undef, undef, undef, undef, undef, undef, undef, undef, undef, undef, undef, undef, undef, undef, undef]) Tryz.func51 rfl rfl ?_
  refine AWp.seq ?_
  refine AWp.rowV (l := _) pok ?_
  refine sq.c (v := .slice none (0) (0)) rfl rfl rfl rfl ?_
  refine sq.e ?_
  refine AWp.seq ?_
  refine AWp.rowV (l := _) pok ?_
  refine sq.c (v := .slice a (0) cp) rfl rfl rfl rfl ?_
  refine sq.c (v := .func (.func 53) #[] #[.pointer (some ⟨cb, 0, none⟩)]) rfl rfl rfl rfl ?_
  refine sq.t (v := .int .i64 ((-1))) rfl (CallsF.fn rfl (by kernel_rfl) rfl rfl) (fun hf => f49_53 [] name hl (by decide) hc) hf rfl ?_
  intro n1 hn2 hf
  have hn := Nat.le_trans hn hn2
  refine sq.c (v := .int .i64 ((-1))) rfl rfl rfl rfl ?_
  refine sq.e ?_
  refine AWp.seq ?_
  refine AWp.seq ?_
  refine AWp.rowV (l := _) pok ?_
  refine sq.c (v := .int .i64 ((-1))) rfl rfl rfl rfl ?_
  refine sq.c (v := .bool true) rfl rfl rfl rfl ?_
  refine sq.e ?_
  refine AWp.condT rfl rfl ?_
  refine AWp.seq ?_
  refine AWp.rowV (l := _) pok ?_
  refine sq.c (v := .slice a (0) cp) rfl rfl rfl rfl ?_
  refine sq.c (v := .slice a (0) cp) rfl rfl rfl rfl ?_
  refine sq.e ?_
  refine AWp.ret ?_
  -- end 1: 
  refine ⟨rfl, [.slice a (0) cp], rfl, .slice a (0) cp, rfl, hs, hn, ?_⟩
  rfl

end Go.Proofs.YtkpjfibpaojelaaGreatDoor
