/- labels: Get and Without: the first of a name, and those without it. -/
import Derived.Test.YtkpjfibpaojelaaGreatDoorLabMayLaw
namespace Go.Proofs.YtkpjfibpaojelaaGreatDoor
open Go Go.Abs
set_option maxRecDepth 100000
set_option maxHeartbeats 4000000

/-- The place of the first label of a name; -1: there is none. -/
def idxN (ls : List Lab) (name : ByteArray) : Int := match ls.findIdx? fun x => decide (x.1 = name) with
  | some i => i
  | none => -1
def getV1 (ls : List Lab) (name : ByteArray) : ByteArray := match ls.find? fun x => decide (x.1 = name) with
  | some x => x.2
  | none => ⟨#[]⟩
def getV2 (ls : List Lab) (name : ByteArray) : Bool := ls.any fun x => decide (x.1 = name)

theorem idx_at {ls : List Lab} {name : ByteArray} {i : Nat} {x : Lab} (hx : ls[i]? = some x) (h : x.1 = name) (hb : ∀ (j : Nat) (x : Lab), j < i → ls[j]? = some x → ¬ x.1 = name) : idxN ls name = i := by
  have e : ls.findIdx? (fun x => decide (x.1 = name)) = some i := by
    rw [List.findIdx?_eq_some_iff_getElem]
    obtain ⟨hlt, he⟩ := List.getElem?_eq_some_iff.1 hx
    refine ⟨hlt, by rw [he]; exact decide_eq_true h, fun j hj => ?_⟩
    have hjl : j < ls.length := by omega
    have := hb j ls[j] hj (List.getElem?_eq_getElem hjl)
    simpa using this
  unfold idxN
  rw [e]
theorem idx_none {ls : List Lab} {name : ByteArray} (hb : ∀ (j : Nat) (x : Lab), j < ls.length → ls[j]? = some x → ¬ x.1 = name) : idxN ls name = -1 := by
  have e : ls.findIdx? (fun x => decide (x.1 = name)) = none := by
    rw [List.findIdx?_eq_none_iff]
    intro x hx
    obtain ⟨j, hj⟩ := List.getElem?_of_mem hx
    have := hb j x (List.getElem?_eq_some_iff.1 hj).1 hj
    simpa using this
  unfold idxN
  rw [e]
theorem idx_cases (ls : List Lab) (name : ByteArray) : (idxN ls name = -1 ∧ ∀ x ∈ ls, ¬ x.1 = name) ∨ ∃ (i : Nat) (x : Lab), idxN ls name = i ∧ ls[i]? = some x ∧ x.1 = name ∧ ∀ (j : Nat) (y : Lab), j < i → ls[j]? = some y → ¬ y.1 = name := by
  cases e : ls.findIdx? (fun x => decide (x.1 = name)) with
  | none =>
    left
    refine ⟨by unfold idxN; rw [e], ?_⟩
    rw [List.findIdx?_eq_none_iff] at e
    intro x hx
    simpa using e x hx
  | some i =>
    right
    rw [List.findIdx?_eq_some_iff_getElem] at e
    obtain ⟨hlt, h1, h2⟩ := e
    have hx : ls[i]? = some ls[i] := List.getElem?_eq_getElem hlt
    have hn : ls[i].1 = name := by simpa using h1
    have hb : ∀ (j : Nat) (y : Lab), j < i → ls[j]? = some y → ¬ y.1 = name := by
      intro j y hj hy
      obtain ⟨hjl, he⟩ := List.getElem?_eq_some_iff.1 hy
      have := h2 j hj
      rw [he] at this
      simpa using this
    exact ⟨i, ls[i], idx_at hx hn hb, hx, hn, hb⟩
theorem idx_lt (ls : List Lab) (name : ByteArray) : idxN ls name < (ls.length : Nat) ∧ -1 ≤ idxN ls name := by
  rcases idx_cases ls name with ⟨e, _⟩ | ⟨i, x, e, hx, _⟩
  · omega
  · have := (List.getElem?_eq_some_iff.1 hx).1; omega
theorem get_none {ls : List Lab} {name : ByteArray} (h : idxN ls name < 0) : getV1 ls name = ⟨#[]⟩ ∧ getV2 ls name = false := by
  rcases idx_cases ls name with ⟨e, hb⟩ | ⟨i, x, e, hx, _⟩
  · have e1 : ls.find? (fun x => decide (x.1 = name)) = none := by
      rw [List.find?_eq_none]
      intro x hx
      simpa using hb x hx
    have e2 : getV2 ls name = false := by
      unfold getV2
      rw [List.any_eq_false]
      intro x hx
      simpa using hb x hx
    exact ⟨by unfold getV1; rw [e1], e2⟩
  · omega
theorem get_some {ls : List Lab} {name : ByteArray} {x : Lab} (h : ¬ idxN ls name < 0) (hx : ls[(idxN ls name).toNat]? = some x) : getV1 ls name = x.2 ∧ getV2 ls name = true := by
  rcases idx_cases ls name with ⟨e, hb⟩ | ⟨i, y, e, hy, hn, hb⟩
  · omega
  · have ei : (idxN ls name).toNat = i := by omega
    rw [ei, hy] at hx
    cases hx
    have e1 : ls.find? (fun x => decide (x.1 = name)) = some x := by
      rw [List.find?_eq_some_iff_getElem]
      obtain ⟨hlt, he⟩ := List.getElem?_eq_some_iff.1 hy
      refine ⟨decide_eq_true hn, i, hlt, he, fun j hj => ?_⟩
      have hjl : j < ls.length := by omega
      have := hb j ls[j] hj (List.getElem?_eq_getElem hjl)
      simpa using this
    have e2 : getV2 ls name = true := by
      unfold getV2
      rw [List.any_eq_true]
      exact ⟨x, List.mem_of_getElem? hy, decide_eq_true hn⟩
    exact ⟨by unfold getV1; rw [e1], e2⟩


/-- baton/labels.Get$1 -/
theorem f50_spec {h : Heap} {n : Nat} {cb : Nat} {ow : Bool} {ci : CI} (x : Lab) (name : ByteArray) (hc : h.get cb = some (.cells [.string (name)] ow ci)) :
    Tells Tryz.prog 50 [.agg #[.string (x.1), .string (x.2)], .pointer (some ⟨cb, 0, none⟩)] h n (.bool (decide (x.1 = name))) := by
  refine Makes.tells (Makes.free fun hf => ?_)
  have hs : SubBut h h [] := .refl _ _
  have hn : n ≤ n := Nat.le_refl _
  have hf0 := hf
  refine Makes.of_bodyV (args := [.agg #[.string (x.1), .string (x.2)], .pointer (some ⟨cb, 0, none⟩)]) (vs := [.agg #[.string (x.1), .string (x.2)], .pointer (some ⟨cb, 0, none⟩), undef, undef, undef, undef, undef, undef]) Tryz.func50 rfl rfl ?_
  refine AWp.seq ?_
  refine AWp.rowV (l := _) pok ?_
  have e_cb_n : cb ≠ n := hf.ne hc
  have z_n : h.get n = none := hf0 _ hn
  refine sq.op rfl rfl (Does.box (cs := [.string (x.1), .string (x.2)]) hf rfl rfl) ?_
  rintro _ h2 n3 ⟨rfl, hb1⟩ s4 hn2 hf
  refine sq.w ?_
  have hc := s4.sub _ _ hc
  have hs := hs.trans s4
  have hn := Nat.le_trans hn hn2
  refine sq.c (v := .bool false) rfl rfl rfl rfl ?_
  refine sq.e ?_
  refine AWp.seq ?_
  refine AWp.rowV (l := _) pok ?_
  refine sq.c (v := .pointer (some ⟨n, 0, none⟩)) rfl rfl (by kernel_rfl) rfl ?_
  refine sq.c (v := .string (x.1)) rfl rfl (ld1 (P := Tryz.prog) (t := 9) (p := 0) (v := .string (x.1)) (by kernel_rfl) (by kernel_rfl) hb1 rfl) rfl ?_
  refine sq.c (v := .string (name)) rfl rfl (ld1 (P := Tryz.prog) (t := 9) (p := 0) (v := .string (name)) (by kernel_rfl) (by kernel_rfl) hc rfl) rfl ?_
  refine sq.c (v := .bool (decide (x.1 = name))) rfl rfl (eqD _ _) rfl ?_
  refine sq.c (v := .bool (decide (x.1 = name))) rfl rfl rfl rfl ?_
  refine sq.e ?_
  refine AWp.ret ?_
  -- end 1: 
  refine ⟨rfl, [.bool (decide (x.1 = name))], rfl, .bool (decide (x.1 = name)), rfl, hs, hn, ?_⟩
  rfl

/-- baton/labels.Without$1 -/
theorem f53_spec {h : Heap} {n : Nat} {cb : Nat} {ow : Bool} {ci : CI} (x : Lab) (name : ByteArray) (hc : h.get cb = some (.cells [.string (name)] ow ci)) :
    Tells Tryz.prog 53 [.agg #[.string (x.1), .string (x.2)], .pointer (some ⟨cb, 0, none⟩)] h n (.bool (decide (x.1 = name))) := by
  refine Makes.tells (Makes.free fun hf => ?_)
  have hs : SubBut h h [] := .refl _ _
  have hn : n ≤ n := Nat.le_refl _
  have hf0 := hf
  refine Makes.of_bodyV (args := [.agg #[.string (x.1), .string (x.2)], .pointer (some ⟨cb, 0, none⟩)]) (vs := [.agg #[.string (x.1), .string (x.2)], .pointer (some ⟨cb, 0, none⟩), undef, undef, undef, undef, undef, undef]) Tryz.func53 rfl rfl ?_
  refine AWp.seq ?_
  refine AWp.rowV (l := _) pok ?_
  have e_cb_n : cb ≠ n := hf.ne hc
  have z_n : h.get n = none := hf0 _ hn
  refine sq.op rfl rfl (Does.box (cs := [.string (x.1), .string (x.2)]) hf rfl rfl) ?_
  rintro _ h2 n3 ⟨rfl, hb1⟩ s4 hn2 hf
  refine sq.w ?_
  have hc := s4.sub _ _ hc
  have hs := hs.trans s4
  have hn := Nat.le_trans hn hn2
  refine sq.c (v := .bool false) rfl rfl rfl rfl ?_
  refine sq.e ?_
  refine AWp.seq ?_
  refine AWp.rowV (l := _) pok ?_
  refine sq.c (v := .pointer (some ⟨n, 0, none⟩)) rfl rfl (by kernel_rfl) rfl ?_
  refine sq.c (v := .string (x.1)) rfl rfl (ld1 (P := Tryz.prog) (t := 9) (p := 0) (v := .string (x.1)) (by kernel_rfl) (by kernel_rfl) hb1 rfl) rfl ?_
  refine sq.c (v := .string (name)) rfl rfl (ld1 (P := Tryz.prog) (t := 9) (p := 0) (v := .string (name)) (by kernel_rfl) (by kernel_rfl) hc rfl) rfl ?_
  refine sq.c (v := .bool (decide (x.1 = name))) rfl rfl (eqD _ _) rfl ?_
  refine sq.c (v := .bool (decide (x.1 = name))) rfl rfl rfl rfl ?_
  refine sq.e ?_
  refine AWp.ret ?_
  -- end 1: 
  refine ⟨rfl, [.bool (decide (x.1 = name))], rfl, .bool (decide (x.1 = name)), rfl, hs, hn, ?_⟩
  rfl

/-- slices.IndexFunc[[]baton/api.Label,baton/api.Label] -/
theorem f49_50 {h : Heap} {n : Nat} {a : Option Addr} {cp cb : Nat} {ow : Bool} {ci : CI} (ls : List Lab) (name : ByteArray) (hl : IsRow encLab h (.slice a ls.length cp) ls) (hlen : ls.length < 9223372036854775808) (hc : h.get cb = some (.cells [.string (name)] ow ci)) :
    Tells Tryz.prog 49 [.slice a (ls.length) cp, .func (.func 50) #[] #[.pointer (some ⟨cb, 0, none⟩)]] h n (.int .i64 (idxN ls name)) := by
  refine Makes.tells (Makes.free fun hf => ?_)
  have hs : SubBut h h [] := .refl _ _
  have hn : n ≤ n := Nat.le_refl _
  have hf0 := hf
  refine Makes.of_bodyV (args := [.slice a (ls.length) cp, .func (.func 50) #[] #[.pointer (some ⟨cb, 0, none⟩)]]) (vs := [.slice a (ls.length) cp, .func (.func 50) #[] #[.pointer (some ⟨cb, 0, none⟩)], undef, undef, undef, undef, undef, undef, undef, undef, undef, undef, undef, undef, undef, undef, undef, undef, undef]) Tryz.func49 rfl rfl ?_
  refine AWp.seq ?_
  refine AWp.rowV (l := _) pok ?_
  refine sq.c (v := .int .i64 (0)) rfl rfl rfl rfl ?_
  refine sq.e ?_
  refine AWp.seq ?_
  refine AWp.seq ?_
  refine AWp.rowV (l := _) pok ?_
  refine sq.c (v := .slice a (ls.length) cp) rfl rfl rfl rfl ?_
  refine sq.c (v := .int .i64 (((ls.length : Nat) : Int))) rfl rfl (by kernel_rfl) rfl ?_
  refine sq.c (v := .int .i64 (0)) rfl rfl rfl rfl ?_
  refine sq.e ?_
  refine AWp.block ?_
  refine AWp.loopV (fun d vs h' n2 => ∃ (i : Int), d = ((ls.length : Nat) - i + 1).toNat ∧ h = h' ∧ n ≤ n2 ∧ Free h n2 ∧ (0 ≤ i) ∧ (i ≤ (ls.length : Nat)) ∧ (∀ (j : Nat) (x : Lab), (j : Int) < i → ls[j]? = some x → ¬ x.1 = name) ∧ ∃ y1 : Nat → Value, vs = [.slice a (ls.length) cp, .func (.func 50) #[] #[.pointer (some ⟨cb, 0, none⟩)], undef, undef, (y1 4), (y1 5), .slice a (ls.length) cp, .int .i64 (((ls.length : Nat) : Int)), .int .i64 (i), (y1 9), (y1 10), (y1 11), (y1 12), (y1 13), (y1 14), (y1 15), (y1 16), (y1 17), (y1 18)]) (((ls.length : Nat) - (0 : Int) + 1).toNat) ⟨0, rfl, rfl, hn, hf, (by omega), (by omega), (fun j x hj => by omega), getV [undef, undef, undef, undef, .int .i64 (0), undef, undef, undef, undef, undef, undef, undef, undef, undef, undef, undef, undef, undef, undef], rfl⟩ ?_
  rintro d vs h' n2 ⟨i, rfl, rfl, hn, hf, hi0, hi1, hyes, y1, rfl⟩
  refine AWp.seq ?_
  refine AWp.rowV (l := _) pok ?_
  refine sq.c (v := .bool (decide (i < (((ls.length : Nat) : Int))))) rfl rfl rfl rfl ?_
  refine sq.e ?_
  refine AWp.seq ?_
  by_cases c2_0 : i < (((ls.length : Nat) : Int))
  · rw [decide_eq_true c2_0]
    refine AWp.condT rfl rfl ?_
    refine AWp.skip ?_
    refine AWp.seq ?_
    refine AWp.block ?_
    refine AWp.seq ?_
    refine AWp.rowV (l := _) pok ?_
    refine sq.c (v := .int .i64 (i)) rfl rfl rfl rfl ?_
    refine sq.c (v := .int .i64 (i)) rfl rfl rfl rfl ?_
    refine sq.e ?_
    refine AWp.seq ?_
    refine AWp.rowV (l := _) pok ?_
    refine sq.c (v := .func (.func 50) #[] #[.pointer (some ⟨cb, 0, none⟩)]) rfl rfl rfl rfl ?_
    refine sq.c (v := .slice a (ls.length) cp) rfl rfl rfl rfl ?_
    refine sq.c (v := .int .i64 (i)) rfl rfl rfl rfl ?_
    have i9 : (0 : Int) ≤ (i : Int) := by omega
    obtain ⟨x10, hx_x10⟩ : ∃ x, (ls)[((i : Int)).toNat]? = some x := ⟨_, List.getElem?_eq_getElem (by omega)⟩
    obtain ⟨b3, o4, cs_b3, ow_b3, ci_b3, ie8, hb5, hc6, hr7⟩ := IsRow.at (P := Tryz.prog) (t := 22) (e := 40) (k := .i64) (by kernel_rfl) (by kernel_rfl) (hl.keep hs) i9 hx_x10
    refine sq.c (v := .pointer (some ⟨b3, o4, none⟩)) rfl rfl ie8 rfl ?_
    refine sq.c (v := .agg #[.string (x10.1), .string (x10.2)]) rfl rfl (ldR (P := Tryz.prog) (t := 40) (k := 2) (xs := [.string (x10.1), .string (x10.2)]) (by kernel_rfl) (by kernel_rfl) hr7) rfl ?_
    refine sq.t (v := .bool (decide (x10.1 = name))) rfl (CallsF.val rfl rfl (by kernel_rfl) rfl rfl) (fun hf => f50_spec x10 name hc) hf rfl ?_
    intro n11 hn2 hf
    have hn := Nat.le_trans hn hn2
    refine sq.e ?_
    by_cases c4_5 : x10.1 = name
    · rw [decide_eq_true c4_5]
      refine AWp.condT rfl rfl ?_
      refine AWp.seq ?_
      refine AWp.rowV (l := _) pok ?_
      refine sq.c (v := .int .i64 (i)) rfl rfl rfl rfl ?_
      refine sq.c (v := .int .i64 (i)) rfl rfl rfl rfl ?_
      refine sq.e ?_
      refine AWp.ret ?_
      -- end 1: L2 c2_0 c4_5
      refine ⟨rfl, [.int .i64 (i)], rfl, .int .i64 (i), rfl, hs, hn, ?_⟩
      show Value.int .i64 (i) = .int .i64 (idxN ls name)
      rw [idx_at hx_x10 c4_5 (fun j x hj hx => hyes j x (by omega) hx)]; exact congrArg (Value.int .i64) (by omega)
    · rw [decide_eq_false c4_5]
      refine AWp.condF rfl rfl ?_
      refine AWp.skip ?_
      refine AWp.rowV (l := _) pok ?_
      refine sq.c (v := .int .i64 (i + 1)) rfl rfl (okI (wrap_i64 (by omega) (by omega))) rfl ?_
      refine sq.c (v := .int .i64 (i + 1)) rfl rfl rfl rfl ?_
      refine sq.e ?_
      have hy : ∀ (j : Nat) (x : Lab), (j : Int) < i + 1 → ls[j]? = some x → ¬ x.1 = name := by
        intro j x hj hx
        by_cases e : j = i.toNat
        · rw [e, hx_x10] at hx; cases hx; exact c4_5
        · exact hyes j x (by omega) hx
      refine ⟨_, _, rfl, by omega, i + 1, rfl, rfl, hn, hf, (by omega), (by omega), (hy), getV [undef, undef, undef, undef, (y1 4), .int .i64 (i), undef, undef, undef, .bool true, .int .i64 (i), .func (.func 50) #[] #[.pointer (some ⟨cb, 0, none⟩)], .slice a (ls.length) cp, .int .i64 (i), .pointer (some ⟨b3, o4, none⟩), .agg #[.string (x10.1), .string (x10.2)], .bool false, (y1 17), .int .i64 (i + 1)], rfl⟩
  · rw [decide_eq_false c2_0]
    refine AWp.condF rfl rfl ?_
    refine AWp.exit ?_
    refine AWp.seq ?_
    refine AWp.rowV (l := _) pok ?_
    refine sq.c (v := .int .i64 (-1)) rfl rfl rfl rfl ?_
    refine sq.e ?_
    refine AWp.ret ?_
    -- end 2: L2 ¬c2_0
    refine ⟨rfl, [.int .i64 (-1)], rfl, .int .i64 (-1), rfl, hs, hn, ?_⟩
    show Value.int .i64 (-1) = .int .i64 (idxN ls name)
    rw [idx_none (fun j x hj hx => hyes j x (by omega) hx)]

/-- slices.IndexFunc[[]baton/api.Label,baton/api.Label] -/
theorem f49_53 {h : Heap} {n : Nat} {a : Option Addr} {cp cb : Nat} {ow : Bool} {ci : CI} (ls : List Lab) (name : ByteArray) (hl : IsRow encLab h (.slice a ls.length cp) ls) (hlen : ls.length < 9223372036854775808) (hc : h.get cb = some (.cells [.string (name)] ow ci)) :
    Tells Tryz.prog 49 [.slice a (ls.length) cp, .func (.func 53) #[] #[.pointer (some ⟨cb, 0, none⟩)]] h n (.int .i64 (idxN ls name)) := by
  refine Makes.tells (Makes.free fun hf => ?_)
  have hs : SubBut h h [] := .refl _ _
  have hn : n ≤ n := Nat.le_refl _
  have hf0 := hf
  refine Makes.of_bodyV (args := [.slice a (ls.length) cp, .func (.func 53) #[] #[.pointer (some ⟨cb, 0, none⟩)]]) (vs := [.slice a (ls.length) cp, .func (.func 53) #[] #[.pointer (some ⟨cb, 0, none⟩)], undef, undef, undef, undef, undef, undef, undef, undef, undef, undef, undef, undef, undef, undef, undef, undef, undef]) Tryz.func49 rfl rfl ?_
  refine AWp.seq ?_
  refine AWp.rowV (l := _) pok ?_
  refine sq.c (v := .int .i64 (0)) rfl rfl rfl rfl ?_
  refine sq.e ?_
  refine AWp.seq ?_
  refine AWp.seq ?_
  refine AWp.rowV (l := _) pok ?_
  refine sq.c (v := .slice a (ls.length) cp) rfl rfl rfl rfl ?_
  refine sq.c (v := .int .i64 (((ls.length : Nat) : Int))) rfl rfl (by kernel_rfl) rfl ?_
  refine sq.c (v := .int .i64 (0)) rfl rfl rfl rfl ?_
  refine sq.e ?_
  refine AWp.block ?_
  refine AWp.loopV (fun d vs h' n2 => ∃ (i : Int), d = ((ls.length : Nat) - i + 1).toNat ∧ h = h' ∧ n ≤ n2 ∧ Free h n2 ∧ (0 ≤ i) ∧ (i ≤ (ls.length : Nat)) ∧ (∀ (j : Nat) (x : Lab), (j : Int) < i → ls[j]? = some x → ¬ x.1 = name) ∧ ∃ y1 : Nat → Value, vs = [.slice a (ls.length) cp, .func (.func 53) #[] #[.pointer (some ⟨cb, 0, none⟩)], undef, undef, (y1 4), (y1 5), .slice a (ls.length) cp, .int .i64 (((ls.length : Nat) : Int)), .int .i64 (i), (y1 9), (y1 10), (y1 11), (y1 12), (y1 13), (y1 14), (y1 15), (y1 16), (y1 17), (y1 18)]) (((ls.length : Nat) - (0 : Int) + 1).toNat) ⟨0, rfl, rfl, hn, hf, (by omega), (by omega), (fun j x hj => by omega), getV [undef, undef, undef, undef, .int .i64 (0), undef, undef, undef, undef, undef, undef, undef, undef, undef, undef, undef, undef, undef, undef], rfl⟩ ?_
  rintro d vs h' n2 ⟨i, rfl, rfl, hn, hf, hi0, hi1, hyes, y1, rfl⟩
  refine AWp.seq ?_
  refine AWp.rowV (l := _) pok ?_
  refine sq.c (v := .bool (decide (i < (((ls.length : Nat) : Int))))) rfl rfl rfl rfl ?_
  refine sq.e ?_
  refine AWp.seq ?_
  by_cases c2_0 : i < (((ls.length : Nat) : Int))
  · rw [decide_eq_true c2_0]
    refine AWp.condT rfl rfl ?_
    refine AWp.skip ?_
    refine AWp.seq ?_
    refine AWp.block ?_
    refine AWp.seq ?_
    refine AWp.rowV (l := _) pok ?_
    refine sq.c (v := .int .i64 (i)) rfl rfl rfl rfl ?_
    refine sq.c (v := .int .i64 (i)) rfl rfl rfl rfl ?_
    refine sq.e ?_
    refine AWp.seq ?_
    refine AWp.rowV (l := _) pok ?_
    refine sq.c (v := .func (.func 53) #[] #[.pointer (some ⟨cb, 0, none⟩)]) rfl rfl rfl rfl ?_
    refine sq.c (v := .slice a (ls.length) cp) rfl rfl rfl rfl ?_
    refine sq.c (v := .int .i64 (i)) rfl rfl rfl rfl ?_
    have i9 : (0 : Int) ≤ (i : Int) := by omega
    obtain ⟨x10, hx_x10⟩ : ∃ x, (ls)[((i : Int)).toNat]? = some x := ⟨_, List.getElem?_eq_getElem (by omega)⟩
    obtain ⟨b3, o4, cs_b3, ow_b3, ci_b3, ie8, hb5, hc6, hr7⟩ := IsRow.at (P := Tryz.prog) (t := 22) (e := 40) (k := .i64) (by kernel_rfl) (by kernel_rfl) (hl.keep hs) i9 hx_x10
    refine sq.c (v := .pointer (some ⟨b3, o4, none⟩)) rfl rfl ie8 rfl ?_
    refine sq.c (v := .agg #[.string (x10.1), .string (x10.2)]) rfl rfl (ldR (P := Tryz.prog) (t := 40) (k := 2) (xs := [.string (x10.1), .string (x10.2)]) (by kernel_rfl) (by kernel_rfl) hr7) rfl ?_
    refine sq.t (v := .bool (decide (x10.1 = name))) rfl (CallsF.val rfl rfl (by kernel_rfl) rfl rfl) (fun hf => f53_spec x10 name hc) hf rfl ?_
    intro n11 hn2 hf
    have hn := Nat.le_trans hn hn2
    refine sq.e ?_
    by_cases c4_5 : x10.1 = name
    · rw [decide_eq_true c4_5]
      refine AWp.condT rfl rfl ?_
      refine AWp.seq ?_
      refine AWp.rowV (l := _) pok ?_
      refine sq.c (v := .int .i64 (i)) rfl rfl rfl rfl ?_
      refine sq.c (v := .int .i64 (i)) rfl rfl rfl rfl ?_
      refine sq.e ?_
      refine AWp.ret ?_
      -- end 1: L2 c2_0 c4_5
      refine ⟨rfl, [.int .i64 (i)], rfl, .int .i64 (i), rfl, hs, hn, ?_⟩
      show Value.int .i64 (i) = .int .i64 (idxN ls name)
      rw [idx_at hx_x10 c4_5 (fun j x hj hx => hyes j x (by omega) hx)]; exact congrArg (Value.int .i64) (by omega)
    · rw [decide_eq_false c4_5]
      refine AWp.condF rfl rfl ?_
      refine AWp.skip ?_
      refine AWp.rowV (l := _) pok ?_
      refine sq.c (v := .int .i64 (i + 1)) rfl rfl (okI (wrap_i64 (by omega) (by omega))) rfl ?_
      refine sq.c (v := .int .i64 (i + 1)) rfl rfl rfl rfl ?_
      refine sq.e ?_
      have hy : ∀ (j : Nat) (x : Lab), (j : Int) < i + 1 → ls[j]? = some x → ¬ x.1 = name := by
        intro j x hj hx
        by_cases e : j = i.toNat
        · rw [e, hx_x10] at hx; cases hx; exact c4_5
        · exact hyes j x (by omega) hx
      refine ⟨_, _, rfl, by omega, i + 1, rfl, rfl, hn, hf, (by omega), (by omega), (hy), getV [undef, undef, undef, undef, (y1 4), .int .i64 (i), undef, undef, undef, .bool true, .int .i64 (i), .func (.func 53) #[] #[.pointer (some ⟨cb, 0, none⟩)], .slice a (ls.length) cp, .int .i64 (i), .pointer (some ⟨b3, o4, none⟩), .agg #[.string (x10.1), .string (x10.2)], .bool false, (y1 17), .int .i64 (i + 1)], rfl⟩
  · rw [decide_eq_false c2_0]
    refine AWp.condF rfl rfl ?_
    refine AWp.exit ?_
    refine AWp.seq ?_
    refine AWp.rowV (l := _) pok ?_
    refine sq.c (v := .int .i64 (-1)) rfl rfl rfl rfl ?_
    refine sq.e ?_
    refine AWp.ret ?_
    -- end 2: L2 ¬c2_0
    refine ⟨rfl, [.int .i64 (-1)], rfl, .int .i64 (-1), rfl, hs, hn, ?_⟩
    show Value.int .i64 (-1) = .int .i64 (idxN ls name)
    rw [idx_none (fun j x hj hx => hyes j x (by omega) hx)]

/-- baton/labels.Get -/
theorem f29_spec {h : Heap} {n : Nat} {a : Option Addr} {cp : Nat} (ls : List Lab) (name : ByteArray) (hl : IsRow encLab h (.slice a ls.length cp) ls) (hlen : ls.length < 9223372036854775808) :
    Tells Tryz.prog 29 [.slice a (ls.length) cp, .string (name)] h n (.tuple #[.string (getV1 ls name), .bool (getV2 ls name)]) := by
  refine Makes.tells (Makes.free fun hf => ?_)
  have hs : SubBut h h [] := .refl _ _
  have hn : n ≤ n := Nat.le_refl _
  have hf0 := hf
  refine Makes.of_bodyV (args := [.slice a (ls.length) cp, .string (name)]) (vs := [.slice a (ls.length) cp, .string (name), undef, undef, undef, undef, undef, undef, undef, undef, undef, undef, undef, undef, undef, undef, undef]) Tryz.func29 rfl rfl ?_
  refine AWp.seq ?_
  refine AWp.rowV (l := _) pok ?_
  have z_n : h.get n = none := hf0 _ hn
  refine sq.op rfl rfl (Does.box (cs := [.string (name)]) hf rfl rfl) ?_
  rintro _ h2 n3 ⟨rfl, hb1⟩ s4 hn2 hf
  refine sq.w ?_
  have hs := hs.trans s4
  have hn := Nat.le_trans hn hn2
  refine sq.c (v := .string (⟨#[]⟩)) rfl rfl rfl rfl ?_
  refine sq.c (v := .bool false) rfl rfl rfl rfl ?_
  refine sq.e ?_
  refine AWp.seq ?_
  refine AWp.rowV (l := _) pok ?_
  refine sq.c (v := .slice a (ls.length) cp) rfl rfl rfl rfl ?_
  refine sq.c (v := .func (.func 50) #[] #[.pointer (some ⟨n, 0, none⟩)]) rfl rfl rfl rfl ?_
  refine sq.t (v := .int .i64 (idxN ls name)) rfl (CallsF.fn rfl (by kernel_rfl) rfl rfl) (fun hf => f49_50 ls name (hl.keep hs) hlen hb1) hf rfl ?_
  intro n5 hn2 hf
  have hn := Nat.le_trans hn hn2
  refine sq.c (v := .int .i64 (idxN ls name)) rfl rfl rfl rfl ?_
  refine sq.e ?_
  refine AWp.seq ?_
  refine AWp.seq ?_
  refine AWp.rowV (l := _) pok ?_
  refine sq.c (v := .int .i64 (idxN ls name)) rfl rfl rfl rfl ?_
  refine sq.c (v := .bool (decide ((idxN ls name) < (0 : Int)))) rfl rfl rfl rfl ?_
  refine sq.e ?_
  by_cases c2_1 : (idxN ls name) < (0 : Int)
  · rw [decide_eq_true c2_1]
    refine AWp.condT rfl rfl ?_
    refine AWp.seq ?_
    refine AWp.rowV (l := _) pok ?_
    refine sq.c (v := .string (⟨#[]⟩)) rfl rfl rfl rfl ?_
    refine sq.c (v := .bool false) rfl rfl rfl rfl ?_
    refine sq.e ?_
    refine AWp.ret ?_
    -- end 1: c2_1
    refine ⟨rfl, [.string (⟨#[]⟩), .bool false], rfl, .tuple #[.string (⟨#[]⟩), .bool false], rfl, hs, hn, ?_⟩
    show Value.tuple #[.string (⟨#[]⟩), .bool false] = .tuple #[.string (getV1 ls name), .bool (getV2 ls name)]
    rw [(get_none c2_1).1, (get_none c2_1).2]
  · rw [decide_eq_false c2_1]
    refine AWp.condF rfl rfl ?_
    refine AWp.skip ?_
    refine AWp.seq ?_
    refine AWp.rowV (l := _) pok ?_
    refine sq.c (v := .slice a (ls.length) cp) rfl rfl rfl rfl ?_
    refine sq.c (v := .int .i64 (idxN ls name)) rfl rfl rfl rfl ?_
    have i12 : (0 : Int) ≤ (idxN ls name : Int) := by omega
    obtain ⟨x13, hx_x13⟩ : ∃ x, (ls)[((idxN ls name : Int)).toNat]? = some x := ⟨_, List.getElem?_eq_getElem (by have := idx_lt ls name; omega)⟩
    obtain ⟨b6, o7, cs_b6, ow_b6, ci_b6, ie11, hb8, hc9, hr10⟩ := IsRow.at (P := Tryz.prog) (t := 22) (e := 40) (k := .i64) (by kernel_rfl) (by kernel_rfl) (hl.keep hs) i12 hx_x13
    refine sq.c (v := .pointer (some ⟨b6, o7, none⟩)) rfl rfl ie11 rfl ?_
    refine sq.c (v := .pointer (some ⟨b6, o7 + 1, none⟩)) rfl rfl (by kernel_rfl) rfl ?_
    refine sq.c (v := .string (x13.2)) rfl rfl (ld1 (P := Tryz.prog) (t := 9) (p := o7 + 1) (v := .string (x13.2)) (by kernel_rfl) (by kernel_rfl) hb8 (hc9 1 _ rfl)) rfl ?_
    refine sq.c (v := .string (x13.2)) rfl rfl rfl rfl ?_
    refine sq.c (v := .bool true) rfl rfl rfl rfl ?_
    refine sq.e ?_
    refine AWp.ret ?_
    -- end 2: ¬c2_1
    refine ⟨rfl, [.string (x13.2), .bool true], rfl, .tuple #[.string (x13.2), .bool true], rfl, hs, hn, ?_⟩
    show Value.tuple #[.string (x13.2), .bool true] = .tuple #[.string (getV1 ls name), .bool (getV2 ls name)]
    rw [(get_some c2_1 hx_x13).1, (get_some c2_1 hx_x13).2]

/-- slices.Clone[[]baton/api.Label,baton/api.Label] -/
theorem f52_some {h : Heap} {n : Nat} {b o cp : Nat} (ls : List Lab) (hl : IsRow encLab h (.slice (some ⟨b, o, none⟩) ls.length cp) ls) (hlen : ls.length < 1000000) :
    Makes Tryz.prog 52 [.slice (some ⟨b, o, none⟩) (ls.length) cp] h n [] (fun v h2 _ => OwnRow encLab 40 h h2 v ls) := by
  refine Makes.free fun hf => ?_
  have hs : SubBut h h [] := .refl _ _
  have hn : n ≤ n := Nat.le_refl _
  have hf0 := hf
  refine Makes.of_bodyV (args := [.slice (some ⟨b, o, none⟩) (ls.length) cp]) (vs := [.slice (some ⟨b, o, none⟩) (ls.length) cp, undef, undef, undef, undef, undef, undef, undef]) Tryz.func52 rfl rfl ?_
  refine AWp.seq ?_
  refine AWp.rowV (l := _) pok ?_
  refine sq.c (v := .slice none (0) (0)) rfl rfl rfl rfl ?_
  refine sq.e ?_
  refine AWp.seq ?_
  refine AWp.seq ?_
  refine AWp.rowV (l := _) pok ?_
  refine sq.c (v := .slice (some ⟨b, o, none⟩) (ls.length) cp) rfl rfl rfl rfl ?_
  refine sq.c (v := .bool false) rfl rfl (by kernel_rfl) rfl ?_
  refine sq.e ?_
  refine AWp.condF rfl rfl ?_
  refine AWp.skip ?_
  refine AWp.seq ?_
  refine AWp.rowV (l := _) pok ?_
  have z_n : h.get n = none := hf0 _ hn
  refine sq.op rfl rfl (Does.build (e := 40) (cs := []) hf (fun _ _ => by kernel_rfl)) ?_
  rintro _ h2 n3 ⟨rfl, hb1⟩ s4 hn2 hf
  refine sq.w ?_
  have hs := hs.trans s4
  have hn := Nat.le_trans hn hn2
  refine sq.c (v := .slice (some ⟨b, o, none⟩) (ls.length) cp) rfl rfl rfl rfl ?_
  have hz0 : h.get n3 = none := hf0 _ hn
  have hfo := hf
  refine sq.op rfl rfl (Does.append (E := encLab) (xs := []) (ys := ls) appLab ⟨.slice 40, by kernel_rfl, fun _ q => by cases q⟩ hf hs (.inl ⟨rfl, .inr ⟨_, _, rfl⟩⟩) (hl.keep hs) rfl rfl (by simp only [List.length_nil]; omega) (by simp only [List.length_nil]; omega) hz0) ?_
  rintro v8 h5 n6 ⟨R_o, hs, hB9⟩ s7 hn2 hf
  refine sq.w ?_
  simp only [List.nil_append] at R_o
  have d_o_n : ∀ c ∈ blkOf v8, c ≠ n := fun c hc => (hB9 c hc).elim (fun q => absurd q (by simp [blkOf])) (fun q => by rw [q]; exact (hfo.ne hb1).symm)
  have s7 : SubBut _ _ [] := s7.mono (by simp [blkOf])
  have hb1 := s7.sub _ _ hb1
  obtain ⟨a10, cp11, rfl⟩ := R_o.slice
  have hn := Nat.le_trans hn hn2
  refine sq.c (v := .slice a10 (ls).length cp11) rfl rfl rfl rfl ?_
  refine sq.e ?_
  refine AWp.ret ?_
  -- end 1: 
  refine ⟨rfl, [.slice a10 (ls).length cp11], rfl, .slice a10 (ls).length cp11, rfl, hs, hn, ?_⟩
  exact R_o

/-- slices.Clone[[]baton/api.Label,baton/api.Label] -/
theorem f52_nil {h : Heap} {n : Nat}  :
    Makes Tryz.prog 52 [.slice none (0) (0)] h n [] (fun v h2 _ => OwnRow encLab 40 h h2 v []) := by
  refine Makes.free fun hf => ?_
  have hs : SubBut h h [] := .refl _ _
  have hn : n ≤ n := Nat.le_refl _
  have hf0 := hf
  refine Makes.of_bodyV (args := [.slice none (0) (0)]) (vs := [.slice none (0) (0), undef, undef, undef, undef, undef, undef, undef]) Tryz.func52 rfl rfl ?_
  refine AWp.seq ?_
  refine AWp.rowV (l := _) pok ?_
  refine sq.c (v := .slice none (0) (0)) rfl rfl rfl rfl ?_
  refine sq.e ?_
  refine AWp.seq ?_
  refine AWp.seq ?_
  refine AWp.rowV (l := _) pok ?_
  refine sq.c (v := .slice none (0) (0)) rfl rfl rfl rfl ?_
  refine sq.c (v := .bool true) rfl rfl (by kernel_rfl) rfl ?_
  refine sq.e ?_
  refine AWp.condT rfl rfl ?_
  refine AWp.seq ?_
  refine AWp.rowV (l := _) pok ?_
  refine sq.c (v := .slice none (0) (0)) rfl rfl rfl rfl ?_
  refine sq.e ?_
  refine AWp.ret ?_
  -- end 1: 
  refine ⟨rfl, [.slice none (0) (0)], rfl, .slice none (0) (0), rfl, hs, hn, ?_⟩
  exact OwnRow.nil

end Go.Proofs.YtkpjfibpaojelaaGreatDoor
