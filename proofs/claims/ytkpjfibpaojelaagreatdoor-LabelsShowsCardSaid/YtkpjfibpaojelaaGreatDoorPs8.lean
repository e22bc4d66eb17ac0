/- texts of the claim, part 8: LabX14 LabX15 LabX16 LabX17 LabX18 LabSh LabOpn. -/
import Derived.Test.YtkpjfibpaojelaaGreatDoorPs7
import Derived.SevenTiedAt
namespace Go.Proofs.YtkpjfibpaojelaaGreatDoor
open Go Go.Abs
set_option maxRecDepth 100000
set_option maxHeartbeats 4000000
theorem cutT_suf (l : List UInt8) (c : UInt8) : cutT l c <:+ l := (List.tail_suffix _).trans (List.dropWhile_suffix _)
theorem num_suf {l m : List UInt8} {c : Nat} (h : numP l = some (c, m)) : m <:+ l := by
  unfold numP at h
  split at h
  · cases h; exact (cutT_suf _ _).trans (List.drop_suffix _ _)
  · cases h
theorem esc_suf {l m : List UInt8} {c : Nat} (h : escP l = some (c, m)) : m <:+ l := by
  unfold escP at h
  split at h
  · cases h
  · split at h
    · exact (num_suf h).trans (List.drop_suffix _ _)
    · split at h
      · cases h; exact List.drop_suffix _ _
      · cases h
theorem val_suf : ∀ (f : Nat) (l out : List UInt8) {o r : List UInt8}, valF f l out = some (o, r) → r <:+ l ∧ o.length + 4 * r.length ≤ out.length + 4 * l.length ∧ r.length < l.length := by
  intro f
  induction f with
  | zero => intro l out o r h; cases h
  | succ f ih =>
    intro l out o r h
    unfold valF at h
    split at h
    · cases h
    · rename_i hok
      have hne : l ≠ [] := fun e => hok (.inl e)
      have hw := Lib.decodeL_width l
      have hle := decodeL_le l hne
      have hdl : (l.drop (Lib.decodeL l).2).length = l.length - (Lib.decodeL l).2 := List.length_drop
      split at h
      · cases h
        exact ⟨List.drop_suffix _ _, by omega, by omega⟩
      · split at h
        · split at h
          · cases h
          · rename_i c r' he
            have h1 := ih _ _ h
            have h2 := esc_suf he
            have h3 := (esc_len he).1
            have h4 := (enc_len (c : Int)).2
            rw [List.length_append] at h1
            exact ⟨h1.1.trans (h2.trans (List.drop_suffix _ _)), by omega, by omega⟩
        · have h1 := ih _ _ h
          have h4 := (enc_len ((Lib.decodeL l).1 : Nat)).2
          rw [List.length_append] at h1
          exact ⟨h1.1.trans (List.drop_suffix _ _), by omega, by omega⟩
theorem suf_drop {r l : List UInt8} (h : r <:+ l) : r = l.drop (l.length - r.length) := (List.suffix_iff_eq_drop.1 h)
theorem vN_neg {s : ByteArray} {a : Int} (h : vN s a < 0) : valP ((bsOf s).drop a.toNat) = none := by
  unfold vN at h
  split at h
  · rename_i o r e
    have h1 := (val_suf _ _ _ e).1.length_le
    rw [List.length_drop] at h1
    omega
  · rename_i e; exact e
theorem vN_ok {s : ByteArray} {a : Int} (h0 : 0 ≤ a) (h : ¬ vN s a < 0) : ∃ o, valP ((bsOf s).drop a.toNat) = some (o, (bsOf s).drop (vN s a).toNat) ∧ vS s a = strB o ∧ a < vN s a ∧ vN s a ≤ ((bsOf s).length : Nat) ∧ o.length ≤ 4 * (bsOf s).length := by
  cases e : valP ((bsOf s).drop a.toNat) with
  | none => exact (h (by rw [(v_none e).2]; decide)).elim
  | some q =>
    obtain ⟨o, r⟩ := q
    obtain ⟨h1, h2, h3⟩ := val_suf _ _ _ e
    have h4 := suf_drop (h1.trans (List.drop_suffix _ _))
    have h5 := h1.length_le
    have hdl : ((bsOf s).drop a.toNat).length = (bsOf s).length - a.toNat := List.length_drop
    simp only [List.length_nil] at h2
    have hv : vN s a = ((bsOf s).length : Nat) - (r.length : Nat) := by unfold vN; rw [e]
    have hr : r = (bsOf s).drop (vN s a).toNat := h4.trans (by rw [hv]; congr 1; omega)
    refine ⟨o, by rw [← hr], by unfold vS; rw [e], by omega, by omega, by omega⟩
theorem pre_two {l : List UInt8} {a b : UInt8} : Lib.hasPrefix l [a, b] = true ↔ l[0]? = some a ∧ l[1]? = some b := by
  unfold Lib.hasPrefix
  match l with
  | [] => simp [List.isPrefixOf]
  | [x] => simp [List.isPrefixOf]
  | x :: y :: r =>
    simp only [List.isPrefixOf, Bool.and_true, Bool.and_eq_true, beq_iff_eq, List.getElem?_cons_zero, List.getElem?_cons_succ, Option.some.injEq]
    exact ⟨fun ⟨p, q⟩ => ⟨p.symm, q.symm⟩, fun ⟨p, q⟩ => ⟨p.symm, q.symm⟩⟩
theorem pre_take {l m : List UInt8} {j : Nat} : Lib.hasPrefix l (l.take j ++ m) = true ↔ Lib.hasPrefix (l.drop j) m = true := by
  unfold Lib.hasPrefix
  rw [List.isPrefixOf_iff_prefix, List.isPrefixOf_iff_prefix]
  conv => lhs; rhs; rw [← List.take_append_drop j l]
  exact List.prefix_append_right_inj _
theorem lab_at {s : ByteArray} {p e : Int} (h0 : 0 ≤ p) (hpe : p ≤ e) (hel : e ≤ ((bsOf s).length : Nat)) (hno : ∀ j : Int, p ≤ j → j < e → ¬ bt s j = 61) (hend : e < ((bsOf s).length : Nat) → bt s e = 61) :
    (¬ (e + 1 < ((bsOf s).length : Nat) ∧ bt s (e + 1) = 34) → labP ((bsOf s).drop p.toNat) = none) ∧
    (e + 1 < ((bsOf s).length : Nat) ∧ bt s (e + 1) = 34 → (∀ v r, valP ((bsOf s).drop (e + 2).toNat) = some (v, r) → labP ((bsOf s).drop p.toNat) = some ((sub s p e, strB v), r)) ∧ (valP ((bsOf s).drop (e + 2).toNat) = none → labP ((bsOf s).drop p.toNat) = none)) := by
  obtain ⟨q, hq⟩ : ∃ q, q = (bsOf s).drop p.toNat := ⟨_, rfl⟩
  obtain ⟨j, hj⟩ : ∃ j, j = (e - p).toNat := ⟨_, rfl⟩
  rw [← hq]
  have hql : q.length = (bsOf s).length - p.toNat := by rw [hq, List.length_drop]
  have hat : ∀ i : Nat, p + i < ((bsOf s).length : Nat) → ∃ b, q[i]? = some b ∧ bt s (p + i) = b.toNat := by
    intro i hi
    obtain ⟨b, e1, e2⟩ := bt_get (s := s) (z := p + i) (by omega) hi
    refine ⟨b, ?_, e2⟩
    rw [hq, List.getElem?_drop, ← e1]
    congr 1; omega
  have hnoq : ∀ i, i < j → q[i]? ≠ some 61 := by
    intro i hi e1
    obtain ⟨b, f1, f2⟩ := hat i (by omega)
    rw [e1] at f1
    cases f1
    exact hno (p + i) (by omega) (by omega) f2
  have key : labQ q ↔ (e + 1 < ((bsOf s).length : Nat) ∧ bt s (e + 1) = 34) ∧ cutA q 61 = q.take j := by
    unfold labQ
    rcases idx_cut 61 q with ⟨g1, g2, g3, g4⟩ | ⟨i, g1, g2, g3, g4, g5⟩
    · constructor
      · rintro ⟨h, _⟩; rw [g4] at h; cases h
      · rintro ⟨⟨f1, f2⟩, _⟩
        obtain ⟨b, e1, e2⟩ := hat j (by omega)
        have hz : p + (j : Int) = e := by omega
        rw [hz, hend (by omega)] at e2
        have : b = 61 := by apply UInt8.toNat_inj.1; show b.toNat = 61; omega
        subst this
        exact (Lib.indexByte_none g1 j e1).elim
    · obtain ⟨f1, f2⟩ := Lib.indexByte_some g1
      have hij : i = j := by
        rcases Nat.lt_trichotomy i j with h | h | h
        · exact (hnoq i h f1).elim
        · exact h
        · exfalso
          obtain ⟨b, e1, e2⟩ := hat j (by omega)
          have hz : p + (j : Int) = e := by omega
          rw [hz, hend (by omega)] at e2
          have : b = 61 := by apply UInt8.toNat_inj.1; show b.toNat = 61; omega
          subst this
          exact f2 j h e1
      subst hij
      rw [g3]
      have hgt : ∀ k : Nat, (q.drop i)[k]? = q[i + k]? := fun k => List.getElem?_drop
      constructor
      · rintro ⟨_, h2⟩
        have h3 := pre_two.1 (pre_take.1 h2)
        rw [hgt, hgt] at h3
        have hl1 := (List.getElem?_eq_some_iff.1 h3.2).1
        obtain ⟨b, e1, e2⟩ := hat (i + 1) (by omega)
        rw [h3.2] at e1
        cases e1
        have hz : p + ((i + 1 : Nat) : Int) = e + 1 := by omega
        rw [hz] at e2
        exact ⟨⟨by omega, e2⟩, rfl⟩
      · rintro ⟨⟨h1, h2⟩, _⟩
        refine ⟨g5, pre_take.2 (pre_two.2 ⟨by rw [hgt]; exact f1, ?_⟩)⟩
        rw [hgt]
        obtain ⟨b, e1, e2⟩ := hat (i + 1) (by omega)
        have hz : p + ((i + 1 : Nat) : Int) = e + 1 := by omega
        rw [hz, h2] at e2
        have : b = 34 := by apply UInt8.toNat_inj.1; show b.toNat = 34; omega
        rw [e1, this]
  have hcut : (e + 1 < ((bsOf s).length : Nat) ∧ bt s (e + 1) = 34) → cutA q 61 = q.take j := by
    rintro ⟨h1, h2⟩
    obtain ⟨b, e1, e2⟩ := hat j (by omega)
    have hz : p + (j : Int) = e := by omega
    rw [hz, hend (by omega)] at e2
    have : b = 61 := by apply UInt8.toNat_inj.1; show b.toNat = 61; omega
    subst this
    rcases idx_cut 61 q with ⟨g1, _⟩ | ⟨i, g1, g2, g3, g4, g5⟩
    · exact (Lib.indexByte_none g1 j e1).elim
    · obtain ⟨f1, f2⟩ := Lib.indexByte_some g1
      have hij : i = j := by
        rcases Nat.lt_trichotomy i j with h | h | h
        · exact (hnoq i h f1).elim
        · exact h
        · exact (f2 j h e1).elim
      rw [g3, hij]
  refine ⟨fun h => lab_no fun q' => h (key.1 q').1, fun h => ?_⟩
  have hQ : labQ q := key.2 ⟨h, hcut h⟩
  have hA := hcut h
  have hjl : (q.take j).length = j := by rw [List.length_take]; omega
  have hdr : q.drop (cutA q 61 ++ [61, 34]).length = (bsOf s).drop (e + 2).toNat := by
    rw [hA, List.length_append, hjl, hq, List.drop_drop]
    congr 1
    show p.toNat + (j + 2) = _
    omega
  have hnm : strB (cutA q 61) = sub s p e := by
    rw [hA, hq]
    apply ByteArray.ext
    apply Array.ext'
    show ((bsOf s).drop p.toNat).take j = ((bsOf s).drop p.toNat).take (e.toNat - p.toNat)
    congr 1
    omega
  refine ⟨fun v r hv => ?_, fun hv => ?_⟩
  · rw [lab_yes hQ (by rw [hdr]; exact hv), hnm]
  · exact lab_none hQ (by rw [hdr]; exact hv)
def gP (f : Nat) (l : List UInt8) (ls : List Lab) : Option (List Lab) := match labP l with
  | none => none
  | some (x, r) => (match moreF f r (ls ++ [x]) with
    | none => none
    | some (ls', r') => if endQ ls' r' then some ls' else none)
theorem g_none {f : Nat} {l : List UInt8} {ls : List Lab} (h : labP l = none) : gP f l ls = none := by unfold gP; rw [h]
theorem g_end {f : Nat} {l r : List UInt8} {ls : List Lab} {x : Lab} (h : labP l = some (x, r)) (h2 : ¬ Lib.hasPrefix r [44] = true) : gP (f + 1) l ls = if endQ (ls ++ [x]) r then some (ls ++ [x]) else none := by
  unfold gP
  rw [h]
  show (match moreF (f + 1) r (ls ++ [x]) with
    | none => none
    | some (ls', r') => if endQ ls' r' then some ls' else none) = _
  rw [more_no (by simpa using h2)]
theorem g_go {f : Nat} {l r : List UInt8} {ls : List Lab} {x : Lab} (h : labP l = some (x, r)) (h2 : Lib.hasPrefix r [44] = true) : gP (f + 1) l ls = gP f (r.drop 1) (ls ++ [x]) := by
  unfold gP
  rw [h]
  show (match moreF (f + 1) r (ls ++ [x]) with
    | none => none
    | some (ls', r') => if endQ ls' r' then some ls' else none) = _
  cases e : labP (r.drop 1) with
  | none => rw [more_none h2 e]
  | some q => obtain ⟨x', r'⟩ := q; rw [more_yes h2 e]
theorem g_start {l : List UInt8} (h : Lib.hasPrefix l [123] = true) : parP l = gP (l.length + 1) (l.drop 1) [] := by
  unfold gP
  cases e : labP (l.drop 1) with
  | none => rw [par_1 h e]
  | some q => obtain ⟨x, r⟩ := q; rw [par_2 h e]; rfl
theorem parB_none {s : ByteArray} (h : parP (bsOf s) = none) : parB s = ([], 4) := by unfold parB; rw [h]
theorem parB_some {s : ByteArray} {ls : List Lab} (h : parP (bsOf s) = some ls) : parB s = (ls, 0) := by unfold parB; rw [h]
theorem f19_spec {h : Heap} {n : Nat} (s : ByteArray) (hls : s.data.toList.length < 1000000000) :
    Makes Tryz.prog 19 [.string (s)] h n ([]) (fun v h2 _ => ∃ (a : Option Addr) (cp : Nat), v = .tuple #[.slice a (parB s).1.length cp, .int .i64 (parB s).2] ∧ OwnRow encLab 40 h h2 (.slice a (parB s).1.length cp) (parB s).1) := by
  refine Makes.free fun hf => ?_
  have hbl : (bsOf s).length = s.data.toList.length := rfl
  have hs : SubBut h h ([]) := .refl _ _
  have hn : n ≤ n := Nat.le_refl _
  have hf0 := hf
  refine Makes.of_bodyV (args := [.string (s)]) (vs := [.string (s), undef, undef, undef, undef, undef, undef, undef, undef, undef, undef, undef, undef, undef, undef, undef, undef, undef, undef, undef, undef, undef, undef, undef, undef, undef, undef, undef, undef, undef, undef, undef, undef, undef, undef, undef, undef, undef, undef, undef, undef, undef, undef, undef, undef, undef, undef, undef, undef, undef, undef, undef, undef, undef, undef, undef, undef, undef, undef, undef, undef, undef, undef, undef, undef, undef, undef, undef, undef, undef, undef, undef, undef, undef, undef, undef, undef, undef, undef, undef, undef, undef, undef, undef, undef]) Tryz.func19 rfl rfl ?_
  refine AWp.seq (AWp.rowV (l := _) pok ?_)
  refine sq.c (v := .slice none (0) (0)) rfl rfl rfl rfl ?_
  refine sq.c (v := .int .i64 (0)) rfl rfl rfl rfl ?_
  refine sq.e (AWp.seq (AWp.seq (AWp.rowV (l := _) pok ?_)))
  refine sq.c (v := .string (s)) rfl rfl rfl rfl ?_
  refine sq.c (v := .bool (decide (s = (⟨#[]⟩ : ByteArray)))) rfl rfl (eqD _ _) rfl ?_
  refine sq.c (v := .bool (decide (s = (⟨#[]⟩ : ByteArray)))) rfl rfl rfl rfl ?_
  by_cases c1_1 : s = (⟨#[]⟩ : ByteArray)
  · rw [decide_eq_true c1_1]
    refine sq.s (wantF (g := 2) (d := 11) rfl rfl rfl) rfl ?_
    refine sq.s (wantF (g := 2) (d := 11) rfl rfl rfl) rfl ?_
    refine sq.s (wantF (g := 2) (d := 11) rfl rfl rfl) rfl ?_
    refine sq.c (v := .bool true) rfl rfl rfl rfl ?_
    refine sq.e ?_
    refine AWp.condT rfl rfl ?_
    refine AWp.seq (AWp.rowV (l := _) pok ?_)
    refine sq.c (v := .slice none (0) (0)) rfl rfl rfl rfl ?_
    refine sq.c (v := .int .i64 (4)) rfl rfl rfl rfl ?_
    refine sq.e ?_
    refine AWp.ret ?_
    refine ⟨rfl, [.slice none (0) (0), .int .i64 (4)], rfl, .tuple #[.slice none (0) (0), .int .i64 (4)], rfl, hs, hn, ?_⟩
    have hB := parB_none (s := s) (by exact par_0 fun q => by have q2 := (pre_bt (s := s) (p := 0) (c := 123) (by omega)).1 q; rw [c1_1] at q; cases q)
    rw [hB]
    exact ⟨none, 0, rfl, OwnRow.nil⟩
  · rw [decide_eq_false c1_1]
    refine sq.c (v := .string (s)) (wantT (g := 2) (d := 11) rfl rfl rfl) rfl rfl rfl ?_
    refine sq.c (v := .int .u8 (bt (s) (0))) (wantT (g := 2) (d := 11) rfl rfl rfl) rfl (index_str (P := Tryz.prog) (t := 9) (s := s) (i := 0) (k := .i64) (by kernel_rfl) (by (have := bt0_pos c1_1; omega)) (by (have := bt0_pos c1_1; omega))) rfl ?_
    refine sq.c (v := .bool (!decide ((bt (s) (0)) = (123 : Int)))) (wantT (g := 2) (d := 11) rfl rfl rfl) rfl rfl rfl ?_
    refine sq.c (v := .bool (!decide ((bt (s) (0)) = (123 : Int)))) rfl rfl rfl rfl ?_
    refine sq.e ?_
    by_cases c1_5 : (bt (s) (0)) = (123 : Int)
    · rw [decide_eq_true c1_5]
      refine AWp.condF rfl rfl ?_
      refine AWp.skip (AWp.seq (AWp.rowV (l := _) pok ?_))
      refine sq.c (v := .slice none (0) (0)) rfl rfl rfl rfl ?_
      refine sq.e (AWp.seq (AWp.rowV (l := _) pok ?_))
      refine sq.c (v := .int .i64 (1)) rfl rfl rfl rfl ?_
      refine sq.e (AWp.seq (AWp.block ?_))
      have hpos := bt0_pos c1_1
      have hpre : Lib.hasPrefix (bsOf s) [123] = true := (pre_bt (s := s) (p := 0) (c := 123) (by omega)).2 ⟨by omega, c1_5⟩
      refine AWp.loopV (fun d vs h2 n3 => ∃ (p : Int) (f : Nat) (ls : List Lab) (a_l : Option Addr) (cp_l : Nat), d = f + 1 ∧ SubBut h h2 ([]) ∧ n ≤ n3 ∧ Free h2 n3 ∧ OwnRow encLab 40 h h2 (.slice a_l (ls).length cp_l) (ls) ∧ (1 ≤ p) ∧ (p ≤ ((s.data.toList.length : Nat) : Int)) ∧ (((s.data.toList.length : Nat) : Int) - p < f) ∧ ((ls.length : Int) ≤ p) ∧ (∀ x ∈ ls, x.1.data.toList.length < 9223372036854775808 ∧ x.2.data.toList.length < 9223372036854775808) ∧ (parP (bsOf s) = gP f ((bsOf s).drop p.toNat) ls) ∧ ∃ y1 : Nat → Value, vs = [.string (s), undef, (y1 2), (y1 3), .slice a_l (ls.length) cp_l, .int .i64 (p), (y1 6), (y1 7), (y1 8), .string (s), .bool false, .bool false, .string (s), .int .u8 (bt (s) (0)), .bool false, .bool false, (y1 16), (y1 17), (y1 18), (y1 19), (y1 20), (y1 21), (y1 22), (y1 23), (y1 24), (y1 25), (y1 26), (y1 27), (y1 28), (y1 29), (y1 30), (y1 31), (y1 32), (y1 33), (y1 34), (y1 35), (y1 36), (y1 37), (y1 38), (y1 39), (y1 40), (y1 41), (y1 42), (y1 43), (y1 44), (y1 45), (y1 46), (y1 47), (y1 48), (y1 49), (y1 50), (y1 51), (y1 52), (y1 53), (y1 54), (y1 55), (y1 56), (y1 57), (y1 58), (y1 59), (y1 60), (y1 61), (y1 62), (y1 63), (y1 64), (y1 65), (y1 66), (y1 67), (y1 68), (y1 69), (y1 70), (y1 71), (y1 72), (y1 73), (y1 74), undef, undef, undef, undef, undef, undef, undef, undef, undef, undef]) ((bsOf s).length + 1 + 1) ⟨1, (bsOf s).length + 1, [], none, 0, rfl, hs, hn, hf, OwnRow.nil, (by omega), (by omega), (by omega), (by simp), (fun x hx => by cases hx), (by rw [g_start hpre]; rfl), getV [undef, undef, .slice none (0) (0), .int .i64 (0), undef, undef, undef, undef, undef, undef, undef, undef, undef, undef, undef, undef, undef, undef, undef, undef, undef, undef, undef, undef, undef, undef, undef, undef, undef, undef, undef, undef, undef, undef, undef, undef, undef, undef, undef, undef, undef, undef, undef, undef, undef, undef, undef, undef, undef, undef, undef, undef, undef, undef, undef, undef, undef, undef, undef, undef, undef, undef, undef, undef, undef, undef, undef, undef, undef, undef, undef, undef, undef, undef, undef], rfl⟩ ?_
      rintro d vs h2 n3 ⟨p, f, ls, a_l, cp_l, rfl, hs, hn, hf, R_l, hp0, hp1, hlen, hll, hsz, hq, y1, rfl⟩
      obtain ⟨g, rfl⟩ : ∃ g, f = g + 1 := ⟨f - 1, by omega⟩
      refine AWp.block (AWp.seq (AWp.rowV (l := _) pok ?_))
      refine sq.c (v := .int .i64 (p)) rfl rfl rfl rfl ?_
      refine sq.c (v := .int .i64 (p)) rfl rfl rfl rfl ?_
      refine sq.e (AWp.seq (AWp.block ?_))
      refine AWp.loopV (fun d vs h2' n5 => ∃ (z : Int), d = (((s.data.toList.length : Nat) : Int) - z + 1).toNat ∧ h2 = h2' ∧ n ≤ n5 ∧ Free h2 n5 ∧ (p ≤ z) ∧ (z ≤ ((s.data.toList.length : Nat) : Int)) ∧ (∀ j : Int, p ≤ j → j < z → ¬ bt s j = 61) ∧ ∃ y4 : Nat → Value, vs = [.string (s), undef, (y1 2), (y1 3), .slice a_l (ls.length) cp_l, .int .i64 (z), .int .i64 (p), (y1 7), (y1 8), .string (s), .bool false, .bool false, .string (s), .int .u8 (bt (s) (0)), .bool false, .bool false, .int .i64 (p), (y4 17), (y4 18), (y4 19), (y4 20), (y4 21), (y4 22), (y4 23), (y4 24), (y4 25), (y4 26), (y4 27), (y4 28), (y1 29), (y1 30), (y1 31), (y1 32), (y1 33), (y1 34), (y1 35), (y1 36), (y1 37), (y1 38), (y1 39), (y1 40), (y1 41), (y1 42), (y1 43), (y1 44), (y1 45), (y1 46), (y1 47), (y1 48), (y1 49), (y1 50), (y1 51), (y1 52), (y1 53), (y1 54), (y1 55), (y1 56), (y1 57), (y1 58), (y1 59), (y1 60), (y1 61), (y1 62), (y1 63), (y1 64), (y1 65), (y1 66), (y1 67), (y1 68), (y1 69), (y1 70), (y1 71), (y1 72), (y1 73), (y1 74), undef, undef, undef, undef, undef, undef, undef, undef, undef, undef]) ((((s.data.toList.length : Nat) : Int) - p + 1).toNat) ⟨p, rfl, rfl, hn, hf, (by omega), (by omega), (fun j a b => by omega), getV [undef, undef, undef, undef, undef, undef, undef, undef, undef, undef, undef, undef, undef, undef, undef, undef, undef, (y1 17), (y1 18), (y1 19), (y1 20), (y1 21), (y1 22), (y1 23), (y1 24), (y1 25), (y1 26), (y1 27), (y1 28)], rfl⟩ ?_
      rintro d vs h2' n5 ⟨z, rfl, rfl, hn, hf, hw0, hw1, hno, y4, rfl⟩
      refine AWp.seq (AWp.seq (AWp.rowV (l := _) pok ?_))
      refine sq.c (v := .int .i64 (z)) rfl rfl rfl rfl ?_
      refine sq.c (v := .string (s)) rfl rfl rfl rfl ?_
      refine sq.c (v := .int .i64 ((((s).data.toList.length : Nat) : Int))) rfl rfl (by kernel_rfl) rfl ?_
      refine sq.c (v := .bool (decide (z < ((((s).data.toList.length : Nat) : Int))))) rfl rfl rfl rfl ?_
      refine sq.c (v := .bool (decide (z < ((((s).data.toList.length : Nat) : Int))))) rfl rfl rfl rfl ?_
      by_cases c6_3 : z < ((((s).data.toList.length : Nat) : Int))
      · rw [decide_eq_true c6_3]
        refine sq.c (v := .string (s)) (wantT (g := 4) (d := 21) rfl rfl rfl) rfl rfl rfl ?_
        refine sq.c (v := .int .i64 (z)) (wantT (g := 4) (d := 21) rfl rfl rfl) rfl rfl rfl ?_
        refine sq.c (v := .int .u8 (bt (s) (z))) (wantT (g := 4) (d := 21) rfl rfl rfl) rfl (index_str (P := Tryz.prog) (t := 9) (s := s) (i := z) (k := .i64) (by kernel_rfl) (by omega) (by omega)) rfl ?_
        refine sq.c (v := .bool (!decide ((bt (s) (z)) = (61 : Int)))) (wantT (g := 4) (d := 21) rfl rfl rfl) rfl rfl rfl ?_
        refine sq.c (v := .bool (!decide ((bt (s) (z)) = (61 : Int)))) rfl rfl rfl rfl ?_
        refine sq.e ?_
        by_cases c6_8 : (bt (s) (z)) = (61 : Int)
        · rw [decide_eq_true c6_8]
          refine AWp.condF rfl rfl ?_
          refine AWp.exit ?_
          refine AWp.seq (AWp.seq (AWp.rowV (l := _) pok ?_))
          refine sq.c (v := .int .i64 (z)) rfl rfl rfl rfl ?_
          refine sq.c (v := .int .i64 (z + 1)) rfl rfl (okI (wrap_i64 (by omega) (by omega))) rfl ?_
          refine sq.c (v := .string (s)) rfl rfl rfl rfl ?_
          refine sq.c (v := .int .i64 ((((s).data.toList.length : Nat) : Int))) rfl rfl (by kernel_rfl) rfl ?_
          refine sq.c (v := .bool (decide (((((s).data.toList.length : Nat) : Int)) ≤ (z + 1)))) rfl rfl rfl rfl ?_
          refine sq.c (v := .bool (decide (((((s).data.toList.length : Nat) : Int)) ≤ (z + 1)))) rfl rfl rfl rfl ?_
          by_cases c8_4 : ((((s).data.toList.length : Nat) : Int)) ≤ (z + 1)
          · rw [decide_eq_true c8_4]
            refine sq.s (wantF (g := 5) (d := 34) rfl rfl rfl) rfl ?_
            refine sq.s (wantF (g := 5) (d := 34) rfl rfl rfl) rfl ?_
            refine sq.s (wantF (g := 5) (d := 34) rfl rfl rfl) rfl ?_
            refine sq.s (wantF (g := 5) (d := 34) rfl rfl rfl) rfl ?_
            refine sq.s (wantF (g := 5) (d := 34) rfl rfl rfl) rfl ?_
            refine sq.c (v := .bool true) rfl rfl rfl rfl ?_
            refine sq.e ?_
            refine AWp.condT rfl rfl ?_
            refine AWp.seq (AWp.rowV (l := _) pok ?_)
            refine sq.c (v := .slice none (0) (0)) rfl rfl rfl rfl ?_
            refine sq.c (v := .int .i64 (4)) rfl rfl rfl rfl ?_
            refine sq.e ?_
            refine AWp.ret ?_
            refine ⟨rfl, [.slice none (0) (0), .int .i64 (4)], rfl, .tuple #[.slice none (0) (0), .int .i64 (4)], rfl, hs, hn, ?_⟩
            have la := lab_at (s := s) (p := p) (e := z) (by omega) hw0 hw1 hno (fun a => by have a2 : z < ((s.data.toList.length : Nat) : Int) := a; exact c6_8)
            have hB := parB_none (s := s) (by rw [hq]; exact g_none (la.1 fun q => by have q1 : z + 1 < ((s.data.toList.length : Nat) : Int) := q.1; omega))
            rw [hB]
            exact ⟨none, 0, rfl, OwnRow.nil⟩
          · rw [decide_eq_false c8_4]
            refine sq.c (v := .string (s)) (wantT (g := 5) (d := 34) rfl rfl rfl) rfl rfl rfl ?_
            refine sq.c (v := .int .i64 (z)) (wantT (g := 5) (d := 34) rfl rfl rfl) rfl rfl rfl ?_
            refine sq.c (v := .int .i64 (z + 1)) (wantT (g := 5) (d := 34) rfl rfl rfl) rfl (okI (wrap_i64 (by omega) (by omega))) rfl ?_
            refine sq.c (v := .int .u8 (bt (s) (z + 1))) (wantT (g := 5) (d := 34) rfl rfl rfl) rfl (index_str (P := Tryz.prog) (t := 9) (s := s) (i := z + 1) (k := .i64) (by kernel_rfl) (by omega) (by omega)) rfl ?_
            refine sq.c (v := .bool (!decide ((bt (s) (z + 1)) = (34 : Int)))) (wantT (g := 5) (d := 34) rfl rfl rfl) rfl rfl rfl ?_
            refine sq.c (v := .bool (!decide ((bt (s) (z + 1)) = (34 : Int)))) rfl rfl rfl rfl ?_
            refine sq.e ?_
            by_cases c8_10 : (bt (s) (z + 1)) = (34 : Int)
            · rw [decide_eq_true c8_10]
              refine AWp.condF rfl rfl ?_
              refine AWp.skip (AWp.seq (AWp.rowV (l := _) pok ?_))
              refine sq.c (v := .string (s)) rfl rfl rfl rfl ?_
              refine sq.c (v := .int .i64 (z)) rfl rfl rfl rfl ?_
              refine sq.c (v := .int .i64 (z + 2)) rfl rfl (okI (wrap_i64 (by omega) (by omega))) rfl ?_
              refine sq.t (v := .tuple #[.string (vS s (z + 2)), .int .i64 (vN s (z + 2))]) rfl (CallsF.fn rfl (by kernel_rfl) rfl rfl) (fun hf => f44_spec s (z + 2) (by omega) (by omega) hls) hf rfl ?_
              intro n6 hn2 hf
              have hn := Nat.le_trans hn hn2
              refine sq.c (v := .tuple #[.string (vS s (z + 2)), .int .i64 (vN s (z + 2))]) rfl rfl rfl rfl ?_
              refine sq.c (v := .string (vS s (z + 2))) rfl rfl rfl rfl ?_
              refine sq.c (v := .int .i64 (vN s (z + 2))) rfl rfl rfl rfl ?_
              refine sq.c (v := .string (vS s (z + 2))) rfl rfl rfl rfl ?_
              refine sq.c (v := .int .i64 (vN s (z + 2))) rfl rfl rfl rfl ?_
              refine sq.e (AWp.seq (AWp.seq (AWp.rowV (l := _) pok ?_)))
              refine sq.c (v := .int .i64 (vN s (z + 2))) rfl rfl rfl rfl ?_
              refine sq.c (v := .bool (decide ((vN s (z + 2)) < (0 : Int)))) rfl rfl rfl rfl ?_
              refine sq.c (v := .bool (decide ((vN s (z + 2)) < (0 : Int)))) rfl rfl rfl rfl ?_
              by_cases c11_1 : (vN s (z + 2)) < (0 : Int)
              · rw [decide_eq_true c11_1]
                refine sq.s (wantF (g := 2) (d := 50) rfl rfl rfl) rfl ?_
                refine sq.s (wantF (g := 2) (d := 50) rfl rfl rfl) rfl ?_
                refine sq.s (wantF (g := 2) (d := 50) rfl rfl rfl) rfl ?_
                refine sq.s (wantF (g := 2) (d := 50) rfl rfl rfl) rfl ?_
                refine sq.c (v := .bool true) rfl rfl rfl rfl ?_
                refine sq.e ?_
                refine AWp.condT rfl rfl ?_
                refine AWp.seq (AWp.rowV (l := _) pok ?_)
                refine sq.c (v := .slice none (0) (0)) rfl rfl rfl rfl ?_
                refine sq.c (v := .int .i64 (4)) rfl rfl rfl rfl ?_
                refine sq.e ?_
                refine AWp.ret ?_
                refine ⟨rfl, [.slice none (0) (0), .int .i64 (4)], rfl, .tuple #[.slice none (0) (0), .int .i64 (4)], rfl, hs, hn, ?_⟩
                have la := lab_at (s := s) (p := p) (e := z) (by omega) hw0 hw1 hno (fun a => by have a2 : z < ((s.data.toList.length : Nat) : Int) := a; exact c6_8)
                have hB := parB_none (s := s) (by rw [hq]; exact g_none ((la.2 ⟨(by show z + 1 < ((s.data.toList.length : Nat) : Int); omega), c8_10⟩).2 (vN_neg c11_1)))
                rw [hB]
                exact ⟨none, 0, rfl, OwnRow.nil⟩
              · rw [decide_eq_false c11_1]
                refine sq.c (v := .int .i64 (vN s (z + 2))) (wantT (g := 2) (d := 50) rfl rfl rfl) rfl rfl rfl ?_
                refine sq.c (v := .string (s)) (wantT (g := 2) (d := 50) rfl rfl rfl) rfl rfl rfl ?_
                refine sq.c (v := .int .i64 ((((s).data.toList.length : Nat) : Int))) (wantT (g := 2) (d := 50) rfl rfl rfl) rfl (by kernel_rfl) rfl ?_
                refine sq.c (v := .bool (decide (((((s).data.toList.length : Nat) : Int)) ≤ (vN s (z + 2))))) (wantT (g := 2) (d := 50) rfl rfl rfl) rfl rfl rfl ?_
                refine sq.c (v := .bool (decide (((((s).data.toList.length : Nat) : Int)) ≤ (vN s (z + 2))))) rfl rfl rfl rfl ?_
                refine sq.e ?_
                by_cases c11_6 : ((((s).data.toList.length : Nat) : Int)) ≤ (vN s (z + 2))
                · rw [decide_eq_true c11_6]
                  refine AWp.condT rfl rfl ?_
                  refine AWp.seq (AWp.rowV (l := _) pok ?_)
                  refine sq.c (v := .slice none (0) (0)) rfl rfl rfl rfl ?_
                  refine sq.c (v := .int .i64 (4)) rfl rfl rfl rfl ?_
                  refine sq.e ?_
                  refine AWp.ret ?_
                  refine ⟨rfl, [.slice none (0) (0), .int .i64 (4)], rfl, .tuple #[.slice none (0) (0), .int .i64 (4)], rfl, hs, hn, ?_⟩
                  have la := lab_at (s := s) (p := p) (e := z) (by omega) hw0 hw1 hno (fun a => by have a2 : z < ((s.data.toList.length : Nat) : Int) := a; exact c6_8)
                  obtain ⟨o_, hv1, hv2, hv3, hv4, hv5⟩ := vN_ok (s := s) (a := z + 2) (by omega) c11_1
                  have hlab := (la.2 ⟨(by show z + 1 < ((s.data.toList.length : Nat) : Int); omega), c8_10⟩).1 _ _ hv1
                  rw [← hv2] at hlab
                  have hB := parB_none (s := s) (by rw [hq, g_end hlab (fun q => by have q2 := (pre_bt (s := s) (p := vN s (z + 2)) (c := 44) (by omega)).1 q; omega)]; exact if_neg fun q => by have q2 := (pre_bt (s := s) (p := vN s (z + 2)) (c := 125) (by omega)).1 q.1; omega)
                  rw [hB]
                  exact ⟨none, 0, rfl, OwnRow.nil⟩
                · rw [decide_eq_false c11_6]
                  refine AWp.condF rfl rfl ?_
                  refine AWp.skip (AWp.seq (AWp.rowV (l := _) pok ?_))
                  refine sq.c (v := .slice a_l (ls.length) cp_l) rfl rfl rfl rfl ?_
                  refine sq.c (v := .string (s)) rfl rfl rfl rfl ?_
                  refine sq.c (v := .int .i64 (p)) rfl rfl rfl rfl ?_
                  refine sq.c (v := .int .i64 (z)) rfl rfl rfl rfl ?_
                  refine sq.c (v := .string (sub (s) (p) (z))) rfl rfl (slice_str (P := Tryz.prog) (h := h2) (t := 9) (s := s) (l := p) (u := z) (by kernel_rfl) (.inr ⟨_, rfl⟩) (.inr ⟨_, rfl⟩) (by omega) (by omega) (by omega)) rfl ?_
                  refine sq.c (v := .string (vS s (z + 2))) rfl rfl rfl rfl ?_
                  refine sq.c (v := .agg #[.string (sub (s) (p) (z)), .string (vS s (z + 2))]) rfl rfl (by kernel_rfl) rfl ?_
                  have d_l_n6 : ∀ c ∈ blkOf (.slice a_l (ls).length cp_l), c ≠ n6 := fun c hc e => R_l.ne' (hf _ (Nat.le_refl _)) c hc (List.mem_singleton.2 e)
                  have z_n6 : h.get n6 = none := hf0 _ hn
                  refine sq.op rfl rfl (Does.build (e := 40) (cs := [.string (sub (s) (p) (z)), .string (vS s (z + 2))]) hf (fun _ _ => by kernel_rfl)) ?_
                  rintro _ h8 n9 ⟨rfl, hb7⟩ s10 hn2 hf
                  refine sq.w ?_
                  have R_l := R_l.keep s10
                  have hs := hs.trans s10
                  have hn := Nat.le_trans hn hn2
                  have hz0 : h.get n9 = none := hf0 _ hn
                  have hfo := hf
                  refine sq.op rfl rfl (Does.append (E := encLab) (xs := ls) (ys := [(sub (s) (p) (z), vS s (z + 2))]) appLab ⟨.slice 40, by kernel_rfl, fun _ q => by cases q⟩ hf hs R_l (IsRow.of (E := encLab) (xs := [(sub (s) (p) (z), vS s (z + 2))]) (cap := 1) hb7 (Nat.le_refl _)) rfl rfl (by (simp only [List.length_cons, List.length_nil]; omega)) (by (simp only [List.length_cons, List.length_nil]; omega)) hz0) ?_
                  rintro v14 h11 n12 ⟨R_l, hs, hB15⟩ s13 hn2 hf
                  refine sq.w ?_
                  have dn_l_n6 : ∀ c ∈ blkOf v14, c ≠ n6 := fun c hc => (hB15 c hc).elim (fun q => d_l_n6 c q) (fun q => by rw [q]; exact (hfo.ne hb7).symm)
                  have hb7 := s13 _ _ (fun hm => d_l_n6 _ hm rfl) hb7
                  have d_l_n6 := dn_l_n6
                  obtain ⟨a16, cp17, rfl⟩ := R_l.slice
                  have hn := Nat.le_trans hn hn2
                  refine sq.c (v := .slice a16 (ls ++ [(sub (s) (p) (z), vS s (z + 2))]).length cp17) rfl rfl rfl rfl ?_
                  refine sq.e (AWp.seq (AWp.rowV (l := _) pok ?_))
                  refine sq.c (v := .int .i64 (vN s (z + 2))) rfl rfl rfl rfl ?_
                  refine sq.c (v := .int .i64 ((vN s (z + 2)) + 1)) rfl rfl (okI (wrap_i64 (by omega) (by omega))) rfl ?_
                  refine sq.c (v := .int .i64 ((vN s (z + 2)) + 1)) rfl rfl rfl rfl ?_
                  refine sq.e (AWp.seq (AWp.seq (AWp.rowV (l := _) pok ?_)))
                  refine sq.c (v := .string (s)) rfl rfl rfl rfl ?_
                  refine sq.c (v := .int .i64 (vN s (z + 2))) rfl rfl rfl rfl ?_
                  refine sq.c (v := .int .u8 (bt (s) (vN s (z + 2)))) rfl rfl (index_str (P := Tryz.prog) (t := 9) (s := s) (i := vN s (z + 2)) (k := .i64) (by kernel_rfl) (by omega) (by omega)) rfl ?_
                  refine sq.c (v := .bool (decide ((bt (s) (vN s (z + 2))) = (125 : Int)))) rfl rfl rfl rfl ?_
                  refine sq.e ?_
                  by_cases c15_3 : (bt (s) (vN s (z + 2))) = (125 : Int)
                  · rw [decide_eq_true c15_3]
                    refine AWp.condT rfl rfl ?_
                    refine AWp.exit ?_
                    refine AWp.seq (AWp.seq (AWp.rowV (l := _) pok ?_))
                    refine sq.c (v := .int .i64 ((vN s (z + 2)) + 1)) rfl rfl rfl rfl ?_
                    refine sq.c (v := .string (s)) rfl rfl rfl rfl ?_
                    refine sq.c (v := .int .i64 ((((s).data.toList.length : Nat) : Int))) rfl rfl (by kernel_rfl) rfl ?_
                    refine sq.c (v := .bool (decide (((vN s (z + 2)) + 1) < ((((s).data.toList.length : Nat) : Int))))) rfl rfl rfl rfl ?_
                    refine sq.c (v := .bool (decide (((vN s (z + 2)) + 1) < ((((s).data.toList.length : Nat) : Int))))) rfl rfl rfl rfl ?_
                    by_cases c18_3 : ((vN s (z + 2)) + 1) < ((((s).data.toList.length : Nat) : Int))
                    · rw [decide_eq_true c18_3]
                      refine sq.s (wantF (g := 4) (d := 79) rfl rfl rfl) rfl ?_
                      refine sq.s (wantF (g := 4) (d := 79) rfl rfl rfl) rfl ?_
                      refine sq.s (wantF (g := 4) (d := 79) rfl rfl rfl) rfl ?_
                      refine sq.c (v := .bool true) rfl rfl rfl rfl ?_
                      refine sq.e ?_
                      refine AWp.condT rfl rfl ?_
                      refine AWp.seq (AWp.rowV (l := _) pok ?_)
                      refine sq.c (v := .slice none (0) (0)) rfl rfl rfl rfl ?_
                      refine sq.c (v := .int .i64 (4)) rfl rfl rfl rfl ?_
                      refine sq.e ?_
                      refine AWp.ret ?_
                      refine ⟨rfl, [.slice none (0) (0), .int .i64 (4)], rfl, .tuple #[.slice none (0) (0), .int .i64 (4)], rfl, hs, hn, ?_⟩
                      have la := lab_at (s := s) (p := p) (e := z) (by omega) hw0 hw1 hno (fun a => by have a2 : z < ((s.data.toList.length : Nat) : Int) := a; exact c6_8)
                      obtain ⟨o_, hv1, hv2, hv3, hv4, hv5⟩ := vN_ok (s := s) (a := z + 2) (by omega) c11_1
                      have hlab := (la.2 ⟨(by show z + 1 < ((s.data.toList.length : Nat) : Int); omega), c8_10⟩).1 _ _ hv1
                      rw [← hv2] at hlab
                      have hB := parB_none (s := s) (by rw [hq, g_end hlab (fun q => by have q2 := ((pre_bt (s := s) (p := vN s (z + 2)) (c := 44) (by omega)).1 q).2; have q3 : bt s (vN s (z + 2)) = 44 := q2; omega)]; exact if_neg fun q => drop_ne (s := s) (p := vN s (z + 2) + 1) (by omega) (by show vN s (z + 2) + 1 < ((s.data.toList.length : Nat) : Int); omega) (by rw [← drop_one (by omega)]; exact q.2.1))
                      rw [hB]
                      exact ⟨none, 0, rfl, OwnRow.nil⟩
                    · rw [decide_eq_false c18_3]
                      refine sq.c (v := .slice a16 (ls ++ [(sub (s) (p) (z), vS s (z + 2))]).length cp17) (wantT (g := 4) (d := 79) rfl rfl rfl) rfl rfl rfl ?_
                      have hsz2 : ∀ x ∈ ls ++ [(sub (s) (p) (z), vS s (z + 2))], x.1.data.toList.length < 9223372036854775808 ∧ x.2.data.toList.length < 9223372036854775808 := by
                        obtain ⟨o_, hv1, hv2, hv3, hv4, hv5⟩ := vN_ok (s := s) (a := z + 2) (by omega) c11_1
                        intro x hx
                        rcases List.mem_append.1 hx with q | q
                        · exact hsz x q
                        · rw [List.mem_singleton] at q
                          subst q
                          refine ⟨Nat.lt_of_le_of_lt (sub_len s p z) (by omega), ?_⟩
                          show (vS s (z + 2)).data.toList.length < _
                          rw [hv2]
                          show o_.length < _
                          omega
                      refine sq.t (v := .bool (mayB (ls ++ [(sub (s) (p) (z), vS s (z + 2))]))) (wantT (g := 4) (d := 79) rfl rfl rfl) (CallsF.fn rfl (by kernel_rfl) rfl rfl) (fun hf => f25_spec _ R_l.is (by rw [List.length_append, List.length_singleton]; omega) hsz2) hf rfl ?_
                      intro n18 hn2 hf
                      have hn := Nat.le_trans hn hn2
                      rcases Bool.eq_false_or_eq_true (mayB (ls ++ [(sub (s) (p) (z), vS s (z + 2))])) with c_m | c_m
                      · rw [c_m]
                        refine sq.c (v := .bool false) (wantT (g := 4) (d := 79) rfl rfl rfl) rfl rfl rfl ?_
                        refine sq.c (v := .bool false) rfl rfl rfl rfl ?_
                        refine sq.e ?_
                        refine AWp.condF rfl rfl ?_
                        refine AWp.skip (AWp.seq (AWp.rowV (l := _) pok ?_))
                        refine sq.c (v := .slice a16 (ls ++ [(sub (s) (p) (z), vS s (z + 2))]).length cp17) rfl rfl rfl rfl ?_
                        refine sq.c (v := .slice a16 (ls ++ [(sub (s) (p) (z), vS s (z + 2))]).length cp17) rfl rfl rfl rfl ?_
                        refine sq.c (v := .int .i64 (0)) rfl rfl rfl rfl ?_
                        refine sq.e ?_
                        refine AWp.ret ?_
                        refine ⟨rfl, [.slice a16 (ls ++ [(sub (s) (p) (z), vS s (z + 2))]).length cp17, .int .i64 (0)], rfl, .tuple #[.slice a16 (ls ++ [(sub (s) (p) (z), vS s (z + 2))]).length cp17, .int .i64 (0)], rfl, hs, hn, ?_⟩
                        have la := lab_at (s := s) (p := p) (e := z) (by omega) hw0 hw1 hno (fun a => by have a2 : z < ((s.data.toList.length : Nat) : Int) := a; exact c6_8)
                        obtain ⟨o_, hv1, hv2, hv3, hv4, hv5⟩ := vN_ok (s := s) (a := z + 2) (by omega) c11_1
                        have hlab := (la.2 ⟨(by show z + 1 < ((s.data.toList.length : Nat) : Int); omega), c8_10⟩).1 _ _ hv1
                        rw [← hv2] at hlab
                        have hB := parB_some (s := s) (ls := ls ++ [(sub (s) (p) (z), vS s (z + 2))]) (by rw [hq, g_end hlab (fun q => by have q2 := ((pre_bt (s := s) (p := vN s (z + 2)) (c := 44) (by omega)).1 q).2; have q3 : bt s (vN s (z + 2)) = 44 := q2; omega)]; exact if_pos ⟨(pre_bt (s := s) (p := vN s (z + 2)) (c := 125) (by omega)).2 ⟨(by show vN s (z + 2) < ((s.data.toList.length : Nat) : Int); omega), c15_3⟩, (by rw [drop_one (by omega)]; exact drop_nil (by show ¬ vN s (z + 2) + 1 < ((s.data.toList.length : Nat) : Int); omega)), c_m⟩)
                        rw [hB]
                        exact ⟨_, _, rfl, R_l⟩
                      · rw [c_m]
                        refine sq.c (v := .bool true) rfl rfl rfl rfl ?_
                        refine sq.c (v := .bool true) rfl rfl rfl rfl ?_
                        refine sq.e ?_
                        refine AWp.condT rfl rfl ?_
                        refine AWp.seq (AWp.rowV (l := _) pok ?_)
                        refine sq.c (v := .slice none (0) (0)) rfl rfl rfl rfl ?_
                        refine sq.c (v := .int .i64 (4)) rfl rfl rfl rfl ?_
                        refine sq.e ?_
                        refine AWp.ret ?_
                        refine ⟨rfl, [.slice none (0) (0), .int .i64 (4)], rfl, .tuple #[.slice none (0) (0), .int .i64 (4)], rfl, hs, hn, ?_⟩
                        have la := lab_at (s := s) (p := p) (e := z) (by omega) hw0 hw1 hno (fun a => by have a2 : z < ((s.data.toList.length : Nat) : Int) := a; exact c6_8)
                        obtain ⟨o_, hv1, hv2, hv3, hv4, hv5⟩ := vN_ok (s := s) (a := z + 2) (by omega) c11_1
                        have hlab := (la.2 ⟨(by show z + 1 < ((s.data.toList.length : Nat) : Int); omega), c8_10⟩).1 _ _ hv1
                        rw [← hv2] at hlab
                        have hB := parB_none (s := s) (by rw [hq, g_end hlab (fun q => by have q2 := ((pre_bt (s := s) (p := vN s (z + 2)) (c := 44) (by omega)).1 q).2; have q3 : bt s (vN s (z + 2)) = 44 := q2; omega)]; exact if_neg fun q => absurd (q.2.2.symm.trans c_m) (by decide))
                        rw [hB]
                        exact ⟨none, 0, rfl, OwnRow.nil⟩
                  · rw [decide_eq_false c15_3]
                    refine AWp.condF rfl rfl ?_
                    refine AWp.skip (AWp.seq (AWp.rowV (l := _) pok ?_))
                    refine sq.c (v := .string (s)) rfl rfl rfl rfl ?_
                    refine sq.c (v := .int .i64 (vN s (z + 2))) rfl rfl rfl rfl ?_
                    refine sq.c (v := .int .u8 (bt (s) (vN s (z + 2)))) rfl rfl (index_str (P := Tryz.prog) (t := 9) (s := s) (i := vN s (z + 2)) (k := .i64) (by kernel_rfl) (by omega) (by omega)) rfl ?_
                    refine sq.c (v := .bool (!decide ((bt (s) (vN s (z + 2))) = (44 : Int)))) rfl rfl rfl rfl ?_
                    refine sq.e ?_
                    by_cases c16_3 : (bt (s) (vN s (z + 2))) = (44 : Int)
                    · rw [decide_eq_true c16_3]
                      refine AWp.condF rfl rfl ?_
                      refine AWp.skip ?_
                      have la := lab_at (s := s) (p := p) (e := z) (by omega) hw0 hw1 hno (fun a => by have a2 : z < ((s.data.toList.length : Nat) : Int) := a; exact c6_8)
                      obtain ⟨o_, hv1, hv2, hv3, hv4, hv5⟩ := vN_ok (s := s) (a := z + 2) (by omega) c11_1
                      have hlab := (la.2 ⟨(by show z + 1 < ((s.data.toList.length : Nat) : Int); omega), c8_10⟩).1 _ _ hv1
                      rw [← hv2] at hlab
                      refine ⟨_, _, rfl, by omega, vN s (z + 2) + 1, g, ls ++ [(sub (s) (p) (z), vS s (z + 2))], a16, cp17, rfl, hs, hn, hf, R_l, (by omega), (by omega), (by omega), (by rw [List.length_append, List.length_singleton]; omega), (by
    obtain ⟨o_, hv1, hv2, hv3, hv4, hv5⟩ := vN_ok (s := s) (a := z + 2) (by omega) c11_1
    intro x hx
    rcases List.mem_append.1 hx with q | q
    · exact hsz x q
    · rw [List.mem_singleton] at q
      subst q
      refine ⟨Nat.lt_of_le_of_lt (sub_len s p z) (by omega), ?_⟩
      show (vS s (z + 2)).data.toList.length < _
      rw [hv2]
      show o_.length < _
      omega), (by rw [hq, g_go hlab ((pre_bt (s := s) (p := vN s (z + 2)) (c := 44) (by omega)).2 ⟨(by show vN s (z + 2) < ((s.data.toList.length : Nat) : Int); omega), c16_3⟩), drop_one (by omega)]), getV [undef, undef, (y1 2), (y1 3), undef, undef, .int .i64 (p), .string (vS s (z + 2)), .int .i64 (vN s (z + 2)), undef, undef, undef, undef, undef, undef, undef, .int .i64 (p), .int .i64 (z), .string (s), .int .i64 ((((s).data.toList.length : Nat) : Int)), .bool true, .bool true, .string (s), .int .i64 (z), .int .u8 (bt (s) (z)), .bool false, .bool false, (y4 27), (y4 28), .int .i64 (z), .int .i64 (z + 1), .string (s), .int .i64 ((((s).data.toList.length : Nat) : Int)), .bool false, .bool false, .string (s), .int .i64 (z), .int .i64 (z + 1), .int .u8 (bt (s) (z + 1)), .bool false, .bool false, .tuple #[.string (vS s (z + 2)), .int .i64 (vN s (z + 2))], .string (s), .int .i64 (z), .int .i64 (z + 2), .tuple #[.string (vS s (z + 2)), .int .i64 (vN s (z + 2))], .string (vS s (z + 2)), .int .i64 (vN s (z + 2)), .int .i64 (vN s (z + 2)), .bool false, .bool false, .int .i64 (vN s (z + 2)), .string (s), .int .i64 ((((s).data.toList.length : Nat) : Int)), .bool false, .bool false, .slice a_l (ls.length) cp_l, .string (s), .int .i64 (p), .int .i64 (z), .string (sub (s) (p) (z)), .string (vS s (z + 2)), .agg #[.string (sub (s) (p) (z)), .string (vS s (z + 2))], .slice (some ⟨n6, 0, none⟩) (1) (1), .slice a16 (ls ++ [(sub (s) (p) (z), vS s (z + 2))]).length cp17, .int .i64 (vN s (z + 2)), .int .i64 ((vN s (z + 2)) + 1), .string (s), .int .i64 (vN s (z + 2)), .int .u8 (bt (s) (vN s (z + 2))), .bool false, .string (s), .int .i64 (vN s (z + 2)), .int .u8 (bt (s) (vN s (z + 2))), .bool false], rfl⟩
                    · rw [decide_eq_false c16_3]
                      refine AWp.condT rfl rfl ?_
                      refine AWp.seq (AWp.rowV (l := _) pok ?_)
                      refine sq.c (v := .slice none (0) (0)) rfl rfl rfl rfl ?_
                      refine sq.c (v := .int .i64 (4)) rfl rfl rfl rfl ?_
                      refine sq.e ?_
                      refine AWp.ret ?_
                      refine ⟨rfl, [.slice none (0) (0), .int .i64 (4)], rfl, .tuple #[.slice none (0) (0), .int .i64 (4)], rfl, hs, hn, ?_⟩
                      have la := lab_at (s := s) (p := p) (e := z) (by omega) hw0 hw1 hno (fun a => by have a2 : z < ((s.data.toList.length : Nat) : Int) := a; exact c6_8)
                      obtain ⟨o_, hv1, hv2, hv3, hv4, hv5⟩ := vN_ok (s := s) (a := z + 2) (by omega) c11_1
                      have hlab := (la.2 ⟨(by show z + 1 < ((s.data.toList.length : Nat) : Int); omega), c8_10⟩).1 _ _ hv1
                      rw [← hv2] at hlab
                      have hB := parB_none (s := s) (by rw [hq, g_end hlab (fun q => c16_3 ((pre_bt (s := s) (p := vN s (z + 2)) (c := 44) (by omega)).1 q).2)]; exact if_neg fun q => c15_3 ((pre_bt (s := s) (p := vN s (z + 2)) (c := 125) (by omega)).1 q.1).2)
                      rw [hB]
                      exact ⟨none, 0, rfl, OwnRow.nil⟩
            · rw [decide_eq_false c8_10]
              refine AWp.condT rfl rfl ?_
              refine AWp.seq (AWp.rowV (l := _) pok ?_)
              refine sq.c (v := .slice none (0) (0)) rfl rfl rfl rfl ?_
              refine sq.c (v := .int .i64 (4)) rfl rfl rfl rfl ?_
              refine sq.e ?_
              refine AWp.ret ?_
              refine ⟨rfl, [.slice none (0) (0), .int .i64 (4)], rfl, .tuple #[.slice none (0) (0), .int .i64 (4)], rfl, hs, hn, ?_⟩
              have la := lab_at (s := s) (p := p) (e := z) (by omega) hw0 hw1 hno (fun a => by have a2 : z < ((s.data.toList.length : Nat) : Int) := a; exact c6_8)
              have hB := parB_none (s := s) (by rw [hq]; exact g_none (la.1 fun q => c8_10 q.2))
              rw [hB]
              exact ⟨none, 0, rfl, OwnRow.nil⟩
        · rw [decide_eq_false c6_8]
          refine AWp.condT rfl rfl ?_
          refine AWp.skip (AWp.block (AWp.rowV (l := _) pok ?_))
          refine sq.c (v := .int .i64 (z)) rfl rfl rfl rfl ?_
          refine sq.c (v := .int .i64 (z + 1)) rfl rfl (okI (wrap_i64 (by omega) (by omega))) rfl ?_
          refine sq.c (v := .int .i64 (z + 1)) rfl rfl rfl rfl ?_
          refine sq.e ?_
          refine ⟨_, _, rfl, by omega, z + 1, rfl, rfl, hn, hf, (by omega), (by omega), (fun j a b => by by_cases q : j < z; exact hno j a q; rw [show j = z by omega]; exact c6_8), getV [undef, undef, undef, undef, undef, undef, undef, undef, undef, undef, undef, undef, undef, undef, undef, undef, undef, .int .i64 (z), .string (s), .int .i64 ((((s).data.toList.length : Nat) : Int)), .bool true, .bool true, .string (s), .int .i64 (z), .int .u8 (bt (s) (z)), .bool true, .bool true, .int .i64 (z), .int .i64 (z + 1)], rfl⟩
      · rw [decide_eq_false c6_3]
        refine sq.s (wantF (g := 4) (d := 21) rfl rfl rfl) rfl ?_
        refine sq.s (wantF (g := 4) (d := 21) rfl rfl rfl) rfl ?_
        refine sq.s (wantF (g := 4) (d := 21) rfl rfl rfl) rfl ?_
        refine sq.s (wantF (g := 4) (d := 21) rfl rfl rfl) rfl ?_
        refine sq.c (v := .bool false) rfl rfl rfl rfl ?_
        refine sq.e ?_
        refine AWp.condF rfl rfl ?_
        refine AWp.exit ?_
        refine AWp.seq (AWp.seq (AWp.rowV (l := _) pok ?_))
        refine sq.c (v := .int .i64 (z)) rfl rfl rfl rfl ?_
        refine sq.c (v := .int .i64 (z + 1)) rfl rfl (okI (wrap_i64 (by omega) (by omega))) rfl ?_
        refine sq.c (v := .string (s)) rfl rfl rfl rfl ?_
        refine sq.c (v := .int .i64 ((((s).data.toList.length : Nat) : Int))) rfl rfl (by kernel_rfl) rfl ?_
        refine sq.c (v := .bool (decide (((((s).data.toList.length : Nat) : Int)) ≤ (z + 1)))) rfl rfl rfl rfl ?_
        refine sq.c (v := .bool (decide (((((s).data.toList.length : Nat) : Int)) ≤ (z + 1)))) rfl rfl rfl rfl ?_
        by_cases c8_4 : ((((s).data.toList.length : Nat) : Int)) ≤ (z + 1)
        · rw [decide_eq_true c8_4]
          refine sq.s (wantF (g := 5) (d := 34) rfl rfl rfl) rfl ?_
          refine sq.s (wantF (g := 5) (d := 34) rfl rfl rfl) rfl ?_
          refine sq.s (wantF (g := 5) (d := 34) rfl rfl rfl) rfl ?_
          refine sq.s (wantF (g := 5) (d := 34) rfl rfl rfl) rfl ?_
          refine sq.s (wantF (g := 5) (d := 34) rfl rfl rfl) rfl ?_
          refine sq.c (v := .bool true) rfl rfl rfl rfl ?_
          refine sq.e ?_
          refine AWp.condT rfl rfl ?_
          refine AWp.seq (AWp.rowV (l := _) pok ?_)
          refine sq.c (v := .slice none (0) (0)) rfl rfl rfl rfl ?_
          refine sq.c (v := .int .i64 (4)) rfl rfl rfl rfl ?_
          refine sq.e ?_
          refine AWp.ret ?_
          refine ⟨rfl, [.slice none (0) (0), .int .i64 (4)], rfl, .tuple #[.slice none (0) (0), .int .i64 (4)], rfl, hs, hn, ?_⟩
          have la := lab_at (s := s) (p := p) (e := z) (by omega) hw0 hw1 hno (fun a => by have a2 : z < ((s.data.toList.length : Nat) : Int) := a; exact absurd a2 c6_3)
          have hB := parB_none (s := s) (by rw [hq]; exact g_none (la.1 fun q => by have q1 : z + 1 < ((s.data.toList.length : Nat) : Int) := q.1; omega))
          rw [hB]
          exact ⟨none, 0, rfl, OwnRow.nil⟩
        · rw [decide_eq_false c8_4]
          refine sq.c (v := .string (s)) (wantT (g := 5) (d := 34) rfl rfl rfl) rfl rfl rfl ?_
          refine sq.c (v := .int .i64 (z)) (wantT (g := 5) (d := 34) rfl rfl rfl) rfl rfl rfl ?_
          refine sq.c (v := .int .i64 (z + 1)) (wantT (g := 5) (d := 34) rfl rfl rfl) rfl (okI (wrap_i64 (by omega) (by omega))) rfl ?_
          refine sq.c (v := .int .u8 (bt (s) (z + 1))) (wantT (g := 5) (d := 34) rfl rfl rfl) rfl (index_str (P := Tryz.prog) (t := 9) (s := s) (i := z + 1) (k := .i64) (by kernel_rfl) (by omega) (by omega)) rfl ?_
          refine sq.c (v := .bool (!decide ((bt (s) (z + 1)) = (34 : Int)))) (wantT (g := 5) (d := 34) rfl rfl rfl) rfl rfl rfl ?_
          refine sq.c (v := .bool (!decide ((bt (s) (z + 1)) = (34 : Int)))) rfl rfl rfl rfl ?_
          refine sq.e ?_
          by_cases c8_10 : (bt (s) (z + 1)) = (34 : Int)
          · rw [decide_eq_true c8_10]
            refine AWp.condF rfl rfl ?_
            refine AWp.skip (AWp.seq (AWp.rowV (l := _) pok ?_))
            refine sq.c (v := .string (s)) rfl rfl rfl rfl ?_
            refine sq.c (v := .int .i64 (z)) rfl rfl rfl rfl ?_
            refine sq.c (v := .int .i64 (z + 2)) rfl rfl (okI (wrap_i64 (by omega) (by omega))) rfl ?_
            refine sq.t (v := .tuple #[.string (vS s (z + 2)), .int .i64 (vN s (z + 2))]) rfl (CallsF.fn rfl (by kernel_rfl) rfl rfl) (fun hf => f44_spec s (z + 2) (by omega) (by omega) hls) hf rfl ?_
            intro n19 hn2 hf
            have hn := Nat.le_trans hn hn2
            refine sq.c (v := .tuple #[.string (vS s (z + 2)), .int .i64 (vN s (z + 2))]) rfl rfl rfl rfl ?_
            refine sq.c (v := .string (vS s (z + 2))) rfl rfl rfl rfl ?_
            refine sq.c (v := .int .i64 (vN s (z + 2))) rfl rfl rfl rfl ?_
            refine sq.c (v := .string (vS s (z + 2))) rfl rfl rfl rfl ?_
            refine sq.c (v := .int .i64 (vN s (z + 2))) rfl rfl rfl rfl ?_
            refine sq.e (AWp.seq (AWp.seq (AWp.rowV (l := _) pok ?_)))
            refine sq.c (v := .int .i64 (vN s (z + 2))) rfl rfl rfl rfl ?_
            refine sq.c (v := .bool (decide ((vN s (z + 2)) < (0 : Int)))) rfl rfl rfl rfl ?_
            refine sq.c (v := .bool (decide ((vN s (z + 2)) < (0 : Int)))) rfl rfl rfl rfl ?_
            by_cases c11_1 : (vN s (z + 2)) < (0 : Int)
            · rw [decide_eq_true c11_1]
              refine sq.s (wantF (g := 2) (d := 50) rfl rfl rfl) rfl ?_
              refine sq.s (wantF (g := 2) (d := 50) rfl rfl rfl) rfl ?_
              refine sq.s (wantF (g := 2) (d := 50) rfl rfl rfl) rfl ?_
              refine sq.s (wantF (g := 2) (d := 50) rfl rfl rfl) rfl ?_
              refine sq.c (v := .bool true) rfl rfl rfl rfl ?_
              refine sq.e ?_
              refine AWp.condT rfl rfl ?_
              refine AWp.seq (AWp.rowV (l := _) pok ?_)
              refine sq.c (v := .slice none (0) (0)) rfl rfl rfl rfl ?_
              refine sq.c (v := .int .i64 (4)) rfl rfl rfl rfl ?_
              refine sq.e ?_
              refine AWp.ret ?_
              refine ⟨rfl, [.slice none (0) (0), .int .i64 (4)], rfl, .tuple #[.slice none (0) (0), .int .i64 (4)], rfl, hs, hn, ?_⟩
              have la := lab_at (s := s) (p := p) (e := z) (by omega) hw0 hw1 hno (fun a => by have a2 : z < ((s.data.toList.length : Nat) : Int) := a; exact absurd a2 c6_3)
              have hB := parB_none (s := s) (by rw [hq]; exact g_none ((la.2 ⟨(by show z + 1 < ((s.data.toList.length : Nat) : Int); omega), c8_10⟩).2 (vN_neg c11_1)))
              rw [hB]
              exact ⟨none, 0, rfl, OwnRow.nil⟩
            · rw [decide_eq_false c11_1]
              refine sq.c (v := .int .i64 (vN s (z + 2))) (wantT (g := 2) (d := 50) rfl rfl rfl) rfl rfl rfl ?_
              refine sq.c (v := .string (s)) (wantT (g := 2) (d := 50) rfl rfl rfl) rfl rfl rfl ?_
              refine sq.c (v := .int .i64 ((((s).data.toList.length : Nat) : Int))) (wantT (g := 2) (d := 50) rfl rfl rfl) rfl (by kernel_rfl) rfl ?_
              refine sq.c (v := .bool (decide (((((s).data.toList.length : Nat) : Int)) ≤ (vN s (z + 2))))) (wantT (g := 2) (d := 50) rfl rfl rfl) rfl rfl rfl ?_
              refine sq.c (v := .bool (decide (((((s).data.toList.length : Nat) : Int)) ≤ (vN s (z + 2))))) rfl rfl rfl rfl ?_
              refine sq.e ?_
              by_cases c11_6 : ((((s).data.toList.length : Nat) : Int)) ≤ (vN s (z + 2))
              · rw [decide_eq_true c11_6]
                refine AWp.condT rfl rfl ?_
                refine AWp.seq (AWp.rowV (l := _) pok ?_)
                refine sq.c (v := .slice none (0) (0)) rfl rfl rfl rfl ?_
                refine sq.c (v := .int .i64 (4)) rfl rfl rfl rfl ?_
                refine sq.e ?_
                refine AWp.ret ?_
                refine ⟨rfl, [.slice none (0) (0), .int .i64 (4)], rfl, .tuple #[.slice none (0) (0), .int .i64 (4)], rfl, hs, hn, ?_⟩
                have la := lab_at (s := s) (p := p) (e := z) (by omega) hw0 hw1 hno (fun a => by have a2 : z < ((s.data.toList.length : Nat) : Int) := a; exact absurd a2 c6_3)
                obtain ⟨o_, hv1, hv2, hv3, hv4, hv5⟩ := vN_ok (s := s) (a := z + 2) (by omega) c11_1
                have hlab := (la.2 ⟨(by show z + 1 < ((s.data.toList.length : Nat) : Int); omega), c8_10⟩).1 _ _ hv1
                rw [← hv2] at hlab
                have hB := parB_none (s := s) (by rw [hq, g_end hlab (fun q => by have q2 := (pre_bt (s := s) (p := vN s (z + 2)) (c := 44) (by omega)).1 q; omega)]; exact if_neg fun q => by have q2 := (pre_bt (s := s) (p := vN s (z + 2)) (c := 125) (by omega)).1 q.1; omega)
                rw [hB]
                exact ⟨none, 0, rfl, OwnRow.nil⟩
              · rw [decide_eq_false c11_6]
                refine AWp.condF rfl rfl ?_
                refine AWp.skip (AWp.seq (AWp.rowV (l := _) pok ?_))
                refine sq.c (v := .slice a_l (ls.length) cp_l) rfl rfl rfl rfl ?_
                refine sq.c (v := .string (s)) rfl rfl rfl rfl ?_
                refine sq.c (v := .int .i64 (p)) rfl rfl rfl rfl ?_
                refine sq.c (v := .int .i64 (z)) rfl rfl rfl rfl ?_
                refine sq.c (v := .string (sub (s) (p) (z))) rfl rfl (slice_str (P := Tryz.prog) (h := h2) (t := 9) (s := s) (l := p) (u := z) (by kernel_rfl) (.inr ⟨_, rfl⟩) (.inr ⟨_, rfl⟩) (by omega) (by omega) (by omega)) rfl ?_
                refine sq.c (v := .string (vS s (z + 2))) rfl rfl rfl rfl ?_
                refine sq.c (v := .agg #[.string (sub (s) (p) (z)), .string (vS s (z + 2))]) rfl rfl (by kernel_rfl) rfl ?_
                have d_l_n19 : ∀ c ∈ blkOf (.slice a_l (ls).length cp_l), c ≠ n19 := fun c hc e => R_l.ne' (hf _ (Nat.le_refl _)) c hc (List.mem_singleton.2 e)
                have z_n19 : h.get n19 = none := hf0 _ hn
                refine sq.op rfl rfl (Does.build (e := 40) (cs := [.string (sub (s) (p) (z)), .string (vS s (z + 2))]) hf (fun _ _ => by kernel_rfl)) ?_
                rintro _ h21 n22 ⟨rfl, hb20⟩ s23 hn2 hf
                refine sq.w ?_
                have R_l := R_l.keep s23
                have hs := hs.trans s23
                have hn := Nat.le_trans hn hn2
                have hz0 : h.get n22 = none := hf0 _ hn
                have hfo := hf
                refine sq.op rfl rfl (Does.append (E := encLab) (xs := ls) (ys := [(sub (s) (p) (z), vS s (z + 2))]) appLab ⟨.slice 40, by kernel_rfl, fun _ q => by cases q⟩ hf hs R_l (IsRow.of (E := encLab) (xs := [(sub (s) (p) (z), vS s (z + 2))]) (cap := 1) hb20 (Nat.le_refl _)) rfl rfl (by (simp only [List.length_cons, List.length_nil]; omega)) (by (simp only [List.length_cons, List.length_nil]; omega)) hz0) ?_
                rintro v27 h24 n25 ⟨R_l, hs, hB28⟩ s26 hn2 hf
                refine sq.w ?_
                have dn_l_n19 : ∀ c ∈ blkOf v27, c ≠ n19 := fun c hc => (hB28 c hc).elim (fun q => d_l_n19 c q) (fun q => by rw [q]; exact (hfo.ne hb20).symm)
                have hb20 := s26 _ _ (fun hm => d_l_n19 _ hm rfl) hb20
                have d_l_n19 := dn_l_n19
                obtain ⟨a29, cp30, rfl⟩ := R_l.slice
                have hn := Nat.le_trans hn hn2
                refine sq.c (v := .slice a29 (ls ++ [(sub (s) (p) (z), vS s (z + 2))]).length cp30) rfl rfl rfl rfl ?_
                refine sq.e (AWp.seq (AWp.rowV (l := _) pok ?_))
                refine sq.c (v := .int .i64 (vN s (z + 2))) rfl rfl rfl rfl ?_
                refine sq.c (v := .int .i64 ((vN s (z + 2)) + 1)) rfl rfl (okI (wrap_i64 (by omega) (by omega))) rfl ?_
                refine sq.c (v := .int .i64 ((vN s (z + 2)) + 1)) rfl rfl rfl rfl ?_
                refine sq.e (AWp.seq (AWp.seq (AWp.rowV (l := _) pok ?_)))
                refine sq.c (v := .string (s)) rfl rfl rfl rfl ?_
                refine sq.c (v := .int .i64 (vN s (z + 2))) rfl rfl rfl rfl ?_
                refine sq.c (v := .int .u8 (bt (s) (vN s (z + 2)))) rfl rfl (index_str (P := Tryz.prog) (t := 9) (s := s) (i := vN s (z + 2)) (k := .i64) (by kernel_rfl) (by omega) (by omega)) rfl ?_
                refine sq.c (v := .bool (decide ((bt (s) (vN s (z + 2))) = (125 : Int)))) rfl rfl rfl rfl ?_
                refine sq.e ?_
                by_cases c15_3 : (bt (s) (vN s (z + 2))) = (125 : Int)
                · rw [decide_eq_true c15_3]
                  refine AWp.condT rfl rfl ?_
                  refine AWp.exit ?_
                  refine AWp.seq (AWp.seq (AWp.rowV (l := _) pok ?_))
                  refine sq.c (v := .int .i64 ((vN s (z + 2)) + 1)) rfl rfl rfl rfl ?_
                  refine sq.c (v := .string (s)) rfl rfl rfl rfl ?_
                  refine sq.c (v := .int .i64 ((((s).data.toList.length : Nat) : Int))) rfl rfl (by kernel_rfl) rfl ?_
                  refine sq.c (v := .bool (decide (((vN s (z + 2)) + 1) < ((((s).data.toList.length : Nat) : Int))))) rfl rfl rfl rfl ?_
                  refine sq.c (v := .bool (decide (((vN s (z + 2)) + 1) < ((((s).data.toList.length : Nat) : Int))))) rfl rfl rfl rfl ?_
                  by_cases c18_3 : ((vN s (z + 2)) + 1) < ((((s).data.toList.length : Nat) : Int))
                  · rw [decide_eq_true c18_3]
                    refine sq.s (wantF (g := 4) (d := 79) rfl rfl rfl) rfl ?_
                    refine sq.s (wantF (g := 4) (d := 79) rfl rfl rfl) rfl ?_
                    refine sq.s (wantF (g := 4) (d := 79) rfl rfl rfl) rfl ?_
                    refine sq.c (v := .bool true) rfl rfl rfl rfl ?_
                    refine sq.e ?_
                    refine AWp.condT rfl rfl ?_
                    refine AWp.seq (AWp.rowV (l := _) pok ?_)
                    refine sq.c (v := .slice none (0) (0)) rfl rfl rfl rfl ?_
                    refine sq.c (v := .int .i64 (4)) rfl rfl rfl rfl ?_
                    refine sq.e ?_
                    refine AWp.ret ?_
                    refine ⟨rfl, [.slice none (0) (0), .int .i64 (4)], rfl, .tuple #[.slice none (0) (0), .int .i64 (4)], rfl, hs, hn, ?_⟩
                    have la := lab_at (s := s) (p := p) (e := z) (by omega) hw0 hw1 hno (fun a => by have a2 : z < ((s.data.toList.length : Nat) : Int) := a; exact absurd a2 c6_3)
                    obtain ⟨o_, hv1, hv2, hv3, hv4, hv5⟩ := vN_ok (s := s) (a := z + 2) (by omega) c11_1
                    have hlab := (la.2 ⟨(by show z + 1 < ((s.data.toList.length : Nat) : Int); omega), c8_10⟩).1 _ _ hv1
                    rw [← hv2] at hlab
                    have hB := parB_none (s := s) (by rw [hq, g_end hlab (fun q => by have q2 := ((pre_bt (s := s) (p := vN s (z + 2)) (c := 44) (by omega)).1 q).2; have q3 : bt s (vN s (z + 2)) = 44 := q2; omega)]; exact if_neg fun q => drop_ne (s := s) (p := vN s (z + 2) + 1) (by omega) (by show vN s (z + 2) + 1 < ((s.data.toList.length : Nat) : Int); omega) (by rw [← drop_one (by omega)]; exact q.2.1))
                    rw [hB]
                    exact ⟨none, 0, rfl, OwnRow.nil⟩
                  · rw [decide_eq_false c18_3]
                    refine sq.c (v := .slice a29 (ls ++ [(sub (s) (p) (z), vS s (z + 2))]).length cp30) (wantT (g := 4) (d := 79) rfl rfl rfl) rfl rfl rfl ?_
                    have hsz2 : ∀ x ∈ ls ++ [(sub (s) (p) (z), vS s (z + 2))], x.1.data.toList.length < 9223372036854775808 ∧ x.2.data.toList.length < 9223372036854775808 := by
                      obtain ⟨o_, hv1, hv2, hv3, hv4, hv5⟩ := vN_ok (s := s) (a := z + 2) (by omega) c11_1
                      intro x hx
                      rcases List.mem_append.1 hx with q | q
                      · exact hsz x q
                      · rw [List.mem_singleton] at q
                        subst q
                        refine ⟨Nat.lt_of_le_of_lt (sub_len s p z) (by omega), ?_⟩
                        show (vS s (z + 2)).data.toList.length < _
                        rw [hv2]
                        show o_.length < _
                        omega
                    refine sq.t (v := .bool (mayB (ls ++ [(sub (s) (p) (z), vS s (z + 2))]))) (wantT (g := 4) (d := 79) rfl rfl rfl) (CallsF.fn rfl (by kernel_rfl) rfl rfl) (fun hf => f25_spec _ R_l.is (by rw [List.length_append, List.length_singleton]; omega) hsz2) hf rfl ?_
                    intro n31 hn2 hf
                    have hn := Nat.le_trans hn hn2
                    rcases Bool.eq_false_or_eq_true (mayB (ls ++ [(sub (s) (p) (z), vS s (z + 2))])) with c_m | c_m
                    · rw [c_m]
                      refine sq.c (v := .bool false) (wantT (g := 4) (d := 79) rfl rfl rfl) rfl rfl rfl ?_
                      refine sq.c (v := .bool false) rfl rfl rfl rfl ?_
                      refine sq.e ?_
                      refine AWp.condF rfl rfl ?_
                      refine AWp.skip (AWp.seq (AWp.rowV (l := _) pok ?_))
                      refine sq.c (v := .slice a29 (ls ++ [(sub (s) (p) (z), vS s (z + 2))]).length cp30) rfl rfl rfl rfl ?_
                      refine sq.c (v := .slice a29 (ls ++ [(sub (s) (p) (z), vS s (z + 2))]).length cp30) rfl rfl rfl rfl ?_
                      refine sq.c (v := .int .i64 (0)) rfl rfl rfl rfl ?_
                      refine sq.e ?_
                      refine AWp.ret ?_
                      refine ⟨rfl, [.slice a29 (ls ++ [(sub (s) (p) (z), vS s (z + 2))]).length cp30, .int .i64 (0)], rfl, .tuple #[.slice a29 (ls ++ [(sub (s) (p) (z), vS s (z + 2))]).length cp30, .int .i64 (0)], rfl, hs, hn, ?_⟩
                      have la := lab_at (s := s) (p := p) (e := z) (by omega) hw0 hw1 hno (fun a => by have a2 : z < ((s.data.toList.length : Nat) : Int) := a; exact absurd a2 c6_3)
                      obtain ⟨o_, hv1, hv2, hv3, hv4, hv5⟩ := vN_ok (s := s) (a := z + 2) (by omega) c11_1
                      have hlab := (la.2 ⟨(by show z + 1 < ((s.data.toList.length : Nat) : Int); omega), c8_10⟩).1 _ _ hv1
                      rw [← hv2] at hlab
                      have hB := parB_some (s := s) (ls := ls ++ [(sub (s) (p) (z), vS s (z + 2))]) (by rw [hq, g_end hlab (fun q => by have q2 := ((pre_bt (s := s) (p := vN s (z + 2)) (c := 44) (by omega)).1 q).2; have q3 : bt s (vN s (z + 2)) = 44 := q2; omega)]; exact if_pos ⟨(pre_bt (s := s) (p := vN s (z + 2)) (c := 125) (by omega)).2 ⟨(by show vN s (z + 2) < ((s.data.toList.length : Nat) : Int); omega), c15_3⟩, (by rw [drop_one (by omega)]; exact drop_nil (by show ¬ vN s (z + 2) + 1 < ((s.data.toList.length : Nat) : Int); omega)), c_m⟩)
                      rw [hB]
                      exact ⟨_, _, rfl, R_l⟩
                    · rw [c_m]
                      refine sq.c (v := .bool true) rfl rfl rfl rfl ?_
                      refine sq.c (v := .bool true) rfl rfl rfl rfl ?_
                      refine sq.e ?_
                      refine AWp.condT rfl rfl ?_
                      refine AWp.seq (AWp.rowV (l := _) pok ?_)
                      refine sq.c (v := .slice none (0) (0)) rfl rfl rfl rfl ?_
                      refine sq.c (v := .int .i64 (4)) rfl rfl rfl rfl ?_
                      refine sq.e ?_
                      refine AWp.ret ?_
                      refine ⟨rfl, [.slice none (0) (0), .int .i64 (4)], rfl, .tuple #[.slice none (0) (0), .int .i64 (4)], rfl, hs, hn, ?_⟩
                      have la := lab_at (s := s) (p := p) (e := z) (by omega) hw0 hw1 hno (fun a => by have a2 : z < ((s.data.toList.length : Nat) : Int) := a; exact absurd a2 c6_3)
                      obtain ⟨o_, hv1, hv2, hv3, hv4, hv5⟩ := vN_ok (s := s) (a := z + 2) (by omega) c11_1
                      have hlab := (la.2 ⟨(by show z + 1 < ((s.data.toList.length : Nat) : Int); omega), c8_10⟩).1 _ _ hv1
                      rw [← hv2] at hlab
                      have hB := parB_none (s := s) (by rw [hq, g_end hlab (fun q => by have q2 := ((pre_bt (s := s) (p := vN s (z + 2)) (c := 44) (by omega)).1 q).2; have q3 : bt s (vN s (z + 2)) = 44 := q2; omega)]; exact if_neg fun q => absurd (q.2.2.symm.trans c_m) (by decide))
                      rw [hB]
                      exact ⟨none, 0, rfl, OwnRow.nil⟩
                · rw [decide_eq_false c15_3]
                  refine AWp.condF rfl rfl ?_
                  refine AWp.skip (AWp.seq (AWp.rowV (l := _) pok ?_))
                  refine sq.c (v := .string (s)) rfl rfl rfl rfl ?_
                  refine sq.c (v := .int .i64 (vN s (z + 2))) rfl rfl rfl rfl ?_
                  refine sq.c (v := .int .u8 (bt (s) (vN s (z + 2)))) rfl rfl (index_str (P := Tryz.prog) (t := 9) (s := s) (i := vN s (z + 2)) (k := .i64) (by kernel_rfl) (by omega) (by omega)) rfl ?_
                  refine sq.c (v := .bool (!decide ((bt (s) (vN s (z + 2))) = (44 : Int)))) rfl rfl rfl rfl ?_
                  refine sq.e ?_
                  by_cases c16_3 : (bt (s) (vN s (z + 2))) = (44 : Int)
                  · rw [decide_eq_true c16_3]
                    refine AWp.condF rfl rfl ?_
                    refine AWp.skip ?_
                    have la := lab_at (s := s) (p := p) (e := z) (by omega) hw0 hw1 hno (fun a => by have a2 : z < ((s.data.toList.length : Nat) : Int) := a; exact absurd a2 c6_3)
                    obtain ⟨o_, hv1, hv2, hv3, hv4, hv5⟩ := vN_ok (s := s) (a := z + 2) (by omega) c11_1
                    have hlab := (la.2 ⟨(by show z + 1 < ((s.data.toList.length : Nat) : Int); omega), c8_10⟩).1 _ _ hv1
                    rw [← hv2] at hlab
                    refine ⟨_, _, rfl, by omega, vN s (z + 2) + 1, g, ls ++ [(sub (s) (p) (z), vS s (z + 2))], a29, cp30, rfl, hs, hn, hf, R_l, (by omega), (by omega), (by omega), (by rw [List.length_append, List.length_singleton]; omega), (by
    obtain ⟨o_, hv1, hv2, hv3, hv4, hv5⟩ := vN_ok (s := s) (a := z + 2) (by omega) c11_1
    intro x hx
    rcases List.mem_append.1 hx with q | q
    · exact hsz x q
    · rw [List.mem_singleton] at q
      subst q
      refine ⟨Nat.lt_of_le_of_lt (sub_len s p z) (by omega), ?_⟩
      show (vS s (z + 2)).data.toList.length < _
      rw [hv2]
      show o_.length < _
      omega), (by rw [hq, g_go hlab ((pre_bt (s := s) (p := vN s (z + 2)) (c := 44) (by omega)).2 ⟨(by show vN s (z + 2) < ((s.data.toList.length : Nat) : Int); omega), c16_3⟩), drop_one (by omega)]), getV [undef, undef, (y1 2), (y1 3), undef, undef, .int .i64 (p), .string (vS s (z + 2)), .int .i64 (vN s (z + 2)), undef, undef, undef, undef, undef, undef, undef, .int .i64 (p), .int .i64 (z), .string (s), .int .i64 ((((s).data.toList.length : Nat) : Int)), .bool false, .bool false, undef, undef, undef, undef, .bool false, (y4 27), (y4 28), .int .i64 (z), .int .i64 (z + 1), .string (s), .int .i64 ((((s).data.toList.length : Nat) : Int)), .bool false, .bool false, .string (s), .int .i64 (z), .int .i64 (z + 1), .int .u8 (bt (s) (z + 1)), .bool false, .bool false, .tuple #[.string (vS s (z + 2)), .int .i64 (vN s (z + 2))], .string (s), .int .i64 (z), .int .i64 (z + 2), .tuple #[.string (vS s (z + 2)), .int .i64 (vN s (z + 2))], .string (vS s (z + 2)), .int .i64 (vN s (z + 2)), .int .i64 (vN s (z + 2)), .bool false, .bool false, .int .i64 (vN s (z + 2)), .string (s), .int .i64 ((((s).data.toList.length : Nat) : Int)), .bool false, .bool false, .slice a_l (ls.length) cp_l, .string (s), .int .i64 (p), .int .i64 (z), .string (sub (s) (p) (z)), .string (vS s (z + 2)), .agg #[.string (sub (s) (p) (z)), .string (vS s (z + 2))], .slice (some ⟨n19, 0, none⟩) (1) (1), .slice a29 (ls ++ [(sub (s) (p) (z), vS s (z + 2))]).length cp30, .int .i64 (vN s (z + 2)), .int .i64 ((vN s (z + 2)) + 1), .string (s), .int .i64 (vN s (z + 2)), .int .u8 (bt (s) (vN s (z + 2))), .bool false, .string (s), .int .i64 (vN s (z + 2)), .int .u8 (bt (s) (vN s (z + 2))), .bool false], rfl⟩
                  · rw [decide_eq_false c16_3]
                    refine AWp.condT rfl rfl ?_
                    refine AWp.seq (AWp.rowV (l := _) pok ?_)
                    refine sq.c (v := .slice none (0) (0)) rfl rfl rfl rfl ?_
                    refine sq.c (v := .int .i64 (4)) rfl rfl rfl rfl ?_
                    refine sq.e ?_
                    refine AWp.ret ?_
                    refine ⟨rfl, [.slice none (0) (0), .int .i64 (4)], rfl, .tuple #[.slice none (0) (0), .int .i64 (4)], rfl, hs, hn, ?_⟩
                    have la := lab_at (s := s) (p := p) (e := z) (by omega) hw0 hw1 hno (fun a => by have a2 : z < ((s.data.toList.length : Nat) : Int) := a; exact absurd a2 c6_3)
                    obtain ⟨o_, hv1, hv2, hv3, hv4, hv5⟩ := vN_ok (s := s) (a := z + 2) (by omega) c11_1
                    have hlab := (la.2 ⟨(by show z + 1 < ((s.data.toList.length : Nat) : Int); omega), c8_10⟩).1 _ _ hv1
                    rw [← hv2] at hlab
                    have hB := parB_none (s := s) (by rw [hq, g_end hlab (fun q => c16_3 ((pre_bt (s := s) (p := vN s (z + 2)) (c := 44) (by omega)).1 q).2)]; exact if_neg fun q => c15_3 ((pre_bt (s := s) (p := vN s (z + 2)) (c := 125) (by omega)).1 q.1).2)
                    rw [hB]
                    exact ⟨none, 0, rfl, OwnRow.nil⟩
          · rw [decide_eq_false c8_10]
            refine AWp.condT rfl rfl ?_
            refine AWp.seq (AWp.rowV (l := _) pok ?_)
            refine sq.c (v := .slice none (0) (0)) rfl rfl rfl rfl ?_
            refine sq.c (v := .int .i64 (4)) rfl rfl rfl rfl ?_
            refine sq.e ?_
            refine AWp.ret ?_
            refine ⟨rfl, [.slice none (0) (0), .int .i64 (4)], rfl, .tuple #[.slice none (0) (0), .int .i64 (4)], rfl, hs, hn, ?_⟩
            have la := lab_at (s := s) (p := p) (e := z) (by omega) hw0 hw1 hno (fun a => by have a2 : z < ((s.data.toList.length : Nat) : Int) := a; exact absurd a2 c6_3)
            have hB := parB_none (s := s) (by rw [hq]; exact g_none (la.1 fun q => c8_10 q.2))
            rw [hB]
            exact ⟨none, 0, rfl, OwnRow.nil⟩
    · rw [decide_eq_false c1_5]
      refine AWp.condT rfl rfl ?_
      refine AWp.seq (AWp.rowV (l := _) pok ?_)
      refine sq.c (v := .slice none (0) (0)) rfl rfl rfl rfl ?_
      refine sq.c (v := .int .i64 (4)) rfl rfl rfl rfl ?_
      refine sq.e ?_
      refine AWp.ret ?_
      refine ⟨rfl, [.slice none (0) (0), .int .i64 (4)], rfl, .tuple #[.slice none (0) (0), .int .i64 (4)], rfl, hs, hn, ?_⟩
      have hB := parB_none (s := s) (by exact par_0 fun q => by have q2 := (pre_bt (s := s) (p := 0) (c := 123) (by omega)).1 q; exact c1_5 q2.2)
      rw [hB]
      exact ⟨none, 0, rfl, OwnRow.nil⟩
def hexCh (n : Nat) : UInt8 := hexS.data.toList.getD n 0
def hexL (n : Nat) : List UInt8 := if n < 16 then [hexCh n] else hexL (n / 16) ++ [hexCh (n % 16)]
theorem hexL_lt {n : Nat} (h : n < 16) : hexL n = [hexCh n] := by rw [hexL, if_pos h]
theorem hexL_ge {n : Nat} (h : 16 ≤ n) : hexL n = hexL (n / 16) ++ [hexCh (n % 16)] := by rw [hexL, if_neg (by omega)]
theorem hexL_len : ∀ (k n : Nat), n < 16 ^ (k + 1) → 1 ≤ (hexL n).length ∧ (hexL n).length ≤ k + 1 := by
  intro k
  induction k with
  | zero => intro n h; rw [hexL_lt (by simpa using h)]; simp
  | succ k ih =>
    intro n h
    by_cases c : n < 16
    · rw [hexL_lt c]; simp
    · have := ih (n / 16) (by rw [Nat.div_lt_iff_lt_mul (by decide), ← Nat.pow_succ]; exact h)
      rw [hexL_ge (by omega), List.length_append, List.length_singleton]
      omega
theorem hexL_eight {n : Nat} (h : n < 4294967296) : 1 ≤ (hexL n).length ∧ (hexL n).length ≤ 8 := hexL_len 7 n (by omega)
def tabH : Tab := [(107, [.int .i64 16], .bool true), (108, [.int .u64 16], .int .i64 4)]
theorem tabH_run (c : Nat → CI) : tabB Tryz.prog plans (tabOv laidL []) (laidHeap c laidL) tabH = true := by kernel_rfl
theorem tabH_ok : TabOk Tryz.prog laidL tabH := TabOk.of_run pok plans_ok laidL_lt .nil tabH_run
theorem f107_spec {h : Heap} {n : Nat} (hl : Laid0 h) : Tells Tryz.prog 107 [.int .i64 16] h n (.bool true) := by
  obtain ⟨c, hs⟩ := hl
  have := ACall.frame (P := Tryz.prog) (n := n) (laidHeap_ro c laidL_lt) hs (args := [.int .i64 16]) rfl (v := .bool true) rfl ((tabH_ok _ (List.mem_cons_self ..)).2.2 c)
  exact this.mono fun _ h' _ hn _ ⟨a, b, _⟩ => ⟨h', Heap.sub_refl _, a, b, hn⟩
theorem f108_spec {h : Heap} {n : Nat} (hl : Laid0 h) : Tells Tryz.prog 108 [.int .u64 16] h n (.int .i64 4) := by
  obtain ⟨c, hs⟩ := hl
  have := ACall.frame (P := Tryz.prog) (n := n) (laidHeap_ro c laidL_lt) hs (args := [.int .u64 16]) rfl (v := .int .i64 4) rfl ((tabH_ok _ (List.mem_cons_of_mem _ (List.mem_singleton.2 rfl))).2.2 c)
  exact this.mono fun _ h' _ hn _ ⟨a, b, _⟩ => ⟨h', Heap.sub_refl _, a, b, hn⟩
theorem ofInt64 (n : Nat) : BitVec.ofInt 64 (n : Int) = BitVec.ofNat 64 n := by simp
theorem and15 : ∀ n : Nat, n &&& 15 = n % 16 := fun n => Nat.and_two_pow_sub_one_eq_mod n 4
theorem and_15 {u : Int} (h0 : 0 ≤ u) (h1 : u < 18446744073709551616) {t : TypeId} {c d : Bool} : binE Tryz.prog .and t c d (.int .u64 u) (.int .u64 15) = some (.int .u64 (u % 16)) := by
  obtain ⟨y, rfl⟩ : ∃ y : Nat, u = y := ⟨u.toNat, by omega⟩
  have e : (BitVec.ofInt IntKind.u64.bits (y : Int) &&& BitVec.ofInt IntKind.u64.bits ((15 : Nat) : Int)).toNat = y % 16 := by
    show (BitVec.ofInt 64 (y : Int) &&& BitVec.ofInt 64 ((15 : Nat) : Int)).toNat = _
    rw [ofInt64, ofInt64, BitVec.toNat_and, BitVec.toNat_ofNat, BitVec.toNat_ofNat, Nat.mod_eq_of_lt (by omega), Nat.mod_eq_of_lt (by omega), and15]
  show some (Value.int .u64 (IntKind.u64.wrap _)) = _
  rw [show (15 : Int) = ((15 : Nat) : Int) from rfl, e, wrap_u64 (by omega) (by omega)]
  rfl
theorem dig_at {s : ByteArray} {t : TypeId} {u : Int} {k : IntKind} (hu : Tryz.prog.underlying t = some .string) (h0 : 0 ≤ u) (h1 : u < 16) (hs : s.data.toList.take 16 = hexS.data.toList) : indexE Tryz.prog t (.string s) (.int k u) = some (.int .u8 ((hexCh u.toNat).toNat : Int)) := by
  have hl : 16 ≤ s.data.toList.length := by
    have := congrArg List.length hs
    rw [List.length_take] at this
    have h2 : hexS.data.toList.length = 16 := rfl
    omega
  rw [index_str hu h0 (by omega)]
  congr 2
  unfold bt hexCh
  rw [← hs, List.getD_eq_getElem?_getD, List.getElem?_take, if_pos (by omega)]
theorem arr_at {t e : TypeId} {len b : Nat} {i : Int} (hu : Tryz.prog.underlying t = some (.array len e)) (he : (Tryz.prog.info? e).map (·.size) = some 1) (h0 : 0 ≤ i) (h1 : i < (len : Nat)) {k : IntKind} : indexAddrE Tryz.prog t (.pointer (some ⟨b, 0, none⟩)) (.int k i) = some (.pointer (some ⟨b, i.toNat, none⟩)) := by
  cases h40 : Tryz.prog.info? e with
  | none => rw [h40] at he; cases he
  | some inf =>
    rw [h40] at he
    simp only [Option.map_some, Option.some.injEq] at he
    simp only [indexAddrE, hu, h40, he]
    rw [if_pos ⟨h0, h1⟩]
    congr 4
    omega
theorem arr_from {t e : TypeId} {len b : Nat} {i : Int} (hu : Tryz.prog.underlying t = some (.array len e)) (he : (Tryz.prog.info? e).map (·.size) = some 1) (h0 : 0 ≤ i) (h1 : i < (len : Nat)) (hU : len < U) {k : IntKind} {h : Heap} : sliceE Tryz.prog t (.pointer (some ⟨b, 0, none⟩)) (some (.int k i)) none none h = some (.slice (some ⟨b, i.toNat, none⟩) (len - i.toNat) (len - i.toNat)) := by
  cases h40 : Tryz.prog.info? e with
  | none => rw [h40] at he; cases he
  | some inf =>
    rw [h40] at he
    simp only [Option.map_some, Option.some.injEq] at he
    have hb : boundsE len len (some (.int k i)) none none = some (i.toNat, len, none) := by
      simp only [boundsE, boundE]
      rw [if_pos ⟨h0, by omega⟩]
    simp only [sliceE, hu, h40, hb, he]
    rw [if_pos hU]
    by_cases c : len = i.toNat
    · omega
    · rw [Option.getD_none, if_neg c]
      congr 4
      omega
theorem set_drop {zs : List UInt8} {i : Nat} {b : UInt8} (h : i < zs.length) : (zs.set i b).drop i = b :: zs.drop (i + 1) := by
  rw [List.drop_set, if_neg (by omega), Nat.sub_self, List.drop_eq_getElem_cons h]
  rfl
theorem dig_sub {u : Int} {h : Heap} (h0 : 0 ≤ u) (h1 : u < 16) : sliceE Tryz.prog 9 (.string hexS) (some (.int .i64 u)) (some (.int .i64 (u + 1))) none h = some (.string (strB [hexCh u.toNat])) := by
  rw [slice_str (l := u) (u := u + 1) (by kernel_rfl) (.inr ⟨_, rfl⟩) (.inr ⟨_, rfl⟩) h0 (by omega) (by have : hexS.data.toList.length = 16 := rfl; omega)]
  congr 2
  apply ByteArray.ext
  apply Array.ext'
  have key : ∀ n : Fin 16, (hexS.data.toList.drop n.val).take 1 = [hexCh n.val] := by decide
  have := key ⟨u.toNat, by omega⟩
  show (hexS.data.toList.drop u.toNat).take ((u + 1).toNat - u.toNat) = _
  rw [show (u + 1).toNat - u.toNat = 1 by omega]
  exact this
theorem f97_spec {h : Heap} {n : Nat} (u0 : Int) (h0 : 0 ≤ u0) (h1 : u0 < 4294967296) (hld : Laid0 h) :
    Tells Tryz.prog 97 [.slice none (0) (0), .int .u64 (u0), .int .i64 (16), .bool false, .bool false] h n (.tuple #[.slice none 0 0, .string (strB (hexL u0.toNat))]) := by
  refine Makes.tells (Makes.free fun hf => ?_)
  have hl8 := hexL_eight (n := u0.toNat) (by omega)
  have hs : SubBut h h ([]) := .refl _ _
  have hn : n ≤ n := Nat.le_refl _
  have hf0 := hf
  refine Makes.of_bodyV (args := [.slice none (0) (0), .int .u64 (u0), .int .i64 (16), .bool false, .bool false]) (vs := [.slice none (0) (0), .int .u64 (u0), .int .i64 (16), .bool false, .bool false, undef, undef, undef, undef, undef, undef, undef, undef, undef, undef, undef, undef, undef, undef, undef, undef, undef, undef, undef, undef, undef, undef, undef, undef, undef, undef, undef, undef, undef, undef, undef, undef, undef, undef, undef, undef, undef, undef, undef, undef, undef, undef, undef, undef, undef, undef, undef, undef, undef, undef, undef, undef, undef, undef, undef, undef, undef, undef, undef, undef, undef, undef, undef, undef, undef, undef, undef, undef, undef, undef, undef, undef, undef, undef, undef, undef, undef, undef, undef, undef, undef, undef, undef, undef, undef, undef, undef, undef, undef, undef, undef, undef, undef, undef, undef, undef, undef]) Tryz.func97 rfl rfl ?_
  refine AWp.seq (AWp.rowV (l := _) pok ?_)
  refine sq.c (v := .slice none (0) (0)) rfl rfl rfl rfl ?_
  refine sq.c (v := .string (⟨#[]⟩)) rfl rfl rfl rfl ?_
  refine sq.e (AWp.seq (AWp.seq (AWp.rowV (l := _) pok ?_)))
  refine sq.c (v := .int .i64 (16)) rfl rfl rfl rfl ?_
  refine sq.c (v := .bool false) rfl rfl rfl rfl ?_
  refine sq.c (v := .bool false) rfl rfl rfl rfl ?_
  refine sq.c (v := .int .i64 (16)) (wantT (g := 2) (d := 21) rfl rfl rfl) rfl rfl rfl ?_
  refine sq.c (v := .bool false) (wantT (g := 2) (d := 21) rfl rfl rfl) rfl rfl rfl ?_
  refine sq.c (v := .bool false) rfl rfl rfl rfl ?_
  refine sq.c (v := .bool false) rfl rfl rfl rfl ?_
  refine sq.c (v := .int .i64 (16)) (wantT (g := 6) (d := 25) rfl rfl rfl) rfl rfl rfl ?_
  refine sq.c (v := .bool false) (wantT (g := 6) (d := 25) rfl rfl rfl) rfl rfl rfl ?_
  refine sq.c (v := .bool false) rfl rfl rfl rfl ?_
  refine sq.e ?_
  refine AWp.condF rfl rfl ?_
  refine AWp.skip (AWp.seq (AWp.rowV (l := _) pok ?_))
  have z_n : h.get n = none := hf0 _ hn
  refine sq.op rfl rfl (Does.alloc (cs := [.int .u8 (0), .int .u8 (0), .int .u8 (0), .int .u8 (0), .int .u8 (0), .int .u8 (0), .int .u8 (0), .int .u8 (0), .int .u8 (0), .int .u8 (0), .int .u8 (0), .int .u8 (0), .int .u8 (0), .int .u8 (0), .int .u8 (0), .int .u8 (0), .int .u8 (0), .int .u8 (0), .int .u8 (0), .int .u8 (0), .int .u8 (0), .int .u8 (0), .int .u8 (0), .int .u8 (0), .int .u8 (0), .int .u8 (0), .int .u8 (0), .int .u8 (0), .int .u8 (0), .int .u8 (0), .int .u8 (0), .int .u8 (0), .int .u8 (0), .int .u8 (0), .int .u8 (0), .int .u8 (0), .int .u8 (0), .int .u8 (0), .int .u8 (0), .int .u8 (0), .int .u8 (0), .int .u8 (0), .int .u8 (0), .int .u8 (0), .int .u8 (0), .int .u8 (0), .int .u8 (0), .int .u8 (0), .int .u8 (0), .int .u8 (0), .int .u8 (0), .int .u8 (0), .int .u8 (0), .int .u8 (0), .int .u8 (0), .int .u8 (0), .int .u8 (0), .int .u8 (0), .int .u8 (0), .int .u8 (0), .int .u8 (0), .int .u8 (0), .int .u8 (0), .int .u8 (0), .int .u8 (0)]) hf (z := .agg #[.int .u8 (0), .int .u8 (0), .int .u8 (0), .int .u8 (0), .int .u8 (0), .int .u8 (0), .int .u8 (0), .int .u8 (0), .int .u8 (0), .int .u8 (0), .int .u8 (0), .int .u8 (0), .int .u8 (0), .int .u8 (0), .int .u8 (0), .int .u8 (0), .int .u8 (0), .int .u8 (0), .int .u8 (0), .int .u8 (0), .int .u8 (0), .int .u8 (0), .int .u8 (0), .int .u8 (0), .int .u8 (0), .int .u8 (0), .int .u8 (0), .int .u8 (0), .int .u8 (0), .int .u8 (0), .int .u8 (0), .int .u8 (0), .int .u8 (0), .int .u8 (0), .int .u8 (0), .int .u8 (0), .int .u8 (0), .int .u8 (0), .int .u8 (0), .int .u8 (0), .int .u8 (0), .int .u8 (0), .int .u8 (0), .int .u8 (0), .int .u8 (0), .int .u8 (0), .int .u8 (0), .int .u8 (0), .int .u8 (0), .int .u8 (0), .int .u8 (0), .int .u8 (0), .int .u8 (0), .int .u8 (0), .int .u8 (0), .int .u8 (0), .int .u8 (0), .int .u8 (0), .int .u8 (0), .int .u8 (0), .int .u8 (0), .int .u8 (0), .int .u8 (0), .int .u8 (0), .int .u8 (0)]) (by kernel_rfl) rfl) ?_
  rintro _ h2 n3 ⟨rfl, hb1⟩ s4 hn2 hf
  refine sq.w ?_
  have hs := hs.trans s4
  have hn := Nat.le_trans hn hn2
  refine sq.e (AWp.seq (AWp.rowV (l := _) pok ?_))
  refine sq.c (v := .int .i64 (65)) rfl rfl rfl rfl ?_
  refine sq.e (AWp.seq (AWp.seq (AWp.rowV (l := _) pok ?_)))
  refine sq.c (v := .bool false) rfl rfl rfl rfl ?_
  refine sq.e ?_
  refine AWp.condF rfl rfl ?_
  refine AWp.skip (AWp.seq (AWp.seq (AWp.rowV (l := _) pok ?_)))
  refine sq.c (v := .int .i64 (16)) rfl rfl rfl rfl ?_
  refine sq.t (v := .bool true) rfl (CallsF.fn rfl (by kernel_rfl) rfl rfl) (fun hf => f107_spec (hld.keep hs)) hf rfl ?_
  intro n5 hn2 hf
  have hn := Nat.le_trans hn hn2
  refine sq.e ?_
  refine AWp.condT rfl rfl ?_
  refine AWp.seq (AWp.rowV (l := _) pok ?_)
  refine sq.c (v := .int .i64 (16)) rfl rfl rfl rfl ?_
  refine sq.c (v := .int .u64 (16)) rfl rfl (by kernel_rfl) rfl ?_
  refine sq.t (v := .int .i64 (4)) rfl (CallsF.fn rfl (by kernel_rfl) rfl rfl) (fun hf => f108_spec (hld.keep hs)) hf rfl ?_
  intro n6 hn2 hf
  have hn := Nat.le_trans hn hn2
  refine sq.c (v := .int .u64 (4)) rfl rfl (by kernel_rfl) rfl ?_
  refine sq.c (v := .int .u64 (4)) rfl rfl rfl rfl ?_
  refine sq.e (AWp.seq (AWp.rowV (l := _) pok ?_))
  refine sq.c (v := .int .i64 (16)) rfl rfl rfl rfl ?_
  refine sq.c (v := .int .u64 (16)) rfl rfl (by kernel_rfl) rfl ?_
  refine sq.c (v := .int .u64 (16)) rfl rfl rfl rfl ?_
  refine sq.e (AWp.seq (AWp.rowV (l := _) pok ?_))
  refine sq.c (v := .int .i64 (16)) rfl rfl rfl rfl ?_
  refine sq.c (v := .int .u64 (16)) rfl rfl (by kernel_rfl) rfl ?_
  refine sq.c (v := .int .u64 (15)) rfl rfl rfl rfl ?_
  refine sq.c (v := .int .u64 (15)) rfl rfl rfl rfl ?_
  refine sq.e (AWp.seq (AWp.block ?_))
  have hbz : h2.get n = some (.cells (encByte.row (List.replicate 65 0)) true ⟨123, 0, true⟩) := hb1
  refine AWp.loopV (fun d vs h8 n9 => ∃ (i u : Int) (zs : List UInt8), d = u.toNat ∧ SubBut h h8 ([]) ∧ n ≤ n9 ∧ Free h8 n9 ∧ h8.get n = some (.cells (encByte.row zs) true ⟨123, 0, true⟩) ∧ (0 ≤ i) ∧ (i ≤ 65) ∧ (0 ≤ u) ∧ (u < 4294967296) ∧ (zs.length = 65) ∧ (hexL u0.toNat = hexL u.toNat ++ zs.drop i.toNat) ∧ ∃ y7 : Nat → Value, vs = [.slice none (0) (0), .int .u64 (u), .int .i64 (16), .bool false, .bool false, undef, undef, undef, undef, undef, .slice none (0) (0), .string (⟨#[]⟩), .pointer (some ⟨n, 0, none⟩), .int .i64 (i), .int .u64 (4), .int .u64 (16), .int .u64 (15), undef, undef, .int .i64 (16), .bool false, .bool false, .int .i64 (16), .bool false, .bool false, .bool false, .int .i64 (16), .bool false, .bool false, undef, .bool false, undef, undef, .int .i64 (16), .bool true, .int .i64 (16), .int .u64 (16), .int .i64 (4), .int .u64 (4), .int .i64 (16), .int .u64 (16), .int .i64 (16), .int .u64 (16), .int .u64 (15), (y7 44), (y7 45), (y7 46), (y7 47), (y7 48), (y7 49), (y7 50), (y7 51), (y7 52), (y7 53), (y7 54), (y7 55), (y7 56), (y7 57), undef, undef, undef, undef, undef, undef, undef, undef, undef, undef, undef, undef, undef, undef, undef, undef, undef, undef, undef, undef, undef, undef, undef, undef, undef, undef, undef, undef, undef, undef, undef, undef, undef, undef, undef, undef, undef, undef, undef, undef, undef, undef, undef, undef]) (u0.toNat) ⟨65, u0, List.replicate 65 0, rfl, hs, hn, hf, hbz, (by omega), (by omega), (by omega), (by omega), (rfl), (by rw [show (65 : Int).toNat = 65 from rfl, show (List.replicate 65 (0 : UInt8)).drop 65 = [] from rfl, List.append_nil]), getV [undef, undef, undef, undef, undef, undef, undef, undef, undef, undef, undef, undef, undef, undef, undef, undef, undef, undef, undef, undef, undef, undef, undef, undef, undef, undef, undef, undef, undef, undef, undef, undef, undef, undef, undef, undef, undef, undef, undef, undef, undef, undef, undef, undef, undef, undef, undef, undef, undef, undef, undef, undef, undef, undef, undef, undef, undef, undef], rfl⟩ ?_
  rintro d vs h8 n9 ⟨i, u, zs, rfl, hs, hn, hf, hbz, hi0, hi1, hu0, hu1, hzs, hq, y7, rfl⟩
  have hll := congrArg List.length hq
  rw [List.length_append, List.length_drop] at hll
  have hlu := hexL_eight (n := u.toNat) (by omega)
  refine AWp.seq (AWp.seq (AWp.rowV (l := _) pok ?_))
  refine sq.c (v := .int .u64 (u)) rfl rfl rfl rfl ?_
  refine sq.c (v := .int .u64 (16)) rfl rfl rfl rfl ?_
  refine sq.c (v := .bool (decide ((16 : Int) ≤ u))) rfl rfl rfl rfl ?_
  refine sq.e ?_
  by_cases c11_2 : (16 : Int) ≤ u
  · rw [decide_eq_true c11_2]
    refine AWp.condT rfl rfl ?_
    refine AWp.skip (AWp.block (AWp.seq (AWp.rowV (l := _) pok ?_)))
    refine sq.c (v := .int .i64 (i)) rfl rfl rfl rfl ?_
    refine sq.c (v := .int .i64 (i - 1)) rfl rfl (okI (wrap_i64 (by omega) (by omega))) rfl ?_
    refine sq.c (v := .int .i64 (i - 1)) rfl rfl rfl rfl ?_
    refine sq.e (AWp.seq (AWp.rowV (l := _) pok ?_))
    refine sq.c (v := .int .i64 (i - 1)) rfl rfl rfl rfl ?_
    refine sq.c (v := .int .u64 (u)) rfl rfl rfl rfl ?_
    refine sq.c (v := .int .u64 (15)) rfl rfl rfl rfl ?_
    refine sq.c (v := .int .u64 (u % 16)) rfl rfl (and_15 (t := 93) (c := false) (d := false) (by omega) (by omega)) rfl ?_
    refine sq.c (v := .int .u8 (((hexCh (u % 16).toNat).toNat : Int))) rfl rfl (dig_at (s := ⟨#[48, 49, 50, 51, 52, 53, 54, 55, 56, 57, 97, 98, 99, 100, 101, 102, 103, 104, 105, 106, 107, 108, 109, 110, 111, 112, 113, 114, 115, 116, 117, 118, 119, 120, 121, 122]⟩) (t := 9) (u := u % 16) (k := .u64) (by kernel_rfl) (by omega) (by omega) (by rfl)) rfl ?_
    refine sq.c (v := .pointer (some ⟨n, (i - 1).toNat, none⟩)) rfl rfl (arr_at (t := 123) (len := 65) (e := 5) (b := n) (i := i - 1) (k := .i64) (by kernel_rfl) (by kernel_rfl) (by omega) (by omega)) rfl ?_
    refine sq.op rfl rfl (Does.store (k := 1) (xs := encByte.cells (hexCh (u % 16).toNat)) (cs' := encByte.row (zs.set (i - 1).toNat (hexCh (u % 16).toNat))) hf (by kernel_rfl) rfl rfl rfl hbz rfl rfl (by rw [encByte.row_length]; show (i - 1).toNat + 1 ≤ 1 * (zs).length; omega) (by have := encByte.row_set zs (i - 1).toNat (hexCh (u % 16).toNat) (by omega); rw [show encByte.k = 1 from rfl, Nat.one_mul] at this; exact this)) ?_
    rintro _ h11 n12 ⟨rfl, hb10⟩ s13 hn2 hf
    refine sq.w0 ?_
    have hs := hs.fresh z_n s13
    have hn := Nat.le_trans hn hn2
    refine sq.e (AWp.rowV (l := _) pok ?_)
    refine sq.c (v := .int .u64 (u)) rfl rfl rfl rfl ?_
    refine sq.c (v := .int .u64 (4)) rfl rfl rfl rfl ?_
    refine sq.c (v := .int .u64 (u / 16)) rfl rfl (okI (shr_lit (by rfl) (by decide))) rfl ?_
    refine sq.c (v := .int .u64 (u / 16)) rfl rfl rfl rfl ?_
    refine sq.e ?_
    have h16 : 2 ≤ (hexL u.toNat).length := by rw [hexL_ge (n := u.toNat) (by omega), List.length_append, List.length_singleton]; have := hexL_eight (n := u.toNat / 16) (by omega); omega
    refine ⟨_, _, rfl, by omega, i - 1, u / 16, (zs.set (i - 1).toNat (hexCh (u % 16).toNat)), rfl, hs, hn, hf, hb10, (by omega), (by omega), (by omega), (by omega), (by rw [List.length_set]; exact hzs), (by rw [hq, hexL_ge (n := u.toNat) (by omega), List.append_assoc, set_drop (by omega), show (i - 1).toNat + 1 = i.toNat by omega, show (u / 16).toNat = u.toNat / 16 by omega, show (u % 16).toNat = u.toNat % 16 by omega]; rfl), getV [undef, undef, undef, undef, undef, undef, undef, undef, undef, undef, undef, undef, undef, undef, undef, undef, undef, undef, undef, undef, undef, undef, undef, undef, undef, undef, undef, undef, undef, undef, undef, undef, undef, undef, undef, undef, undef, undef, undef, undef, undef, undef, undef, undef, .int .u64 (u), .int .u64 (16), .bool true, .int .i64 (i), .int .i64 (i - 1), .int .i64 (i - 1), .int .u64 (u), .int .u64 (15), .int .u64 (u % 16), .int .u8 (((hexCh (u % 16).toNat).toNat : Int)), .pointer (some ⟨n, (i - 1).toNat, none⟩), .int .u64 (u), .int .u64 (4), .int .u64 (u / 16)], rfl⟩
  · rw [decide_eq_false c11_2]
    refine AWp.condF rfl rfl ?_
    refine AWp.exit ?_
    refine AWp.seq (AWp.rowV (l := _) pok ?_)
    refine sq.c (v := .int .i64 (i)) rfl rfl rfl rfl ?_
    refine sq.c (v := .int .i64 (i - 1)) rfl rfl (okI (wrap_i64 (by omega) (by omega))) rfl ?_
    refine sq.c (v := .int .i64 (i - 1)) rfl rfl rfl rfl ?_
    refine sq.e (AWp.rowV (l := _) pok ?_)
    refine sq.c (v := .int .i64 (i - 1)) rfl rfl rfl rfl ?_
    refine sq.c (v := .int .u64 (u)) rfl rfl rfl rfl ?_
    refine sq.c (v := .int .u8 (((hexCh (u).toNat).toNat : Int))) rfl rfl (dig_at (s := ⟨#[48, 49, 50, 51, 52, 53, 54, 55, 56, 57, 97, 98, 99, 100, 101, 102, 103, 104, 105, 106, 107, 108, 109, 110, 111, 112, 113, 114, 115, 116, 117, 118, 119, 120, 121, 122]⟩) (t := 9) (u := u) (k := .u64) (by kernel_rfl) (by omega) (by omega) (by rfl)) rfl ?_
    refine sq.c (v := .pointer (some ⟨n, (i - 1).toNat, none⟩)) rfl rfl (arr_at (t := 123) (len := 65) (e := 5) (b := n) (i := i - 1) (k := .i64) (by kernel_rfl) (by kernel_rfl) (by omega) (by omega)) rfl ?_
    refine sq.op rfl rfl (Does.store (k := 1) (xs := encByte.cells (hexCh (u).toNat)) (cs' := encByte.row (zs.set (i - 1).toNat (hexCh (u).toNat))) hf (by kernel_rfl) rfl rfl rfl hbz rfl rfl (by rw [encByte.row_length]; show (i - 1).toNat + 1 ≤ 1 * (zs).length; omega) (by have := encByte.row_set zs (i - 1).toNat (hexCh (u).toNat) (by omega); rw [show encByte.k = 1 from rfl, Nat.one_mul] at this; exact this)) ?_
    rintro _ h15 n16 ⟨rfl, hb14⟩ s17 hn2 hf
    refine sq.w0 ?_
    have hs := hs.fresh z_n s17
    have hn := Nat.le_trans hn hn2
    refine sq.e (AWp.seq (AWp.seq (AWp.rowV (l := _) pok ?_)))
    refine sq.c (v := .bool false) rfl rfl rfl rfl ?_
    refine sq.e ?_
    refine AWp.condF rfl rfl ?_
    refine AWp.skip (AWp.seq (AWp.seq (AWp.rowV (l := _) pok ?_)))
    refine sq.c (v := .bool false) rfl rfl rfl rfl ?_
    refine sq.e ?_
    refine AWp.condF rfl rfl ?_
    refine AWp.skip (AWp.seq (AWp.rowV (l := _) pok ?_))
    refine sq.c (v := .int .i64 (i - 1)) rfl rfl rfl rfl ?_
    refine sq.c (v := .slice (some ⟨n, (i - 1).toNat, none⟩) (65 - (i - 1).toNat) (65 - (i - 1).toNat)) rfl rfl (arr_from (h := h15) (t := 123) (len := 65) (e := 5) (b := n) (i := i - 1) (k := .i64) (by kernel_rfl) (by kernel_rfl) (by omega) (by omega) (by unfold U; omega)) rfl ?_
    have hzl : ((zs.set (i - 1).toNat (hexCh (u).toNat))).length = 65 := by rw [List.length_set]; omega
    have hfin : hexL u0.toNat = ((zs.set (i - 1).toNat (hexCh (u).toNat))).drop (i - 1).toNat := by rw [hq, hexL_lt (n := u.toNat) (by omega), show (i - 1).toNat = (i - 1).toNat from rfl, set_drop (by omega), show (i - 1).toNat + 1 = i.toNat by omega]; rfl
    have hrow : IsRow encByte h15 (.slice (some ⟨n, (i - 1).toNat, none⟩) (65 - (i - 1).toNat) (65 - (i - 1).toNat)) (hexL u0.toNat) := .inr ⟨n, (i - 1).toNat, 65 - (i - 1).toNat, _, _, _, by rw [hfin, List.length_drop, hzl], by rw [hfin, List.length_drop, hzl]; exact Nat.le_refl _, hb14, by rw [hfin]; have := encByte.row_drop ((zs.set (i - 1).toNat (hexCh (u).toNat))) (i - 1).toNat; rw [show encByte.k = 1 from rfl, Nat.one_mul] at this; rw [this, show encByte.k = 1 from rfl, Nat.one_mul]; exact List.take_of_length_le (by rw [encByte.row_length]; show 1 * _ ≤ _; omega), by rw [encByte.row_length, show encByte.k = 1 from rfl, hzl, hfin, List.length_drop, hzl]; omega⟩
    refine sq.c (v := .string (strB (hexL u0.toNat))) rfl rfl (strOf_row (P := Tryz.prog) (a := 42) (b := 9) (e := 5) (by kernel_rfl) (by kernel_rfl) (by kernel_rfl) (by kernel_rfl) hrow) rfl ?_
    refine sq.c (v := .string (strB (hexL u0.toNat))) rfl rfl rfl rfl ?_
    refine sq.e ?_
    refine AWp.ret ?_
    refine ⟨rfl, [.slice none (0) (0), .string (strB (hexL u0.toNat))], rfl, .tuple #[.slice none (0) (0), .string (strB (hexL u0.toNat))], rfl, hs, hn, ?_⟩
    rfl
theorem f83_spec {h : Heap} {n : Nat} (u0 : Int) (h0 : 0 ≤ u0) (h1 : u0 < 4294967296) (hld : Laid0 h) :
    Tells Tryz.prog 83 [.int .i64 (u0), .int .i64 (16)] h n (.string (strB (hexL u0.toNat))) := by
  refine Makes.tells (Makes.free fun hf => ?_)
  have hs : SubBut h h ([]) := .refl _ _
  have hn : n ≤ n := Nat.le_refl _
  have hf0 := hf
  refine Makes.of_bodyV (args := [.int .i64 (u0), .int .i64 (16)]) (vs := [.int .i64 (u0), .int .i64 (16), undef, undef, undef, undef, undef, undef, undef, undef, undef, undef, undef, undef, undef, undef, undef, undef, undef, undef, undef, undef, undef, undef, undef, undef, undef, undef, undef, undef, undef, undef, undef, undef, undef, undef, undef, undef, undef, undef, undef, undef, undef, undef, undef, undef, undef, undef, undef, undef, undef, undef, undef, undef]) Tryz.func83 rfl rfl ?_
  refine AWp.seq (AWp.rowV (l := _) pok ?_)
  refine sq.c (v := .string (⟨#[]⟩)) rfl rfl rfl rfl ?_
  refine sq.e (AWp.seq (AWp.seq (AWp.rowV (l := _) pok ?_)))
  refine sq.c (v := .int .i64 (16)) rfl rfl rfl rfl ?_
  refine sq.c (v := .bool false) rfl rfl rfl rfl ?_
  refine sq.e ?_
  refine AWp.condF rfl rfl ?_
  refine AWp.skip (AWp.seq (AWp.rowV (l := _) pok ?_))
  refine sq.c (v := .int .i64 (u0)) rfl rfl rfl rfl ?_
  refine sq.c (v := .int .u64 (u0)) rfl rfl (Eq.trans (b := some (.int .u64 (IntKind.u64.wrap (u0)))) (by kernel_rfl) (okI (wrap_u64 (by omega) (by omega)))) rfl ?_
  refine sq.c (v := .int .i64 (16)) rfl rfl rfl rfl ?_
  refine sq.c (v := .int .i64 (u0)) rfl rfl rfl rfl ?_
  refine sq.c (v := .bool false) rfl rfl (okF (by omega)) rfl ?_
  refine sq.t (v := .tuple #[.slice none (0) (0), .string (strB (hexL u0.toNat))]) rfl (CallsF.fn rfl (by kernel_rfl) rfl rfl) (fun hf => f97_spec u0 h0 h1 (hld.keep hs)) hf rfl ?_
  intro n1 hn2 hf
  have hn := Nat.le_trans hn hn2
  refine sq.c (v := .tuple #[.slice none (0) (0), .string (strB (hexL u0.toNat))]) rfl rfl rfl rfl ?_
  refine sq.c (v := .slice none (0) (0)) rfl rfl rfl rfl ?_
  refine sq.c (v := .string (strB (hexL u0.toNat))) rfl rfl rfl rfl ?_
  refine sq.c (v := .slice none (0) (0)) rfl rfl rfl rfl ?_
  refine sq.c (v := .string (strB (hexL u0.toNat))) rfl rfl rfl rfl ?_
  refine sq.e (AWp.seq (AWp.rowV (l := _) pok ?_))
  refine sq.c (v := .string (strB (hexL u0.toNat))) rfl rfl rfl rfl ?_
  refine sq.c (v := .string (strB (hexL u0.toNat))) rfl rfl rfl rfl ?_
  refine sq.e ?_
  refine AWp.ret ?_
  refine ⟨rfl, [.string (strB (hexL u0.toNat))], rfl, .string (strB (hexL u0.toNat)), rfl, hs, hn, ?_⟩
  rfl
theorem f63_spec {h : Heap} {n : Nat} (u0 : Int) (h0 : 0 ≤ u0) (h1 : u0 < 4294967296) (hld : Laid0 h) :
    Tells Tryz.prog 63 [.int .i64 (u0), .int .i64 (16)] h n (.string (strB (hexL u0.toNat))) := by
  refine Makes.tells (Makes.free fun hf => ?_)
  have hs : SubBut h h ([]) := .refl _ _
  have hn : n ≤ n := Nat.le_refl _
  have hf0 := hf
  refine Makes.of_bodyV (args := [.int .i64 (u0), .int .i64 (16)]) (vs := [.int .i64 (u0), .int .i64 (16), undef, undef, undef, undef, undef, undef]) Tryz.func63 rfl rfl ?_
  refine AWp.seq (AWp.rowV (l := _) pok ?_)
  refine sq.c (v := .string (⟨#[]⟩)) rfl rfl rfl rfl ?_
  refine sq.e (AWp.seq (AWp.rowV (l := _) pok ?_))
  refine sq.c (v := .int .i64 (u0)) rfl rfl rfl rfl ?_
  refine sq.c (v := .int .i64 (16)) rfl rfl rfl rfl ?_
  refine sq.t (v := .string (strB (hexL u0.toNat))) rfl (CallsF.fn rfl (by kernel_rfl) rfl rfl) (fun hf => f83_spec u0 h0 h1 (hld.keep hs)) hf rfl ?_
  intro n1 hn2 hf
  have hn := Nat.le_trans hn hn2
  refine sq.c (v := .string (strB (hexL u0.toNat))) rfl rfl rfl rfl ?_
  refine sq.e ?_
  refine AWp.ret ?_
  refine ⟨rfl, [.string (strB (hexL u0.toNat))], rfl, .string (strB (hexL u0.toNat)), rfl, hs, hn, ?_⟩
  rfl
theorem f41_step {h : Heap} {n : Nat} (n0 : Int) (h0 : 0 ≤ n0) (h1 : n0 < 4294967296) (ih : 16 ≤ n0 → ∀ (h : Heap) (n : Nat), Tells Tryz.prog 41 [.int .i64 (n0 / 16)] h n (.string (strB (hexL (n0 / 16).toNat)))) :
    Tells Tryz.prog 41 [.int .i64 (n0)] h n (.string (strB (hexL n0.toNat))) := by
  refine Makes.tells (Makes.free fun hf => ?_)
  have hl8 := hexL_eight (n := (n0 / 16).toNat) (by omega)
  have hs : SubBut h h ([]) := .refl _ _
  have hn : n ≤ n := Nat.le_refl _
  have hf0 := hf
  refine Makes.of_bodyV (args := [.int .i64 (n0)]) (vs := [.int .i64 (n0), undef, undef, undef, undef, undef, undef, undef, undef, undef, undef, undef, undef, undef, undef, undef, undef, undef]) Tryz.func41 rfl rfl ?_
  refine AWp.seq (AWp.rowV (l := _) pok ?_)
  refine sq.c (v := .string (⟨#[]⟩)) rfl rfl rfl rfl ?_
  refine sq.e (AWp.seq (AWp.rowV (l := _) pok ?_))
  refine sq.c (v := .int .i64 (n0)) rfl rfl rfl rfl ?_
  refine sq.c (v := .int .i64 (n0 % 16)) rfl rfl (okI (Int.tmod_eq_emod_of_nonneg (by omega))) rfl ?_
  refine sq.c (v := .int .i64 (n0)) rfl rfl rfl rfl ?_
  refine sq.c (v := .int .i64 (n0 % 16)) rfl rfl (okI (Int.tmod_eq_emod_of_nonneg (by omega))) rfl ?_
  refine sq.c (v := .int .i64 ((n0 % 16) + 1)) rfl rfl (okI (wrap_i64 (by omega) (by omega))) rfl ?_
  refine sq.c (v := .string (strB [hexCh (n0 % 16).toNat])) rfl rfl (dig_sub (h := h) (by omega) (by omega)) rfl ?_
  refine sq.c (v := .string (strB [hexCh (n0 % 16).toNat])) rfl rfl rfl rfl ?_
  refine sq.e (AWp.seq (AWp.seq (AWp.rowV (l := _) pok ?_)))
  refine sq.c (v := .int .i64 (n0)) rfl rfl rfl rfl ?_
  refine sq.c (v := .bool (decide (n0 < (16 : Int)))) rfl rfl rfl rfl ?_
  refine sq.e ?_
  by_cases c2_1 : n0 < (16 : Int)
  · rw [decide_eq_true c2_1]
    refine AWp.condT rfl rfl ?_
    refine AWp.seq (AWp.rowV (l := _) pok ?_)
    refine sq.c (v := .string (strB [hexCh (n0 % 16).toNat])) rfl rfl rfl rfl ?_
    refine sq.c (v := .string (strB [hexCh (n0 % 16).toNat])) rfl rfl rfl rfl ?_
    refine sq.e ?_
    refine AWp.ret ?_
    refine ⟨rfl, [.string (strB [hexCh (n0 % 16).toNat])], rfl, .string (strB [hexCh (n0 % 16).toNat]), rfl, hs, hn, ?_⟩
    rw [hexL_lt (by omega), show (n0 % 16).toNat = n0.toNat by omega]
  · rw [decide_eq_false c2_1]
    refine AWp.condF rfl rfl ?_
    refine AWp.skip (AWp.seq (AWp.rowV (l := _) pok ?_))
    refine sq.c (v := .int .i64 (n0)) rfl rfl rfl rfl ?_
    refine sq.c (v := .int .i64 (n0 / 16)) rfl rfl (okI (quo_i64 (by omega) (by omega))) rfl ?_
    refine sq.t (v := .string (strB (hexL (n0 / 16).toNat))) rfl (CallsF.fn rfl (by kernel_rfl) rfl rfl) (fun hf => ih (by omega) _ _) hf rfl ?_
    intro n1 hn2 hf
    have hn := Nat.le_trans hn hn2
    refine sq.c (v := .string (strB [hexCh (n0 % 16).toNat])) rfl rfl rfl rfl ?_
    refine sq.c (v := .string ((strB (hexL (n0 / 16).toNat)) ++ (strB [hexCh (n0 % 16).toNat]))) rfl rfl (add_str (a := strB (hexL (n0 / 16).toNat)) (b := strB [hexCh (n0 % 16).toNat]) (by (have e1 : (strB (hexL (n0 / 16).toNat)).data.toList.length = (hexL (n0 / 16).toNat).length := rfl); show (strB (hexL (n0 / 16).toNat)).data.toList.length + 1 < _; omega)) rfl ?_
    refine sq.c (v := .string ((strB (hexL (n0 / 16).toNat)) ++ (strB [hexCh (n0 % 16).toNat]))) rfl rfl rfl rfl ?_
    refine sq.e ?_
    refine AWp.ret ?_
    refine ⟨rfl, [.string ((strB (hexL (n0 / 16).toNat)) ++ (strB [hexCh (n0 % 16).toNat]))], rfl, .string ((strB (hexL (n0 / 16).toNat)) ++ (strB [hexCh (n0 % 16).toNat])), rfl, hs, hn, ?_⟩
    rw [strB_add, hexL_ge (n := n0.toNat) (by omega), show (n0 % 16).toNat = n0.toNat % 16 by omega, show (n0 / 16).toNat = n0.toNat / 16 by omega]
theorem f41_spec : ∀ (k : Nat) (m : Int), m.toNat = k → 0 ≤ m → m < 4294967296 → ∀ (h : Heap) (n : Nat), Tells Tryz.prog 41 [.int .i64 m] h n (.string (strB (hexL m.toNat))) := by
  intro k
  induction k using Nat.strongRecOn with
  | ind k ih =>
    intro m hk h0 h1 h n
    exact f41_step m h0 h1 fun hm h n => ih (m / 16).toNat (by omega) (m / 16) rfl (by omega) (by omega) h n
def qR (c : Nat) : List UInt8 := (if c = 34 ∨ c = 92 then [92] else []) ++ (if 126 < c then [92, 117, 123] ++ hexL c ++ [125] else encR c)
def qV (ds : List (Nat × Nat)) : List UInt8 := ds.flatMap fun d => qR d.1
theorem qV_snoc (ds : List (Nat × Nat)) (d : Nat × Nat) : qV (ds ++ [d]) = qV ds ++ qR d.1 := by unfold qV; rw [List.flatMap_append]; simp
theorem qR_len {c : Nat} (h : c < 4294967296) : (qR c).length ≤ 13 := by
  unfold qR
  have h1 := hexL_eight h
  have h2 := enc_len (c : Int)
  rw [List.length_append]
  split <;> split <;> simp only [List.length_append, List.length_cons, List.length_nil] <;> omega
def quoteB (v : ByteArray) : List UInt8 := [34] ++ qV (decs v.data.toList) ++ [34]
theorem dec_pos (s : ByteArray) (p : Nat) : isR ((Utf8.decode s p).1 : Nat) := by rw [← Lib.decodeL_drop]; exact dec_isR _
theorem qR_esc {c : Nat} (h : c = 34 ∨ c = 92) : qR c = [92] ++ encR c := by unfold qR; rw [if_pos h, if_neg (by omega)]
theorem qR_plain {c : Nat} (h : ¬ c = 34) (h2 : ¬ c = 92) (h3 : ¬ 126 < c) : qR c = encR c := by unfold qR; rw [if_neg (by omega), if_neg h3]; rfl
theorem qR_hex {c : Nat} (h3 : 126 < c) : qR c = ((⟨#[92, 117, 123]⟩ : ByteArray) ++ strB (hexL c) ++ (⟨#[125]⟩ : ByteArray)).data.toList := by
  unfold qR
  rw [if_neg (by omega), if_pos h3, ByteArray.data_append, ByteArray.data_append, Array.toList_append, Array.toList_append]
  rfl
theorem f38_spec {h : Heap} {n : Nat} (s : ByteArray) (hls : s.data.toList.length < 1000000000) (hld : Laid0 h) :
    Tells Tryz.prog 38 [.string (s)] h n (.string (strB (quoteB s))) := by
  refine Makes.tells (Makes.free fun hf => ?_)
  have hs : SubBut h h ([]) := .refl _ _
  have hn : n ≤ n := Nat.le_refl _
  have hf0 := hf
  refine Makes.of_bodyV (args := [.string (s)]) (vs := [.string (s), undef, undef, undef, undef, undef, undef, undef, undef, undef, undef, undef, undef, undef, undef, undef, undef, undef, undef, undef, undef, undef, undef, undef, undef, undef, undef, undef, undef, undef, undef, undef, undef, undef, undef]) Tryz.func38 rfl rfl ?_
  refine AWp.seq (AWp.rowV (l := _) pok ?_)
  refine sq.c (v := .string (⟨#[]⟩)) rfl rfl rfl rfl ?_
  refine sq.e (AWp.seq (AWp.rowV (l := _) pok ?_))
  have z_n : h.get n = none := hf0 _ hn
  refine sq.op rfl rfl (Does.alloc (cs := [.pointer none, .slice none (0) (0)]) hf (z := .agg #[.pointer none, .slice none (0) (0)]) (by kernel_rfl) rfl) ?_
  rintro _ h2 n3 ⟨rfl, hb1⟩ s4 hn2 hf
  refine sq.w ?_
  have hs := hs.trans s4
  have hn := Nat.le_trans hn hn2
  refine sq.e (AWp.seq (AWp.rowV (l := _) pok ?_))
  have hfo := hf
  refine sq.k rfl (CallsF.fn rfl (by kernel_rfl) rfl rfl) (f60_spec ([]) (.inl rfl) hb1 OwnRow.nil (by simp [blkOf]) (by first | omega | (simp only [List.length_append, List.length_cons, List.length_nil]; omega)) (34)) ?_
  rintro u8 h9 n10 ⟨a5, cp6, hb7, R_r, hB_, d_r_n⟩ s11 hn2 hf
  refine sq.w ?_
  have hs := SubBut.own2 (v := .slice none 0 0) hs z_n (by simp [blkOf]) hf0 s11
  have B_r : ∀ c ∈ blkOf (.slice a5 ([] ++ [34]).length cp6), c ∈ [] ∨ n ≤ c := fun c hc => (hB_ c hc).elim (fun q => absurd q (by simp [blkOf])) (fun q => .inr (Nat.le_trans hn q))
  have hn := Nat.le_trans hn hn2
  refine sq.e (AWp.seq (AWp.seq (AWp.rowV (l := _) pok ?_)))
  refine sq.c (v := .string (s)) rfl rfl rfl rfl ?_
  have e_n_n10 : n ≠ n10 := hf.ne hb7
  have d_r_n10 : ∀ c ∈ blkOf (.slice a5 ([] ++ [34]).length cp6), c ≠ n10 := fun c hc e => R_r.ne' (hf _ (Nat.le_refl _)) c hc (List.mem_singleton.2 e)
  have z_n10 : h.get n10 = none := hf0 _ hn
  refine sq.op rfl rfl (Does.range (s := s) hf (by kernel_rfl) rfl) ?_
  rintro _ h13 n14 ⟨rfl, hb12⟩ s15 hn2 hf
  refine sq.w ?_
  have hb7 := s15.sub _ _ hb7
  have R_r := R_r.keep s15
  have hs := hs.trans s15
  have hn := Nat.le_trans hn hn2
  refine sq.e (AWp.block ?_)
  refine AWp.loopV (fun d vs h17 n18 => ∃ (p : Nat) (zs : List UInt8) (ds : List (Nat × Nat)) (a_r : Option Addr) (cp_r : Nat), d = s.data.toList.length - p + 1 ∧ SubBut h h17 ([]) ∧ n ≤ n18 ∧ Free h17 n18 ∧ h17.get n = some (.cells [.pointer (some ⟨n, 0, none⟩), .slice a_r (zs.length) cp_r] true ⟨72, 0, true⟩) ∧ h17.get n10 = some (.siter (s) p) ∧ OwnRow encByte 5 (Trie.nil : Heap) h17 (.slice a_r (zs).length cp_r) (zs) ∧ (∀ c ∈ blkOf (.slice a_r (zs).length cp_r), c ≠ n) ∧ (∀ c ∈ blkOf (.slice a_r (zs).length cp_r), c ≠ n10) ∧ (∀ c ∈ blkOf (.slice a_r (zs).length cp_r), c ∈ [] ∨ n ≤ c) ∧ (p ≤ s.data.toList.length) ∧ (zs.length ≤ 1 + 13 * p) ∧ (decs s.data.toList = ds ++ decs (s.data.toList.drop p)) ∧ (zs = [34] ++ qV ds) ∧ ∃ y16 : Nat → Value, vs = [.string (s), undef, .string (⟨#[]⟩), .pointer (some ⟨n, 0, none⟩), undef, (y16 5), u8, .string (s), .pointer (some ⟨n10, 0, none⟩), (y16 9), (y16 10), (y16 11), (y16 12), (y16 13), (y16 14), (y16 15), (y16 16), (y16 17), (y16 18), (y16 19), (y16 20), (y16 21), (y16 22), (y16 23), (y16 24), (y16 25), (y16 26), (y16 27), (y16 28), (y16 29), (y16 30), (y16 31), (y16 32), undef, undef]) (s.data.toList.length - 0 + 1) ⟨0, [34], [], a5, cp6, rfl, hs, hn, hf, hb7, hb12, R_r, d_r_n, d_r_n10, B_r, (by omega), (by simp), (by simp), (rfl), getV [undef, undef, undef, undef, undef, undef, undef, undef, undef, undef, undef, undef, undef, undef, undef, undef, undef, undef, undef, undef, undef, undef, undef, undef, undef, undef, undef, undef, undef, undef, undef, undef, undef], rfl⟩ ?_
  rintro d vs h17 n18 ⟨p, zs, ds, a_r, cp_r, rfl, hs, hn, hf, hb7, hb12, R_r, d_r_n, d_r_n10, B_r, hp, hzl, hr, hq, y16, rfl⟩
  have hcr := dec_pos s p
  unfold isR at hcr
  have hh8 := hexL_eight (n := (Utf8.decode s p).1) (by omega)
  have hql := qR_len (c := (Utf8.decode s p).1) (by omega)
  refine AWp.seq (AWp.rowV (l := _) pok ?_)
  by_cases c4_0 : p < (s).data.toList.length
  · skip
    refine sq.op rfl rfl (Does.nextYes hf rfl hb12 c4_0) ?_
    rintro _ h21 n22 ⟨rfl, hb19⟩ s23 hn2 hf
    refine sq.w ?_
    have hb7 := s23.get1 (e_n_n10) hb7
    have R_r := R_r.but s23 (fun c hc hm => d_r_n10 c hc (List.mem_singleton.1 hm))
    have hs := hs.fresh z_n10 s23
    have hn := Nat.le_trans hn hn2
    refine sq.c (v := .bool true) rfl rfl rfl rfl ?_
    refine sq.e (AWp.seq ?_)
    refine AWp.condT rfl rfl ?_
    refine AWp.skip (AWp.block (AWp.seq (AWp.rowV (l := _) pok ?_)))
    refine sq.c (v := .int .i32 ((Utf8.decode (s) p).1)) rfl rfl rfl rfl ?_
    refine sq.c (v := .int .i32 ((Utf8.decode (s) p).1)) rfl rfl rfl rfl ?_
    refine sq.e (AWp.block (AWp.seq (AWp.rowV (l := _) pok ?_)))
    refine sq.c (v := .int .i32 ((Utf8.decode (s) p).1)) rfl rfl rfl rfl ?_
    refine sq.c (v := .bool (decide (((Utf8.decode (s) p).1) = (34 : Int)))) rfl rfl rfl rfl ?_
    refine sq.c (v := .bool (decide (((Utf8.decode (s) p).1) = (34 : Int)))) rfl rfl rfl rfl ?_
    by_cases c7_1 : ((Utf8.decode (s) p).1) = (34 : Int)
    · rw [decide_eq_true c7_1]
      refine sq.s (wantF (g := 2) (d := 17) rfl rfl rfl) rfl ?_
      refine sq.s (wantF (g := 2) (d := 17) rfl rfl rfl) rfl ?_
      refine sq.c (v := .bool true) rfl rfl rfl rfl ?_
      refine sq.c (v := .bool true) rfl rfl rfl rfl ?_
      refine sq.e ?_
      refine AWp.condT rfl rfl ?_
      refine AWp.seq (AWp.rowV (l := _) pok ?_)
      have hfo := hf
      refine sq.k rfl (CallsF.fn rfl (by kernel_rfl) rfl rfl) (f60_spec zs (.inr rfl) hb7 R_r d_r_n (by first | omega | (simp only [List.length_append, List.length_cons, List.length_nil]; omega)) (92)) ?_
      rintro u27 h28 n29 ⟨a24, cp25, hb26, R_r, hB_, d_r_n⟩ s30 hn2 hf
      refine sq.w ?_
      have dn_n10 : ∀ c ∈ blkOf (.slice a24 (zs ++ [92]).length cp25), c ≠ n10 := fun c hc => (hB_ c hc).elim (fun q => d_r_n10 c q) (fun q e => by rw [e] at q; have := hfo _ q; rw [hb19] at this; cases this)
      have hb19 := s30 _ _ (fun hm => (List.mem_cons.1 hm).elim (Ne.symm e_n_n10) (fun q => d_r_n10 _ q rfl)) hb19
      have hs := SubBut.own2 (v := .slice a_r (zs).length cp_r) hs z_n B_r hf0 s30
      have B_r : ∀ c ∈ blkOf (.slice a24 (zs ++ [92]).length cp25), c ∈ [] ∨ n ≤ c := fun c hc => (hB_ c hc).elim (B_r c) (fun q => .inr (Nat.le_trans hn q))
      have hn := Nat.le_trans hn hn2
      have d_r_n10 := dn_n10
      refine sq.e (AWp.rowV (l := _) pok ?_)
      refine sq.c (v := .int .i32 ((Utf8.decode (s) p).1)) rfl rfl rfl rfl ?_
      have hfo := hf
      refine sq.k rfl (CallsF.fn rfl (by kernel_rfl) rfl rfl) (f61_spec (zs ++ [92]) (.inr rfl) hb26 R_r d_r_n (by first | omega | (simp only [List.length_append, List.length_cons, List.length_nil]; omega)) (((Utf8.decode s p).1 : Nat) : Int) (dec_pos s p)) ?_
      rintro u34 h35 n36 ⟨a31, cp32, hb33, R_r, hB_, d_r_n⟩ s37 hn2 hf
      refine sq.w ?_
      have dn_n10 : ∀ c ∈ blkOf (.slice a31 ((zs ++ [92]) ++ (encR (((Utf8.decode s p).1 : Nat) : Int))).length cp32), c ≠ n10 := fun c hc => (hB_ c hc).elim (fun q => d_r_n10 c q) (fun q e => by rw [e] at q; have := hfo _ q; rw [hb19] at this; cases this)
      have hb19 := s37 _ _ (fun hm => (List.mem_cons.1 hm).elim (Ne.symm e_n_n10) (fun q => d_r_n10 _ q rfl)) hb19
      have hs := SubBut.own2 (v := .slice a24 (zs ++ [92]).length cp25) hs z_n B_r hf0 s37
      have B_r : ∀ c ∈ blkOf (.slice a31 ((zs ++ [92]) ++ (encR (((Utf8.decode s p).1 : Nat) : Int))).length cp32), c ∈ [] ∨ n ≤ c := fun c hc => (hB_ c hc).elim (B_r c) (fun q => .inr (Nat.le_trans hn q))
      have hn := Nat.le_trans hn hn2
      have d_r_n10 := dn_n10
      refine sq.e ?_
      obtain ⟨q1, q2, q3⟩ := decode_step s p c4_0
      refine ⟨_, _, rfl, by omega, _, (zs ++ [92]) ++ encR (((Utf8.decode s p).1 : Nat) : Int), ds ++ [Utf8.decode s p], a31, cp32, rfl, hs, hn, hf, hb33, hb19, R_r, d_r_n, d_r_n10, B_r, (by omega), (by rw [List.append_assoc, ← qR_esc (by omega), List.length_append]; omega), (by rw [hr, q1]; simp), (by rw [hq, qV_snoc, qR_esc (by omega)]; simp only [List.append_assoc]), getV [undef, undef, undef, undef, undef, .int .i32 ((Utf8.decode (s) p).1), undef, undef, undef, .tuple #[.bool true, .int .i64 (p), .int .i32 ((Utf8.decode (s) p).1)], .bool true, .int .i32 ((Utf8.decode (s) p).1), (y16 12), (y16 13), .bool true, .int .i32 ((Utf8.decode (s) p).1), .bool true, .bool true, undef, undef, .bool true, u27, .int .i32 ((Utf8.decode (s) p).1), u34, (y16 24), (y16 25), (y16 26), (y16 27), (y16 28), (y16 29), (y16 30), (y16 31), (y16 32)], rfl⟩
    · rw [decide_eq_false c7_1]
      refine sq.c (v := .int .i32 ((Utf8.decode (s) p).1)) (wantT (g := 2) (d := 17) rfl rfl rfl) rfl rfl rfl ?_
      refine sq.c (v := .bool (decide (((Utf8.decode (s) p).1) = (92 : Int)))) (wantT (g := 2) (d := 17) rfl rfl rfl) rfl rfl rfl ?_
      refine sq.c (v := .bool (decide (((Utf8.decode (s) p).1) = (92 : Int)))) rfl rfl rfl rfl ?_
      refine sq.c (v := .bool (decide (((Utf8.decode (s) p).1) = (92 : Int)))) rfl rfl rfl rfl ?_
      refine sq.e ?_
      by_cases c7_4 : ((Utf8.decode (s) p).1) = (92 : Int)
      · rw [decide_eq_true c7_4]
        refine AWp.condT rfl rfl ?_
        refine AWp.seq (AWp.rowV (l := _) pok ?_)
        have hfo := hf
        refine sq.k rfl (CallsF.fn rfl (by kernel_rfl) rfl rfl) (f60_spec zs (.inr rfl) hb7 R_r d_r_n (by first | omega | (simp only [List.length_append, List.length_cons, List.length_nil]; omega)) (92)) ?_
        rintro u41 h42 n43 ⟨a38, cp39, hb40, R_r, hB_, d_r_n⟩ s44 hn2 hf
        refine sq.w ?_
        have dn_n10 : ∀ c ∈ blkOf (.slice a38 (zs ++ [92]).length cp39), c ≠ n10 := fun c hc => (hB_ c hc).elim (fun q => d_r_n10 c q) (fun q e => by rw [e] at q; have := hfo _ q; rw [hb19] at this; cases this)
        have hb19 := s44 _ _ (fun hm => (List.mem_cons.1 hm).elim (Ne.symm e_n_n10) (fun q => d_r_n10 _ q rfl)) hb19
        have hs := SubBut.own2 (v := .slice a_r (zs).length cp_r) hs z_n B_r hf0 s44
        have B_r : ∀ c ∈ blkOf (.slice a38 (zs ++ [92]).length cp39), c ∈ [] ∨ n ≤ c := fun c hc => (hB_ c hc).elim (B_r c) (fun q => .inr (Nat.le_trans hn q))
        have hn := Nat.le_trans hn hn2
        have d_r_n10 := dn_n10
        refine sq.e (AWp.rowV (l := _) pok ?_)
        refine sq.c (v := .int .i32 ((Utf8.decode (s) p).1)) rfl rfl rfl rfl ?_
        have hfo := hf
        refine sq.k rfl (CallsF.fn rfl (by kernel_rfl) rfl rfl) (f61_spec (zs ++ [92]) (.inr rfl) hb40 R_r d_r_n (by first | omega | (simp only [List.length_append, List.length_cons, List.length_nil]; omega)) (((Utf8.decode s p).1 : Nat) : Int) (dec_pos s p)) ?_
        rintro u48 h49 n50 ⟨a45, cp46, hb47, R_r, hB_, d_r_n⟩ s51 hn2 hf
        refine sq.w ?_
        have dn_n10 : ∀ c ∈ blkOf (.slice a45 ((zs ++ [92]) ++ (encR (((Utf8.decode s p).1 : Nat) : Int))).length cp46), c ≠ n10 := fun c hc => (hB_ c hc).elim (fun q => d_r_n10 c q) (fun q e => by rw [e] at q; have := hfo _ q; rw [hb19] at this; cases this)
        have hb19 := s51 _ _ (fun hm => (List.mem_cons.1 hm).elim (Ne.symm e_n_n10) (fun q => d_r_n10 _ q rfl)) hb19
        have hs := SubBut.own2 (v := .slice a38 (zs ++ [92]).length cp39) hs z_n B_r hf0 s51
        have B_r : ∀ c ∈ blkOf (.slice a45 ((zs ++ [92]) ++ (encR (((Utf8.decode s p).1 : Nat) : Int))).length cp46), c ∈ [] ∨ n ≤ c := fun c hc => (hB_ c hc).elim (B_r c) (fun q => .inr (Nat.le_trans hn q))
        have hn := Nat.le_trans hn hn2
        have d_r_n10 := dn_n10
        refine sq.e ?_
        obtain ⟨q1, q2, q3⟩ := decode_step s p c4_0
        refine ⟨_, _, rfl, by omega, _, (zs ++ [92]) ++ encR (((Utf8.decode s p).1 : Nat) : Int), ds ++ [Utf8.decode s p], a45, cp46, rfl, hs, hn, hf, hb47, hb19, R_r, d_r_n, d_r_n10, B_r, (by omega), (by rw [List.append_assoc, ← qR_esc (by omega), List.length_append]; omega), (by rw [hr, q1]; simp), (by rw [hq, qV_snoc, qR_esc (by omega)]; simp only [List.append_assoc]), getV [undef, undef, undef, undef, undef, .int .i32 ((Utf8.decode (s) p).1), undef, undef, undef, .tuple #[.bool true, .int .i64 (p), .int .i32 ((Utf8.decode (s) p).1)], .bool true, .int .i32 ((Utf8.decode (s) p).1), (y16 12), (y16 13), .bool true, .int .i32 ((Utf8.decode (s) p).1), .bool false, .bool false, .int .i32 ((Utf8.decode (s) p).1), .bool true, .bool true, u41, .int .i32 ((Utf8.decode (s) p).1), u48, (y16 24), (y16 25), (y16 26), (y16 27), (y16 28), (y16 29), (y16 30), (y16 31), (y16 32)], rfl⟩
      · rw [decide_eq_false c7_4]
        refine AWp.condF rfl rfl ?_
        refine AWp.seq (AWp.rowV (l := _) pok ?_)
        refine sq.c (v := .int .i32 ((Utf8.decode (s) p).1)) rfl rfl rfl rfl ?_
        refine sq.c (v := .bool (decide ((126 : Int) < ((Utf8.decode (s) p).1)))) rfl rfl rfl rfl ?_
        refine sq.c (v := .bool (decide ((126 : Int) < ((Utf8.decode (s) p).1)))) rfl rfl rfl rfl ?_
        refine sq.e ?_
        by_cases c10_1 : (126 : Int) < ((Utf8.decode (s) p).1)
        · rw [decide_eq_true c10_1]
          refine AWp.condT rfl rfl ?_
          refine AWp.rowV (l := _) pok ?_
          refine sq.c (v := .int .i32 ((Utf8.decode (s) p).1)) rfl rfl rfl rfl ?_
          refine sq.c (v := .int .i64 ((Utf8.decode (s) p).1)) rfl rfl (Eq.trans (b := some (.int .i64 (IntKind.i64.wrap ((Utf8.decode (s) p).1)))) (by kernel_rfl) (okI (wrap_i64 (by omega) (by omega)))) rfl ?_
          refine sq.t (v := .string (strB (hexL (Utf8.decode s p).1))) rfl (CallsF.fn rfl (by kernel_rfl) rfl rfl) (fun hf => f63_spec (((Utf8.decode s p).1 : Nat) : Int) (by omega) (by omega) (hld.keep hs)) hf rfl ?_
          intro n52 hn2 hf
          have hn := Nat.le_trans hn hn2
          refine sq.c (v := .string ((⟨#[92, 117, 123]⟩ : ByteArray) ++ strB (hexL (Utf8.decode s p).1))) rfl rfl (add_str (a := (⟨#[92, 117, 123]⟩ : ByteArray)) (b := strB (hexL (Utf8.decode s p).1)) (by show 3 + (hexL (Utf8.decode s p).1).length < _; omega)) rfl ?_
          refine sq.c (v := .string (((⟨#[92, 117, 123]⟩ : ByteArray) ++ strB (hexL (Utf8.decode s p).1) ++ (⟨#[125]⟩ : ByteArray)))) rfl rfl (add_str (a := (⟨#[92, 117, 123]⟩ : ByteArray) ++ strB (hexL (Utf8.decode s p).1)) (b := (⟨#[125]⟩ : ByteArray)) (by rw [add_len]; show 3 + (hexL (Utf8.decode s p).1).length + 1 < _; omega)) rfl ?_
          have hfo := hf
          refine sq.k rfl (CallsF.fn rfl (by kernel_rfl) rfl rfl) (f62_spec zs (.inr rfl) hb7 R_r d_r_n (by first | omega | (simp only [List.length_append, List.length_cons, List.length_nil]; omega)) ((⟨#[92, 117, 123]⟩ : ByteArray) ++ strB (hexL (Utf8.decode s p).1) ++ (⟨#[125]⟩ : ByteArray)) (by rw [← qR_hex (by omega)]; omega)) ?_
          rintro u56 h57 n58 ⟨a53, cp54, hb55, R_r, hB_, d_r_n⟩ s59 hn2 hf
          refine sq.w ?_
          have dn_n10 : ∀ c ∈ blkOf (.slice a53 (zs ++ ((⟨#[92, 117, 123]⟩ : ByteArray) ++ strB (hexL (Utf8.decode s p).1) ++ (⟨#[125]⟩ : ByteArray)).data.toList).length cp54), c ≠ n10 := fun c hc => (hB_ c hc).elim (fun q => d_r_n10 c q) (fun q e => by rw [e] at q; have := hfo _ q; rw [hb19] at this; cases this)
          have hb19 := s59 _ _ (fun hm => (List.mem_cons.1 hm).elim (Ne.symm e_n_n10) (fun q => d_r_n10 _ q rfl)) hb19
          have hs := SubBut.own2 (v := .slice a_r (zs).length cp_r) hs z_n B_r hf0 s59
          have B_r : ∀ c ∈ blkOf (.slice a53 (zs ++ ((⟨#[92, 117, 123]⟩ : ByteArray) ++ strB (hexL (Utf8.decode s p).1) ++ (⟨#[125]⟩ : ByteArray)).data.toList).length cp54), c ∈ [] ∨ n ≤ c := fun c hc => (hB_ c hc).elim (B_r c) (fun q => .inr (Nat.le_trans hn q))
          have hn := Nat.le_trans hn hn2
          have d_r_n10 := dn_n10
          refine sq.e ?_
          obtain ⟨q1, q2, q3⟩ := decode_step s p c4_0
          refine ⟨_, _, rfl, by omega, _, zs ++ ((⟨#[92, 117, 123]⟩ : ByteArray) ++ strB (hexL (Utf8.decode s p).1) ++ (⟨#[125]⟩ : ByteArray)).data.toList, ds ++ [Utf8.decode s p], a53, cp54, rfl, hs, hn, hf, hb55, hb19, R_r, d_r_n, d_r_n10, B_r, (by omega), (by rw [← qR_hex (by omega), List.length_append]; omega), (by rw [hr, q1]; simp), (by rw [hq, qV_snoc, qR_hex (by omega), List.append_assoc]), getV [undef, undef, undef, undef, undef, .int .i32 ((Utf8.decode (s) p).1), undef, undef, undef, .tuple #[.bool true, .int .i64 (p), .int .i32 ((Utf8.decode (s) p).1)], .bool true, .int .i32 ((Utf8.decode (s) p).1), (y16 12), (y16 13), .bool false, .int .i32 ((Utf8.decode (s) p).1), .bool false, .bool false, .int .i32 ((Utf8.decode (s) p).1), .bool false, .bool false, (y16 21), (y16 22), (y16 23), .bool true, .int .i32 ((Utf8.decode (s) p).1), .bool true, .int .i32 ((Utf8.decode (s) p).1), .int .i64 ((Utf8.decode (s) p).1), .string (strB (hexL (Utf8.decode s p).1)), .string ((⟨#[92, 117, 123]⟩ : ByteArray) ++ strB (hexL (Utf8.decode s p).1)), .string (((⟨#[92, 117, 123]⟩ : ByteArray) ++ strB (hexL (Utf8.decode s p).1) ++ (⟨#[125]⟩ : ByteArray))), u56], rfl⟩
        · rw [decide_eq_false c10_1]
          refine AWp.condF rfl rfl ?_
          refine AWp.rowV (l := _) pok ?_
          refine sq.c (v := .int .i32 ((Utf8.decode (s) p).1)) rfl rfl rfl rfl ?_
          have hfo := hf
          refine sq.k rfl (CallsF.fn rfl (by kernel_rfl) rfl rfl) (f61_spec zs (.inr rfl) hb7 R_r d_r_n (by first | omega | (simp only [List.length_append, List.length_cons, List.length_nil]; omega)) (((Utf8.decode s p).1 : Nat) : Int) (dec_pos s p)) ?_
          rintro u63 h64 n65 ⟨a60, cp61, hb62, R_r, hB_, d_r_n⟩ s66 hn2 hf
          refine sq.w ?_
          have dn_n10 : ∀ c ∈ blkOf (.slice a60 (zs ++ (encR (((Utf8.decode s p).1 : Nat) : Int))).length cp61), c ≠ n10 := fun c hc => (hB_ c hc).elim (fun q => d_r_n10 c q) (fun q e => by rw [e] at q; have := hfo _ q; rw [hb19] at this; cases this)
          have hb19 := s66 _ _ (fun hm => (List.mem_cons.1 hm).elim (Ne.symm e_n_n10) (fun q => d_r_n10 _ q rfl)) hb19
          have hs := SubBut.own2 (v := .slice a_r (zs).length cp_r) hs z_n B_r hf0 s66
          have B_r : ∀ c ∈ blkOf (.slice a60 (zs ++ (encR (((Utf8.decode s p).1 : Nat) : Int))).length cp61), c ∈ [] ∨ n ≤ c := fun c hc => (hB_ c hc).elim (B_r c) (fun q => .inr (Nat.le_trans hn q))
          have hn := Nat.le_trans hn hn2
          have d_r_n10 := dn_n10
          refine sq.e ?_
          obtain ⟨q1, q2, q3⟩ := decode_step s p c4_0
          refine ⟨_, _, rfl, by omega, _, zs ++ encR (((Utf8.decode s p).1 : Nat) : Int), ds ++ [Utf8.decode s p], a60, cp61, rfl, hs, hn, hf, hb62, hb19, R_r, d_r_n, d_r_n10, B_r, (by omega), (by rw [← qR_plain (by omega) (by omega) (by omega), List.length_append]; omega), (by rw [hr, q1]; simp), (by rw [hq, qV_snoc, qR_plain (by omega) (by omega) (by omega), List.append_assoc]), getV [undef, undef, undef, undef, undef, .int .i32 ((Utf8.decode (s) p).1), undef, undef, undef, .tuple #[.bool true, .int .i64 (p), .int .i32 ((Utf8.decode (s) p).1)], .bool true, .int .i32 ((Utf8.decode (s) p).1), .int .i32 ((Utf8.decode (s) p).1), u63, .bool false, .int .i32 ((Utf8.decode (s) p).1), .bool false, .bool false, .int .i32 ((Utf8.decode (s) p).1), .bool false, .bool false, (y16 21), (y16 22), (y16 23), .bool false, .int .i32 ((Utf8.decode (s) p).1), .bool false, (y16 27), (y16 28), (y16 29), (y16 30), (y16 31), (y16 32)], rfl⟩
  · skip
    refine sq.op rfl rfl (Does.nextNo hf rfl hb12 c4_0) ?_
    rintro _ h67 n68 rfl s69 hn2 hf
    refine sq.w ?_
    have hb7 := s69.sub _ _ hb7
    have hb12 := s69.sub _ _ hb12
    have R_r := R_r.keep s69
    have hs := hs.trans s69
    have hn := Nat.le_trans hn hn2
    refine sq.c (v := .bool false) rfl rfl rfl rfl ?_
    refine sq.e (AWp.seq ?_)
    refine AWp.condF rfl rfl ?_
    refine AWp.exit ?_
    refine AWp.seq (AWp.rowV (l := _) pok ?_)
    have hfo := hf
    refine sq.k rfl (CallsF.fn rfl (by kernel_rfl) rfl rfl) (f60_spec zs (.inr rfl) hb7 R_r d_r_n (by first | omega | (simp only [List.length_append, List.length_cons, List.length_nil]; omega)) (34)) ?_
    rintro u73 h74 n75 ⟨a70, cp71, hb72, R_r, hB_, d_r_n⟩ s76 hn2 hf
    refine sq.w ?_
    have dn_n10 : ∀ c ∈ blkOf (.slice a70 (zs ++ [34]).length cp71), c ≠ n10 := fun c hc => (hB_ c hc).elim (fun q => d_r_n10 c q) (fun q e => by rw [e] at q; have := hfo _ q; rw [hb12] at this; cases this)
    have hb12 := s76 _ _ (fun hm => (List.mem_cons.1 hm).elim (Ne.symm e_n_n10) (fun q => d_r_n10 _ q rfl)) hb12
    have hs := SubBut.own2 (v := .slice a_r (zs).length cp_r) hs z_n B_r hf0 s76
    have B_r : ∀ c ∈ blkOf (.slice a70 (zs ++ [34]).length cp71), c ∈ [] ∨ n ≤ c := fun c hc => (hB_ c hc).elim (B_r c) (fun q => .inr (Nat.le_trans hn q))
    have hn := Nat.le_trans hn hn2
    have d_r_n10 := dn_n10
    refine sq.e (AWp.seq (AWp.rowV (l := _) pok ?_))
    refine sq.k rfl (CallsF.fn rfl (by kernel_rfl) rfl rfl) (f64_spec (zs ++ [34]) hb72 R_r (fun e => absurd e (by simp)) d_r_n (by first | omega | (simp only [List.length_append, List.length_cons, List.length_nil]; omega))) ?_
    rintro _ h77 n78 rfl s79 hn2 hf
    refine sq.w ?_
    have hb72 := s79 _ _ (fun hm => d_r_n _ hm rfl) hb72
    have hb12 := s79 _ _ (fun hm => d_r_n10 _ hm rfl) hb12
    have hs := hs.own B_r hf0 s79
    have hn := Nat.le_trans hn hn2
    refine sq.c (v := .string (strB (zs ++ [34]))) rfl rfl rfl rfl ?_
    refine sq.e ?_
    refine AWp.ret ?_
    refine ⟨rfl, [.string (strB (zs ++ [34]))], rfl, .string (strB (zs ++ [34])), rfl, hs, hn, ?_⟩
    have hd : s.data.toList.drop p = [] := List.drop_eq_nil_of_le (by omega)
    rw [hd, decs_nil, List.append_nil] at hr
    unfold quoteB
    rw [hr, hq]
theorem appStr : AppT Tryz.prog encStr 41 9 16 := ⟨by kernel_rfl, by kernel_rfl, by kernel_rfl, fun _ => rfl⟩
def partB (x : Lab) : List UInt8 := x.1.data.toList ++ [61] ++ quoteB x.2
def joinB (xs : List Lab) : List UInt8 := Lib.join (xs.map partB) [44]
def showB (ls : List Lab) : List UInt8 := [123] ++ joinB ls ++ [125]
def showS (ls : List Lab) : ByteArray := if mayB ls then strB (showB ls) else ⟨#[]⟩
def codeS (ls : List Lab) : Int := if mayB ls then 0 else 4
theorem show_yes {ls : List Lab} (h : mayB ls = true) : showS ls = strB (showB ls) ∧ codeS ls = 0 := by unfold showS codeS; rw [if_pos h, if_pos h]; exact ⟨rfl, rfl⟩
theorem show_no {ls : List Lab} (h : mayB ls = false) : showS ls = ⟨#[]⟩ ∧ codeS ls = 4 := by
  have : ¬ mayB ls = true := by rw [h]; decide
  unfold showS codeS
  rw [if_neg this, if_neg this]; exact ⟨rfl, rfl⟩
theorem part_eq (x : Lab) : (x.1 ++ (⟨#[61]⟩ : ByteArray)) ++ strB (quoteB x.2) = strB (partB x) := by
  apply ByteArray.ext
  apply Array.ext'
  simp [partB, ByteArray.data_append]
theorem join_nil' : Lib.join [] [44] = [] := rfl
theorem join_snoc (xs : List (List UInt8)) (h : xs ≠ []) (x : List UInt8) : Lib.join (xs ++ [x]) [44] = Lib.join xs [44] ++ [44] ++ x := by
  cases xs with
  | nil => exact (h rfl).elim
  | cons y r =>
    rw [List.cons_append, Lib.join_cons, Lib.join_cons]
    have := Lib.joinTail_take_succ [44] (r ++ [x]) r.length x (by simp)
    rw [show (r ++ [x]).take (r.length + 1) = r ++ [x] from List.take_of_length_le (by simp), List.take_left] at this
    rw [this]
    simp
theorem join_len : ∀ (xs : List (List UInt8)) (k : Nat), (∀ x ∈ xs, x.length ≤ k) → (Lib.join xs [44]).length ≤ xs.length * (k + 1) := by
  intro xs k hx
  cases xs with
  | nil => exact Nat.zero_le _
  | cons x r =>
    rw [Lib.join_cons, List.length_append]
    have h0 := hx x List.mem_cons_self
    have : ∀ r : List (List UInt8), (∀ y ∈ r, y.length ≤ k) → (Lib.joinTail [44] r).length ≤ r.length * (k + 1) := by
      intro r
      induction r with
      | nil => intro _; exact Nat.zero_le _
      | cons y r ih =>
        intro h
        have h1 := h y List.mem_cons_self
        have h2 := ih fun z hz => h z (List.mem_cons_of_mem _ hz)
        have : Lib.joinTail [44] (y :: r) = [44] ++ y ++ Lib.joinTail [44] r := by simp [Lib.joinTail]
        rw [this, List.length_append, List.length_append, List.length_singleton, List.length_cons, Nat.add_mul]
        omega
    have h2 := this r fun y hy => hx y (List.mem_cons_of_mem _ hy)
    rw [List.length_cons, Nat.add_mul]
    omega
theorem decs_len : ∀ (k : Nat) (l : List UInt8), l.length = k → (decs l).length ≤ k := by
  intro k
  induction k using Nat.strongRecOn with
  | ind k ih =>
    intro l hl
    by_cases h : l = []
    · rw [h, decs_nil]; exact Nat.zero_le _
    · have hw := Lib.decodeL_width l
      have hp := List.length_pos_iff.2 h
      have := ih (l.drop (Lib.decodeL l).2).length (by rw [List.length_drop]; omega) _ rfl
      rw [decs_step l h, List.length_cons]
      rw [List.length_drop] at this
      omega
theorem decs_rune (k : Nat) (l : List UInt8) (hl : l.length = k) : ∀ d ∈ decs l, isR (d.1 : Nat) := by
  induction k using Nat.strongRecOn generalizing l with
  | ind k ih =>
    by_cases h : l = []
    · rw [h, decs_nil]; intro d hd; cases hd
    · have hw := Lib.decodeL_width l
      have hp := List.length_pos_iff.2 h
      have := ih (l.drop (Lib.decodeL l).2).length (by rw [List.length_drop]; omega) _ rfl
      rw [decs_step l h]
      intro d hd
      rcases List.mem_cons.1 hd with e | e
      · rw [e]; exact dec_isR l
      · exact this d e
theorem qV_len (ds : List (Nat × Nat)) (h : ∀ d ∈ ds, isR (d.1 : Nat)) : (qV ds).length ≤ 13 * ds.length := by
  induction ds with
  | nil => exact Nat.zero_le _
  | cons d r ih =>
    have h1 : (qR d.1).length ≤ 13 := qR_len (by have := h d List.mem_cons_self; unfold isR at this; omega)
    have h2 := ih fun x hx => h x (List.mem_cons_of_mem _ hx)
    have : qV (d :: r) = qR d.1 ++ qV r := rfl
    rw [this, List.length_append, List.length_cons]
    omega
theorem quote_len (v : ByteArray) : (quoteB v).length ≤ 13 * v.data.toList.length + 2 := by
  have h1 := qV_len _ (decs_rune _ v.data.toList rfl)
  have h2 := decs_len _ v.data.toList rfl
  unfold quoteB
  simp only [List.length_append, List.length_singleton]
  omega
theorem part_len {x : Lab} (h : x.1.data.toList.length < 5000 ∧ x.2.data.toList.length < 5000) : (partB x).length ≤ 70000 := by
  have := quote_len x.2
  unfold partB
  rw [List.length_append, List.length_append, List.length_singleton]
  omega
theorem joinB_len {ls : List Lab} (h : ∀ x ∈ ls, x.1.data.toList.length < 5000 ∧ x.2.data.toList.length < 5000) : (joinB ls).length ≤ ls.length * 70001 := by
  have := join_len (ls.map partB) 70000 fun y hy => by
    obtain ⟨x, hx, rfl⟩ := List.mem_map.1 hy
    exact part_len (h x hx)
  rw [List.length_map] at this
  exact this
theorem map_step {α β : Type} {f : α → β} {ls : List α} {i : Nat} {x : α} (h : ls[i]? = some x) : (ls.take (i + 1)).map f = (ls.take i).map f ++ [f x] := by
  rw [List.take_add_one, h]; simp
theorem sz_big {ls : List Lab} (hsz : ∀ x ∈ ls, x.1.data.toList.length < 5000 ∧ x.2.data.toList.length < 5000) : ∀ x ∈ ls, x.1.data.toList.length < 9223372036854775808 ∧ x.2.data.toList.length < 9223372036854775808 := fun x hx => by
  have := hsz x hx; omega
theorem show_eq (ls : List Lab) : ((⟨#[123]⟩ : ByteArray) ++ strB (joinB ls)) ++ (⟨#[125]⟩ : ByteArray) = strB (showB ls) := by
  apply ByteArray.ext
  apply Array.ext'
  simp [showB, ByteArray.data_append]
theorem f39_lab {h : Heap} {n : Nat} {a : Option Addr} {cp : Nat} (ls : List Lab) (ps : List ByteArray) (hpm : ps.map (fun s => s.data.toList) = ls.map partB) (hpl : ps.length = ls.length) (q : IsRow encStr h (.slice a ps.length cp) ps) (hlen : ls.length ≤ 500) (hjl : (joinB ls).length ≤ ls.length * 70001) :
    Tells Tryz.prog 39 [.slice a ps.length cp, .string ⟨#[44]⟩] h n (.string (strB (joinB ls))) := by
  have hj := f39_spec (h := h) (n := n) ps ⟨#[44]⟩ q (by omega) (by rw [hpm]; exact Nat.le_trans hjl (by omega))
  rw [hpm] at hj
  exact hj
theorem f15_spec {h : Heap} {n : Nat} {a : Option Addr} {cp : Nat} (ls : List Lab) (hl : IsRow encLab h (.slice a ls.length cp) ls) (hlen : ls.length ≤ 500) (hsz : ∀ x ∈ ls, x.1.data.toList.length < 5000 ∧ x.2.data.toList.length < 5000) (hld : Laid0 h) :
    Tells Tryz.prog 15 [.slice a (ls.length) cp] h n (.tuple #[.string (showS ls), .int .i64 (codeS ls)]) := by
  refine Makes.tells (Makes.free fun hf => ?_)
  have hs : SubBut h h ([]) := .refl _ _
  have hn : n ≤ n := Nat.le_refl _
  have hf0 := hf
  refine Makes.of_bodyV (args := [.slice a (ls.length) cp]) (vs := [.slice a (ls.length) cp, undef, undef, undef, undef, undef, undef, undef, undef, undef, undef, undef, undef, undef, undef, undef, undef, undef, undef, undef, undef, undef, undef, undef, undef, undef, undef, undef, undef, undef, undef]) Tryz.func15 rfl rfl ?_
  refine AWp.seq (AWp.rowV (l := _) pok ?_)
  refine sq.c (v := .string (⟨#[]⟩)) rfl rfl rfl rfl ?_
  refine sq.c (v := .int .i64 (0)) rfl rfl rfl rfl ?_
  refine sq.e (AWp.seq (AWp.seq (AWp.rowV (l := _) pok ?_)))
  refine sq.c (v := .slice a (ls.length) cp) rfl rfl rfl rfl ?_
  refine sq.t (v := .bool (mayB ls)) rfl (CallsF.fn rfl (by kernel_rfl) rfl rfl) (fun hf => f24_spec ls (hl.keep hs) (by omega) (sz_big hsz) (hld.keep hs)) hf rfl ?_
  intro n1 hn2 hf
  have hn := Nat.le_trans hn hn2
  rcases Bool.eq_false_or_eq_true (mayB ls) with c_m | c_m
  · rw [c_m]
    refine sq.c (v := .bool false) rfl rfl rfl rfl ?_
    refine sq.e ?_
    refine AWp.condF rfl rfl ?_
    refine AWp.skip (AWp.seq (AWp.rowV (l := _) pok ?_))
    refine sq.c (v := .slice none (0) (0)) rfl rfl rfl rfl ?_
    refine sq.e (AWp.seq (AWp.seq (AWp.rowV (l := _) pok ?_)))
    refine sq.c (v := .slice a (ls.length) cp) rfl rfl rfl rfl ?_
    refine sq.c (v := .int .i64 (((ls.length : Nat) : Int))) rfl rfl (by kernel_rfl) rfl ?_
    refine sq.c (v := .int .i64 (0)) rfl rfl rfl rfl ?_
    refine sq.e (AWp.block ?_)
    refine AWp.loopV (fun d vs h3 n4 => ∃ (i : Int) (ps : List ByteArray) (a_o : Option Addr) (cp_o : Nat), d = ((ls.length : Nat) - i + 1).toNat ∧ SubBut h h3 ([]) ∧ n ≤ n4 ∧ Free h3 n4 ∧ OwnRow encStr 9 h h3 (.slice a_o (ps).length cp_o) (ps) ∧ (0 ≤ i) ∧ (i ≤ (ls.length : Nat)) ∧ (ps.length = i.toNat) ∧ (ps = (ls.take i.toNat).map fun x => strB (partB x)) ∧ ∃ y2 : Nat → Value, vs = [.slice a (ls.length) cp, undef, .string (⟨#[]⟩), .int .i64 (0), .slice a_o (ps.length) cp_o, undef, (y2 6), .slice a (ls.length) cp, .bool true, .bool false, .slice a (ls.length) cp, .int .i64 (((ls.length : Nat) : Int)), .int .i64 (i), (y2 13), (y2 14), (y2 15), (y2 16), (y2 17), (y2 18), (y2 19), (y2 20), (y2 21), (y2 22), (y2 23), (y2 24), (y2 25), (y2 26), undef, undef, undef, undef]) (((ls.length : Nat) - (0 : Int) + 1).toNat) ⟨0, [], none, 0, rfl, hs, hn, hf, OwnRow.nil, (by omega), (by omega), (rfl), (rfl), getV [undef, undef, undef, undef, undef, undef, undef, undef, undef, undef, undef, undef, undef, undef, undef, undef, undef, undef, undef, undef, undef, undef, undef, undef, undef, undef, undef], rfl⟩ ?_
    rintro d vs h3 n4 ⟨i, ps, a_o, cp_o, rfl, hs, hn, hf, R_o, hi0, hi1, hpl, hq, y2, rfl⟩
    refine AWp.seq (AWp.rowV (l := _) pok ?_)
    refine sq.c (v := .bool (decide (i < (((ls.length : Nat) : Int))))) rfl rfl rfl rfl ?_
    refine sq.e (AWp.seq ?_)
    by_cases c5_0 : i < (((ls.length : Nat) : Int))
    · rw [decide_eq_true c5_0]
      refine AWp.condT rfl rfl ?_
      refine AWp.skip (AWp.seq (AWp.block (AWp.seq (AWp.rowV (l := _) pok ?_))))
      have i11 : (0 : Int) ≤ (i : Int) := by omega
      obtain ⟨x12, hx_x12⟩ : ∃ x, (ls)[((i : Int)).toNat]? = some x := ⟨_, List.getElem?_eq_getElem (by omega)⟩
      have g_x12 := hsz x12 (List.mem_of_getElem? hx_x12)
      obtain ⟨b5, o6, cs_b5, ow_b5, ci_b5, ie10, hb7, hc8, hr9⟩ := IsRow.at (P := Tryz.prog) (t := 22) (e := 40) (k := .i64) (by kernel_rfl) (by kernel_rfl) (hl.keep hs) i11 hx_x12
      refine sq.c (v := .pointer (some ⟨b5, o6, none⟩)) rfl rfl ie10 rfl ?_
      refine sq.c (v := .agg #[.string (x12.1), .string (x12.2)]) rfl rfl (ldR (P := Tryz.prog) (t := 40) (k := 2) (xs := [.string (x12.1), .string (x12.2)]) (by kernel_rfl) (by kernel_rfl) hr9) rfl ?_
      have e_b5_n4 : b5 ≠ n4 := hf.ne hb7
      have d_o_n4 : ∀ c ∈ blkOf (.slice a_o (ps).length cp_o), c ≠ n4 := fun c hc e => R_o.ne' (hf _ (Nat.le_refl _)) c hc (List.mem_singleton.2 e)
      have z_n4 : h.get n4 = none := hf0 _ hn
      refine sq.op rfl rfl (Does.alloc (cs := [.string (⟨#[]⟩), .string (⟨#[]⟩)]) hf (z := .agg #[.string (⟨#[]⟩), .string (⟨#[]⟩)]) (by kernel_rfl) rfl) ?_
      rintro _ h14 n15 ⟨rfl, hb13⟩ s16 hn2 hf
      refine sq.w ?_
      have R_o := R_o.keep s16
      have hs := hs.trans s16
      have hn := Nat.le_trans hn hn2
      refine sq.op rfl rfl (Does.store (k := 2) (xs := [.string (x12.1), .string (x12.2)]) (cs' := [.string (x12.1), .string (x12.2)]) hf (by kernel_rfl) rfl rfl rfl hb13 rfl rfl (Nat.le_of_ble_eq_true rfl) rfl) ?_
      rintro _ h18 n19 ⟨rfl, hb17⟩ s20 hn2 hf
      refine sq.w0 ?_
      have R_o := R_o.but s20 (fun c hc hm => d_o_n4 c hc (List.mem_singleton.1 hm))
      have hs := hs.fresh z_n4 s20
      have hn := Nat.le_trans hn hn2
      refine sq.e ?_
      refine AWp.anyK pok [0, 1, 2, 3, 4, 5, 6, 7, 8, 9, 10] (by kernel_rfl) (by kernel_rfl) rfl (fun x fr fr' h n hd _ q => ⟨hd ▸ q.1, q.2⟩) ?_
      refine dk.c (v := .slice a_o (ps.length) cp_o) rfl (by kernel_rfl) rfl rfl rfl rfl ?_
      refine dk.c (v := .pointer (some ⟨n4, 0, none⟩)) rfl (by kernel_rfl) rfl rfl (by kernel_rfl) rfl ?_
      refine dk.gB (v := .string (x12.1)) n4 rfl (by kernel_rfl) rfl rfl (fun _ q_ => (ld1 (P := Tryz.prog) (t := 9) (p := 0) (v := .string (x12.1)) (by kernel_rfl) (by kernel_rfl) (q_ _ hb17) rfl)) rfl ?_
      refine dk.c (v := .string (x12.1 ++ (⟨#[61]⟩ : ByteArray))) rfl (by kernel_rfl) rfl rfl (add_str (a := x12.1) (b := (⟨#[61]⟩ : ByteArray)) (by show x12.1.data.toList.length + 1 < _; omega)) rfl ?_
      refine dk.c (v := .pointer (some ⟨n4, 1, none⟩)) rfl (by kernel_rfl) rfl rfl (by kernel_rfl) rfl ?_
      refine dk.gB (v := .string (x12.2)) n4 rfl (by kernel_rfl) rfl rfl (fun _ q_ => (ld1 (P := Tryz.prog) (t := 9) (p := 1) (v := .string (x12.2)) (by kernel_rfl) (by kernel_rfl) (q_ _ hb17) rfl)) rfl ?_
      refine dk.t (v := .string (strB (quoteB x12.2))) rfl (by kernel_rfl) rfl (CallsF.fn rfl (by kernel_rfl) rfl rfl) (fun hf => f38_spec x12.2 (by omega) (hld.keep hs)) hf rfl ?_
      intro n21 hn2 hf
      have hn := Nat.le_trans hn hn2
      refine dk.c (v := .string ((x12.1 ++ (⟨#[61]⟩ : ByteArray)) ++ strB (quoteB x12.2))) rfl (by kernel_rfl) rfl rfl (add_str (a := x12.1 ++ (⟨#[61]⟩ : ByteArray)) (b := strB (quoteB x12.2)) (by rw [add_len, strB_len (quoteB x12.2)]; show x12.1.data.toList.length + 1 + _ < _; have := quote_len x12.2; omega)) rfl ?_
      have e_n4_n21 : n4 ≠ n21 := hf.ne hb17
      have d_o_n21 : ∀ c ∈ blkOf (.slice a_o (ps).length cp_o), c ≠ n21 := fun c hc e => R_o.ne' (hf _ (Nat.le_refl _)) c hc (List.mem_singleton.2 e)
      have z_n21 : h.get n21 = none := hf0 _ hn
      refine dk.op rfl (by kernel_rfl) rfl rfl (Does.build (e := 9) (cs := [.string ((x12.1 ++ (⟨#[61]⟩ : ByteArray)) ++ strB (quoteB x12.2))]) hf (fun _ _ => by kernel_rfl)) (keepC (by simp) (keepC (by simp) keepN)) ?_
      rintro _ h23 n24 ⟨rfl, hb22⟩ s25 hn2 hf
      refine dk.w ?_
      have R_o := R_o.keep s25
      have hb17 := s25.sub _ _ hb17
      have hs := hs.trans s25
      have hn := Nat.le_trans hn hn2
      have hz0 : h.get n24 = none := hf0 _ hn
      have hfo := hf
      refine dk.op rfl (by kernel_rfl) rfl rfl (Does.append (E := encStr) (xs := ps) (ys := [(x12.1 ++ (⟨#[61]⟩ : ByteArray)) ++ strB (quoteB x12.2)]) appStr ⟨.slice 9, by kernel_rfl, fun _ q => by cases q⟩ hf hs R_o (IsRow.of (E := encStr) (xs := [(x12.1 ++ (⟨#[61]⟩ : ByteArray)) ++ strB (quoteB x12.2)]) (cap := 1) hb22 (Nat.le_refl _)) rfl rfl (by rw [hpl, List.length_singleton]; omega) (by rw [hpl, List.length_singleton]; omega) hz0) (keepC (fun hm => d_o_n4 _ hm rfl) (keepC (fun hm => d_o_n4 _ hm rfl) keepN)) ?_
      rintro v29 h26 n27 ⟨R_o, hs, hB30⟩ s28 hn2 hf
      refine dk.w ?_
      have dn_o_n4 : ∀ c ∈ blkOf v29, c ≠ n4 := fun c hc => (hB30 c hc).elim (fun q => d_o_n4 c q) (fun q => by rw [q]; exact (hfo.ne hb17).symm)
      have dn_o_n21 : ∀ c ∈ blkOf v29, c ≠ n21 := fun c hc => (hB30 c hc).elim (fun q => d_o_n21 c q) (fun q => by rw [q]; exact (hfo.ne hb22).symm)
      have hb17 := s28 _ _ (fun hm => d_o_n4 _ hm rfl) hb17
      have hb22 := s28 _ _ (fun hm => d_o_n21 _ hm rfl) hb22
      have d_o_n4 := dn_o_n4
      have d_o_n21 := dn_o_n21
      obtain ⟨a31, cp32, rfl⟩ := R_o.slice
      have hn := Nat.le_trans hn hn2
      refine dk.c (v := .slice a31 (ps ++ [(x12.1 ++ (⟨#[61]⟩ : ByteArray)) ++ strB (quoteB x12.2)]).length cp32) rfl (by kernel_rfl) rfl rfl rfl rfl ?_
      refine dk.e (AWp.rowV (l := _) pok ?_)
      refine sq.c (v := .int .i64 (i + 1)) rfl rfl (okI (wrap_i64 (by omega) (by omega))) rfl ?_
      refine sq.c (v := .int .i64 (i + 1)) rfl rfl rfl rfl ?_
      refine sq.e ?_
      refine ⟨_, _, rfl, by omega, i + 1, ps ++ [(x12.1 ++ (⟨#[61]⟩ : ByteArray)) ++ strB (quoteB x12.2)], a31, cp32, rfl, hs, hn, hf, R_o, (by omega), (by omega), (by rw [List.length_append, List.length_singleton]; omega), (by rw [hq, part_eq, show (i + 1).toNat = i.toNat + 1 by omega, map_step hx_x12]), getV [undef, undef, undef, undef, undef, undef, .pointer (some ⟨n4, 0, none⟩), undef, undef, undef, undef, undef, undef, .bool true, .pointer (some ⟨b5, o6, none⟩), .agg #[.string (x12.1), .string (x12.2)], .slice a_o (ps.length) cp_o, .pointer (some ⟨n4, 0, none⟩), .string (x12.1), .string (x12.1 ++ (⟨#[61]⟩ : ByteArray)), .pointer (some ⟨n4, 1, none⟩), .string (x12.2), .string (strB (quoteB x12.2)), .string ((x12.1 ++ (⟨#[61]⟩ : ByteArray)) ++ strB (quoteB x12.2)), .slice (some ⟨n21, 0, none⟩) (1) (1), .slice a31 (ps ++ [(x12.1 ++ (⟨#[61]⟩ : ByteArray)) ++ strB (quoteB x12.2)]).length cp32, .int .i64 (i + 1)], rfl⟩
    · rw [decide_eq_false c5_0]
      refine AWp.condF rfl rfl ?_
      refine AWp.exit ?_
      refine AWp.seq (AWp.rowV (l := _) pok ?_)
      refine sq.c (v := .slice a_o (ps.length) cp_o) rfl rfl rfl rfl ?_
      have hpm : ps.map (fun s => s.data.toList) = ls.map partB := by rw [hq, show i.toNat = ls.length by omega, List.take_length, List.map_map]; rfl
      have hpl : ps.length = ls.length := by have := congrArg List.length hpm; rw [List.length_map, List.length_map] at this; exact this
      have hjl := joinB_len hsz
      have hjm := Nat.mul_le_mul_right 70001 hlen
      refine sq.t (v := .string (strB (joinB ls))) rfl (CallsF.fn rfl (by kernel_rfl) rfl rfl) (fun hf => f39_lab ls ps hpm hpl R_o.is hlen hjl) hf rfl ?_
      intro n33 hn2 hf
      have hn := Nat.le_trans hn hn2
      refine sq.c (v := .string ((⟨#[123]⟩ : ByteArray) ++ strB (joinB ls))) rfl rfl (add_str (a := (⟨#[123]⟩ : ByteArray)) (b := strB (joinB ls)) (by rw [strB_len (joinB ls)]; show 1 + _ < _; omega)) rfl ?_
      refine sq.c (v := .string (((⟨#[123]⟩ : ByteArray) ++ strB (joinB ls)) ++ (⟨#[125]⟩ : ByteArray))) rfl rfl (add_str (a := (⟨#[123]⟩ : ByteArray) ++ strB (joinB ls)) (b := (⟨#[125]⟩ : ByteArray)) (by rw [add_len, strB_len (joinB ls)]; show 1 + _ + 1 < _; omega)) rfl ?_
      refine sq.c (v := .string (((⟨#[123]⟩ : ByteArray) ++ strB (joinB ls)) ++ (⟨#[125]⟩ : ByteArray))) rfl rfl rfl rfl ?_
      refine sq.c (v := .int .i64 (0)) rfl rfl rfl rfl ?_
      refine sq.e ?_
      refine AWp.ret ?_
      refine ⟨rfl, [.string (((⟨#[123]⟩ : ByteArray) ++ strB (joinB ls)) ++ (⟨#[125]⟩ : ByteArray)), .int .i64 (0)], rfl, .tuple #[.string (((⟨#[123]⟩ : ByteArray) ++ strB (joinB ls)) ++ (⟨#[125]⟩ : ByteArray)), .int .i64 (0)], rfl, hs, hn, ?_⟩
      rw [(show_yes c_m).1, (show_yes c_m).2]
      rw [show_eq]
  · rw [c_m]
    refine sq.c (v := .bool true) rfl rfl rfl rfl ?_
    refine sq.e ?_
    refine AWp.condT rfl rfl ?_
    refine AWp.seq (AWp.rowV (l := _) pok ?_)
    refine sq.c (v := .string (⟨#[]⟩)) rfl rfl rfl rfl ?_
    refine sq.c (v := .int .i64 (4)) rfl rfl rfl rfl ?_
    refine sq.e ?_
    refine AWp.ret ?_
    refine ⟨rfl, [.string (⟨#[]⟩), .int .i64 (4)], rfl, .tuple #[.string (⟨#[]⟩), .int .i64 (4)], rfl, hs, hn, ?_⟩
    rw [(show_no c_m).1, (show_no c_m).2]
end Go.Proofs.YtkpjfibpaojelaaGreatDoor
set_option linter.unusedSimpArgs false
namespace Go.Proofs.YtkpjfibpaojelaaGreatDoor
open Go Go.Abs
set_option maxRecDepth 100000
set_option maxHeartbeats 4000000
theorem may_get {ls : List Lab} {i : Nat} {x : Lab} (h : mayB ls = true) (hx : ls[i]? = some x) : mayNameB x.1 = true ∧ mayValueB x.2 = true := by
  rcases Bool.eq_false_or_eq_true (mayNameB x.1) with h1 | h1
  · rcases Bool.eq_false_or_eq_true (mayValueB x.2) with h2 | h2
    · exact ⟨h1, h2⟩
    · rw [may_bad hx (.inr h2)] at h; cases h
  · rw [may_bad hx (.inl h1)] at h; cases h
theorem may_val {ls : List Lab} {i : Nat} {x : Lab} (h : mayB ls = true) (hx : ls[i]? = some x) : (decs x.2.data.toList).all okD = true := (mayV (may_get h hx).2).1
theorem r_val {m : List UInt8} (h : Lib.decodeL m ≠ (65533, 1)) : rC m = ((Lib.decodeL m).1 : Nat) ∧ rN m = ((Lib.decodeL m).2 : Nat) := by
  unfold rC rN zz; rw [if_neg h]; exact ⟨rfl, rfl⟩
def preB (ls : List Lab) (i : Nat) (x : Lab) : List UInt8 := [123] ++ joinB (ls.take i) ++ (if i = 0 then [] else [44]) ++ x.1.data.toList ++ [61, 34]
theorem show_step {ls : List Lab} {i : Nat} {x : Lab} (hx : ls[i]? = some x) : preB ls i x ++ qV (decs x.2.data.toList) ++ [34] = [123] ++ joinB (ls.take (i + 1)) := by
  unfold preB joinB
  rw [map_step hx]
  by_cases h : i = 0
  · subst h
    rw [if_pos rfl]
    simp [Lib.join_one, join_nil', partB, quoteB]
  · have hlt := (List.getElem?_eq_some_iff.1 hx).1
    rw [if_neg h, join_snoc _ (by intro e; have := congrArg List.length e; rw [List.length_map, List.length_take, List.length_nil] at this; omega)]
    simp [partB, quoteB]
theorem pre_first {ls : List Lab} {i : Nat} {x : Lab} {z : ByteArray} (hz : z = strB ([123] ++ joinB (ls.take i))) (h : i = 0) : ((z ++ x.1) ++ (⟨#[61]⟩ : ByteArray)) ++ strB [34] = strB (preB ls i x ++ qV []) := by
  rw [hz]; unfold preB; rw [if_pos h]
  apply ByteArray.ext
  apply Array.ext'
  simp [ByteArray.data_append, qV]
theorem pre_comma {ls : List Lab} {i : Nat} {x : Lab} {z : ByteArray} (hz : z = strB ([123] ++ joinB (ls.take i))) (h : ¬ i = 0) : (((z ++ (⟨#[44]⟩ : ByteArray)) ++ x.1) ++ (⟨#[61]⟩ : ByteArray)) ++ strB [34] = strB (preB ls i x ++ qV []) := by
  rw [hz]; unfold preB; rw [if_neg h]
  apply ByteArray.ext
  apply Array.ext'
  simp [ByteArray.data_append, qV]
theorem end_text {ls : List Lab} {i : Nat} {x : Lab} {y : ByteArray} {ds : List (Nat × Nat)} (hx : ls[i]? = some x) (hy : y = strB (preB ls i x ++ qV ds)) (hd : decs x.2.data.toList = ds) : y ++ strB [34] = strB ([123] ++ joinB (ls.take (i + 1))) := by
  rw [hy, strB_add, ← show_step hx, hd]
theorem run_esc {y sb : ByteArray} {P : List UInt8} {ds : List (Nat × Nat)} {d : Nat × Nat} (hy : y = strB (P ++ qV ds)) (hd : d.1 = 34 ∨ d.1 = 92) (he : sb = strB (encR (d.1 : Nat))) : (y ++ strB [92]) ++ sb = strB (P ++ qV (ds ++ [d])) := by
  rw [hy, he, qV_snoc, qR_esc hd, strB_add, strB_add]
  congr 1
  simp
theorem run_plain {y sb : ByteArray} {P : List UInt8} {ds : List (Nat × Nat)} {d : Nat × Nat} (hy : y = strB (P ++ qV ds)) (h1 : ¬ d.1 = 34) (h2 : ¬ d.1 = 92) (h3 : ¬ 126 < d.1) (he : sb = strB (encR (d.1 : Nat))) : y ++ sb = strB (P ++ qV (ds ++ [d])) := by
  rw [hy, he, qV_snoc, qR_plain h1 h2 h3, strB_add]
  congr 1
  simp
theorem run_hex {y : ByteArray} {P : List UInt8} {ds : List (Nat × Nat)} {d : Nat × Nat} (hy : y = strB (P ++ qV ds)) (h3 : 126 < d.1) : (((y ++ strB [92]) ++ (⟨#[117, 123]⟩ : ByteArray)) ++ strB (hexL d.1)) ++ (⟨#[125]⟩ : ByteArray) = strB (P ++ qV (ds ++ [d])) := by
  rw [hy, qV_snoc, qR_hex h3]
  apply ByteArray.ext
  apply Array.ext'
  simp [ByteArray.data_append]
theorem sub_enc {v : ByteArray} {p : Int} (h0 : 0 ≤ p) (h1 : p < (v.data.toList.length : Nat)) (hg : Lib.decodeL (v.data.toList.drop p.toNat) ≠ (65533, 1)) : sub v p (p + rN (v.data.toList.drop p.toNat)) = strB (encR ((Lib.decodeL (v.data.toList.drop p.toNat)).1 : Nat)) := by
  have hne : v.data.toList.drop p.toNat ≠ [] := by intro e; have := congrArg List.length e; rw [List.length_drop, List.length_nil] at this; omega
  have hen := Lib.encode_decode _ hne (fun q => hg (Prod.ext q.1 q.2))
  show _ = strB (Lib.encodeRune _)
  rw [hen]
  apply ByteArray.ext
  apply Array.ext'
  show (v.data.toList.drop p.toNat).take ((p + rN _).toNat - p.toNat) = _
  congr 1
  rw [(r_val hg).2]
  omega
theorem rune_next {v : ByteArray} {p : Int} {ds : List (Nat × Nat)} (ha : (decs v.data.toList).all okD = true) (hd : decs v.data.toList = ds ++ decs (v.data.toList.drop p.toNat)) (h0 : 0 ≤ p) (h1 : p < (v.data.toList.length : Nat)) :
    ∃ d : Nat × Nat, rC (v.data.toList.drop p.toNat) = (d.1 : Nat) ∧ 1 ≤ rN (v.data.toList.drop p.toNat) ∧ p + rN (v.data.toList.drop p.toNat) ≤ (v.data.toList.length : Nat) ∧ decs v.data.toList = (ds ++ [d]) ++ decs (v.data.toList.drop (p + rN (v.data.toList.drop p.toNat)).toNat) ∧ sub v p (p + rN (v.data.toList.drop p.toNat)) = strB (encR (d.1 : Nat)) ∧ d.1 ≤ 1114111 ∧ (encR (d.1 : Nat)).length ≤ 4 ∧ 1 ≤ (hexL d.1).length ∧ (hexL d.1).length ≤ 8 := by
  have hne : v.data.toList.drop p.toNat ≠ [] := by intro e; have := congrArg List.length e; rw [List.length_drop, List.length_nil] at this; omega
  have hst := decs_step _ hne
  have hg : Lib.decodeL (v.data.toList.drop p.toNat) ≠ (65533, 1) := by
    intro e
    rw [hd, hst, e, List.all_append, Bool.and_eq_true] at ha
    have := ha.2
    rw [List.all_cons, show okD (65533, 1) = false from rfl] at this
    cases this
  obtain ⟨e1, e2⟩ := r_val hg
  have hw := Lib.decodeL_width (v.data.toList.drop p.toNat)
  have hl := decodeL_le _ hne
  rw [List.length_drop] at hl
  have hr := dec_isR (v.data.toList.drop p.toNat)
  unfold isR at hr
  have h8 := hexL_eight (n := (Lib.decodeL (v.data.toList.drop p.toNat)).1) (by omega)
  refine ⟨_, e1, by omega, by omega, ?_, sub_enc h0 h1 hg, by omega, (enc_len _).2, h8.1, h8.2⟩
  rw [hd, hst, List.append_assoc, e2, List.drop_drop, show p.toNat + (Lib.decodeL (v.data.toList.drop p.toNat)).2 = (p + ((Lib.decodeL (v.data.toList.drop p.toNat)).2 : Nat)).toNat by omega]
  rfl
theorem l1 (b : UInt8) : (⟨#[b]⟩ : ByteArray).data.toList.length = 1 := rfl
theorem l2 (b c : UInt8) : (⟨#[b, c]⟩ : ByteArray).data.toList.length = 2 := rfl
theorem f16_spec {h : Heap} {n : Nat} {a : Option Addr} {cp : Nat} (ls : List Lab) (hl : IsRow encLab h (.slice a ls.length cp) ls) (hlen : ls.length ≤ 500) (hsz : ∀ x ∈ ls, x.1.data.toList.length < 5000 ∧ x.2.data.toList.length < 5000) :
    Tells Tryz.prog 16 [.slice a (ls.length) cp] h n (.tuple #[.string (showS ls), .int .i64 (codeS ls)]) := by
  refine Makes.tells (Makes.free fun hf => ?_)
  have hs : SubBut h h ([]) := .refl _ _
  have hn : n ≤ n := Nat.le_refl _
  have hf0 := hf
  refine Makes.of_bodyV (args := [.slice a (ls.length) cp]) (vs := [.slice a (ls.length) cp, undef, undef, undef, undef, undef, undef, undef, undef, undef, undef, undef, undef, undef, undef, undef, undef, undef, undef, undef, undef, undef, undef, undef, undef, undef, undef, undef, undef, undef, undef, undef, undef, undef, undef, undef, undef, undef, undef, undef, undef, undef, undef, undef, undef, undef, undef, undef, undef, undef, undef, undef, undef, undef, undef, undef, undef, undef, undef, undef, undef, undef, undef, undef, undef, undef, undef, undef, undef, undef, undef, undef, undef, undef, undef, undef, undef, undef, undef, undef, undef, undef, undef, undef, undef, undef, undef, undef]) Tryz.func16 rfl rfl ?_
  refine AWp.seq (AWp.rowV (l := _) pok ?_)
  refine sq.c (v := .string (⟨#[]⟩)) rfl rfl rfl rfl ?_
  refine sq.c (v := .int .i64 (0)) rfl rfl rfl rfl ?_
  refine sq.e (AWp.seq (AWp.seq (AWp.rowV (l := _) pok ?_)))
  refine sq.c (v := .slice a (ls.length) cp) rfl rfl rfl rfl ?_
  refine sq.t (v := .bool (mayB ls)) rfl (CallsF.fn rfl (by kernel_rfl) rfl rfl) (fun hf => f25_spec ls (hl.keep hs) (by omega) (sz_big hsz)) hf rfl ?_
  intro n1 hn2 hf
  have hn := Nat.le_trans hn hn2
  rcases Bool.eq_false_or_eq_true (mayB ls) with c_m | c_m
  · rw [c_m]
    refine sq.c (v := .bool false) rfl rfl rfl rfl ?_
    refine sq.e ?_
    refine AWp.condF rfl rfl ?_
    refine AWp.skip (AWp.seq (AWp.rowV (l := _) pok ?_))
    refine sq.c (v := .string (⟨#[123]⟩)) rfl rfl rfl rfl ?_
    refine sq.e (AWp.seq (AWp.seq (AWp.rowV (l := _) pok ?_)))
    refine sq.c (v := .int .i64 (0)) rfl rfl rfl rfl ?_
    refine sq.e (AWp.block ?_)
    refine AWp.loopV (fun d vs h3 n4 => ∃ (z : ByteArray) (i : Int), d = ((ls.length : Nat) - i + 1).toNat ∧ SubBut h h3 ([]) ∧ n ≤ n4 ∧ Free h3 n4 ∧ (0 ≤ i) ∧ (i ≤ (ls.length : Nat)) ∧ ((z.data.toList.length : Int) ≤ 70100 * i + 1) ∧ (z = strB ([123] ++ joinB (ls.take i.toNat))) ∧ ∃ y2 : Nat → Value, vs = [.slice a (ls.length) cp, undef, .string (⟨#[]⟩), .int .i64 (0), .string (z), .int .i64 (i), (y2 6), (y2 7), (y2 8), (y2 9), .slice a (ls.length) cp, .bool true, .bool false, (y2 13), (y2 14), (y2 15), (y2 16), (y2 17), (y2 18), (y2 19), (y2 20), (y2 21), (y2 22), (y2 23), (y2 24), (y2 25), (y2 26), (y2 27), (y2 28), (y2 29), (y2 30), (y2 31), (y2 32), (y2 33), (y2 34), (y2 35), (y2 36), (y2 37), (y2 38), (y2 39), (y2 40), (y2 41), (y2 42), (y2 43), (y2 44), (y2 45), (y2 46), (y2 47), (y2 48), (y2 49), (y2 50), (y2 51), (y2 52), (y2 53), (y2 54), (y2 55), (y2 56), (y2 57), (y2 58), (y2 59), (y2 60), (y2 61), (y2 62), (y2 63), (y2 64), (y2 65), (y2 66), (y2 67), (y2 68), (y2 69), (y2 70), (y2 71), (y2 72), (y2 73), (y2 74), (y2 75), (y2 76), (y2 77), (y2 78), (y2 79), (y2 80), (y2 81), (y2 82), (y2 83), (y2 84), (y2 85), undef, undef]) (((ls.length : Nat) - (0 : Int) + 1).toNat) ⟨⟨#[123]⟩, 0, rfl, hs, hn, hf, (by omega), (by omega), (by rw [l1]; omega), (rfl), getV [undef, undef, undef, undef, undef, undef, undef, undef, undef, undef, undef, undef, undef, undef, undef, undef, undef, undef, undef, undef, undef, undef, undef, undef, undef, undef, undef, undef, undef, undef, undef, undef, undef, undef, undef, undef, undef, undef, undef, undef, undef, undef, undef, undef, undef, undef, undef, undef, undef, undef, undef, undef, undef, undef, undef, undef, undef, undef, undef, undef, undef, undef, undef, undef, undef, undef, undef, undef, undef, undef, undef, undef, undef, undef, undef, undef, undef, undef, undef, undef, undef, undef, undef, undef, undef, undef], rfl⟩ ?_
    rintro d vs h3 n4 ⟨z, i, rfl, hs, hn, hf, hi0, hi1, hzl, hq, y2, rfl⟩
    refine AWp.seq (AWp.seq (AWp.rowV (l := _) pok ?_))
    refine sq.c (v := .int .i64 (i)) rfl rfl rfl rfl ?_
    refine sq.c (v := .slice a (ls.length) cp) rfl rfl rfl rfl ?_
    refine sq.c (v := .int .i64 (((ls.length : Nat) : Int))) rfl rfl (by kernel_rfl) rfl ?_
    refine sq.c (v := .bool (decide (i < (((ls.length : Nat) : Int))))) rfl rfl rfl rfl ?_
    refine sq.e ?_
    by_cases c5_3 : i < (((ls.length : Nat) : Int))
    · rw [decide_eq_true c5_3]
      refine AWp.condT rfl rfl ?_
      refine AWp.skip (AWp.seq (AWp.block (AWp.seq (AWp.seq (AWp.rowV (l := _) pok ?_)))))
      refine sq.c (v := .int .i64 (i)) rfl rfl rfl rfl ?_
      refine sq.c (v := .bool (decide ((0 : Int) < i))) rfl rfl rfl rfl ?_
      refine sq.e ?_
      by_cases c7_1 : (0 : Int) < i
      · rw [decide_eq_true c7_1]
        refine AWp.condT rfl rfl ?_
        refine AWp.rowV (l := _) pok ?_
        refine sq.c (v := .string (z)) rfl rfl rfl rfl ?_
        refine sq.c (v := .string (z ++ (⟨#[44]⟩ : ByteArray))) rfl rfl (add_str (a := z) (b := (⟨#[44]⟩ : ByteArray)) (by (try simp only [add_len, l1, l2, strB_len, List.length_cons, List.length_nil]); omega)) rfl ?_
        refine sq.c (v := .string (z ++ (⟨#[44]⟩ : ByteArray))) rfl rfl rfl rfl ?_
        refine sq.e (AWp.seq ?_)
        refine AWp.anyV pok [] [0, 1, 2, 3, 4, 5, 6, 7, 8, 9, 10, 11] (by kernel_rfl) (by kernel_rfl) rfl (fun x fr fr' h n hd _ q => ⟨hd ▸ q.1, q.2⟩) ?_
        refine dq.c (v := .string (z ++ (⟨#[44]⟩ : ByteArray))) rfl (by kernel_rfl) rfl rfl rfl rfl ?_
        refine dq.c (v := .slice a (ls.length) cp) rfl (by kernel_rfl) rfl rfl rfl rfl ?_
        refine dq.c (v := .int .i64 (i)) rfl (by kernel_rfl) rfl rfl rfl rfl ?_
        have i11 : (0 : Int) ≤ (i : Int) := by omega
        obtain ⟨x12, hx_x12⟩ : ∃ x, (ls)[((i : Int)).toNat]? = some x := ⟨_, List.getElem?_eq_getElem (by omega)⟩
        have g_x12 := hsz x12 (List.mem_of_getElem? hx_x12)
        obtain ⟨b5, o6, cs_b5, ow_b5, ci_b5, ie10, hb7, hc8, hr9⟩ := IsRow.at (P := Tryz.prog) (t := 22) (e := 40) (k := .i64) (by kernel_rfl) (by kernel_rfl) (hl.keep hs) i11 hx_x12
        refine dq.c (v := .pointer (some ⟨b5, o6, none⟩)) rfl (by kernel_rfl) rfl rfl ie10 rfl ?_
        refine dq.c (v := .pointer (some ⟨b5, o6, none⟩)) rfl (by kernel_rfl) rfl rfl (by kernel_rfl) rfl ?_
        refine dq.g (v := .string (x12.1)) rfl (by kernel_rfl) rfl rfl (ld1 (P := Tryz.prog) (t := 9) (p := o6 + 0) (v := .string (x12.1)) (by kernel_rfl) (by kernel_rfl) hb7 (hc8 0 _ rfl)) rfl ?_
        refine dq.c (v := .string ((z ++ (⟨#[44]⟩ : ByteArray)) ++ x12.1)) rfl (by kernel_rfl) rfl rfl (add_str (a := (z ++ (⟨#[44]⟩ : ByteArray))) (b := x12.1) (by (try simp only [add_len, l1, l2, strB_len, List.length_cons, List.length_nil]); omega)) rfl ?_
        refine dq.c (v := .string ((z ++ (⟨#[44]⟩ : ByteArray)) ++ x12.1 ++ (⟨#[61]⟩ : ByteArray))) rfl (by kernel_rfl) rfl rfl (add_str (a := (z ++ (⟨#[44]⟩ : ByteArray)) ++ x12.1) (b := (⟨#[61]⟩ : ByteArray)) (by (try simp only [add_len, l1, l2, strB_len, List.length_cons, List.length_nil]); omega)) rfl ?_
        have e_b5_n4 : b5 ≠ n4 := hf.ne hb7
        have z_n4 : h.get n4 = none := hf0 _ hn
        refine dq.op rfl (by kernel_rfl) rfl rfl (Does.build (e := 5) (cs := [.int .u8 (34)]) hf (fun _ _ => by kernel_rfl)) (by simp) ?_
        rintro _ h14 n15 ⟨rfl, hb13⟩ s16 hn2 hf
        refine dq.w ?_
        have hs := hs.trans s16
        have hn := Nat.le_trans hn hn2
        refine dq.g (v := .string (strB [34])) rfl (by kernel_rfl) rfl rfl (strOf_row (P := Tryz.prog) (a := 42) (b := 9) (e := 5) (v := .slice (some ⟨n4, 0, none⟩) (1) (1)) (bs := [34]) (by kernel_rfl) (by kernel_rfl) (by kernel_rfl) (by kernel_rfl) (IsRow.of (E := encByte) (xs := [34]) (cap := 1) hb13 (Nat.le_refl _))) rfl ?_
        refine dq.c (v := .string ((z ++ (⟨#[44]⟩ : ByteArray)) ++ x12.1 ++ (⟨#[61]⟩ : ByteArray) ++ (strB [34]))) rfl (by kernel_rfl) rfl rfl (add_str (a := (z ++ (⟨#[44]⟩ : ByteArray)) ++ x12.1 ++ (⟨#[61]⟩ : ByteArray)) (b := (strB [34])) (by (try simp only [add_len, l1, l2, strB_len, List.length_cons, List.length_nil]); omega)) rfl ?_
        refine dq.c (v := .string ((z ++ (⟨#[44]⟩ : ByteArray)) ++ x12.1 ++ (⟨#[61]⟩ : ByteArray) ++ (strB [34]))) rfl (by kernel_rfl) rfl rfl rfl rfl ?_
        refine dq.e (AWp.seq (AWp.rowV (l := _) pok ?_))
        refine sq.c (v := .slice a (ls.length) cp) rfl rfl rfl rfl ?_
        refine sq.c (v := .int .i64 (i)) rfl rfl rfl rfl ?_
        have i23 : (0 : Int) ≤ (i : Int) := by omega
        obtain ⟨b17, o18, cs_b17, ow_b17, ci_b17, ie22, hb19, hc20, hr21⟩ := IsRow.at (P := Tryz.prog) (t := 22) (e := 40) (k := .i64) (by kernel_rfl) (by kernel_rfl) (hl.keep hs) i23 hx_x12
        refine sq.c (v := .pointer (some ⟨b17, o18, none⟩)) rfl rfl ie22 rfl ?_
        refine sq.c (v := .pointer (some ⟨b17, o18 + 1, none⟩)) rfl rfl (by kernel_rfl) rfl ?_
        refine sq.c (v := .string (x12.2)) rfl rfl (ld1 (P := Tryz.prog) (t := 9) (p := o18 + 1) (v := .string (x12.2)) (by kernel_rfl) (by kernel_rfl) hb19 (hc20 1 _ rfl)) rfl ?_
        refine sq.c (v := .string (x12.2)) rfl rfl rfl rfl ?_
        refine sq.e (AWp.seq (AWp.seq (AWp.rowV (l := _) pok ?_)))
        refine sq.c (v := .int .i64 (0)) rfl rfl rfl rfl ?_
        refine sq.e (AWp.block ?_)
        refine AWp.loopV (fun d vs h25 n26 => ∃ (y : ByteArray) (p : Int) (ds : List (Nat × Nat)), d = ((x12.2.data.toList.length : Nat) - p + 1).toNat ∧ SubBut h h25 ([]) ∧ n ≤ n26 ∧ Free h25 n26 ∧ h25.get n4 = some (.cells [.int .u8 (34)] true ⟨5, 0, true⟩) ∧ (0 ≤ p) ∧ (p ≤ ((x12.2.data.toList.length : Nat) : Int)) ∧ ((y.data.toList.length : Int) ≤ 70100 * i + 5010 + 13 * p) ∧ (decs x12.2.data.toList = ds ++ decs (x12.2.data.toList.drop p.toNat)) ∧ (y = strB (preB ls i.toNat x12 ++ qV ds)) ∧ ∃ y24 : Nat → Value, vs = [.slice a (ls.length) cp, undef, .string (⟨#[]⟩), .int .i64 (0), .string (y), .int .i64 (i), .string (x12.2), .int .i64 (p), (y24 8), (y24 9), .slice a (ls.length) cp, .bool true, .bool false, .int .i64 (i), .slice a (ls.length) cp, .int .i64 (((ls.length : Nat) : Int)), .bool true, (y2 17), (y2 18), .int .i64 (i), .bool true, .string (z), .string (z ++ (⟨#[44]⟩ : ByteArray)), .string (z ++ (⟨#[44]⟩ : ByteArray)), .slice a (ls.length) cp, .int .i64 (i), .pointer (some ⟨b5, o6, none⟩), .pointer (some ⟨b5, o6, none⟩), .string (x12.1), .string ((z ++ (⟨#[44]⟩ : ByteArray)) ++ x12.1), .string ((z ++ (⟨#[44]⟩ : ByteArray)) ++ x12.1 ++ (⟨#[61]⟩ : ByteArray)), .slice (some ⟨n4, 0, none⟩) (1) (1), .string (strB [34]), .string ((z ++ (⟨#[44]⟩ : ByteArray)) ++ x12.1 ++ (⟨#[61]⟩ : ByteArray) ++ (strB [34])), .slice a (ls.length) cp, .int .i64 (i), .pointer (some ⟨b17, o18, none⟩), .pointer (some ⟨b17, o18 + 1, none⟩), .string (x12.2), (y24 39), (y24 40), (y24 41), (y24 42), (y24 43), (y24 44), (y24 45), (y24 46), (y24 47), (y24 48), (y24 49), (y24 50), (y24 51), (y24 52), (y24 53), (y24 54), (y24 55), (y24 56), (y24 57), (y24 58), (y24 59), (y24 60), (y24 61), (y24 62), (y24 63), (y24 64), (y24 65), (y24 66), (y24 67), (y24 68), (y24 69), (y24 70), (y24 71), (y24 72), (y24 73), (y24 74), (y24 75), (y24 76), (y24 77), (y24 78), (y24 79), (y24 80), (y24 81), (y2 82), (y2 83), (y2 84), (y2 85), undef, undef]) (((x12.2.data.toList.length : Nat) - (0 : Int) + 1).toNat) ⟨(z ++ (⟨#[44]⟩ : ByteArray)) ++ x12.1 ++ (⟨#[61]⟩ : ByteArray) ++ (strB [34]), 0, [], rfl, hs, hn, hf, hb13, (by omega), (by omega), (by (try simp only [add_len, l1, l2, strB_len, List.length_cons, List.length_nil]); omega), (rfl), (pre_comma hq (by omega)), getV [undef, undef, undef, undef, undef, undef, undef, undef, (y2 8), (y2 9), undef, undef, undef, undef, undef, undef, undef, undef, undef, undef, undef, undef, undef, undef, undef, undef, undef, undef, undef, undef, undef, undef, undef, undef, undef, undef, undef, undef, undef, (y2 39), (y2 40), (y2 41), (y2 42), (y2 43), (y2 44), (y2 45), (y2 46), (y2 47), (y2 48), (y2 49), (y2 50), (y2 51), (y2 52), (y2 53), (y2 54), (y2 55), (y2 56), (y2 57), (y2 58), (y2 59), (y2 60), (y2 61), (y2 62), (y2 63), (y2 64), (y2 65), (y2 66), (y2 67), (y2 68), (y2 69), (y2 70), (y2 71), (y2 72), (y2 73), (y2 74), (y2 75), (y2 76), (y2 77), (y2 78), (y2 79), (y2 80), (y2 81)], rfl⟩ ?_
        rintro d vs h25 n26 ⟨y, p, ds, rfl, hs, hn, hf, hb13, hp0, hp1, hyl, hr, hy, y24, rfl⟩
        refine AWp.seq (AWp.seq (AWp.rowV (l := _) pok ?_))
        refine sq.c (v := .int .i64 (p)) rfl rfl rfl rfl ?_
        refine sq.c (v := .string (x12.2)) rfl rfl rfl rfl ?_
        refine sq.c (v := .int .i64 ((((x12.2).data.toList.length : Nat) : Int))) rfl rfl (by kernel_rfl) rfl ?_
        refine sq.c (v := .bool (decide (p < ((((x12.2).data.toList.length : Nat) : Int))))) rfl rfl rfl rfl ?_
        refine sq.e ?_
        by_cases c12_3 : p < ((((x12.2).data.toList.length : Nat) : Int))
        · rw [decide_eq_true c12_3]
          refine AWp.condT rfl rfl ?_
          refine AWp.skip (AWp.block (AWp.seq (AWp.rowV (l := _) pok ?_)))
          refine sq.c (v := .string (x12.2)) rfl rfl rfl rfl ?_
          refine sq.c (v := .int .i64 (p)) rfl rfl rfl rfl ?_
          refine sq.c (v := .string (sub (x12.2) (p) ((((x12.2).data.toList.length : Nat) : Int)))) rfl rfl (slice_str (P := Tryz.prog) (h := h25) (t := 9) (s := x12.2) (l := p) (u := (((x12.2).data.toList.length : Nat) : Int)) (by kernel_rfl) (.inr ⟨_, rfl⟩) (.inl ⟨rfl, rfl⟩) (by omega) (by omega) (by omega)) rfl ?_
          refine sq.t (v := .tuple #[.int .i64 (rC (x12.2.data.toList.drop p.toNat)), .int .i64 (rN (x12.2.data.toList.drop p.toNat))]) rfl (CallsF.fn rfl (by kernel_rfl) rfl rfl) (fun hf => f40_dr (by omega) hp0 c12_3) hf rfl ?_
          intro n27 hn2 hf
          have hn := Nat.le_trans hn hn2
          obtain ⟨d, hd1, hd2, hd3, hd4, hd5, hd6, hd7, hd8, hd9⟩ := rune_next (may_val c_m hx_x12) hr hp0 c12_3
          refine sq.c (v := .tuple #[.int .i64 (rC (x12.2.data.toList.drop p.toNat)), .int .i64 (rN (x12.2.data.toList.drop p.toNat))]) rfl rfl rfl rfl ?_
          refine sq.c (v := .int .i64 (rC (x12.2.data.toList.drop p.toNat))) rfl rfl rfl rfl ?_
          refine sq.c (v := .int .i64 (rN (x12.2.data.toList.drop p.toNat))) rfl rfl rfl rfl ?_
          refine sq.c (v := .int .i64 (rC (x12.2.data.toList.drop p.toNat))) rfl rfl rfl rfl ?_
          refine sq.c (v := .int .i64 (rN (x12.2.data.toList.drop p.toNat))) rfl rfl rfl rfl ?_
          refine sq.e (AWp.seq (AWp.seq (AWp.rowV (l := _) pok ?_)))
          refine sq.c (v := .int .i64 (rC (x12.2.data.toList.drop p.toNat))) rfl rfl rfl rfl ?_
          refine sq.c (v := .bool (decide ((rC (x12.2.data.toList.drop p.toNat)) = (34 : Int)))) rfl rfl rfl rfl ?_
          refine sq.c (v := .bool (decide ((rC (x12.2.data.toList.drop p.toNat)) = (34 : Int)))) rfl rfl rfl rfl ?_
          by_cases c14_1 : (rC (x12.2.data.toList.drop p.toNat)) = (34 : Int)
          · rw [decide_eq_true c14_1]
            refine sq.s (wantF (g := 2) (d := 52) rfl rfl rfl) rfl ?_
            refine sq.s (wantF (g := 2) (d := 52) rfl rfl rfl) rfl ?_
            refine sq.c (v := .bool true) rfl rfl rfl rfl ?_
            refine sq.e ?_
            refine AWp.condT rfl rfl ?_
            refine AWp.rowV (l := _) pok ?_
            refine sq.c (v := .string (y)) rfl rfl rfl rfl ?_
            have e_n4_n27 : n4 ≠ n27 := hf.ne hb13
            have z_n27 : h.get n27 = none := hf0 _ hn
            refine sq.op rfl rfl (Does.build (e := 5) (cs := [.int .u8 (92)]) hf (fun _ _ => by kernel_rfl)) ?_
            rintro _ h29 n30 ⟨rfl, hb28⟩ s31 hn2 hf
            refine sq.w ?_
            have hb13 := s31.sub _ _ hb13
            have hs := hs.trans s31
            have hn := Nat.le_trans hn hn2
            refine sq.c (v := .string (strB [92])) rfl rfl (strOf_row (P := Tryz.prog) (a := 42) (b := 9) (e := 5) (v := .slice (some ⟨n27, 0, none⟩) (1) (1)) (bs := [92]) (by kernel_rfl) (by kernel_rfl) (by kernel_rfl) (by kernel_rfl) (IsRow.of (E := encByte) (xs := [92]) (cap := 1) hb28 (Nat.le_refl _))) rfl ?_
            refine sq.c (v := .string (y ++ (strB [92]))) rfl rfl (add_str (a := y) (b := (strB [92])) (by (try simp only [add_len, l1, l2, strB_len, List.length_cons, List.length_nil]); omega)) rfl ?_
            refine sq.c (v := .string (y ++ (strB [92]))) rfl rfl rfl rfl ?_
            refine sq.e (AWp.seq (AWp.seq (AWp.rowV (l := _) pok ?_)))
            refine sq.c (v := .int .i64 (rC (x12.2.data.toList.drop p.toNat))) rfl rfl rfl rfl ?_
            refine sq.c (v := .bool (decide ((126 : Int) < (rC (x12.2.data.toList.drop p.toNat))))) rfl rfl rfl rfl ?_
            refine sq.e ?_
            by_cases c16_1 : (126 : Int) < (rC (x12.2.data.toList.drop p.toNat))
            · exfalso
              omega
            · rw [decide_eq_false c16_1]
              refine AWp.condF rfl rfl ?_
              refine AWp.rowV (l := _) pok ?_
              refine sq.c (v := .string (y ++ (strB [92]))) rfl rfl rfl rfl ?_
              refine sq.c (v := .string (x12.2)) rfl rfl rfl rfl ?_
              refine sq.c (v := .int .i64 (p)) rfl rfl rfl rfl ?_
              refine sq.c (v := .int .i64 (p)) rfl rfl rfl rfl ?_
              refine sq.c (v := .int .i64 (rN (x12.2.data.toList.drop p.toNat))) rfl rfl rfl rfl ?_
              refine sq.c (v := .int .i64 (p + (rN (x12.2.data.toList.drop p.toNat)))) rfl rfl (okI (wrap_i64 (by omega) (by omega))) rfl ?_
              refine sq.c (v := .string (sub (x12.2) (p) (p + (rN (x12.2.data.toList.drop p.toNat))))) rfl rfl (slice_str (P := Tryz.prog) (h := h29) (t := 9) (s := x12.2) (l := p) (u := p + (rN (x12.2.data.toList.drop p.toNat))) (by kernel_rfl) (.inr ⟨_, rfl⟩) (.inr ⟨_, rfl⟩) (by omega) (by omega) (by omega)) rfl ?_
              have hsl := congrArg (fun z : ByteArray => z.data.toList.length) hd5
              simp only [strB_len] at hsl
              refine sq.c (v := .string ((y ++ (strB [92])) ++ (sub (x12.2) (p) (p + (rN (x12.2.data.toList.drop p.toNat)))))) rfl rfl (add_str (a := (y ++ (strB [92]))) (b := (sub (x12.2) (p) (p + (rN (x12.2.data.toList.drop p.toNat))))) (by (try simp only [add_len, l1, l2, strB_len, List.length_cons, List.length_nil]); omega)) rfl ?_
              refine sq.c (v := .string ((y ++ (strB [92])) ++ (sub (x12.2) (p) (p + (rN (x12.2.data.toList.drop p.toNat)))))) rfl rfl rfl rfl ?_
              refine sq.e (AWp.rowV (l := _) pok ?_)
              refine sq.c (v := .int .i64 (p)) rfl rfl rfl rfl ?_
              refine sq.c (v := .int .i64 (rN (x12.2.data.toList.drop p.toNat))) rfl rfl rfl rfl ?_
              refine sq.c (v := .int .i64 (p + (rN (x12.2.data.toList.drop p.toNat)))) rfl rfl (okI (wrap_i64 (by omega) (by omega))) rfl ?_
              refine sq.c (v := .int .i64 (p + (rN (x12.2.data.toList.drop p.toNat)))) rfl rfl rfl rfl ?_
              refine sq.e ?_
              refine ⟨_, _, rfl, by omega, (y ++ (strB [92])) ++ (sub (x12.2) (p) (p + (rN (x12.2.data.toList.drop p.toNat)))), p + rN (x12.2.data.toList.drop p.toNat), ds ++ [d], rfl, hs, hn, hf, hb13, (by omega), (by omega), (by (try simp only [add_len, l1, l2, strB_len, List.length_cons, List.length_nil]); omega), (hd4), (run_esc hy (by omega) hd5), getV [undef, undef, undef, undef, undef, undef, undef, undef, .int .i64 (rC (x12.2.data.toList.drop p.toNat)), .int .i64 (rN (x12.2.data.toList.drop p.toNat)), undef, undef, undef, undef, undef, undef, undef, undef, undef, undef, undef, undef, undef, undef, undef, undef, undef, undef, undef, undef, undef, undef, undef, undef, undef, undef, undef, undef, undef, .int .i64 (p), .string (x12.2), .int .i64 ((((x12.2).data.toList.length : Nat) : Int)), .bool true, .tuple #[.int .i64 (rC (x12.2.data.toList.drop p.toNat)), .int .i64 (rN (x12.2.data.toList.drop p.toNat))], .string (x12.2), .int .i64 (p), .string (sub (x12.2) (p) ((((x12.2).data.toList.length : Nat) : Int))), .tuple #[.int .i64 (rC (x12.2.data.toList.drop p.toNat)), .int .i64 (rN (x12.2.data.toList.drop p.toNat))], .int .i64 (rC (x12.2.data.toList.drop p.toNat)), .int .i64 (rN (x12.2.data.toList.drop p.toNat)), .int .i64 (rC (x12.2.data.toList.drop p.toNat)), .bool true, .bool true, undef, undef, .bool true, .string (y), .slice (some ⟨n27, 0, none⟩) (1) (1), .string (strB [92]), .string (y ++ (strB [92])), .int .i64 (rC (x12.2.data.toList.drop p.toNat)), .bool false, (y24 62), (y24 63), (y24 64), (y24 65), (y24 66), (y24 67), (y24 68), (y24 69), (y24 70), .string (y ++ (strB [92])), .string (x12.2), .int .i64 (p), .int .i64 (p), .int .i64 (rN (x12.2.data.toList.drop p.toNat)), .int .i64 (p + (rN (x12.2.data.toList.drop p.toNat))), .string (sub (x12.2) (p) (p + (rN (x12.2.data.toList.drop p.toNat)))), .string ((y ++ (strB [92])) ++ (sub (x12.2) (p) (p + (rN (x12.2.data.toList.drop p.toNat))))), .int .i64 (p), .int .i64 (rN (x12.2.data.toList.drop p.toNat)), .int .i64 (p + (rN (x12.2.data.toList.drop p.toNat)))], rfl⟩
          · rw [decide_eq_false c14_1]
            refine sq.c (v := .int .i64 (rC (x12.2.data.toList.drop p.toNat))) (wantT (g := 2) (d := 52) rfl rfl rfl) rfl rfl rfl ?_
            refine sq.c (v := .bool (decide ((rC (x12.2.data.toList.drop p.toNat)) = (92 : Int)))) (wantT (g := 2) (d := 52) rfl rfl rfl) rfl rfl rfl ?_
            refine sq.c (v := .bool (decide ((rC (x12.2.data.toList.drop p.toNat)) = (92 : Int)))) rfl rfl rfl rfl ?_
            refine sq.e ?_
            by_cases c14_4 : (rC (x12.2.data.toList.drop p.toNat)) = (92 : Int)
            · rw [decide_eq_true c14_4]
              refine AWp.condT rfl rfl ?_
              refine AWp.rowV (l := _) pok ?_
              refine sq.c (v := .string (y)) rfl rfl rfl rfl ?_
              have e_n4_n27 : n4 ≠ n27 := hf.ne hb13
              have z_n27 : h.get n27 = none := hf0 _ hn
              refine sq.op rfl rfl (Does.build (e := 5) (cs := [.int .u8 (92)]) hf (fun _ _ => by kernel_rfl)) ?_
              rintro _ h33 n34 ⟨rfl, hb32⟩ s35 hn2 hf
              refine sq.w ?_
              have hb13 := s35.sub _ _ hb13
              have hs := hs.trans s35
              have hn := Nat.le_trans hn hn2
              refine sq.c (v := .string (strB [92])) rfl rfl (strOf_row (P := Tryz.prog) (a := 42) (b := 9) (e := 5) (v := .slice (some ⟨n27, 0, none⟩) (1) (1)) (bs := [92]) (by kernel_rfl) (by kernel_rfl) (by kernel_rfl) (by kernel_rfl) (IsRow.of (E := encByte) (xs := [92]) (cap := 1) hb32 (Nat.le_refl _))) rfl ?_
              refine sq.c (v := .string (y ++ (strB [92]))) rfl rfl (add_str (a := y) (b := (strB [92])) (by (try simp only [add_len, l1, l2, strB_len, List.length_cons, List.length_nil]); omega)) rfl ?_
              refine sq.c (v := .string (y ++ (strB [92]))) rfl rfl rfl rfl ?_
              refine sq.e (AWp.seq (AWp.seq (AWp.rowV (l := _) pok ?_)))
              refine sq.c (v := .int .i64 (rC (x12.2.data.toList.drop p.toNat))) rfl rfl rfl rfl ?_
              refine sq.c (v := .bool (decide ((126 : Int) < (rC (x12.2.data.toList.drop p.toNat))))) rfl rfl rfl rfl ?_
              refine sq.e ?_
              by_cases c16_1 : (126 : Int) < (rC (x12.2.data.toList.drop p.toNat))
              · exfalso
                omega
              · rw [decide_eq_false c16_1]
                refine AWp.condF rfl rfl ?_
                refine AWp.rowV (l := _) pok ?_
                refine sq.c (v := .string (y ++ (strB [92]))) rfl rfl rfl rfl ?_
                refine sq.c (v := .string (x12.2)) rfl rfl rfl rfl ?_
                refine sq.c (v := .int .i64 (p)) rfl rfl rfl rfl ?_
                refine sq.c (v := .int .i64 (p)) rfl rfl rfl rfl ?_
                refine sq.c (v := .int .i64 (rN (x12.2.data.toList.drop p.toNat))) rfl rfl rfl rfl ?_
                refine sq.c (v := .int .i64 (p + (rN (x12.2.data.toList.drop p.toNat)))) rfl rfl (okI (wrap_i64 (by omega) (by omega))) rfl ?_
                refine sq.c (v := .string (sub (x12.2) (p) (p + (rN (x12.2.data.toList.drop p.toNat))))) rfl rfl (slice_str (P := Tryz.prog) (h := h33) (t := 9) (s := x12.2) (l := p) (u := p + (rN (x12.2.data.toList.drop p.toNat))) (by kernel_rfl) (.inr ⟨_, rfl⟩) (.inr ⟨_, rfl⟩) (by omega) (by omega) (by omega)) rfl ?_
                have hsl := congrArg (fun z : ByteArray => z.data.toList.length) hd5
                simp only [strB_len] at hsl
                refine sq.c (v := .string ((y ++ (strB [92])) ++ (sub (x12.2) (p) (p + (rN (x12.2.data.toList.drop p.toNat)))))) rfl rfl (add_str (a := (y ++ (strB [92]))) (b := (sub (x12.2) (p) (p + (rN (x12.2.data.toList.drop p.toNat))))) (by (try simp only [add_len, l1, l2, strB_len, List.length_cons, List.length_nil]); omega)) rfl ?_
                refine sq.c (v := .string ((y ++ (strB [92])) ++ (sub (x12.2) (p) (p + (rN (x12.2.data.toList.drop p.toNat)))))) rfl rfl rfl rfl ?_
                refine sq.e (AWp.rowV (l := _) pok ?_)
                refine sq.c (v := .int .i64 (p)) rfl rfl rfl rfl ?_
                refine sq.c (v := .int .i64 (rN (x12.2.data.toList.drop p.toNat))) rfl rfl rfl rfl ?_
                refine sq.c (v := .int .i64 (p + (rN (x12.2.data.toList.drop p.toNat)))) rfl rfl (okI (wrap_i64 (by omega) (by omega))) rfl ?_
                refine sq.c (v := .int .i64 (p + (rN (x12.2.data.toList.drop p.toNat)))) rfl rfl rfl rfl ?_
                refine sq.e ?_
                refine ⟨_, _, rfl, by omega, (y ++ (strB [92])) ++ (sub (x12.2) (p) (p + (rN (x12.2.data.toList.drop p.toNat)))), p + rN (x12.2.data.toList.drop p.toNat), ds ++ [d], rfl, hs, hn, hf, hb13, (by omega), (by omega), (by (try simp only [add_len, l1, l2, strB_len, List.length_cons, List.length_nil]); omega), (hd4), (run_esc hy (by omega) hd5), getV [undef, undef, undef, undef, undef, undef, undef, undef, .int .i64 (rC (x12.2.data.toList.drop p.toNat)), .int .i64 (rN (x12.2.data.toList.drop p.toNat)), undef, undef, undef, undef, undef, undef, undef, undef, undef, undef, undef, undef, undef, undef, undef, undef, undef, undef, undef, undef, undef, undef, undef, undef, undef, undef, undef, undef, undef, .int .i64 (p), .string (x12.2), .int .i64 ((((x12.2).data.toList.length : Nat) : Int)), .bool true, .tuple #[.int .i64 (rC (x12.2.data.toList.drop p.toNat)), .int .i64 (rN (x12.2.data.toList.drop p.toNat))], .string (x12.2), .int .i64 (p), .string (sub (x12.2) (p) ((((x12.2).data.toList.length : Nat) : Int))), .tuple #[.int .i64 (rC (x12.2.data.toList.drop p.toNat)), .int .i64 (rN (x12.2.data.toList.drop p.toNat))], .int .i64 (rC (x12.2.data.toList.drop p.toNat)), .int .i64 (rN (x12.2.data.toList.drop p.toNat)), .int .i64 (rC (x12.2.data.toList.drop p.toNat)), .bool false, .bool false, .int .i64 (rC (x12.2.data.toList.drop p.toNat)), .bool true, .bool true, .string (y), .slice (some ⟨n27, 0, none⟩) (1) (1), .string (strB [92]), .string (y ++ (strB [92])), .int .i64 (rC (x12.2.data.toList.drop p.toNat)), .bool false, (y24 62), (y24 63), (y24 64), (y24 65), (y24 66), (y24 67), (y24 68), (y24 69), (y24 70), .string (y ++ (strB [92])), .string (x12.2), .int .i64 (p), .int .i64 (p), .int .i64 (rN (x12.2.data.toList.drop p.toNat)), .int .i64 (p + (rN (x12.2.data.toList.drop p.toNat))), .string (sub (x12.2) (p) (p + (rN (x12.2.data.toList.drop p.toNat)))), .string ((y ++ (strB [92])) ++ (sub (x12.2) (p) (p + (rN (x12.2.data.toList.drop p.toNat))))), .int .i64 (p), .int .i64 (rN (x12.2.data.toList.drop p.toNat)), .int .i64 (p + (rN (x12.2.data.toList.drop p.toNat)))], rfl⟩
            · rw [decide_eq_false c14_4]
              refine AWp.condF rfl rfl ?_
              refine AWp.skip (AWp.seq (AWp.seq (AWp.rowV (l := _) pok ?_)))
              refine sq.c (v := .int .i64 (rC (x12.2.data.toList.drop p.toNat))) rfl rfl rfl rfl ?_
              refine sq.c (v := .bool (decide ((126 : Int) < (rC (x12.2.data.toList.drop p.toNat))))) rfl rfl rfl rfl ?_
              refine sq.e ?_
              by_cases c16_1 : (126 : Int) < (rC (x12.2.data.toList.drop p.toNat))
              · rw [decide_eq_true c16_1]
                refine AWp.condT rfl rfl ?_
                refine AWp.anyT pok (.s 0 (.s 5 (.f 1 6 (.s 2 (.s 3 (.s 4 (.s 6 (.s 7 (.s 8 (.s 9 .e))))))) (.s 1 (.s 2 (.s 3 (.s 4 (.s 7 (.s 8 (.s 9 .e)))))))))) (by kernel_rfl) (by kernel_rfl) rfl (fun x fr fr' h n hd _ q => ⟨hd ▸ q.1, q.2⟩) ?_
                refine dt.c (v := .string (y)) rfl (by kernel_rfl) rfl rfl rfl rfl ?_
                refine dt.c (v := .int .i64 (rC (x12.2.data.toList.drop p.toNat))) rfl (by kernel_rfl) rfl rfl rfl rfl ?_
                refine dt.f rfl (by kernel_rfl) rfl (by kernel_rfl) ?_ ?_
                · skip
                  have e_n4_n27 : n4 ≠ n27 := hf.ne hb13
                  have z_n27 : h.get n27 = none := hf0 _ hn
                  refine dt.op rfl (by kernel_rfl) rfl rfl (Does.build (e := 5) (cs := [.int .u8 (92)]) hf (fun _ _ => by kernel_rfl)) keepN ?_
                  rintro _ h37 n38 ⟨rfl, hb36⟩ s39 hn2 hf
                  refine dt.w ?_
                  have hb13 := s39.sub _ _ hb13
                  have hs := hs.trans s39
                  have hn := Nat.le_trans hn hn2
                  refine dt.gB (v := .string (strB [92])) n27 rfl (by kernel_rfl) rfl rfl (fun _ q_ => (strOf_row (P := Tryz.prog) (a := 42) (b := 9) (e := 5) (v := .slice (some ⟨n27, 0, none⟩) (1) (1)) (bs := [92]) (by kernel_rfl) (by kernel_rfl) (by kernel_rfl) (by kernel_rfl) (IsRow.of (E := encByte) (xs := [92]) (cap := 1) (q_ _ hb36) (Nat.le_refl _)))) rfl ?_
                  refine dt.c (v := .string (y ++ (strB [92]))) rfl (by kernel_rfl) rfl rfl (add_str (a := y) (b := (strB [92])) (by (try simp only [add_len, l1, l2, strB_len, List.length_cons, List.length_nil]); omega)) rfl ?_
                  refine dt.c (v := .string ((y ++ (strB [92])) ++ (⟨#[117, 123]⟩ : ByteArray))) rfl (by kernel_rfl) rfl rfl (add_str (a := (y ++ (strB [92]))) (b := (⟨#[117, 123]⟩ : ByteArray)) (by (try simp only [add_len, l1, l2, strB_len, List.length_cons, List.length_nil]); omega)) rfl ?_
                  refine dt.t (v := .string (strB (hexL (rC (x12.2.data.toList.drop p.toNat)).toNat))) rfl (by kernel_rfl) rfl (CallsF.fn rfl (by kernel_rfl) rfl rfl) (fun hf => f41_spec _ (rC (x12.2.data.toList.drop p.toNat)) rfl (by omega) (by omega) _ _) hf rfl ?_
                  intro n40 hn2 hf
                  have hn := Nat.le_trans hn hn2
                  have hdt : (rC (x12.2.data.toList.drop p.toNat)).toNat = d.1 := by omega
                  refine dt.c (v := .string ((y ++ (strB [92])) ++ (⟨#[117, 123]⟩ : ByteArray) ++ (strB (hexL (rC (x12.2.data.toList.drop p.toNat)).toNat)))) rfl (by kernel_rfl) rfl rfl (add_str (a := (y ++ (strB [92])) ++ (⟨#[117, 123]⟩ : ByteArray)) (b := (strB (hexL (rC (x12.2.data.toList.drop p.toNat)).toNat))) (by (try simp only [add_len, l1, l2, strB_len, List.length_cons, List.length_nil]); rw [hdt]; omega)) rfl ?_
                  refine dt.c (v := .string ((y ++ (strB [92])) ++ (⟨#[117, 123]⟩ : ByteArray) ++ (strB (hexL (rC (x12.2.data.toList.drop p.toNat)).toNat)) ++ (⟨#[125]⟩ : ByteArray))) rfl (by kernel_rfl) rfl rfl (add_str (a := (y ++ (strB [92])) ++ (⟨#[117, 123]⟩ : ByteArray) ++ (strB (hexL (rC (x12.2.data.toList.drop p.toNat)).toNat))) (b := (⟨#[125]⟩ : ByteArray)) (by (try simp only [add_len, l1, l2, strB_len, List.length_cons, List.length_nil]); rw [hdt]; omega)) rfl ?_
                  refine dt.c (v := .string ((y ++ (strB [92])) ++ (⟨#[117, 123]⟩ : ByteArray) ++ (strB (hexL (rC (x12.2.data.toList.drop p.toNat)).toNat)) ++ (⟨#[125]⟩ : ByteArray))) rfl (by kernel_rfl) rfl rfl rfl rfl ?_
                  refine dt.e (AWp.rowV (l := _) pok ?_)
                  refine sq.c (v := .int .i64 (p)) rfl rfl rfl rfl ?_
                  refine sq.c (v := .int .i64 (rN (x12.2.data.toList.drop p.toNat))) rfl rfl rfl rfl ?_
                  refine sq.c (v := .int .i64 (p + (rN (x12.2.data.toList.drop p.toNat)))) rfl rfl (okI (wrap_i64 (by omega) (by omega))) rfl ?_
                  refine sq.c (v := .int .i64 (p + (rN (x12.2.data.toList.drop p.toNat)))) rfl rfl rfl rfl ?_
                  refine sq.e ?_
                  refine ⟨_, _, rfl, by omega, (y ++ (strB [92])) ++ (⟨#[117, 123]⟩ : ByteArray) ++ (strB (hexL (rC (x12.2.data.toList.drop p.toNat)).toNat)) ++ (⟨#[125]⟩ : ByteArray), p + rN (x12.2.data.toList.drop p.toNat), ds ++ [d], rfl, hs, hn, hf, hb13, (by omega), (by omega), (by (try simp only [add_len, l1, l2, strB_len, List.length_cons, List.length_nil]); rw [hdt]; omega), (hd4), (by rw [hdt]; exact run_hex hy (by omega)), getV [undef, undef, undef, undef, undef, undef, undef, undef, .int .i64 (rC (x12.2.data.toList.drop p.toNat)), .int .i64 (rN (x12.2.data.toList.drop p.toNat)), undef, undef, undef, undef, undef, undef, undef, undef, undef, undef, undef, undef, undef, undef, undef, undef, undef, undef, undef, undef, undef, undef, undef, undef, undef, undef, undef, undef, undef, .int .i64 (p), .string (x12.2), .int .i64 ((((x12.2).data.toList.length : Nat) : Int)), .bool true, .tuple #[.int .i64 (rC (x12.2.data.toList.drop p.toNat)), .int .i64 (rN (x12.2.data.toList.drop p.toNat))], .string (x12.2), .int .i64 (p), .string (sub (x12.2) (p) ((((x12.2).data.toList.length : Nat) : Int))), .tuple #[.int .i64 (rC (x12.2.data.toList.drop p.toNat)), .int .i64 (rN (x12.2.data.toList.drop p.toNat))], .int .i64 (rC (x12.2.data.toList.drop p.toNat)), .int .i64 (rN (x12.2.data.toList.drop p.toNat)), .int .i64 (rC (x12.2.data.toList.drop p.toNat)), .bool false, .bool false, .int .i64 (rC (x12.2.data.toList.drop p.toNat)), .bool false, .bool false, (y24 56), (y24 57), (y24 58), (y24 59), .int .i64 (rC (x12.2.data.toList.drop p.toNat)), .bool true, .string (y), .slice (some ⟨n27, 0, none⟩) (1) (1), .string (strB [92]), .string (y ++ (strB [92])), .string ((y ++ (strB [92])) ++ (⟨#[117, 123]⟩ : ByteArray)), .int .i64 (rC (x12.2.data.toList.drop p.toNat)), .string (strB (hexL (rC (x12.2.data.toList.drop p.toNat)).toNat)), .string ((y ++ (strB [92])) ++ (⟨#[117, 123]⟩ : ByteArray) ++ (strB (hexL (rC (x12.2.data.toList.drop p.toNat)).toNat))), .string ((y ++ (strB [92])) ++ (⟨#[117, 123]⟩ : ByteArray) ++ (strB (hexL (rC (x12.2.data.toList.drop p.toNat)).toNat)) ++ (⟨#[125]⟩ : ByteArray)), (y24 71), (y24 72), (y24 73), (y24 74), (y24 75), (y24 76), (y24 77), (y24 78), .int .i64 (p), .int .i64 (rN (x12.2.data.toList.drop p.toNat)), .int .i64 (p + (rN (x12.2.data.toList.drop p.toNat)))], rfl⟩
                · skip
                  refine dt.t (v := .string (strB (hexL (rC (x12.2.data.toList.drop p.toNat)).toNat))) rfl (by kernel_rfl) rfl (CallsF.fn rfl (by kernel_rfl) rfl rfl) (fun hf => f41_spec _ (rC (x12.2.data.toList.drop p.toNat)) rfl (by omega) (by omega) _ _) hf rfl ?_
                  intro n41 hn2 hf
                  have hn := Nat.le_trans hn hn2
                  have hdt : (rC (x12.2.data.toList.drop p.toNat)).toNat = d.1 := by omega
                  have e_n4_n41 : n4 ≠ n41 := hf.ne hb13
                  have z_n41 : h.get n41 = none := hf0 _ hn
                  refine dt.op rfl (by kernel_rfl) rfl rfl (Does.build (e := 5) (cs := [.int .u8 (92)]) hf (fun _ _ => by kernel_rfl)) keepN ?_
                  rintro _ h43 n44 ⟨rfl, hb42⟩ s45 hn2 hf
                  refine dt.w ?_
                  have hb13 := s45.sub _ _ hb13
                  have hs := hs.trans s45
                  have hn := Nat.le_trans hn hn2
                  refine dt.gB (v := .string (strB [92])) n41 rfl (by kernel_rfl) rfl rfl (fun _ q_ => (strOf_row (P := Tryz.prog) (a := 42) (b := 9) (e := 5) (v := .slice (some ⟨n41, 0, none⟩) (1) (1)) (bs := [92]) (by kernel_rfl) (by kernel_rfl) (by kernel_rfl) (by kernel_rfl) (IsRow.of (E := encByte) (xs := [92]) (cap := 1) (q_ _ hb42) (Nat.le_refl _)))) rfl ?_
                  refine dt.c (v := .string (y ++ (strB [92]))) rfl (by kernel_rfl) rfl rfl (add_str (a := y) (b := (strB [92])) (by (try simp only [add_len, l1, l2, strB_len, List.length_cons, List.length_nil]); omega)) rfl ?_
                  refine dt.c (v := .string ((y ++ (strB [92])) ++ (⟨#[117, 123]⟩ : ByteArray))) rfl (by kernel_rfl) rfl rfl (add_str (a := (y ++ (strB [92]))) (b := (⟨#[117, 123]⟩ : ByteArray)) (by (try simp only [add_len, l1, l2, strB_len, List.length_cons, List.length_nil]); omega)) rfl ?_
                  refine dt.c (v := .string ((y ++ (strB [92])) ++ (⟨#[117, 123]⟩ : ByteArray) ++ (strB (hexL (rC (x12.2.data.toList.drop p.toNat)).toNat)))) rfl (by kernel_rfl) rfl rfl (add_str (a := (y ++ (strB [92])) ++ (⟨#[117, 123]⟩ : ByteArray)) (b := (strB (hexL (rC (x12.2.data.toList.drop p.toNat)).toNat))) (by (try simp only [add_len, l1, l2, strB_len, List.length_cons, List.length_nil]); rw [hdt]; omega)) rfl ?_
                  refine dt.c (v := .string ((y ++ (strB [92])) ++ (⟨#[117, 123]⟩ : ByteArray) ++ (strB (hexL (rC (x12.2.data.toList.drop p.toNat)).toNat)) ++ (⟨#[125]⟩ : ByteArray))) rfl (by kernel_rfl) rfl rfl (add_str (a := (y ++ (strB [92])) ++ (⟨#[117, 123]⟩ : ByteArray) ++ (strB (hexL (rC (x12.2.data.toList.drop p.toNat)).toNat))) (b := (⟨#[125]⟩ : ByteArray)) (by (try simp only [add_len, l1, l2, strB_len, List.length_cons, List.length_nil]); rw [hdt]; omega)) rfl ?_
                  refine dt.c (v := .string ((y ++ (strB [92])) ++ (⟨#[117, 123]⟩ : ByteArray) ++ (strB (hexL (rC (x12.2.data.toList.drop p.toNat)).toNat)) ++ (⟨#[125]⟩ : ByteArray))) rfl (by kernel_rfl) rfl rfl rfl rfl ?_
                  refine dt.e (AWp.rowV (l := _) pok ?_)
                  refine sq.c (v := .int .i64 (p)) rfl rfl rfl rfl ?_
                  refine sq.c (v := .int .i64 (rN (x12.2.data.toList.drop p.toNat))) rfl rfl rfl rfl ?_
                  refine sq.c (v := .int .i64 (p + (rN (x12.2.data.toList.drop p.toNat)))) rfl rfl (okI (wrap_i64 (by omega) (by omega))) rfl ?_
                  refine sq.c (v := .int .i64 (p + (rN (x12.2.data.toList.drop p.toNat)))) rfl rfl rfl rfl ?_
                  refine sq.e ?_
                  refine ⟨_, _, rfl, by omega, (y ++ (strB [92])) ++ (⟨#[117, 123]⟩ : ByteArray) ++ (strB (hexL (rC (x12.2.data.toList.drop p.toNat)).toNat)) ++ (⟨#[125]⟩ : ByteArray), p + rN (x12.2.data.toList.drop p.toNat), ds ++ [d], rfl, hs, hn, hf, hb13, (by omega), (by omega), (by (try simp only [add_len, l1, l2, strB_len, List.length_cons, List.length_nil]); rw [hdt]; omega), (hd4), (by rw [hdt]; exact run_hex hy (by omega)), getV [undef, undef, undef, undef, undef, undef, undef, undef, .int .i64 (rC (x12.2.data.toList.drop p.toNat)), .int .i64 (rN (x12.2.data.toList.drop p.toNat)), undef, undef, undef, undef, undef, undef, undef, undef, undef, undef, undef, undef, undef, undef, undef, undef, undef, undef, undef, undef, undef, undef, undef, undef, undef, undef, undef, undef, undef, .int .i64 (p), .string (x12.2), .int .i64 ((((x12.2).data.toList.length : Nat) : Int)), .bool true, .tuple #[.int .i64 (rC (x12.2.data.toList.drop p.toNat)), .int .i64 (rN (x12.2.data.toList.drop p.toNat))], .string (x12.2), .int .i64 (p), .string (sub (x12.2) (p) ((((x12.2).data.toList.length : Nat) : Int))), .tuple #[.int .i64 (rC (x12.2.data.toList.drop p.toNat)), .int .i64 (rN (x12.2.data.toList.drop p.toNat))], .int .i64 (rC (x12.2.data.toList.drop p.toNat)), .int .i64 (rN (x12.2.data.toList.drop p.toNat)), .int .i64 (rC (x12.2.data.toList.drop p.toNat)), .bool false, .bool false, .int .i64 (rC (x12.2.data.toList.drop p.toNat)), .bool false, .bool false, (y24 56), (y24 57), (y24 58), (y24 59), .int .i64 (rC (x12.2.data.toList.drop p.toNat)), .bool true, .string (y), .slice (some ⟨n41, 0, none⟩) (1) (1), .string (strB [92]), .string (y ++ (strB [92])), .string ((y ++ (strB [92])) ++ (⟨#[117, 123]⟩ : ByteArray)), .int .i64 (rC (x12.2.data.toList.drop p.toNat)), .string (strB (hexL (rC (x12.2.data.toList.drop p.toNat)).toNat)), .string ((y ++ (strB [92])) ++ (⟨#[117, 123]⟩ : ByteArray) ++ (strB (hexL (rC (x12.2.data.toList.drop p.toNat)).toNat))), .string ((y ++ (strB [92])) ++ (⟨#[117, 123]⟩ : ByteArray) ++ (strB (hexL (rC (x12.2.data.toList.drop p.toNat)).toNat)) ++ (⟨#[125]⟩ : ByteArray)), (y24 71), (y24 72), (y24 73), (y24 74), (y24 75), (y24 76), (y24 77), (y24 78), .int .i64 (p), .int .i64 (rN (x12.2.data.toList.drop p.toNat)), .int .i64 (p + (rN (x12.2.data.toList.drop p.toNat)))], rfl⟩
              · rw [decide_eq_false c16_1]
                refine AWp.condF rfl rfl ?_
                refine AWp.rowV (l := _) pok ?_
                refine sq.c (v := .string (y)) rfl rfl rfl rfl ?_
                refine sq.c (v := .string (x12.2)) rfl rfl rfl rfl ?_
                refine sq.c (v := .int .i64 (p)) rfl rfl rfl rfl ?_
                refine sq.c (v := .int .i64 (p)) rfl rfl rfl rfl ?_
                refine sq.c (v := .int .i64 (rN (x12.2.data.toList.drop p.toNat))) rfl rfl rfl rfl ?_
                refine sq.c (v := .int .i64 (p + (rN (x12.2.data.toList.drop p.toNat)))) rfl rfl (okI (wrap_i64 (by omega) (by omega))) rfl ?_
                refine sq.c (v := .string (sub (x12.2) (p) (p + (rN (x12.2.data.toList.drop p.toNat))))) rfl rfl (slice_str (P := Tryz.prog) (h := h25) (t := 9) (s := x12.2) (l := p) (u := p + (rN (x12.2.data.toList.drop p.toNat))) (by kernel_rfl) (.inr ⟨_, rfl⟩) (.inr ⟨_, rfl⟩) (by omega) (by omega) (by omega)) rfl ?_
                have hsl := congrArg (fun z : ByteArray => z.data.toList.length) hd5
                simp only [strB_len] at hsl
                refine sq.c (v := .string (y ++ (sub (x12.2) (p) (p + (rN (x12.2.data.toList.drop p.toNat)))))) rfl rfl (add_str (a := y) (b := (sub (x12.2) (p) (p + (rN (x12.2.data.toList.drop p.toNat))))) (by (try simp only [add_len, l1, l2, strB_len, List.length_cons, List.length_nil]); omega)) rfl ?_
                refine sq.c (v := .string (y ++ (sub (x12.2) (p) (p + (rN (x12.2.data.toList.drop p.toNat)))))) rfl rfl rfl rfl ?_
                refine sq.e (AWp.rowV (l := _) pok ?_)
                refine sq.c (v := .int .i64 (p)) rfl rfl rfl rfl ?_
                refine sq.c (v := .int .i64 (rN (x12.2.data.toList.drop p.toNat))) rfl rfl rfl rfl ?_
                refine sq.c (v := .int .i64 (p + (rN (x12.2.data.toList.drop p.toNat)))) rfl rfl (okI (wrap_i64 (by omega) (by omega))) rfl ?_
                refine sq.c (v := .int .i64 (p + (rN (x12.2.data.toList.drop p.toNat)))) rfl rfl rfl rfl ?_
                refine sq.e ?_
                refine ⟨_, _, rfl, by omega, y ++ (sub (x12.2) (p) (p + (rN (x12.2.data.toList.drop p.toNat)))), p + rN (x12.2.data.toList.drop p.toNat), ds ++ [d], rfl, hs, hn, hf, hb13, (by omega), (by omega), (by (try simp only [add_len, l1, l2, strB_len, List.length_cons, List.length_nil]); omega), (hd4), (run_plain hy (by omega) (by omega) (by omega) hd5), getV [undef, undef, undef, undef, undef, undef, undef, undef, .int .i64 (rC (x12.2.data.toList.drop p.toNat)), .int .i64 (rN (x12.2.data.toList.drop p.toNat)), undef, undef, undef, undef, undef, undef, undef, undef, undef, undef, undef, undef, undef, undef, undef, undef, undef, undef, undef, undef, undef, undef, undef, undef, undef, undef, undef, undef, undef, .int .i64 (p), .string (x12.2), .int .i64 ((((x12.2).data.toList.length : Nat) : Int)), .bool true, .tuple #[.int .i64 (rC (x12.2.data.toList.drop p.toNat)), .int .i64 (rN (x12.2.data.toList.drop p.toNat))], .string (x12.2), .int .i64 (p), .string (sub (x12.2) (p) ((((x12.2).data.toList.length : Nat) : Int))), .tuple #[.int .i64 (rC (x12.2.data.toList.drop p.toNat)), .int .i64 (rN (x12.2.data.toList.drop p.toNat))], .int .i64 (rC (x12.2.data.toList.drop p.toNat)), .int .i64 (rN (x12.2.data.toList.drop p.toNat)), .int .i64 (rC (x12.2.data.toList.drop p.toNat)), .bool false, .bool false, .int .i64 (rC (x12.2.data.toList.drop p.toNat)), .bool false, .bool false, (y24 56), (y24 57), (y24 58), (y24 59), .int .i64 (rC (x12.2.data.toList.drop p.toNat)), .bool false, (y24 62), (y24 63), (y24 64), (y24 65), (y24 66), (y24 67), (y24 68), (y24 69), (y24 70), .string (y), .string (x12.2), .int .i64 (p), .int .i64 (p), .int .i64 (rN (x12.2.data.toList.drop p.toNat)), .int .i64 (p + (rN (x12.2.data.toList.drop p.toNat))), .string (sub (x12.2) (p) (p + (rN (x12.2.data.toList.drop p.toNat)))), .string (y ++ (sub (x12.2) (p) (p + (rN (x12.2.data.toList.drop p.toNat))))), .int .i64 (p), .int .i64 (rN (x12.2.data.toList.drop p.toNat)), .int .i64 (p + (rN (x12.2.data.toList.drop p.toNat)))], rfl⟩
        · rw [decide_eq_false c12_3]
          refine AWp.condF rfl rfl ?_
          refine AWp.exit ?_
          refine AWp.rowV (l := _) pok ?_
          refine sq.c (v := .string (y)) rfl rfl rfl rfl ?_
          have e_n4_n26 : n4 ≠ n26 := hf.ne hb13
          have z_n26 : h.get n26 = none := hf0 _ hn
          refine sq.op rfl rfl (Does.build (e := 5) (cs := [.int .u8 (34)]) hf (fun _ _ => by kernel_rfl)) ?_
          rintro _ h47 n48 ⟨rfl, hb46⟩ s49 hn2 hf
          refine sq.w ?_
          have hs := hs.trans s49
          have hn := Nat.le_trans hn hn2
          refine sq.c (v := .string (strB [34])) rfl rfl (strOf_row (P := Tryz.prog) (a := 42) (b := 9) (e := 5) (v := .slice (some ⟨n26, 0, none⟩) (1) (1)) (bs := [34]) (by kernel_rfl) (by kernel_rfl) (by kernel_rfl) (by kernel_rfl) (IsRow.of (E := encByte) (xs := [34]) (cap := 1) hb46 (Nat.le_refl _))) rfl ?_
          refine sq.c (v := .string (y ++ (strB [34]))) rfl rfl (add_str (a := y) (b := (strB [34])) (by (try simp only [add_len, l1, l2, strB_len, List.length_cons, List.length_nil]); omega)) rfl ?_
          refine sq.c (v := .string (y ++ (strB [34]))) rfl rfl rfl rfl ?_
          refine sq.e (AWp.rowV (l := _) pok ?_)
          refine sq.c (v := .int .i64 (i)) rfl rfl rfl rfl ?_
          refine sq.c (v := .int .i64 (i + 1)) rfl rfl (okI (wrap_i64 (by omega) (by omega))) rfl ?_
          refine sq.c (v := .int .i64 (i + 1)) rfl rfl rfl rfl ?_
          refine sq.e ?_
          have hdd : decs x12.2.data.toList = ds := by rw [hr, List.drop_eq_nil_of_le (by omega), decs_nil, List.append_nil]
          refine ⟨_, _, rfl, by omega, y ++ (strB [34]), i + 1, rfl, hs, hn, hf, (by omega), (by omega), (by (try simp only [add_len, l1, l2, strB_len, List.length_cons, List.length_nil]); omega), (by rw [show (i + 1).toNat = i.toNat + 1 by omega]; exact end_text hx_x12 hy hdd), getV [undef, undef, undef, undef, undef, undef, .string (x12.2), .int .i64 (p), (y24 8), (y24 9), undef, undef, undef, .int .i64 (i), .slice a (ls.length) cp, .int .i64 (((ls.length : Nat) : Int)), .bool true, .int .i64 (i), .int .i64 (i + 1), .int .i64 (i), .bool true, .string (z), .string (z ++ (⟨#[44]⟩ : ByteArray)), .string (z ++ (⟨#[44]⟩ : ByteArray)), .slice a (ls.length) cp, .int .i64 (i), .pointer (some ⟨b5, o6, none⟩), .pointer (some ⟨b5, o6, none⟩), .string (x12.1), .string ((z ++ (⟨#[44]⟩ : ByteArray)) ++ x12.1), .string ((z ++ (⟨#[44]⟩ : ByteArray)) ++ x12.1 ++ (⟨#[61]⟩ : ByteArray)), .slice (some ⟨n4, 0, none⟩) (1) (1), .string (strB [34]), .string ((z ++ (⟨#[44]⟩ : ByteArray)) ++ x12.1 ++ (⟨#[61]⟩ : ByteArray) ++ (strB [34])), .slice a (ls.length) cp, .int .i64 (i), .pointer (some ⟨b17, o18, none⟩), .pointer (some ⟨b17, o18 + 1, none⟩), .string (x12.2), .int .i64 (p), .string (x12.2), .int .i64 ((((x12.2).data.toList.length : Nat) : Int)), .bool false, (y24 43), (y24 44), (y24 45), (y24 46), (y24 47), (y24 48), (y24 49), (y24 50), (y24 51), (y24 52), (y24 53), (y24 54), (y24 55), (y24 56), (y24 57), (y24 58), (y24 59), (y24 60), (y24 61), (y24 62), (y24 63), (y24 64), (y24 65), (y24 66), (y24 67), (y24 68), (y24 69), (y24 70), (y24 71), (y24 72), (y24 73), (y24 74), (y24 75), (y24 76), (y24 77), (y24 78), (y24 79), (y24 80), (y24 81), .string (y), .slice (some ⟨n26, 0, none⟩) (1) (1), .string (strB [34]), .string (y ++ (strB [34]))], rfl⟩
      · rw [decide_eq_false c7_1]
        refine AWp.condF rfl rfl ?_
        refine AWp.skip (AWp.seq ?_)
        refine AWp.anyV pok [] [0, 1, 2, 3, 4, 5, 6, 7, 8, 9, 10, 11] (by kernel_rfl) (by kernel_rfl) rfl (fun x fr fr' h n hd _ q => ⟨hd ▸ q.1, q.2⟩) ?_
        refine dq.c (v := .string (z)) rfl (by kernel_rfl) rfl rfl rfl rfl ?_
        refine dq.c (v := .slice a (ls.length) cp) rfl (by kernel_rfl) rfl rfl rfl rfl ?_
        refine dq.c (v := .int .i64 (i)) rfl (by kernel_rfl) rfl rfl rfl rfl ?_
        have i56 : (0 : Int) ≤ (i : Int) := by omega
        obtain ⟨x57, hx_x57⟩ : ∃ x, (ls)[((i : Int)).toNat]? = some x := ⟨_, List.getElem?_eq_getElem (by omega)⟩
        have g_x57 := hsz x57 (List.mem_of_getElem? hx_x57)
        obtain ⟨b50, o51, cs_b50, ow_b50, ci_b50, ie55, hb52, hc53, hr54⟩ := IsRow.at (P := Tryz.prog) (t := 22) (e := 40) (k := .i64) (by kernel_rfl) (by kernel_rfl) (hl.keep hs) i56 hx_x57
        refine dq.c (v := .pointer (some ⟨b50, o51, none⟩)) rfl (by kernel_rfl) rfl rfl ie55 rfl ?_
        refine dq.c (v := .pointer (some ⟨b50, o51, none⟩)) rfl (by kernel_rfl) rfl rfl (by kernel_rfl) rfl ?_
        refine dq.g (v := .string (x57.1)) rfl (by kernel_rfl) rfl rfl (ld1 (P := Tryz.prog) (t := 9) (p := o51 + 0) (v := .string (x57.1)) (by kernel_rfl) (by kernel_rfl) hb52 (hc53 0 _ rfl)) rfl ?_
        refine dq.c (v := .string (z ++ x57.1)) rfl (by kernel_rfl) rfl rfl (add_str (a := z) (b := x57.1) (by (try simp only [add_len, l1, l2, strB_len, List.length_cons, List.length_nil]); omega)) rfl ?_
        refine dq.c (v := .string ((z ++ x57.1) ++ (⟨#[61]⟩ : ByteArray))) rfl (by kernel_rfl) rfl rfl (add_str (a := (z ++ x57.1)) (b := (⟨#[61]⟩ : ByteArray)) (by (try simp only [add_len, l1, l2, strB_len, List.length_cons, List.length_nil]); omega)) rfl ?_
        have e_b50_n4 : b50 ≠ n4 := hf.ne hb52
        have z_n4 : h.get n4 = none := hf0 _ hn
        refine dq.op rfl (by kernel_rfl) rfl rfl (Does.build (e := 5) (cs := [.int .u8 (34)]) hf (fun _ _ => by kernel_rfl)) (by simp) ?_
        rintro _ h59 n60 ⟨rfl, hb58⟩ s61 hn2 hf
        refine dq.w ?_
        have hs := hs.trans s61
        have hn := Nat.le_trans hn hn2
        refine dq.g (v := .string (strB [34])) rfl (by kernel_rfl) rfl rfl (strOf_row (P := Tryz.prog) (a := 42) (b := 9) (e := 5) (v := .slice (some ⟨n4, 0, none⟩) (1) (1)) (bs := [34]) (by kernel_rfl) (by kernel_rfl) (by kernel_rfl) (by kernel_rfl) (IsRow.of (E := encByte) (xs := [34]) (cap := 1) hb58 (Nat.le_refl _))) rfl ?_
        refine dq.c (v := .string ((z ++ x57.1) ++ (⟨#[61]⟩ : ByteArray) ++ (strB [34]))) rfl (by kernel_rfl) rfl rfl (add_str (a := (z ++ x57.1) ++ (⟨#[61]⟩ : ByteArray)) (b := (strB [34])) (by (try simp only [add_len, l1, l2, strB_len, List.length_cons, List.length_nil]); omega)) rfl ?_
        refine dq.c (v := .string ((z ++ x57.1) ++ (⟨#[61]⟩ : ByteArray) ++ (strB [34]))) rfl (by kernel_rfl) rfl rfl rfl rfl ?_
        refine dq.e (AWp.seq (AWp.rowV (l := _) pok ?_))
        refine sq.c (v := .slice a (ls.length) cp) rfl rfl rfl rfl ?_
        refine sq.c (v := .int .i64 (i)) rfl rfl rfl rfl ?_
        have i68 : (0 : Int) ≤ (i : Int) := by omega
        obtain ⟨b62, o63, cs_b62, ow_b62, ci_b62, ie67, hb64, hc65, hr66⟩ := IsRow.at (P := Tryz.prog) (t := 22) (e := 40) (k := .i64) (by kernel_rfl) (by kernel_rfl) (hl.keep hs) i68 hx_x57
        refine sq.c (v := .pointer (some ⟨b62, o63, none⟩)) rfl rfl ie67 rfl ?_
        refine sq.c (v := .pointer (some ⟨b62, o63 + 1, none⟩)) rfl rfl (by kernel_rfl) rfl ?_
        refine sq.c (v := .string (x57.2)) rfl rfl (ld1 (P := Tryz.prog) (t := 9) (p := o63 + 1) (v := .string (x57.2)) (by kernel_rfl) (by kernel_rfl) hb64 (hc65 1 _ rfl)) rfl ?_
        refine sq.c (v := .string (x57.2)) rfl rfl rfl rfl ?_
        refine sq.e (AWp.seq (AWp.seq (AWp.rowV (l := _) pok ?_)))
        refine sq.c (v := .int .i64 (0)) rfl rfl rfl rfl ?_
        refine sq.e (AWp.block ?_)
        refine AWp.loopV (fun d vs h70 n71 => ∃ (y : ByteArray) (p : Int) (ds : List (Nat × Nat)), d = ((x57.2.data.toList.length : Nat) - p + 1).toNat ∧ SubBut h h70 ([]) ∧ n ≤ n71 ∧ Free h70 n71 ∧ h70.get n4 = some (.cells [.int .u8 (34)] true ⟨5, 0, true⟩) ∧ (0 ≤ p) ∧ (p ≤ ((x57.2.data.toList.length : Nat) : Int)) ∧ ((y.data.toList.length : Int) ≤ 70100 * i + 5010 + 13 * p) ∧ (decs x57.2.data.toList = ds ++ decs (x57.2.data.toList.drop p.toNat)) ∧ (y = strB (preB ls i.toNat x57 ++ qV ds)) ∧ ∃ y69 : Nat → Value, vs = [.slice a (ls.length) cp, undef, .string (⟨#[]⟩), .int .i64 (0), .string (y), .int .i64 (i), .string (x57.2), .int .i64 (p), (y69 8), (y69 9), .slice a (ls.length) cp, .bool true, .bool false, .int .i64 (i), .slice a (ls.length) cp, .int .i64 (((ls.length : Nat) : Int)), .bool true, (y2 17), (y2 18), .int .i64 (i), .bool false, (y2 21), (y2 22), .string (z), .slice a (ls.length) cp, .int .i64 (i), .pointer (some ⟨b50, o51, none⟩), .pointer (some ⟨b50, o51, none⟩), .string (x57.1), .string (z ++ x57.1), .string ((z ++ x57.1) ++ (⟨#[61]⟩ : ByteArray)), .slice (some ⟨n4, 0, none⟩) (1) (1), .string (strB [34]), .string ((z ++ x57.1) ++ (⟨#[61]⟩ : ByteArray) ++ (strB [34])), .slice a (ls.length) cp, .int .i64 (i), .pointer (some ⟨b62, o63, none⟩), .pointer (some ⟨b62, o63 + 1, none⟩), .string (x57.2), (y69 39), (y69 40), (y69 41), (y69 42), (y69 43), (y69 44), (y69 45), (y69 46), (y69 47), (y69 48), (y69 49), (y69 50), (y69 51), (y69 52), (y69 53), (y69 54), (y69 55), (y69 56), (y69 57), (y69 58), (y69 59), (y69 60), (y69 61), (y69 62), (y69 63), (y69 64), (y69 65), (y69 66), (y69 67), (y69 68), (y69 69), (y69 70), (y69 71), (y69 72), (y69 73), (y69 74), (y69 75), (y69 76), (y69 77), (y69 78), (y69 79), (y69 80), (y69 81), (y2 82), (y2 83), (y2 84), (y2 85), undef, undef]) (((x57.2.data.toList.length : Nat) - (0 : Int) + 1).toNat) ⟨(z ++ x57.1) ++ (⟨#[61]⟩ : ByteArray) ++ (strB [34]), 0, [], rfl, hs, hn, hf, hb58, (by omega), (by omega), (by (try simp only [add_len, l1, l2, strB_len, List.length_cons, List.length_nil]); omega), (rfl), (pre_first hq (by omega)), getV [undef, undef, undef, undef, undef, undef, undef, undef, (y2 8), (y2 9), undef, undef, undef, undef, undef, undef, undef, undef, undef, undef, undef, undef, undef, undef, undef, undef, undef, undef, undef, undef, undef, undef, undef, undef, undef, undef, undef, undef, undef, (y2 39), (y2 40), (y2 41), (y2 42), (y2 43), (y2 44), (y2 45), (y2 46), (y2 47), (y2 48), (y2 49), (y2 50), (y2 51), (y2 52), (y2 53), (y2 54), (y2 55), (y2 56), (y2 57), (y2 58), (y2 59), (y2 60), (y2 61), (y2 62), (y2 63), (y2 64), (y2 65), (y2 66), (y2 67), (y2 68), (y2 69), (y2 70), (y2 71), (y2 72), (y2 73), (y2 74), (y2 75), (y2 76), (y2 77), (y2 78), (y2 79), (y2 80), (y2 81)], rfl⟩ ?_
        rintro d vs h70 n71 ⟨y, p, ds, rfl, hs, hn, hf, hb58, hp0, hp1, hyl, hr, hy, y69, rfl⟩
        refine AWp.seq (AWp.seq (AWp.rowV (l := _) pok ?_))
        refine sq.c (v := .int .i64 (p)) rfl rfl rfl rfl ?_
        refine sq.c (v := .string (x57.2)) rfl rfl rfl rfl ?_
        refine sq.c (v := .int .i64 ((((x57.2).data.toList.length : Nat) : Int))) rfl rfl (by kernel_rfl) rfl ?_
        refine sq.c (v := .bool (decide (p < ((((x57.2).data.toList.length : Nat) : Int))))) rfl rfl rfl rfl ?_
        refine sq.e ?_
        by_cases c12_3 : p < ((((x57.2).data.toList.length : Nat) : Int))
        · rw [decide_eq_true c12_3]
          refine AWp.condT rfl rfl ?_
          refine AWp.skip (AWp.block (AWp.seq (AWp.rowV (l := _) pok ?_)))
          refine sq.c (v := .string (x57.2)) rfl rfl rfl rfl ?_
          refine sq.c (v := .int .i64 (p)) rfl rfl rfl rfl ?_
          refine sq.c (v := .string (sub (x57.2) (p) ((((x57.2).data.toList.length : Nat) : Int)))) rfl rfl (slice_str (P := Tryz.prog) (h := h70) (t := 9) (s := x57.2) (l := p) (u := (((x57.2).data.toList.length : Nat) : Int)) (by kernel_rfl) (.inr ⟨_, rfl⟩) (.inl ⟨rfl, rfl⟩) (by omega) (by omega) (by omega)) rfl ?_
          refine sq.t (v := .tuple #[.int .i64 (rC (x57.2.data.toList.drop p.toNat)), .int .i64 (rN (x57.2.data.toList.drop p.toNat))]) rfl (CallsF.fn rfl (by kernel_rfl) rfl rfl) (fun hf => f40_dr (by omega) hp0 c12_3) hf rfl ?_
          intro n72 hn2 hf
          have hn := Nat.le_trans hn hn2
          obtain ⟨d, hd1, hd2, hd3, hd4, hd5, hd6, hd7, hd8, hd9⟩ := rune_next (may_val c_m hx_x57) hr hp0 c12_3
          refine sq.c (v := .tuple #[.int .i64 (rC (x57.2.data.toList.drop p.toNat)), .int .i64 (rN (x57.2.data.toList.drop p.toNat))]) rfl rfl rfl rfl ?_
          refine sq.c (v := .int .i64 (rC (x57.2.data.toList.drop p.toNat))) rfl rfl rfl rfl ?_
          refine sq.c (v := .int .i64 (rN (x57.2.data.toList.drop p.toNat))) rfl rfl rfl rfl ?_
          refine sq.c (v := .int .i64 (rC (x57.2.data.toList.drop p.toNat))) rfl rfl rfl rfl ?_
          refine sq.c (v := .int .i64 (rN (x57.2.data.toList.drop p.toNat))) rfl rfl rfl rfl ?_
          refine sq.e (AWp.seq (AWp.seq (AWp.rowV (l := _) pok ?_)))
          refine sq.c (v := .int .i64 (rC (x57.2.data.toList.drop p.toNat))) rfl rfl rfl rfl ?_
          refine sq.c (v := .bool (decide ((rC (x57.2.data.toList.drop p.toNat)) = (34 : Int)))) rfl rfl rfl rfl ?_
          refine sq.c (v := .bool (decide ((rC (x57.2.data.toList.drop p.toNat)) = (34 : Int)))) rfl rfl rfl rfl ?_
          by_cases c14_1 : (rC (x57.2.data.toList.drop p.toNat)) = (34 : Int)
          · rw [decide_eq_true c14_1]
            refine sq.s (wantF (g := 2) (d := 52) rfl rfl rfl) rfl ?_
            refine sq.s (wantF (g := 2) (d := 52) rfl rfl rfl) rfl ?_
            refine sq.c (v := .bool true) rfl rfl rfl rfl ?_
            refine sq.e ?_
            refine AWp.condT rfl rfl ?_
            refine AWp.rowV (l := _) pok ?_
            refine sq.c (v := .string (y)) rfl rfl rfl rfl ?_
            have e_n4_n72 : n4 ≠ n72 := hf.ne hb58
            have z_n72 : h.get n72 = none := hf0 _ hn
            refine sq.op rfl rfl (Does.build (e := 5) (cs := [.int .u8 (92)]) hf (fun _ _ => by kernel_rfl)) ?_
            rintro _ h74 n75 ⟨rfl, hb73⟩ s76 hn2 hf
            refine sq.w ?_
            have hb58 := s76.sub _ _ hb58
            have hs := hs.trans s76
            have hn := Nat.le_trans hn hn2
            refine sq.c (v := .string (strB [92])) rfl rfl (strOf_row (P := Tryz.prog) (a := 42) (b := 9) (e := 5) (v := .slice (some ⟨n72, 0, none⟩) (1) (1)) (bs := [92]) (by kernel_rfl) (by kernel_rfl) (by kernel_rfl) (by kernel_rfl) (IsRow.of (E := encByte) (xs := [92]) (cap := 1) hb73 (Nat.le_refl _))) rfl ?_
            refine sq.c (v := .string (y ++ (strB [92]))) rfl rfl (add_str (a := y) (b := (strB [92])) (by (try simp only [add_len, l1, l2, strB_len, List.length_cons, List.length_nil]); omega)) rfl ?_
            refine sq.c (v := .string (y ++ (strB [92]))) rfl rfl rfl rfl ?_
            refine sq.e (AWp.seq (AWp.seq (AWp.rowV (l := _) pok ?_)))
            refine sq.c (v := .int .i64 (rC (x57.2.data.toList.drop p.toNat))) rfl rfl rfl rfl ?_
            refine sq.c (v := .bool (decide ((126 : Int) < (rC (x57.2.data.toList.drop p.toNat))))) rfl rfl rfl rfl ?_
            refine sq.e ?_
            by_cases c16_1 : (126 : Int) < (rC (x57.2.data.toList.drop p.toNat))
            · exfalso
              omega
            · rw [decide_eq_false c16_1]
              refine AWp.condF rfl rfl ?_
              refine AWp.rowV (l := _) pok ?_
              refine sq.c (v := .string (y ++ (strB [92]))) rfl rfl rfl rfl ?_
              refine sq.c (v := .string (x57.2)) rfl rfl rfl rfl ?_
              refine sq.c (v := .int .i64 (p)) rfl rfl rfl rfl ?_
              refine sq.c (v := .int .i64 (p)) rfl rfl rfl rfl ?_
              refine sq.c (v := .int .i64 (rN (x57.2.data.toList.drop p.toNat))) rfl rfl rfl rfl ?_
              refine sq.c (v := .int .i64 (p + (rN (x57.2.data.toList.drop p.toNat)))) rfl rfl (okI (wrap_i64 (by omega) (by omega))) rfl ?_
              refine sq.c (v := .string (sub (x57.2) (p) (p + (rN (x57.2.data.toList.drop p.toNat))))) rfl rfl (slice_str (P := Tryz.prog) (h := h74) (t := 9) (s := x57.2) (l := p) (u := p + (rN (x57.2.data.toList.drop p.toNat))) (by kernel_rfl) (.inr ⟨_, rfl⟩) (.inr ⟨_, rfl⟩) (by omega) (by omega) (by omega)) rfl ?_
              have hsl := congrArg (fun z : ByteArray => z.data.toList.length) hd5
              simp only [strB_len] at hsl
              refine sq.c (v := .string ((y ++ (strB [92])) ++ (sub (x57.2) (p) (p + (rN (x57.2.data.toList.drop p.toNat)))))) rfl rfl (add_str (a := (y ++ (strB [92]))) (b := (sub (x57.2) (p) (p + (rN (x57.2.data.toList.drop p.toNat))))) (by (try simp only [add_len, l1, l2, strB_len, List.length_cons, List.length_nil]); omega)) rfl ?_
              refine sq.c (v := .string ((y ++ (strB [92])) ++ (sub (x57.2) (p) (p + (rN (x57.2.data.toList.drop p.toNat)))))) rfl rfl rfl rfl ?_
              refine sq.e (AWp.rowV (l := _) pok ?_)
              refine sq.c (v := .int .i64 (p)) rfl rfl rfl rfl ?_
              refine sq.c (v := .int .i64 (rN (x57.2.data.toList.drop p.toNat))) rfl rfl rfl rfl ?_
              refine sq.c (v := .int .i64 (p + (rN (x57.2.data.toList.drop p.toNat)))) rfl rfl (okI (wrap_i64 (by omega) (by omega))) rfl ?_
              refine sq.c (v := .int .i64 (p + (rN (x57.2.data.toList.drop p.toNat)))) rfl rfl rfl rfl ?_
              refine sq.e ?_
              refine ⟨_, _, rfl, by omega, (y ++ (strB [92])) ++ (sub (x57.2) (p) (p + (rN (x57.2.data.toList.drop p.toNat)))), p + rN (x57.2.data.toList.drop p.toNat), ds ++ [d], rfl, hs, hn, hf, hb58, (by omega), (by omega), (by (try simp only [add_len, l1, l2, strB_len, List.length_cons, List.length_nil]); omega), (hd4), (run_esc hy (by omega) hd5), getV [undef, undef, undef, undef, undef, undef, undef, undef, .int .i64 (rC (x57.2.data.toList.drop p.toNat)), .int .i64 (rN (x57.2.data.toList.drop p.toNat)), undef, undef, undef, undef, undef, undef, undef, undef, undef, undef, undef, undef, undef, undef, undef, undef, undef, undef, undef, undef, undef, undef, undef, undef, undef, undef, undef, undef, undef, .int .i64 (p), .string (x57.2), .int .i64 ((((x57.2).data.toList.length : Nat) : Int)), .bool true, .tuple #[.int .i64 (rC (x57.2.data.toList.drop p.toNat)), .int .i64 (rN (x57.2.data.toList.drop p.toNat))], .string (x57.2), .int .i64 (p), .string (sub (x57.2) (p) ((((x57.2).data.toList.length : Nat) : Int))), .tuple #[.int .i64 (rC (x57.2.data.toList.drop p.toNat)), .int .i64 (rN (x57.2.data.toList.drop p.toNat))], .int .i64 (rC (x57.2.data.toList.drop p.toNat)), .int .i64 (rN (x57.2.data.toList.drop p.toNat)), .int .i64 (rC (x57.2.data.toList.drop p.toNat)), .bool true, .bool true, undef, undef, .bool true, .string (y), .slice (some ⟨n72, 0, none⟩) (1) (1), .string (strB [92]), .string (y ++ (strB [92])), .int .i64 (rC (x57.2.data.toList.drop p.toNat)), .bool false, (y69 62), (y69 63), (y69 64), (y69 65), (y69 66), (y69 67), (y69 68), (y69 69), (y69 70), .string (y ++ (strB [92])), .string (x57.2), .int .i64 (p), .int .i64 (p), .int .i64 (rN (x57.2.data.toList.drop p.toNat)), .int .i64 (p + (rN (x57.2.data.toList.drop p.toNat))), .string (sub (x57.2) (p) (p + (rN (x57.2.data.toList.drop p.toNat)))), .string ((y ++ (strB [92])) ++ (sub (x57.2) (p) (p + (rN (x57.2.data.toList.drop p.toNat))))), .int .i64 (p), .int .i64 (rN (x57.2.data.toList.drop p.toNat)), .int .i64 (p + (rN (x57.2.data.toList.drop p.toNat)))], rfl⟩
          · rw [decide_eq_false c14_1]
            refine sq.c (v := .int .i64 (rC (x57.2.data.toList.drop p.toNat))) (wantT (g := 2) (d := 52) rfl rfl rfl) rfl rfl rfl ?_
            refine sq.c (v := .bool (decide ((rC (x57.2.data.toList.drop p.toNat)) = (92 : Int)))) (wantT (g := 2) (d := 52) rfl rfl rfl) rfl rfl rfl ?_
            refine sq.c (v := .bool (decide ((rC (x57.2.data.toList.drop p.toNat)) = (92 : Int)))) rfl rfl rfl rfl ?_
            refine sq.e ?_
            by_cases c14_4 : (rC (x57.2.data.toList.drop p.toNat)) = (92 : Int)
            · rw [decide_eq_true c14_4]
              refine AWp.condT rfl rfl ?_
              refine AWp.rowV (l := _) pok ?_
              refine sq.c (v := .string (y)) rfl rfl rfl rfl ?_
              have e_n4_n72 : n4 ≠ n72 := hf.ne hb58
              have z_n72 : h.get n72 = none := hf0 _ hn
              refine sq.op rfl rfl (Does.build (e := 5) (cs := [.int .u8 (92)]) hf (fun _ _ => by kernel_rfl)) ?_
              rintro _ h78 n79 ⟨rfl, hb77⟩ s80 hn2 hf
              refine sq.w ?_
              have hb58 := s80.sub _ _ hb58
              have hs := hs.trans s80
              have hn := Nat.le_trans hn hn2
              refine sq.c (v := .string (strB [92])) rfl rfl (strOf_row (P := Tryz.prog) (a := 42) (b := 9) (e := 5) (v := .slice (some ⟨n72, 0, none⟩) (1) (1)) (bs := [92]) (by kernel_rfl) (by kernel_rfl) (by kernel_rfl) (by kernel_rfl) (IsRow.of (E := encByte) (xs := [92]) (cap := 1) hb77 (Nat.le_refl _))) rfl ?_
              refine sq.c (v := .string (y ++ (strB [92]))) rfl rfl (add_str (a := y) (b := (strB [92])) (by (try simp only [add_len, l1, l2, strB_len, List.length_cons, List.length_nil]); omega)) rfl ?_
              refine sq.c (v := .string (y ++ (strB [92]))) rfl rfl rfl rfl ?_
              refine sq.e (AWp.seq (AWp.seq (AWp.rowV (l := _) pok ?_)))
              refine sq.c (v := .int .i64 (rC (x57.2.data.toList.drop p.toNat))) rfl rfl rfl rfl ?_
              refine sq.c (v := .bool (decide ((126 : Int) < (rC (x57.2.data.toList.drop p.toNat))))) rfl rfl rfl rfl ?_
              refine sq.e ?_
              by_cases c16_1 : (126 : Int) < (rC (x57.2.data.toList.drop p.toNat))
              · exfalso
                omega
              · rw [decide_eq_false c16_1]
                refine AWp.condF rfl rfl ?_
                refine AWp.rowV (l := _) pok ?_
                refine sq.c (v := .string (y ++ (strB [92]))) rfl rfl rfl rfl ?_
                refine sq.c (v := .string (x57.2)) rfl rfl rfl rfl ?_
                refine sq.c (v := .int .i64 (p)) rfl rfl rfl rfl ?_
                refine sq.c (v := .int .i64 (p)) rfl rfl rfl rfl ?_
                refine sq.c (v := .int .i64 (rN (x57.2.data.toList.drop p.toNat))) rfl rfl rfl rfl ?_
                refine sq.c (v := .int .i64 (p + (rN (x57.2.data.toList.drop p.toNat)))) rfl rfl (okI (wrap_i64 (by omega) (by omega))) rfl ?_
                refine sq.c (v := .string (sub (x57.2) (p) (p + (rN (x57.2.data.toList.drop p.toNat))))) rfl rfl (slice_str (P := Tryz.prog) (h := h78) (t := 9) (s := x57.2) (l := p) (u := p + (rN (x57.2.data.toList.drop p.toNat))) (by kernel_rfl) (.inr ⟨_, rfl⟩) (.inr ⟨_, rfl⟩) (by omega) (by omega) (by omega)) rfl ?_
                have hsl := congrArg (fun z : ByteArray => z.data.toList.length) hd5
                simp only [strB_len] at hsl
                refine sq.c (v := .string ((y ++ (strB [92])) ++ (sub (x57.2) (p) (p + (rN (x57.2.data.toList.drop p.toNat)))))) rfl rfl (add_str (a := (y ++ (strB [92]))) (b := (sub (x57.2) (p) (p + (rN (x57.2.data.toList.drop p.toNat))))) (by (try simp only [add_len, l1, l2, strB_len, List.length_cons, List.length_nil]); omega)) rfl ?_
                refine sq.c (v := .string ((y ++ (strB [92])) ++ (sub (x57.2) (p) (p + (rN (x57.2.data.toList.drop p.toNat)))))) rfl rfl rfl rfl ?_
                refine sq.e (AWp.rowV (l := _) pok ?_)
                refine sq.c (v := .int .i64 (p)) rfl rfl rfl rfl ?_
                refine sq.c (v := .int .i64 (rN (x57.2.data.toList.drop p.toNat))) rfl rfl rfl rfl ?_
                refine sq.c (v := .int .i64 (p + (rN (x57.2.data.toList.drop p.toNat)))) rfl rfl (okI (wrap_i64 (by omega) (by omega))) rfl ?_
                refine sq.c (v := .int .i64 (p + (rN (x57.2.data.toList.drop p.toNat)))) rfl rfl rfl rfl ?_
                refine sq.e ?_
                refine ⟨_, _, rfl, by omega, (y ++ (strB [92])) ++ (sub (x57.2) (p) (p + (rN (x57.2.data.toList.drop p.toNat)))), p + rN (x57.2.data.toList.drop p.toNat), ds ++ [d], rfl, hs, hn, hf, hb58, (by omega), (by omega), (by (try simp only [add_len, l1, l2, strB_len, List.length_cons, List.length_nil]); omega), (hd4), (run_esc hy (by omega) hd5), getV [undef, undef, undef, undef, undef, undef, undef, undef, .int .i64 (rC (x57.2.data.toList.drop p.toNat)), .int .i64 (rN (x57.2.data.toList.drop p.toNat)), undef, undef, undef, undef, undef, undef, undef, undef, undef, undef, undef, undef, undef, undef, undef, undef, undef, undef, undef, undef, undef, undef, undef, undef, undef, undef, undef, undef, undef, .int .i64 (p), .string (x57.2), .int .i64 ((((x57.2).data.toList.length : Nat) : Int)), .bool true, .tuple #[.int .i64 (rC (x57.2.data.toList.drop p.toNat)), .int .i64 (rN (x57.2.data.toList.drop p.toNat))], .string (x57.2), .int .i64 (p), .string (sub (x57.2) (p) ((((x57.2).data.toList.length : Nat) : Int))), .tuple #[.int .i64 (rC (x57.2.data.toList.drop p.toNat)), .int .i64 (rN (x57.2.data.toList.drop p.toNat))], .int .i64 (rC (x57.2.data.toList.drop p.toNat)), .int .i64 (rN (x57.2.data.toList.drop p.toNat)), .int .i64 (rC (x57.2.data.toList.drop p.toNat)), .bool false, .bool false, .int .i64 (rC (x57.2.data.toList.drop p.toNat)), .bool true, .bool true, .string (y), .slice (some ⟨n72, 0, none⟩) (1) (1), .string (strB [92]), .string (y ++ (strB [92])), .int .i64 (rC (x57.2.data.toList.drop p.toNat)), .bool false, (y69 62), (y69 63), (y69 64), (y69 65), (y69 66), (y69 67), (y69 68), (y69 69), (y69 70), .string (y ++ (strB [92])), .string (x57.2), .int .i64 (p), .int .i64 (p), .int .i64 (rN (x57.2.data.toList.drop p.toNat)), .int .i64 (p + (rN (x57.2.data.toList.drop p.toNat))), .string (sub (x57.2) (p) (p + (rN (x57.2.data.toList.drop p.toNat)))), .string ((y ++ (strB [92])) ++ (sub (x57.2) (p) (p + (rN (x57.2.data.toList.drop p.toNat))))), .int .i64 (p), .int .i64 (rN (x57.2.data.toList.drop p.toNat)), .int .i64 (p + (rN (x57.2.data.toList.drop p.toNat)))], rfl⟩
            · rw [decide_eq_false c14_4]
              refine AWp.condF rfl rfl ?_
              refine AWp.skip (AWp.seq (AWp.seq (AWp.rowV (l := _) pok ?_)))
              refine sq.c (v := .int .i64 (rC (x57.2.data.toList.drop p.toNat))) rfl rfl rfl rfl ?_
              refine sq.c (v := .bool (decide ((126 : Int) < (rC (x57.2.data.toList.drop p.toNat))))) rfl rfl rfl rfl ?_
              refine sq.e ?_
              by_cases c16_1 : (126 : Int) < (rC (x57.2.data.toList.drop p.toNat))
              · rw [decide_eq_true c16_1]
                refine AWp.condT rfl rfl ?_
                refine AWp.anyT pok (.s 0 (.s 5 (.f 1 6 (.s 2 (.s 3 (.s 4 (.s 6 (.s 7 (.s 8 (.s 9 .e))))))) (.s 1 (.s 2 (.s 3 (.s 4 (.s 7 (.s 8 (.s 9 .e)))))))))) (by kernel_rfl) (by kernel_rfl) rfl (fun x fr fr' h n hd _ q => ⟨hd ▸ q.1, q.2⟩) ?_
                refine dt.c (v := .string (y)) rfl (by kernel_rfl) rfl rfl rfl rfl ?_
                refine dt.c (v := .int .i64 (rC (x57.2.data.toList.drop p.toNat))) rfl (by kernel_rfl) rfl rfl rfl rfl ?_
                refine dt.f rfl (by kernel_rfl) rfl (by kernel_rfl) ?_ ?_
                · skip
                  have e_n4_n72 : n4 ≠ n72 := hf.ne hb58
                  have z_n72 : h.get n72 = none := hf0 _ hn
                  refine dt.op rfl (by kernel_rfl) rfl rfl (Does.build (e := 5) (cs := [.int .u8 (92)]) hf (fun _ _ => by kernel_rfl)) keepN ?_
                  rintro _ h82 n83 ⟨rfl, hb81⟩ s84 hn2 hf
                  refine dt.w ?_
                  have hb58 := s84.sub _ _ hb58
                  have hs := hs.trans s84
                  have hn := Nat.le_trans hn hn2
                  refine dt.gB (v := .string (strB [92])) n72 rfl (by kernel_rfl) rfl rfl (fun _ q_ => (strOf_row (P := Tryz.prog) (a := 42) (b := 9) (e := 5) (v := .slice (some ⟨n72, 0, none⟩) (1) (1)) (bs := [92]) (by kernel_rfl) (by kernel_rfl) (by kernel_rfl) (by kernel_rfl) (IsRow.of (E := encByte) (xs := [92]) (cap := 1) (q_ _ hb81) (Nat.le_refl _)))) rfl ?_
                  refine dt.c (v := .string (y ++ (strB [92]))) rfl (by kernel_rfl) rfl rfl (add_str (a := y) (b := (strB [92])) (by (try simp only [add_len, l1, l2, strB_len, List.length_cons, List.length_nil]); omega)) rfl ?_
                  refine dt.c (v := .string ((y ++ (strB [92])) ++ (⟨#[117, 123]⟩ : ByteArray))) rfl (by kernel_rfl) rfl rfl (add_str (a := (y ++ (strB [92]))) (b := (⟨#[117, 123]⟩ : ByteArray)) (by (try simp only [add_len, l1, l2, strB_len, List.length_cons, List.length_nil]); omega)) rfl ?_
                  refine dt.t (v := .string (strB (hexL (rC (x57.2.data.toList.drop p.toNat)).toNat))) rfl (by kernel_rfl) rfl (CallsF.fn rfl (by kernel_rfl) rfl rfl) (fun hf => f41_spec _ (rC (x57.2.data.toList.drop p.toNat)) rfl (by omega) (by omega) _ _) hf rfl ?_
                  intro n85 hn2 hf
                  have hn := Nat.le_trans hn hn2
                  have hdt : (rC (x57.2.data.toList.drop p.toNat)).toNat = d.1 := by omega
                  refine dt.c (v := .string ((y ++ (strB [92])) ++ (⟨#[117, 123]⟩ : ByteArray) ++ (strB (hexL (rC (x57.2.data.toList.drop p.toNat)).toNat)))) rfl (by kernel_rfl) rfl rfl (add_str (a := (y ++ (strB [92])) ++ (⟨#[117, 123]⟩ : ByteArray)) (b := (strB (hexL (rC (x57.2.data.toList.drop p.toNat)).toNat))) (by (try simp only [add_len, l1, l2, strB_len, List.length_cons, List.length_nil]); rw [hdt]; omega)) rfl ?_
                  refine dt.c (v := .string ((y ++ (strB [92])) ++ (⟨#[117, 123]⟩ : ByteArray) ++ (strB (hexL (rC (x57.2.data.toList.drop p.toNat)).toNat)) ++ (⟨#[125]⟩ : ByteArray))) rfl (by kernel_rfl) rfl rfl (add_str (a := (y ++ (strB [92])) ++ (⟨#[117, 123]⟩ : ByteArray) ++ (strB (hexL (rC (x57.2.data.toList.drop p.toNat)).toNat))) (b := (⟨#[125]⟩ : ByteArray)) (by (try simp only [add_len, l1, l2, strB_len, List.length_cons, List.length_nil]); rw [hdt]; omega)) rfl ?_
                  refine dt.c (v := .string ((y ++ (strB [92])) ++ (⟨#[117, 123]⟩ : ByteArray) ++ (strB (hexL (rC (x57.2.data.toList.drop p.toNat)).toNat)) ++ (⟨#[125]⟩ : ByteArray))) rfl (by kernel_rfl) rfl rfl rfl rfl ?_
                  refine dt.e (AWp.rowV (l := _) pok ?_)
                  refine sq.c (v := .int .i64 (p)) rfl rfl rfl rfl ?_
                  refine sq.c (v := .int .i64 (rN (x57.2.data.toList.drop p.toNat))) rfl rfl rfl rfl ?_
                  refine sq.c (v := .int .i64 (p + (rN (x57.2.data.toList.drop p.toNat)))) rfl rfl (okI (wrap_i64 (by omega) (by omega))) rfl ?_
                  refine sq.c (v := .int .i64 (p + (rN (x57.2.data.toList.drop p.toNat)))) rfl rfl rfl rfl ?_
                  refine sq.e ?_
                  refine ⟨_, _, rfl, by omega, (y ++ (strB [92])) ++ (⟨#[117, 123]⟩ : ByteArray) ++ (strB (hexL (rC (x57.2.data.toList.drop p.toNat)).toNat)) ++ (⟨#[125]⟩ : ByteArray), p + rN (x57.2.data.toList.drop p.toNat), ds ++ [d], rfl, hs, hn, hf, hb58, (by omega), (by omega), (by (try simp only [add_len, l1, l2, strB_len, List.length_cons, List.length_nil]); rw [hdt]; omega), (hd4), (by rw [hdt]; exact run_hex hy (by omega)), getV [undef, undef, undef, undef, undef, undef, undef, undef, .int .i64 (rC (x57.2.data.toList.drop p.toNat)), .int .i64 (rN (x57.2.data.toList.drop p.toNat)), undef, undef, undef, undef, undef, undef, undef, undef, undef, undef, undef, undef, undef, undef, undef, undef, undef, undef, undef, undef, undef, undef, undef, undef, undef, undef, undef, undef, undef, .int .i64 (p), .string (x57.2), .int .i64 ((((x57.2).data.toList.length : Nat) : Int)), .bool true, .tuple #[.int .i64 (rC (x57.2.data.toList.drop p.toNat)), .int .i64 (rN (x57.2.data.toList.drop p.toNat))], .string (x57.2), .int .i64 (p), .string (sub (x57.2) (p) ((((x57.2).data.toList.length : Nat) : Int))), .tuple #[.int .i64 (rC (x57.2.data.toList.drop p.toNat)), .int .i64 (rN (x57.2.data.toList.drop p.toNat))], .int .i64 (rC (x57.2.data.toList.drop p.toNat)), .int .i64 (rN (x57.2.data.toList.drop p.toNat)), .int .i64 (rC (x57.2.data.toList.drop p.toNat)), .bool false, .bool false, .int .i64 (rC (x57.2.data.toList.drop p.toNat)), .bool false, .bool false, (y69 56), (y69 57), (y69 58), (y69 59), .int .i64 (rC (x57.2.data.toList.drop p.toNat)), .bool true, .string (y), .slice (some ⟨n72, 0, none⟩) (1) (1), .string (strB [92]), .string (y ++ (strB [92])), .string ((y ++ (strB [92])) ++ (⟨#[117, 123]⟩ : ByteArray)), .int .i64 (rC (x57.2.data.toList.drop p.toNat)), .string (strB (hexL (rC (x57.2.data.toList.drop p.toNat)).toNat)), .string ((y ++ (strB [92])) ++ (⟨#[117, 123]⟩ : ByteArray) ++ (strB (hexL (rC (x57.2.data.toList.drop p.toNat)).toNat))), .string ((y ++ (strB [92])) ++ (⟨#[117, 123]⟩ : ByteArray) ++ (strB (hexL (rC (x57.2.data.toList.drop p.toNat)).toNat)) ++ (⟨#[125]⟩ : ByteArray)), (y69 71), (y69 72), (y69 73), (y69 74), (y69 75), (y69 76), (y69 77), (y69 78), .int .i64 (p), .int .i64 (rN (x57.2.data.toList.drop p.toNat)), .int .i64 (p + (rN (x57.2.data.toList.drop p.toNat)))], rfl⟩
                · skip
                  refine dt.t (v := .string (strB (hexL (rC (x57.2.data.toList.drop p.toNat)).toNat))) rfl (by kernel_rfl) rfl (CallsF.fn rfl (by kernel_rfl) rfl rfl) (fun hf => f41_spec _ (rC (x57.2.data.toList.drop p.toNat)) rfl (by omega) (by omega) _ _) hf rfl ?_
                  intro n86 hn2 hf
                  have hn := Nat.le_trans hn hn2
                  have hdt : (rC (x57.2.data.toList.drop p.toNat)).toNat = d.1 := by omega
                  have e_n4_n86 : n4 ≠ n86 := hf.ne hb58
                  have z_n86 : h.get n86 = none := hf0 _ hn
                  refine dt.op rfl (by kernel_rfl) rfl rfl (Does.build (e := 5) (cs := [.int .u8 (92)]) hf (fun _ _ => by kernel_rfl)) keepN ?_
                  rintro _ h88 n89 ⟨rfl, hb87⟩ s90 hn2 hf
                  refine dt.w ?_
                  have hb58 := s90.sub _ _ hb58
                  have hs := hs.trans s90
                  have hn := Nat.le_trans hn hn2
                  refine dt.gB (v := .string (strB [92])) n86 rfl (by kernel_rfl) rfl rfl (fun _ q_ => (strOf_row (P := Tryz.prog) (a := 42) (b := 9) (e := 5) (v := .slice (some ⟨n86, 0, none⟩) (1) (1)) (bs := [92]) (by kernel_rfl) (by kernel_rfl) (by kernel_rfl) (by kernel_rfl) (IsRow.of (E := encByte) (xs := [92]) (cap := 1) (q_ _ hb87) (Nat.le_refl _)))) rfl ?_
                  refine dt.c (v := .string (y ++ (strB [92]))) rfl (by kernel_rfl) rfl rfl (add_str (a := y) (b := (strB [92])) (by (try simp only [add_len, l1, l2, strB_len, List.length_cons, List.length_nil]); omega)) rfl ?_
                  refine dt.c (v := .string ((y ++ (strB [92])) ++ (⟨#[117, 123]⟩ : ByteArray))) rfl (by kernel_rfl) rfl rfl (add_str (a := (y ++ (strB [92]))) (b := (⟨#[117, 123]⟩ : ByteArray)) (by (try simp only [add_len, l1, l2, strB_len, List.length_cons, List.length_nil]); omega)) rfl ?_
                  refine dt.c (v := .string ((y ++ (strB [92])) ++ (⟨#[117, 123]⟩ : ByteArray) ++ (strB (hexL (rC (x57.2.data.toList.drop p.toNat)).toNat)))) rfl (by kernel_rfl) rfl rfl (add_str (a := (y ++ (strB [92])) ++ (⟨#[117, 123]⟩ : ByteArray)) (b := (strB (hexL (rC (x57.2.data.toList.drop p.toNat)).toNat))) (by (try simp only [add_len, l1, l2, strB_len, List.length_cons, List.length_nil]); rw [hdt]; omega)) rfl ?_
                  refine dt.c (v := .string ((y ++ (strB [92])) ++ (⟨#[117, 123]⟩ : ByteArray) ++ (strB (hexL (rC (x57.2.data.toList.drop p.toNat)).toNat)) ++ (⟨#[125]⟩ : ByteArray))) rfl (by kernel_rfl) rfl rfl (add_str (a := (y ++ (strB [92])) ++ (⟨#[117, 123]⟩ : ByteArray) ++ (strB (hexL (rC (x57.2.data.toList.drop p.toNat)).toNat))) (b := (⟨#[125]⟩ : ByteArray)) (by (try simp only [add_len, l1, l2, strB_len, List.length_cons, List.length_nil]); rw [hdt]; omega)) rfl ?_
                  refine dt.c (v := .string ((y ++ (strB [92])) ++ (⟨#[117, 123]⟩ : ByteArray) ++ (strB (hexL (rC (x57.2.data.toList.drop p.toNat)).toNat)) ++ (⟨#[125]⟩ : ByteArray))) rfl (by kernel_rfl) rfl rfl rfl rfl ?_
                  refine dt.e (AWp.rowV (l := _) pok ?_)
                  refine sq.c (v := .int .i64 (p)) rfl rfl rfl rfl ?_
                  refine sq.c (v := .int .i64 (rN (x57.2.data.toList.drop p.toNat))) rfl rfl rfl rfl ?_
                  refine sq.c (v := .int .i64 (p + (rN (x57.2.data.toList.drop p.toNat)))) rfl rfl (okI (wrap_i64 (by omega) (by omega))) rfl ?_
                  refine sq.c (v := .int .i64 (p + (rN (x57.2.data.toList.drop p.toNat)))) rfl rfl rfl rfl ?_
                  refine sq.e ?_
                  refine ⟨_, _, rfl, by omega, (y ++ (strB [92])) ++ (⟨#[117, 123]⟩ : ByteArray) ++ (strB (hexL (rC (x57.2.data.toList.drop p.toNat)).toNat)) ++ (⟨#[125]⟩ : ByteArray), p + rN (x57.2.data.toList.drop p.toNat), ds ++ [d], rfl, hs, hn, hf, hb58, (by omega), (by omega), (by (try simp only [add_len, l1, l2, strB_len, List.length_cons, List.length_nil]); rw [hdt]; omega), (hd4), (by rw [hdt]; exact run_hex hy (by omega)), getV [undef, undef, undef, undef, undef, undef, undef, undef, .int .i64 (rC (x57.2.data.toList.drop p.toNat)), .int .i64 (rN (x57.2.data.toList.drop p.toNat)), undef, undef, undef, undef, undef, undef, undef, undef, undef, undef, undef, undef, undef, undef, undef, undef, undef, undef, undef, undef, undef, undef, undef, undef, undef, undef, undef, undef, undef, .int .i64 (p), .string (x57.2), .int .i64 ((((x57.2).data.toList.length : Nat) : Int)), .bool true, .tuple #[.int .i64 (rC (x57.2.data.toList.drop p.toNat)), .int .i64 (rN (x57.2.data.toList.drop p.toNat))], .string (x57.2), .int .i64 (p), .string (sub (x57.2) (p) ((((x57.2).data.toList.length : Nat) : Int))), .tuple #[.int .i64 (rC (x57.2.data.toList.drop p.toNat)), .int .i64 (rN (x57.2.data.toList.drop p.toNat))], .int .i64 (rC (x57.2.data.toList.drop p.toNat)), .int .i64 (rN (x57.2.data.toList.drop p.toNat)), .int .i64 (rC (x57.2.data.toList.drop p.toNat)), .bool false, .bool false, .int .i64 (rC (x57.2.data.toList.drop p.toNat)), .bool false, .bool false, (y69 56), (y69 57), (y69 58), (y69 59), .int .i64 (rC (x57.2.data.toList.drop p.toNat)), .bool true, .string (y), .slice (some ⟨n86, 0, none⟩) (1) (1), .string (strB [92]), .string (y ++ (strB [92])), .string ((y ++ (strB [92])) ++ (⟨#[117, 123]⟩ : ByteArray)), .int .i64 (rC (x57.2.data.toList.drop p.toNat)), .string (strB (hexL (rC (x57.2.data.toList.drop p.toNat)).toNat)), .string ((y ++ (strB [92])) ++ (⟨#[117, 123]⟩ : ByteArray) ++ (strB (hexL (rC (x57.2.data.toList.drop p.toNat)).toNat))), .string ((y ++ (strB [92])) ++ (⟨#[117, 123]⟩ : ByteArray) ++ (strB (hexL (rC (x57.2.data.toList.drop p.toNat)).toNat)) ++ (⟨#[125]⟩ : ByteArray)), (y69 71), (y69 72), (y69 73), (y69 74), (y69 75), (y69 76), (y69 77), (y69 78), .int .i64 (p), .int .i64 (rN (x57.2.data.toList.drop p.toNat)), .int .i64 (p + (rN (x57.2.data.toList.drop p.toNat)))], rfl⟩
              · rw [decide_eq_false c16_1]
                refine AWp.condF rfl rfl ?_
                refine AWp.rowV (l := _) pok ?_
                refine sq.c (v := .string (y)) rfl rfl rfl rfl ?_
                refine sq.c (v := .string (x57.2)) rfl rfl rfl rfl ?_
                refine sq.c (v := .int .i64 (p)) rfl rfl rfl rfl ?_
                refine sq.c (v := .int .i64 (p)) rfl rfl rfl rfl ?_
                refine sq.c (v := .int .i64 (rN (x57.2.data.toList.drop p.toNat))) rfl rfl rfl rfl ?_
                refine sq.c (v := .int .i64 (p + (rN (x57.2.data.toList.drop p.toNat)))) rfl rfl (okI (wrap_i64 (by omega) (by omega))) rfl ?_
                refine sq.c (v := .string (sub (x57.2) (p) (p + (rN (x57.2.data.toList.drop p.toNat))))) rfl rfl (slice_str (P := Tryz.prog) (h := h70) (t := 9) (s := x57.2) (l := p) (u := p + (rN (x57.2.data.toList.drop p.toNat))) (by kernel_rfl) (.inr ⟨_, rfl⟩) (.inr ⟨_, rfl⟩) (by omega) (by omega) (by omega)) rfl ?_
                have hsl := congrArg (fun z : ByteArray => z.data.toList.length) hd5
                simp only [strB_len] at hsl
                refine sq.c (v := .string (y ++ (sub (x57.2) (p) (p + (rN (x57.2.data.toList.drop p.toNat)))))) rfl rfl (add_str (a := y) (b := (sub (x57.2) (p) (p + (rN (x57.2.data.toList.drop p.toNat))))) (by (try simp only [add_len, l1, l2, strB_len, List.length_cons, List.length_nil]); omega)) rfl ?_
                refine sq.c (v := .string (y ++ (sub (x57.2) (p) (p + (rN (x57.2.data.toList.drop p.toNat)))))) rfl rfl rfl rfl ?_
                refine sq.e (AWp.rowV (l := _) pok ?_)
                refine sq.c (v := .int .i64 (p)) rfl rfl rfl rfl ?_
                refine sq.c (v := .int .i64 (rN (x57.2.data.toList.drop p.toNat))) rfl rfl rfl rfl ?_
                refine sq.c (v := .int .i64 (p + (rN (x57.2.data.toList.drop p.toNat)))) rfl rfl (okI (wrap_i64 (by omega) (by omega))) rfl ?_
                refine sq.c (v := .int .i64 (p + (rN (x57.2.data.toList.drop p.toNat)))) rfl rfl rfl rfl ?_
                refine sq.e ?_
                refine ⟨_, _, rfl, by omega, y ++ (sub (x57.2) (p) (p + (rN (x57.2.data.toList.drop p.toNat)))), p + rN (x57.2.data.toList.drop p.toNat), ds ++ [d], rfl, hs, hn, hf, hb58, (by omega), (by omega), (by (try simp only [add_len, l1, l2, strB_len, List.length_cons, List.length_nil]); omega), (hd4), (run_plain hy (by omega) (by omega) (by omega) hd5), getV [undef, undef, undef, undef, undef, undef, undef, undef, .int .i64 (rC (x57.2.data.toList.drop p.toNat)), .int .i64 (rN (x57.2.data.toList.drop p.toNat)), undef, undef, undef, undef, undef, undef, undef, undef, undef, undef, undef, undef, undef, undef, undef, undef, undef, undef, undef, undef, undef, undef, undef, undef, undef, undef, undef, undef, undef, .int .i64 (p), .string (x57.2), .int .i64 ((((x57.2).data.toList.length : Nat) : Int)), .bool true, .tuple #[.int .i64 (rC (x57.2.data.toList.drop p.toNat)), .int .i64 (rN (x57.2.data.toList.drop p.toNat))], .string (x57.2), .int .i64 (p), .string (sub (x57.2) (p) ((((x57.2).data.toList.length : Nat) : Int))), .tuple #[.int .i64 (rC (x57.2.data.toList.drop p.toNat)), .int .i64 (rN (x57.2.data.toList.drop p.toNat))], .int .i64 (rC (x57.2.data.toList.drop p.toNat)), .int .i64 (rN (x57.2.data.toList.drop p.toNat)), .int .i64 (rC (x57.2.data.toList.drop p.toNat)), .bool false, .bool false, .int .i64 (rC (x57.2.data.toList.drop p.toNat)), .bool false, .bool false, (y69 56), (y69 57), (y69 58), (y69 59), .int .i64 (rC (x57.2.data.toList.drop p.toNat)), .bool false, (y69 62), (y69 63), (y69 64), (y69 65), (y69 66), (y69 67), (y69 68), (y69 69), (y69 70), .string (y), .string (x57.2), .int .i64 (p), .int .i64 (p), .int .i64 (rN (x57.2.data.toList.drop p.toNat)), .int .i64 (p + (rN (x57.2.data.toList.drop p.toNat))), .string (sub (x57.2) (p) (p + (rN (x57.2.data.toList.drop p.toNat)))), .string (y ++ (sub (x57.2) (p) (p + (rN (x57.2.data.toList.drop p.toNat))))), .int .i64 (p), .int .i64 (rN (x57.2.data.toList.drop p.toNat)), .int .i64 (p + (rN (x57.2.data.toList.drop p.toNat)))], rfl⟩
        · rw [decide_eq_false c12_3]
          refine AWp.condF rfl rfl ?_
          refine AWp.exit ?_
          refine AWp.rowV (l := _) pok ?_
          refine sq.c (v := .string (y)) rfl rfl rfl rfl ?_
          have e_n4_n71 : n4 ≠ n71 := hf.ne hb58
          have z_n71 : h.get n71 = none := hf0 _ hn
          refine sq.op rfl rfl (Does.build (e := 5) (cs := [.int .u8 (34)]) hf (fun _ _ => by kernel_rfl)) ?_
          rintro _ h92 n93 ⟨rfl, hb91⟩ s94 hn2 hf
          refine sq.w ?_
          have hs := hs.trans s94
          have hn := Nat.le_trans hn hn2
          refine sq.c (v := .string (strB [34])) rfl rfl (strOf_row (P := Tryz.prog) (a := 42) (b := 9) (e := 5) (v := .slice (some ⟨n71, 0, none⟩) (1) (1)) (bs := [34]) (by kernel_rfl) (by kernel_rfl) (by kernel_rfl) (by kernel_rfl) (IsRow.of (E := encByte) (xs := [34]) (cap := 1) hb91 (Nat.le_refl _))) rfl ?_
          refine sq.c (v := .string (y ++ (strB [34]))) rfl rfl (add_str (a := y) (b := (strB [34])) (by (try simp only [add_len, l1, l2, strB_len, List.length_cons, List.length_nil]); omega)) rfl ?_
          refine sq.c (v := .string (y ++ (strB [34]))) rfl rfl rfl rfl ?_
          refine sq.e (AWp.rowV (l := _) pok ?_)
          refine sq.c (v := .int .i64 (i)) rfl rfl rfl rfl ?_
          refine sq.c (v := .int .i64 (i + 1)) rfl rfl (okI (wrap_i64 (by omega) (by omega))) rfl ?_
          refine sq.c (v := .int .i64 (i + 1)) rfl rfl rfl rfl ?_
          refine sq.e ?_
          have hdd : decs x57.2.data.toList = ds := by rw [hr, List.drop_eq_nil_of_le (by omega), decs_nil, List.append_nil]
          refine ⟨_, _, rfl, by omega, y ++ (strB [34]), i + 1, rfl, hs, hn, hf, (by omega), (by omega), (by (try simp only [add_len, l1, l2, strB_len, List.length_cons, List.length_nil]); omega), (by rw [show (i + 1).toNat = i.toNat + 1 by omega]; exact end_text hx_x57 hy hdd), getV [undef, undef, undef, undef, undef, undef, .string (x57.2), .int .i64 (p), (y69 8), (y69 9), undef, undef, undef, .int .i64 (i), .slice a (ls.length) cp, .int .i64 (((ls.length : Nat) : Int)), .bool true, .int .i64 (i), .int .i64 (i + 1), .int .i64 (i), .bool false, (y2 21), (y2 22), .string (z), .slice a (ls.length) cp, .int .i64 (i), .pointer (some ⟨b50, o51, none⟩), .pointer (some ⟨b50, o51, none⟩), .string (x57.1), .string (z ++ x57.1), .string ((z ++ x57.1) ++ (⟨#[61]⟩ : ByteArray)), .slice (some ⟨n4, 0, none⟩) (1) (1), .string (strB [34]), .string ((z ++ x57.1) ++ (⟨#[61]⟩ : ByteArray) ++ (strB [34])), .slice a (ls.length) cp, .int .i64 (i), .pointer (some ⟨b62, o63, none⟩), .pointer (some ⟨b62, o63 + 1, none⟩), .string (x57.2), .int .i64 (p), .string (x57.2), .int .i64 ((((x57.2).data.toList.length : Nat) : Int)), .bool false, (y69 43), (y69 44), (y69 45), (y69 46), (y69 47), (y69 48), (y69 49), (y69 50), (y69 51), (y69 52), (y69 53), (y69 54), (y69 55), (y69 56), (y69 57), (y69 58), (y69 59), (y69 60), (y69 61), (y69 62), (y69 63), (y69 64), (y69 65), (y69 66), (y69 67), (y69 68), (y69 69), (y69 70), (y69 71), (y69 72), (y69 73), (y69 74), (y69 75), (y69 76), (y69 77), (y69 78), (y69 79), (y69 80), (y69 81), .string (y), .slice (some ⟨n71, 0, none⟩) (1) (1), .string (strB [34]), .string (y ++ (strB [34]))], rfl⟩
    · rw [decide_eq_false c5_3]
      refine AWp.condF rfl rfl ?_
      refine AWp.exit ?_
      refine AWp.seq (AWp.rowV (l := _) pok ?_)
      refine sq.c (v := .string (z)) rfl rfl rfl rfl ?_
      refine sq.c (v := .string (z ++ (⟨#[125]⟩ : ByteArray))) rfl rfl (add_str (a := z) (b := (⟨#[125]⟩ : ByteArray)) (by (try simp only [add_len, l1, l2, strB_len, List.length_cons, List.length_nil]); omega)) rfl ?_
      refine sq.c (v := .string (z ++ (⟨#[125]⟩ : ByteArray))) rfl rfl rfl rfl ?_
      refine sq.c (v := .int .i64 (0)) rfl rfl rfl rfl ?_
      refine sq.e ?_
      refine AWp.ret ?_
      refine ⟨rfl, [.string (z ++ (⟨#[125]⟩ : ByteArray)), .int .i64 (0)], rfl, .tuple #[.string (z ++ (⟨#[125]⟩ : ByteArray)), .int .i64 (0)], rfl, hs, hn, ?_⟩
      rw [(show_yes c_m).1, (show_yes c_m).2, hq, show i.toNat = ls.length by omega, List.take_length]
      rw [show (⟨#[125]⟩ : ByteArray) = strB [125] from rfl, strB_add]
      rfl
  · rw [c_m]
    refine sq.c (v := .bool true) rfl rfl rfl rfl ?_
    refine sq.e ?_
    refine AWp.condT rfl rfl ?_
    refine AWp.seq (AWp.rowV (l := _) pok ?_)
    refine sq.c (v := .string (⟨#[]⟩)) rfl rfl rfl rfl ?_
    refine sq.c (v := .int .i64 (4)) rfl rfl rfl rfl ?_
    refine sq.e ?_
    refine AWp.ret ?_
    refine ⟨rfl, [.string (⟨#[]⟩), .int .i64 (4)], rfl, .tuple #[.string (⟨#[]⟩), .int .i64 (4)], rfl, hs, hn, ?_⟩
    rw [(show_no c_m).1, (show_no c_m).2]
end Go.Proofs.YtkpjfibpaojelaaGreatDoor
namespace Go.Proofs.YtkpjfibpaojelaaGreatDoor
open Go Go.Abs
set_option maxRecDepth 100000
set_option maxHeartbeats 4000000
theorem str_ne_self (a : ByteArray) : some (Value.bool (!eqS a a)) = some (.bool false) := by
  rw [eqS_of.2 rfl]; rfl
theorem par_may {l : List UInt8} {ls : List Lab} (h : parP l = some ls) : mayB ls = true := by
  unfold parP at h
  split at h
  · split at h
    · cases h
    · split at h
      · cases h
      · split at h
        · rename_i q; cases h; exact q.2.2
        · cases h
  · cases h
theorem may_n {ls : List Lab} (h : mayB ls = true) : 1 ≤ ls.length ∧ ls.length ≤ 16 := by
  unfold mayB at h
  rw [Bool.and_eq_true, decide_eq_true_eq] at h
  exact h.1
theorem parB_len (s : ByteArray) : (parB s).1.length ≤ 16 := by
  cases e : parP (bsOf s) with
  | none => rw [parB_none e]; exact Nat.zero_le _
  | some ls => rw [parB_some e]; exact (may_n (par_may e)).2
theorem f3_spec {h : Heap} {n : Nat} {a : Option Addr} {cp : Nat} (ls : List Lab) (q : ByteArray) (hl : IsRow encLab h (.slice a ls.length cp) ls) (hld : Laid0 h) :
    Tells Tryz.prog 3 [.slice a (ls.length) cp, .string (q)] h n (.bool true) := by
  refine Makes.tells (Makes.free fun hf => ?_)
  have hs : SubBut h h ([]) := .refl _ _
  have hn : n ≤ n := Nat.le_refl _
  have hf0 := hf
  refine Makes.of_bodyV (args := [.slice a (ls.length) cp, .string (q)]) (vs := [.slice a (ls.length) cp, .string (q), undef, undef, undef, undef, undef, undef, undef, undef, undef, undef, undef, undef, undef, undef, undef, undef, undef, undef, undef, undef, undef, undef, undef, undef, undef, undef, undef, undef, undef, undef, undef, undef, undef, undef, undef, undef, undef, undef, undef, undef, undef, undef, undef, undef, undef, undef, undef, undef, undef, undef, undef, undef, undef, undef, undef, undef, undef, undef, undef, undef, undef, undef, undef, undef, undef, undef, undef, undef, undef, undef, undef]) Tryz.func3 rfl rfl ?_
  refine AWp.seq (AWp.rowV (l := _) pok ?_)
  refine sq.c (v := .bool false) rfl rfl rfl rfl ?_
  refine sq.e (AWp.seq (AWp.seq (AWp.rowV (l := _) pok ?_)))
  refine sq.c (v := .slice a (ls.length) cp) rfl rfl rfl rfl ?_
  refine sq.k rfl (CallsF.fn rfl (by kernel_rfl) rfl rfl) (f12_spec ls (hl.keep hs)) ?_
  rintro _ h1 n2 ⟨b_l, rfl, hb_l⟩ s3 hn2 hf
  refine sq.w ?_
  have hs := hs.trans s3
  have hn := Nat.le_trans hn hn2
  refine sq.c (v := .bool (b_l)) rfl rfl rfl rfl ?_
  rcases Bool.eq_false_or_eq_true (b_l) with c_l | c_l
  · rw [c_l]
    refine sq.s (wantF (g := 2) (d := 17) rfl rfl rfl) rfl ?_
    refine sq.s (wantF (g := 2) (d := 17) rfl rfl rfl) rfl ?_
    refine sq.s (wantF (g := 2) (d := 17) rfl rfl rfl) rfl ?_
    refine sq.c (v := .bool true) rfl rfl rfl rfl ?_
    refine sq.e ?_
    refine AWp.condT rfl rfl ?_
    refine AWp.seq (AWp.rowV (l := _) pok ?_)
    refine sq.t (v := .bool true) rfl (CallsF.fn rfl (by kernel_rfl) rfl rfl) (fun hf => f13_spec (hld.keep hs)) hf rfl ?_
    intro n4 hn2 hf
    have hn := Nat.le_trans hn hn2
    refine sq.c (v := .bool true) rfl rfl rfl rfl ?_
    refine sq.e ?_
    refine AWp.ret ?_
    refine ⟨rfl, [.bool true], rfl, .bool true, rfl, hs, hn, ?_⟩
    rfl
  · rw [c_l]
    refine sq.c (v := .string (q)) (wantT (g := 2) (d := 17) rfl rfl rfl) rfl rfl rfl ?_
    refine sq.c (v := .int .i64 ((((q).data.toList.length : Nat) : Int))) (wantT (g := 2) (d := 17) rfl rfl rfl) rfl (by kernel_rfl) rfl ?_
    refine sq.c (v := .bool (decide ((3000 : Int) < ((((q).data.toList.length : Nat) : Int))))) (wantT (g := 2) (d := 17) rfl rfl rfl) rfl rfl rfl ?_
    refine sq.c (v := .bool (decide ((3000 : Int) < ((((q).data.toList.length : Nat) : Int))))) rfl rfl rfl rfl ?_
    refine sq.e ?_
    by_cases c1_5 : (3000 : Int) < ((((q).data.toList.length : Nat) : Int))
    · rw [decide_eq_true c1_5]
      refine AWp.condT rfl rfl ?_
      refine AWp.seq (AWp.rowV (l := _) pok ?_)
      refine sq.t (v := .bool true) rfl (CallsF.fn rfl (by kernel_rfl) rfl rfl) (fun hf => f13_spec (hld.keep hs)) hf rfl ?_
      intro n5 hn2 hf
      have hn := Nat.le_trans hn hn2
      refine sq.c (v := .bool true) rfl rfl rfl rfl ?_
      refine sq.e ?_
      refine AWp.ret ?_
      refine ⟨rfl, [.bool true], rfl, .bool true, rfl, hs, hn, ?_⟩
      rfl
    · rw [decide_eq_false c1_5]
      refine AWp.condF rfl rfl ?_
      refine AWp.skip (AWp.seq (AWp.rowV (l := _) pok ?_))
      refine sq.c (v := .slice a (ls.length) cp) rfl rfl rfl rfl ?_
      refine sq.k rfl (CallsF.fn rfl (by kernel_rfl) rfl rfl) (f14_spec ls (hl.keep hs) (by have := (hb_l c_l).1; omega)) ?_
      rintro v_ol h6 n7 R_ol s8 hn2 hf
      have R_ol := R_ol.from hs.sub
      obtain ⟨a_ol, cp_ol, rfl⟩ := R_ol.slice
      refine sq.w ?_
      have hs := hs.trans s8
      have hn := Nat.le_trans hn hn2
      refine sq.c (v := .slice a_ol (ls.length) cp_ol) rfl rfl rfl rfl ?_
      refine sq.e (AWp.seq (AWp.rowV (l := _) pok ?_))
      refine sq.c (v := .slice a_ol (ls.length) cp_ol) rfl rfl rfl rfl ?_
      refine sq.t (v := .tuple #[.string (showS ls), .int .i64 (codeS ls)]) rfl (CallsF.fn rfl (by kernel_rfl) rfl rfl) (fun hf => f15_spec ls R_ol.is (hb_l c_l).1 (hb_l c_l).2 (hld.keep hs)) hf rfl ?_
      intro n9 hn2 hf
      have hn := Nat.le_trans hn hn2
      refine sq.c (v := .tuple #[.string (showS ls), .int .i64 (codeS ls)]) rfl rfl rfl rfl ?_
      refine sq.c (v := .string (showS ls)) rfl rfl rfl rfl ?_
      refine sq.c (v := .int .i64 (codeS ls)) rfl rfl rfl rfl ?_
      refine sq.c (v := .string (showS ls)) rfl rfl rfl rfl ?_
      refine sq.c (v := .int .i64 (codeS ls)) rfl rfl rfl rfl ?_
      refine sq.e (AWp.seq (AWp.rowV (l := _) pok ?_))
      refine sq.c (v := .slice a (ls.length) cp) rfl rfl rfl rfl ?_
      refine sq.t (v := .tuple #[.string (showS ls), .int .i64 (codeS ls)]) rfl (CallsF.fn rfl (by kernel_rfl) rfl rfl) (fun hf => f16_spec ls (hl.keep hs) (hb_l c_l).1 (hb_l c_l).2) hf rfl ?_
      intro n10 hn2 hf
      have hn := Nat.le_trans hn hn2
      refine sq.c (v := .tuple #[.string (showS ls), .int .i64 (codeS ls)]) rfl rfl rfl rfl ?_
      refine sq.c (v := .string (showS ls)) rfl rfl rfl rfl ?_
      refine sq.c (v := .int .i64 (codeS ls)) rfl rfl rfl rfl ?_
      refine sq.c (v := .string (showS ls)) rfl rfl rfl rfl ?_
      refine sq.c (v := .int .i64 (codeS ls)) rfl rfl rfl rfl ?_
      refine sq.e (AWp.seq (AWp.seq (AWp.rowV (l := _) pok ?_)))
      refine sq.c (v := .string (showS ls)) rfl rfl rfl rfl ?_
      refine sq.c (v := .string (showS ls)) rfl rfl rfl rfl ?_
      refine sq.c (v := .bool false) rfl rfl (str_ne_self _) rfl ?_
      refine sq.c (v := .bool false) rfl rfl rfl rfl ?_
      refine sq.c (v := .int .i64 (codeS ls)) (wantT (g := 3) (d := 38) rfl rfl rfl) rfl rfl rfl ?_
      refine sq.c (v := .int .i64 (codeS ls)) (wantT (g := 3) (d := 38) rfl rfl rfl) rfl rfl rfl ?_
      refine sq.c (v := .bool (!decide ((codeS ls) = (codeS ls)))) (wantT (g := 3) (d := 38) rfl rfl rfl) rfl rfl rfl ?_
      refine sq.c (v := .bool (!decide ((codeS ls) = (codeS ls)))) rfl rfl rfl rfl ?_
      refine sq.c (v := .bool (!decide ((codeS ls) = (codeS ls)))) rfl rfl rfl rfl ?_
      by_cases c6_6 : (codeS ls) = (codeS ls)
      · rw [decide_eq_true c6_6]
        refine sq.c (v := .slice a_ol (ls.length) cp_ol) (wantT (g := 8) (d := 43) rfl rfl rfl) rfl rfl rfl ?_
        refine sq.c (v := .slice a (ls.length) cp) (wantT (g := 8) (d := 43) rfl rfl rfl) rfl rfl rfl ?_
        refine sq.k (wantT (g := 8) (d := 43) rfl rfl rfl) (CallsF.fn rfl (by kernel_rfl) rfl rfl) (f17_spec _ _ R_ol (hl.keep hs) (by have := (hb_l c_l).1; omega)) ?_
        rintro _ h11 n12 rfl s13 hn2 hf
        refine sq.w ?_
        have hs := R_ol.fresh hs s13
        have hn := Nat.le_trans hn hn2
        rcases Bool.eq_false_or_eq_true (decide (ls = ls)) with c6_11 | c6_11
        · rw [c6_11]
          refine sq.c (v := .bool false) (wantT (g := 8) (d := 43) rfl rfl rfl) rfl rfl rfl ?_
          refine sq.c (v := .bool false) rfl rfl rfl rfl ?_
          refine sq.e ?_
          refine AWp.condF rfl rfl ?_
          refine AWp.skip (AWp.seq (AWp.seq (AWp.rowV (l := _) pok ?_)))
          refine sq.c (v := .int .i64 (0)) rfl rfl rfl rfl ?_
          refine sq.e (AWp.block ?_)
          have hkl := parB_len q
          refine AWp.loopV (fun d vs h15 n16 => ∃ (r : Int), d = (2 - r + 1).toNat ∧ SubBut h h15 ([]) ∧ n ≤ n16 ∧ Free h15 n16 ∧ (0 ≤ r) ∧ (r ≤ 2) ∧ ∃ y14 : Nat → Value, vs = [.slice a (ls.length) cp, .string (q), undef, undef, (y14 4), .slice a_ol (ls.length) cp_ol, .string (showS ls), .int .i64 (codeS ls), .string (showS ls), .int .i64 (codeS ls), .int .i64 (r), (y14 11), (y14 12), (y14 13), (y14 14), .slice a (ls.length) cp, .bool false, .bool false, .string (q), .int .i64 ((((q).data.toList.length : Nat) : Int)), .bool false, .bool false, undef, .slice a (ls.length) cp, .slice a_ol (ls.length) cp_ol, .tuple #[.string (showS ls), .int .i64 (codeS ls)], .slice a_ol (ls.length) cp_ol, .tuple #[.string (showS ls), .int .i64 (codeS ls)], .string (showS ls), .int .i64 (codeS ls), .tuple #[.string (showS ls), .int .i64 (codeS ls)], .slice a (ls.length) cp, .tuple #[.string (showS ls), .int .i64 (codeS ls)], .string (showS ls), .int .i64 (codeS ls), .string (showS ls), .string (showS ls), .bool false, .bool false, .int .i64 (codeS ls), .int .i64 (codeS ls), .bool false, .bool false, .bool false, .slice a_ol (ls.length) cp_ol, .slice a (ls.length) cp, .bool true, .bool false, .bool false, (y14 49), (y14 50), (y14 51), (y14 52), (y14 53), (y14 54), (y14 55), (y14 56), (y14 57), (y14 58), (y14 59), (y14 60), (y14 61), (y14 62), (y14 63), (y14 64), (y14 65), (y14 66), (y14 67), (y14 68), (y14 69), (y14 70), (y14 71), undef]) ((2 - (0 : Int) + 1).toNat) ⟨0, rfl, hs, hn, hf, (by omega), (by omega), getV [undef, undef, undef, undef, .bool false, undef, undef, undef, undef, undef, undef, undef, undef, undef, undef, undef, undef, undef, undef, undef, undef, undef, undef, undef, undef, undef, undef, undef, undef, undef, undef, undef, undef, undef, undef, undef, undef, undef, undef, undef, undef, undef, undef, undef, undef, undef, undef, undef, undef, undef, undef, undef, undef, undef, undef, undef, undef, undef, undef, undef, undef, undef, undef, undef, undef, undef, undef, undef, undef, undef, undef, undef], rfl⟩ ?_
          rintro d vs h15 n16 ⟨r, rfl, hs, hn, hf, hr0, hr1, y14, rfl⟩
          refine AWp.seq (AWp.seq (AWp.rowV (l := _) pok ?_))
          refine sq.c (v := .int .i64 (r)) rfl rfl rfl rfl ?_
          refine sq.c (v := .bool (decide (r < (2 : Int)))) rfl rfl rfl rfl ?_
          refine sq.e ?_
          by_cases c9_1 : r < (2 : Int)
          · rw [decide_eq_true c9_1]
            refine AWp.condT rfl rfl ?_
            refine AWp.skip (AWp.seq (AWp.block (AWp.seq (AWp.rowV (l := _) pok ?_))))
            refine sq.c (v := .string (q)) rfl rfl rfl rfl ?_
            refine sq.k rfl (CallsF.fn rfl (by kernel_rfl) rfl rfl) (f18_spec q (by omega) (hld.keep hs)) ?_
            rintro _ h17 n18 ⟨a_x, cp_x, rfl, R_x⟩ s19 hn2 hf
            have R_x := R_x.from hs.sub
            refine sq.w ?_
            have hs := hs.trans s19
            have hn := Nat.le_trans hn hn2
            refine sq.c (v := .tuple #[.slice a_x (parB q).1.length cp_x, .int .i64 ((parB q).2)]) rfl rfl rfl rfl ?_
            refine sq.c (v := .slice a_x (parB q).1.length cp_x) rfl rfl rfl rfl ?_
            refine sq.c (v := .int .i64 ((parB q).2)) rfl rfl rfl rfl ?_
            refine sq.c (v := .slice a_x (parB q).1.length cp_x) rfl rfl rfl rfl ?_
            refine sq.c (v := .int .i64 ((parB q).2)) rfl rfl rfl rfl ?_
            refine sq.e (AWp.seq (AWp.rowV (l := _) pok ?_))
            refine sq.c (v := .string (q)) rfl rfl rfl rfl ?_
            refine sq.k rfl (CallsF.fn rfl (by kernel_rfl) rfl rfl) (f19_spec q (by omega)) ?_
            rintro _ h20 n21 ⟨a_y, cp_y, rfl, R_y⟩ s22 hn2 hf
            have R_y := R_y.is
            refine sq.w ?_
            have R_x := R_x.keep s22
            have hs := hs.trans s22
            have hn := Nat.le_trans hn hn2
            refine sq.c (v := .tuple #[.slice a_y (parB q).1.length cp_y, .int .i64 ((parB q).2)]) rfl rfl rfl rfl ?_
            refine sq.c (v := .slice a_y (parB q).1.length cp_y) rfl rfl rfl rfl ?_
            refine sq.c (v := .int .i64 ((parB q).2)) rfl rfl rfl rfl ?_
            refine sq.c (v := .slice a_y (parB q).1.length cp_y) rfl rfl rfl rfl ?_
            refine sq.c (v := .int .i64 ((parB q).2)) rfl rfl rfl rfl ?_
            refine sq.e (AWp.seq (AWp.rowV (l := _) pok ?_))
            refine sq.c (v := .int .i64 ((parB q).2)) rfl rfl rfl rfl ?_
            refine sq.c (v := .int .i64 ((parB q).2)) rfl rfl rfl rfl ?_
            refine sq.c (v := .bool (!decide (((parB q).2) = ((parB q).2)))) rfl rfl rfl rfl ?_
            refine sq.c (v := .bool (!decide (((parB q).2) = ((parB q).2)))) rfl rfl rfl rfl ?_
            by_cases c13_2 : ((parB q).2) = ((parB q).2)
            · rw [decide_eq_true c13_2]
              refine sq.c (v := .slice a_x (parB q).1.length cp_x) (wantT (g := 3) (d := 66) rfl rfl rfl) rfl rfl rfl ?_
              refine sq.c (v := .slice a_y (parB q).1.length cp_y) (wantT (g := 3) (d := 66) rfl rfl rfl) rfl rfl rfl ?_
              refine sq.k (wantT (g := 3) (d := 66) rfl rfl rfl) (CallsF.fn rfl (by kernel_rfl) rfl rfl) (f17_spec _ _ R_x R_y (by omega)) ?_
              rintro _ h23 n24 rfl s25 hn2 hf
              refine sq.w ?_
              have hs := R_x.fresh hs s25
              have hn := Nat.le_trans hn hn2
              rcases Bool.eq_false_or_eq_true (decide ((parB q).1 = (parB q).1)) with c13_6 | c13_6
              · rw [c13_6]
                refine sq.c (v := .bool false) (wantT (g := 3) (d := 66) rfl rfl rfl) rfl rfl rfl ?_
                refine sq.c (v := .bool false) rfl rfl rfl rfl ?_
                refine sq.e ?_
                refine AWp.condF rfl rfl ?_
                refine AWp.skip (AWp.rowV (l := _) pok ?_)
                refine sq.c (v := .int .i64 (r)) rfl rfl rfl rfl ?_
                refine sq.c (v := .int .i64 (r + 1)) rfl rfl (okI (wrap_i64 (by omega) (by omega))) rfl ?_
                refine sq.c (v := .int .i64 (r + 1)) rfl rfl rfl rfl ?_
                refine sq.e ?_
                refine ⟨_, _, rfl, by omega, r + 1, rfl, hs, hn, hf, (by omega), (by omega), getV [undef, undef, undef, undef, (y14 4), undef, undef, undef, undef, undef, undef, .slice a_x (parB q).1.length cp_x, .int .i64 ((parB q).2), .slice a_y (parB q).1.length cp_y, .int .i64 ((parB q).2), undef, undef, undef, undef, undef, undef, undef, undef, undef, undef, undef, undef, undef, undef, undef, undef, undef, undef, undef, undef, undef, undef, undef, undef, undef, undef, undef, undef, undef, undef, undef, undef, undef, undef, .int .i64 (r), .bool true, .int .i64 (r), .int .i64 (r + 1), .tuple #[.slice a_x (parB q).1.length cp_x, .int .i64 ((parB q).2)], .string (q), .tuple #[.slice a_x (parB q).1.length cp_x, .int .i64 ((parB q).2)], .slice a_x (parB q).1.length cp_x, .int .i64 ((parB q).2), .tuple #[.slice a_y (parB q).1.length cp_y, .int .i64 ((parB q).2)], .string (q), .tuple #[.slice a_y (parB q).1.length cp_y, .int .i64 ((parB q).2)], .slice a_y (parB q).1.length cp_y, .int .i64 ((parB q).2), .int .i64 ((parB q).2), .int .i64 ((parB q).2), .bool false, .bool false, .slice a_x (parB q).1.length cp_x, .slice a_y (parB q).1.length cp_y, .bool true, .bool false, .bool false], rfl⟩
              · exfalso
                simp at c13_6
            · exfalso
              exact c13_2 rfl
          · rw [decide_eq_false c9_1]
            refine AWp.condF rfl rfl ?_
            refine AWp.exit ?_
            refine AWp.seq (AWp.rowV (l := _) pok ?_)
            refine sq.t (v := .bool true) rfl (CallsF.fn rfl (by kernel_rfl) rfl rfl) (fun hf => f13_spec (hld.keep hs)) hf rfl ?_
            intro n26 hn2 hf
            have hn := Nat.le_trans hn hn2
            refine sq.c (v := .bool true) rfl rfl rfl rfl ?_
            refine sq.e ?_
            refine AWp.ret ?_
            refine ⟨rfl, [.bool true], rfl, .bool true, rfl, hs, hn, ?_⟩
            rfl
        · exfalso
          simp at c6_11
      · exfalso
        exact c6_6 rfl
end Go.Proofs.YtkpjfibpaojelaaGreatDoor
namespace Go.Proofs.YtkpjfibpaojelaaGreatDoor
open Go Go.Abs Go.ChangeShapes Go.RowKit Go.WideShapes
set_option maxRecDepth 100000
set_option maxHeartbeats 1000000
theorem rowAt_le {P : Program} {fits : TypeId → Bool} : ∀ {d : Nat} {e : TypeId} {count off n : Nat}, rowAt P fits d e count off n = true → off ≤ count * P.cellsOf e := by
  intro d
  cases d with
  | zero => intro e count off n h; simp [rowAt] at h
  | succ d =>
    intro e count off n h
    unfold rowAt at h
    simp only at h
    split at h
    · cases h
    · rename_i hs
      have hpos : 0 < P.cellsOf e := Nat.pos_of_ne_zero hs
      have hdm := Nat.div_add_mod off (P.cellsOf e)
      have hml := Nat.mod_lt off hpos
      simp only [Bool.or_eq_true, Bool.and_eq_true, beq_iff_eq, decide_eq_true_eq] at h
      rcases h with ⟨⟨h1, h2⟩, _⟩ | ⟨h1, _⟩
      · have : off / P.cellsOf e ≤ count := by omega
        have := Nat.mul_le_mul_left (P.cellsOf e) this
        rw [Nat.mul_comm count]
        omega
      · have : off / P.cellsOf e + 1 ≤ count := h1
        have := Nat.mul_le_mul_left (P.cellsOf e) this
        rw [Nat.mul_add] at this
        rw [Nat.mul_comm count]
        omega
theorem liesAt_le {P : Program} : ∀ {d : Nat} {e u : TypeId} {count off n : Nat}, liesAt P d e count off u n = true → off ≤ count * P.cellsOf e := by
  intro d
  induction d with
  | zero => intro e u count off n h; simp [liesAt] at h
  | succ d ih =>
    intro e u count off n h
    unfold liesAt at h
    rw [Bool.or_eq_true] at h
    rcases h with h | h
    · exact rowAt_le h
    · split at h
      · exact ih h
      · cases h
theorem exists_list {α : Type} {Q : Nat → α → Prop} : ∀ (len : Nat), (∀ i, i < len → ∃ x, Q i x) → ∃ ls : List α, ls.length = len ∧ ∀ i x, ls[i]? = some x → Q i x := by
  intro len
  induction len with
  | zero => intro _; exact ⟨[], rfl, fun i x h => by simp at h⟩
  | succ len ih =>
    intro h
    obtain ⟨ls, hl, hq⟩ := ih fun i hi => h i (by omega)
    obtain ⟨x, hx⟩ := h len (by omega)
    refine ⟨ls ++ [x], by simp [hl], fun i y hy => ?_⟩
    by_cases hi : i < ls.length
    · rw [List.getElem?_append_left hi] at hy; exact hq i y hy
    · rw [List.getElem?_append_right (by omega)] at hy
      have : i - ls.length = 0 := by
        cases hc : i - ls.length with
        | zero => rfl
        | succ k => rw [hc] at hy; simp at hy
      rw [this] at hy
      simp at hy
      subst hy
      rw [show i = len by omega]
      exact hx
theorem und22 : Tryz.prog.underlying 22 = some (.slice 40) := by kernel_rfl
theorem und9 : Tryz.prog.underlying 9 = some .string := by kernel_rfl
theorem cells9 : Tryz.prog.cellsOf 9 = 1 := by kernel_rfl
theorem cells40 : Tryz.prog.cellsOf 40 = 2 := by kernel_rfl
theorem open_label {H : Type} {enc : TypeId × Value → H} {W : World} {base : Nat} {sp : Nat → Bool} {held : Bool} {fuel : Nat} {cs : List Value} {x : DataW H × List MemPlace} (h : DataW.trod enc Tryz.prog W base sp held fuel 40 cs = some x) : ∃ s t : ByteArray, cs = [.string s, .string t] := by
  obtain ⟨xs, n, rfl, hx, hl, hxl, hall⟩ := DataW.trod_struct Tryz.underlying40 h
  rw [cells40] at hl
  match cs, hl with
  | [a, b], _ =>
    have h0 : DataW.trod enc Tryz.prog W base sp held n 9 (([a, b].drop 0).take (Tryz.prog.cellsOf 9)) = xs[0]? := hall 0 _ rfl
    have h1 : DataW.trod enc Tryz.prog W base sp held n 9 (([a, b].drop 1).take (Tryz.prog.cellsOf 9)) = xs[1]? := hall 1 _ rfl
    rw [cells9] at h0 h1
    have hx2 : xs.length = 2 := hxl
    obtain ⟨y0, e0⟩ : ∃ y, xs[0]? = some y := ⟨xs[0]'(by omega), List.getElem?_eq_getElem _⟩
    obtain ⟨y1, e1⟩ : ∃ y, xs[1]? = some y := ⟨xs[1]'(by omega), List.getElem?_eq_getElem _⟩
    rw [e0] at h0
    rw [e1] at h1
    obtain ⟨s, hs, _⟩ := DataW.trod_string und9 h0
    obtain ⟨t, ht, _⟩ := DataW.trod_string und9 h1
    refine ⟨s, t, ?_⟩
    have hs' : [a] = [Value.string s] := hs
    have ht' : [b] = [Value.string t] := ht
    cases hs'
    cases ht'
    rfl
theorem open_labels {H : Type} {enc : TypeId × Value → H} {W : World} {base : Nat} {v : Value} {d : DataW H} {ps : List MemPlace} (hval : Value.okWide Tryz.prog W .any base 22 v) (h0 : DataW.Trod enc Tryz.prog W 0 (fun _ => true) true 22 v d ps) :
    v = .slice none 0 0 ∨ ∃ (bk off cap : Nat) (c : Array Value) (el : TypeId) (fr : Nat × Nat) (ls : List Lab), v = .slice (some ⟨bk, off, none⟩) ls.length cap ∧ ls.length ≤ cap ∧ cap ≤ maxLen ∧ W.heap[bk]? = some (.cells c el fr) ∧ off + 2 * ls.length ≤ c.size ∧ ∀ i y, (encLab.row ls)[i]? = some y → c[off + i]? = some y := by
  obtain ⟨a, len, cap, rfl⟩ := okWide_slice und22 hval
  obtain ⟨fuel, hf⟩ := h0
  rcases DataW.trod_slice und22 hf with ⟨h1, _⟩ | ⟨a', len', cap', elems, rest, n, rfl, h1, _, _, hl, hm, hlen, hel, _, _⟩
  · left
    simp [Value.cells] at h1
    obtain ⟨rfl, rfl, rfl⟩ := h1
    rfl
  · right
    simp [Value.cells] at h1
    obtain ⟨rfl, rfl, rfl⟩ := h1
    have hok : len ≤ cap ∧ (cap : Int) ≤ IntKind.i64.max ∧ W.has Tryz.prog .any base a' 40 cap := by
      simpa only [Value.okWide, und22, Cell.okWide, Cell.ok] using hval
    obtain ⟨_, hspot, row, cells, hsh, hlie⟩ := hok.2.2
    obtain ⟨bk, off, spot⟩ := a'
    simp only at hspot hsh hlie
    subst hspot
    unfold World.shape? at hsh
    split at hsh
    · rename_i c el fr hheap
      cases hsh
      have hoff : off ≤ c.size := by
        have h2 := liesAt_le hlie
        exact Nat.le_trans h2 (Nat.div_mul_le_self _ _)
      have hcell : ∀ i, i < len → ∃ x : Lab, c[off + 2 * i]? = some (.string x.1) ∧ c[off + 2 * i + 1]? = some (.string x.2) := by
        intro i hi
        have h2 := hel i hi
        obtain ⟨y, hy⟩ : ∃ y, elems[i]? = some y := ⟨elems[i]'(by omega), List.getElem?_eq_getElem _⟩
        rw [hy, cells40, Option.bind_eq_some_iff] at h2
        obtain ⟨cs, hcs, htr⟩ := h2
        obtain ⟨s, t, rfl⟩ := open_label htr
        simp only [World.cells?, Nat.zero_le, if_true, Addr.add_plain] at hcs
        have e0 := Lib.mapM_at hcs 0 0 rfl
        have e1 := Lib.mapM_at hcs 1 1 rfl
        obtain ⟨z0, f0, g0⟩ := e0
        obtain ⟨z1, f1, g1⟩ := e1
        simp at f0 f1
        subst f0; subst f1
        rw [cell_of_block hheap] at g0 g1
        exact ⟨(s, t), by rw [← g0]; congr 1; omega, by rw [← g1]; congr 1; omega⟩
      obtain ⟨ls, hll, hq⟩ := exists_list len hcell
      subst hll
      refine ⟨bk, off, cap, c, _, fr, ls, rfl, hl, hm, hheap, ?_, ?_⟩
      · by_cases hz : ls.length = 0
        · omega
        · obtain ⟨x, hx⟩ : ∃ x, ls[ls.length - 1]? = some x := ⟨ls[ls.length - 1]'(by omega), List.getElem?_eq_getElem _⟩
          have := (Array.getElem?_eq_some_iff.1 (hq _ _ hx).2).1
          omega
      · intro i y hy
        have hil := (List.getElem?_eq_some_iff.1 hy).1
        rw [encLab.row_length] at hil
        have hk2 : encLab.k = 2 := rfl
        rw [hk2] at hil
        obtain ⟨x, hx⟩ : ∃ x, ls[i / 2]? = some x := ⟨ls[i / 2]'(by omega), List.getElem?_eq_getElem _⟩
        have e1 : (encLab.row ls)[2 * (i / 2)]? = some (.string x.1) := encLab.row_get ls _ x hx 0 _ rfl
        have e2 : (encLab.row ls)[2 * (i / 2) + 1]? = some (.string x.2) := encLab.row_get ls _ x hx 1 _ rfl
        obtain ⟨q1, q2⟩ := hq _ _ hx
        by_cases h2 : i % 2 = 0
        · have ei : 2 * (i / 2) = i := by omega
          rw [ei] at e1 q1
          rw [hy] at e1
          cases e1
          exact q1
        · have ei : 2 * (i / 2) + 1 = i := by omega
          rw [ei] at e2
          rw [show off + 2 * (i / 2) + 1 = off + i by omega] at q2
          rw [hy] at e2
          cases e2
          exact q2
    · cases hsh
theorem add_labels {μ : Mu} {h : Heap} {n : Nat} {W : World} {v : Value} (hr : Rel Tryz.prog μ h n W) (ro : ∀ b o, h.get b = some o → o.excl = false)
    (hv : v = .slice none 0 0 ∨ ∃ (bk off cap : Nat) (c : Array Value) (el : TypeId) (fr : Nat × Nat) (ls : List Lab), v = .slice (some ⟨bk, off, none⟩) ls.length cap ∧ ls.length ≤ cap ∧ cap ≤ maxLen ∧ W.heap[bk]? = some (.cells c el fr) ∧ off + 2 * ls.length ≤ c.size ∧ ∀ i y, (encLab.row ls)[i]? = some y → c[off + i]? = some y) :
    ∃ (μ' : Mu) (h' : Heap) (n' : Nat) (a : Option Addr) (cp : Nat) (ls : List Lab), Rel Tryz.prog μ' h' n' W ∧ (∀ b o, h'.get b = some o → o.excl = false) ∧ h.sub h' ∧ μ.le μ' ∧ VRel μ' (.slice a ls.length cp) v ∧ IsRow encLab h' (.slice a ls.length cp) ls ∧ ls.length < 9223372036854775808 ∧ ls.length ≤ cp ∧ cp < U := by
  rcases hv with rfl | ⟨bk, off, cap, c, el, fr, ls, rfl, hlc, hcm, hb, hoff, hcells⟩
  · exact ⟨μ, h, n, none, 0, [], hr, ro, Heap.sub_refl _, μ.le_refl, .snil, IsRow.nil, by decide, by decide, by decide⟩
  · have hflat : ((encLab.row ls).all flat) = true := by
      rw [List.all_eq_true]
      intro y hy
      obtain ⟨x, _, hx⟩ := List.mem_flatMap.1 hy
      simp only [encLab, List.mem_cons, List.not_mem_nil, or_false] at hx
      rcases hx with rfl | rfl <;> rfl
    have hlen : (encLab.row ls).length = 2 * ls.length := encLab.row_length ls
    obtain ⟨hr1, ro1⟩ := hr.addRO ro (o := .cells (encLab.row ls) false ⟨el, 0, false⟩) (x := .cells c el fr) (m := ⟨bk, off, c.size, 0⟩) rfl hb
      ⟨rfl, by rw [hlen]; exact hoff, fun i y hy => ⟨y, hcells i y hy, .flat_self (List.all_eq_true.1 hflat y (List.mem_of_getElem? hy))⟩, by simp, rfl, rfl, by simp⟩
    have hmax : maxLen < U := by decide
    have hm : ls.length < 9223372036854775808 := Nat.lt_of_le_of_lt (Nat.le_trans hlc hcm) (by decide)
    have hf : Free h n := fun b hb => hr.below hb
    have hle : μ.le (μ.set n ⟨bk, off, c.size, 0⟩) := by
      intro b m hbm
      unfold Mu.set
      by_cases e : b = n
      · subst e; rw [hr.bound _ (Nat.le_refl _)] at hbm; cases hbm
      · simp [e, hbm]
    refine ⟨_, _, _, some ⟨n, 0, none⟩, cap, ls, hr1, ro1, sub_alloc hf, hle, ?_, IsRow.of (Trie.get_set_same _ _ _) hlc, hm, hlc, Nat.lt_of_le_of_lt hcm hmax⟩
    exact VRel.slice (b := n) 0 ls.length cap cap (Mu.set_same _ _ _) (.inl ⟨by omega, rfl⟩)
theorem law_calls {W : World} {f : FuncId} {args args' : Array Value} {μ : Mu} {h : Heap} {n : Nat} (ro : ∀ b o, h.get b = some o → o.excl = false) (hr : Rel Tryz.prog μ h n W) (ha : ARel μ args args') (c : Tells Tryz.prog f args.toList h n (.bool true)) :
    Calls Tryz.prog f args' W fun e W' => e = .returned (.bool true) ∧ Below W.heap.size W W' :=
  calls_of_acall ro hr ha rfl (ACall.mono c fun _ h' _ _ _ ⟨e, _, _⟩ => ⟨h', Heap.sub_refl _, e⟩)
end Go.Proofs.YtkpjfibpaojelaaGreatDoor
