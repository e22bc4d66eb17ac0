/- texts of the claim, part 7: LabX8 LabX9 LabX10 LabX11 LabX12 LabX13. -/
import Derived.Test.YtkpjfibpaojelaaGreatDoorPs6
namespace Go.Proofs.YtkpjfibpaojelaaGreatDoor
open Go Go.Abs
set_option maxRecDepth 100000
set_option maxHeartbeats 4000000
def valF : Nat → List UInt8 → List UInt8 → Option (List UInt8 × List UInt8)
  | 0, _, _ => none
  | f + 1, l, out => if l = [] ∨ Lib.decodeL l = (65533, 1) then none
    else if (Lib.decodeL l).1 = 34 then some (out, l.drop (Lib.decodeL l).2)
    else if (Lib.decodeL l).1 = 92 then (match escP (l.drop (Lib.decodeL l).2) with
      | none => none
      | some (c, r) => valF f r (out ++ encR c))
    else valF f (l.drop (Lib.decodeL l).2) (out ++ encR ((Lib.decodeL l).1 : Nat))
def valP (l : List UInt8) : Option (List UInt8 × List UInt8) := valF (l.length + 1) l []
theorem cutT_le (l : List UInt8) (c : UInt8) : (cutT l c).length ≤ l.length - 1 := by
  unfold cutT
  rw [List.length_tail]
  have := (List.dropWhile_suffix (· != c) (l := l)).length_le
  omega
theorem num_len {l m : List UInt8} {c : Nat} (h : numP l = some (c, m)) : m.length + 2 ≤ l.length ∧ isR c := by
  unfold numP at h
  split at h
  · rename_i q
    cases h
    have h1 := cutT_le (l.drop 1) 125
    have h2 := q.2.2.1
    rw [List.length_drop] at h1
    have h3 : 0 < (cutA (l.drop 1) 125).length := List.length_pos_iff.2 h2
    have h4 : (cutA (l.drop 1) 125).length ≤ (l.drop 1).length := (List.takeWhile_sublist _).length_le
    rw [List.length_drop] at h4
    refine ⟨by omega, ?_⟩
    have h5 := q.2.2.2.2.2
    unfold validN Lib.validRune at h5
    rw [decide_eq_true_eq] at h5
    unfold isR
    omega
  · cases h
theorem esc_len {l m : List UInt8} {c : Nat} (h : escP l = some (c, m)) : m.length < l.length ∧ isR c := by
  unfold escP at h
  split at h
  · cases h
  · rename_i hne
    have hp : 0 < l.length := List.length_pos_iff.2 hne
    split at h
    · have := num_len h
      rw [List.length_drop] at this
      exact ⟨by omega, this.2⟩
    · split at h
      · rename_i q
        cases h
        rw [List.length_drop]
        refine ⟨by omega, ?_⟩
        unfold isR
        omega
      · cases h
theorem dec_isR (l : List UInt8) : isR ((Lib.decodeL l).1 : Nat) := by
  rw [decodeL_N]
  generalize l.length = n
  have h0 := (l.getD 0 0).toNat_lt
  have h1 := (l.getD 1 0).toNat_lt
  have h2 := (l.getD 2 0).toNat_lt
  have h3 := (l.getD 3 0).toNat_lt
  generalize (l.getD 0 0).toNat = b0 at *
  generalize (l.getD 1 0).toNat = b1 at *
  generalize (l.getD 2 0).toNat = b2 at *
  generalize (l.getD 3 0).toNat = b3 at *
  unfold isR Lib.decodeN
  repeat' split
  all_goals (simp only; omega)
def dC (l : List UInt8) : Int := ((Go.Lib.decodeGo (strB l)).1 : Nat)
def dN (l : List UInt8) : Int := ((Go.Lib.decodeGo (strB l)).2 : Nat)
theorem f101_at {h : Heap} {n : Nat} (l : List UInt8) (hl : Laid0 h) : Tells Tryz.prog 101 [.string (strB l)] h n (.tuple #[.int .i32 (dC l), .int .i64 (dN l)]) := f101_spec (strB l) hl
theorem go_nil : dC [] = 65533 ∧ dN [] = 0 := ⟨rfl, rfl⟩
theorem go_ne {l : List UInt8} (h : l ≠ []) : dC l = ((Lib.decodeL l).1 : Nat) ∧ dN l = ((Lib.decodeL l).2 : Nat) := by
  have e : Go.Lib.decodeGo (strB l) = Lib.decodeL l := by
    unfold Go.Lib.decodeGo Lib.decodeL
    rw [if_neg]
    intro e
    apply h
    have : (strB l).size = l.length := by simp [ByteArray.size]
    exact List.eq_nil_of_length_eq_zero (by omega)
  unfold dC dN
  rw [e]
  exact ⟨rfl, rfl⟩
theorem go_ok {l : List UInt8} (h : 0 < dN l ∧ (dC l ≠ 65533 ∨ 1 < dN l)) : l ≠ [] ∧ Lib.decodeL l ≠ (65533, 1) := by
  have hne : l ≠ [] := by
    intro e
    subst e
    have := go_nil.2
    omega
  refine ⟨hne, fun e => ?_⟩
  obtain ⟨e1, e2⟩ := go_ne hne
  rw [e] at e1 e2
  have e1' : dC l = 65533 := e1
  have e2' : dN l = 1 := e2
  omega
theorem go_bad {l : List UInt8} (h : ¬ (0 < dN l ∧ (dC l ≠ 65533 ∨ 1 < dN l))) : l = [] ∨ Lib.decodeL l = (65533, 1) := by
  by_cases hne : l = []
  · exact .inl hne
  · obtain ⟨e1, e2⟩ := go_ne hne
    have hw := Lib.decodeL_width l
    refine .inr (Prod.ext ?_ ?_)
    · show (Lib.decodeL l).1 = 65533
      omega
    · show (Lib.decodeL l).2 = 1
      omega
theorem val_no {f : Nat} {l out : List UInt8} (h : l = [] ∨ Lib.decodeL l = (65533, 1)) : valF (f + 1) l out = none := by unfold valF; rw [if_pos h]
theorem val_end {f : Nat} {l out : List UInt8} (h : l ≠ [] ∧ Lib.decodeL l ≠ (65533, 1)) (hc : dC l = 34) : valF (f + 1) l out = some (out, l.drop (dN l).toNat) := by
  obtain ⟨e1, e2⟩ := go_ne h.1
  unfold valF
  rw [if_neg (fun q => q.elim h.1 h.2), if_pos (by omega), e2, Int.toNat_natCast]
theorem val_esc {f : Nat} {l out : List UInt8} (h : l ≠ [] ∧ Lib.decodeL l ≠ (65533, 1)) (hc : dC l = 92) : valF (f + 1) l out = match escP (l.drop (dN l).toNat) with
      | none => none
      | some (c, r) => valF f r (out ++ encR c) := by
  obtain ⟨e1, e2⟩ := go_ne h.1
  rw [valF, if_neg (fun q => q.elim h.1 h.2), if_neg (by omega), if_pos (by omega), e2, Int.toNat_natCast]
theorem val_go {f : Nat} {l out : List UInt8} (h : l ≠ [] ∧ Lib.decodeL l ≠ (65533, 1)) (hc : ¬ dC l = 34) (hc2 : ¬ dC l = 92) : valF (f + 1) l out = valF f (l.drop (dN l).toNat) (out ++ encR (dC l)) := by
  obtain ⟨e1, e2⟩ := go_ne h.1
  rw [valF, if_neg (fun q => q.elim h.1 h.2), if_neg (by omega), if_neg (by omega), e1, e2, Int.toNat_natCast]
theorem dN_rng {l : List UInt8} (h : l ≠ []) : 1 ≤ dN l ∧ dN l ≤ (l.length : Nat) := by
  obtain ⟨e1, e2⟩ := go_ne h
  have h1 := Lib.decodeL_width l
  have h2 := decodeL_le l h
  omega
theorem dC_isR (l : List UInt8) : isR (dC l) := by
  by_cases h : l = []
  · subst h; unfold isR; have := go_nil.1; omega
  · rw [(go_ne h).1]; exact dec_isR l
theorem SubBut.own2 {h h1 h2 : Heap} {S : List Nat} {n b : Nat} {v : Value} (a : SubBut h h1 S) (hz : h.get b = none) (hB : ∀ c ∈ blkOf v, c ∈ S ∨ n ≤ c) (hf : Free h n) (s : SubBut h1 h2 (b :: blkOf v)) : SubBut h h2 S := fun x o hx e => by
  refine s x o ?_ (a x o hx e)
  intro hm
  rcases List.mem_cons.1 hm with rfl | hm
  · rw [hz] at e; cases e
  · rcases hB x hm with q | q
    · exact hx q
    · rw [hf x q] at e; cases e
theorem f64_spec {h : Heap} {n b cp : Nat} {a : Option Addr} {pa : Value} (bs : List UInt8) (hb : h.get b = some (.cells [pa, .slice a bs.length cp] true BCI)) (R : OwnRow encByte 5 (Trie.nil : Heap) h (.slice a bs.length cp) bs) (hz : bs = [] → a = none) (hd : ∀ c ∈ blkOf (.slice a bs.length cp), c ≠ b) (hl : bs.length < 100000000000) :
    Makes Tryz.prog 64 [.pointer (some ⟨b, 0, none⟩)] h n (blkOf (.slice a bs.length cp)) fun u _ _ => u = .string (strB bs) := by
  rcases R with ⟨rfl, hv | ⟨r, o, hv⟩⟩ | ⟨r, cap, ci, hv, h2, h3, h4, h5, h6⟩
  · cases hv
    exact f64_nil hb
  · cases hv
    cases hz rfl
  · cases hv
    have hne : bs ≠ [] := List.ne_nil_of_length_pos h5.1
    have e : blkOf (.slice (some ⟨r, 0, none⟩) bs.length cp) = [r] := by simp [blkOf, hne]
    rw [e] at hd ⊢
    exact f64_own bs hb h2 h4 h5.1 hl (h6.elim (fun q => .inl q.1) .inr) (fun q => hd r (List.mem_singleton.2 rfl) q.symm)
theorem Laid0.keep2 {h h2 : Heap} {b : Nat} {cs : List Value} {ci : CI} (l : Laid0 h) (s : SubBut h h2 [b]) (hb : h.get b = some (.cells cs true ci)) : Laid0 h2 := by
  obtain ⟨c, q⟩ := l
  refine ⟨c, fun x o e => s x o (fun hm => ?_) (q x o e)⟩
  rw [List.mem_singleton] at hm
  subst hm
  obtain ⟨_, cs', ci', e2⟩ := laidHeap_ro c laidL_lt x o e
  have := q x o e
  rw [hb, e2.1] at this
  cases this
theorem app_ne (zs : List UInt8) (x : Int) : ¬ zs ++ encR x = [] := fun e => by
  have h1 := congrArg List.length e
  have h2 := (enc_len x).1
  rw [List.length_append] at h1
  simp only [List.length_nil] at h1
  omega
theorem f87_spec {h : Heap} {n : Nat} {b : Nat} {ci : CI} (l : List UInt8) (hb : h.get b = some (.cells [.string (strB l)] true ci)) (hl : l.length < 1000000000) (hld : Laid0 h) :
    Throws Tryz.prog 87 [.pointer (some ⟨b, 0, none⟩)] h n ([b]) (fun v h2 _ => ∃ (o m : List UInt8), valP l = some (o, m) ∧ v = .string (strB o) ∧ o.length + 4 * m.length ≤ 4 * l.length ∧ h2.get b = some (.cells [.string (strB m)] true ci)) (WRONG) (valP l = none) := by
  refine Throws.free fun hf => ?_
  have hb0 := hb
  have hs : SubBut h h ([b]) := .refl _ _
  have hn : n ≤ n := Nat.le_refl _
  have hf0 := hf
  refine Throws.of_bodyV (args := [.pointer (some ⟨b, 0, none⟩)]) (vs := [.pointer (some ⟨b, 0, none⟩), undef, undef, undef, undef, undef, undef, undef, undef, undef, undef, undef, undef, undef, undef, undef, undef, undef, undef, undef, undef, undef, undef, undef, undef, undef, undef, undef, undef, undef, undef, undef, undef, undef, undef, undef, undef, undef, undef, undef, undef, undef, undef, undef]) Tryz.func87 rfl rfl ?_
  refine AWp.seq (AWp.rowV (l := _) pok ?_)
  refine sq.c (v := .string (⟨#[]⟩)) rfl rfl rfl rfl ?_
  refine sq.e (AWp.seq (AWp.rowV (l := _) pok ?_))
  have e_b_n : b ≠ n := hf.ne hb
  have z_n : h.get n = none := hf0 _ hn
  refine sq.op rfl rfl (Does.alloc (cs := [.pointer none, .slice none (0) (0)]) hf (z := .agg #[.pointer none, .slice none (0) (0)]) (by kernel_rfl) rfl) ?_
  rintro _ h2 n3 ⟨rfl, hb1⟩ s4 hn2 hf
  refine sq.w ?_
  have hb := s4.sub _ _ hb
  have hs := hs.trans (s4.mono (by simp))
  have hn := Nat.le_trans hn hn2
  refine sq.e (AWp.block ?_)
  refine AWp.loopV (fun d vs h6 n7 => ∃ (m zs : List UInt8) (f : Nat) (pa : Value) (a_r : Option Addr) (cp_r : Nat), d = f + 1 ∧ SubBut h h6 ([b]) ∧ n ≤ n7 ∧ Free h6 n7 ∧ h6.get b = some (.cells [.string (strB m)] true ci) ∧ h6.get n = some (.cells [pa, .slice a_r (zs.length) cp_r] true ⟨72, 0, true⟩) ∧ OwnRow encByte 5 (Trie.nil : Heap) h6 (.slice a_r (zs).length cp_r) (zs) ∧ (∀ c ∈ blkOf (.slice a_r (zs).length cp_r), c ≠ b) ∧ (∀ c ∈ blkOf (.slice a_r (zs).length cp_r), c ≠ n) ∧ (∀ c ∈ blkOf (.slice a_r (zs).length cp_r), c ∈ [b] ∨ n ≤ c) ∧ (PA pa n) ∧ (zs = [] → a_r = none) ∧ (m.length < f) ∧ (zs.length + 4 * m.length ≤ 4 * l.length) ∧ (valP l = valF f m zs) ∧ ∃ y5 : Nat → Value, vs = [.pointer (some ⟨b, 0, none⟩), undef, (y5 2), .pointer (some ⟨n, 0, none⟩), (y5 4), (y5 5), (y5 6), (y5 7), (y5 8), (y5 9), (y5 10), (y5 11), (y5 12), (y5 13), (y5 14), (y5 15), (y5 16), (y5 17), (y5 18), (y5 19), (y5 20), (y5 21), (y5 22), (y5 23), (y5 24), (y5 25), (y5 26), (y5 27), (y5 28), (y5 29), (y5 30), (y5 31), (y5 32), (y5 33), (y5 34), (y5 35), (y5 36), (y5 37), (y5 38), (y5 39), (y5 40), (y5 41), (y5 42), (y5 43)]) (l.length + 1 + 1) ⟨l, [], l.length + 1, .pointer none, none, 0, rfl, hs, hn, hf, hb, hb1, OwnRow.nil, (by simp [blkOf]), (by simp [blkOf]), (by simp [blkOf]), (.inl rfl), (fun _ => rfl), (by omega), (by simp), (rfl), getV [undef, undef, .string (⟨#[]⟩), undef, undef, undef, undef, undef, undef, undef, undef, undef, undef, undef, undef, undef, undef, undef, undef, undef, undef, undef, undef, undef, undef, undef, undef, undef, undef, undef, undef, undef, undef, undef, undef, undef, undef, undef, undef, undef, undef, undef, undef, undef], rfl⟩ ?_
  rintro d vs h6 n7 ⟨m, zs, f, pa, a_r, cp_r, rfl, hs, hn, hf, hb, hb1, R_r, d_r_b, d_r_n, B_r, hpa, hz, hlen, hzl, hq, y5, rfl⟩
  obtain ⟨g, rfl⟩ : ∃ g, f = g + 1 := ⟨f - 1, by omega⟩
  refine AWp.block (AWp.seq (AWp.rowV (l := _) pok ?_))
  refine sq.c (v := .pointer (some ⟨b, 0, none⟩)) rfl rfl rfl rfl ?_
  refine sq.c (v := .pointer (some ⟨b, 0, none⟩)) rfl rfl rfl rfl ?_
  refine sq.c (v := .pointer (some ⟨b, 0, none⟩)) rfl rfl (by kernel_rfl) rfl ?_
  refine sq.c (v := .string (strB m)) rfl rfl (ld1 (P := Tryz.prog) (t := 9) (p := 0) (v := .string (strB m)) (by kernel_rfl) (by kernel_rfl) hb rfl) rfl ?_
  refine sq.t (v := .tuple #[.int .i32 (dC m), .int .i64 (dN m)]) rfl (CallsF.fn rfl (by kernel_rfl) rfl rfl) (fun hf => f101_at m (hld.keep2 hs hb0)) hf rfl ?_
  intro n8 hn2 hf
  have hn := Nat.le_trans hn hn2
  refine sq.c (v := .tuple #[.int .i32 (dC m), .int .i64 (dN m)]) rfl rfl rfl rfl ?_
  refine sq.c (v := .int .i32 (dC m)) rfl rfl rfl rfl ?_
  refine sq.c (v := .int .i64 (dN m)) rfl rfl rfl rfl ?_
  refine sq.c (v := .int .i32 (dC m)) rfl rfl rfl rfl ?_
  refine sq.c (v := .int .i64 (dN m)) rfl rfl rfl rfl ?_
  refine sq.e (AWp.seq (AWp.rowV (l := _) pok ?_))
  refine sq.c (v := .int .i64 (dN m)) rfl rfl rfl rfl ?_
  refine sq.c (v := .bool (decide ((0 : Int) < (dN m)))) rfl rfl rfl rfl ?_
  refine sq.c (v := .bool (decide ((0 : Int) < (dN m)))) rfl rfl rfl rfl ?_
  by_cases c3_1 : (0 : Int) < (dN m)
  · rw [decide_eq_true c3_1]
    refine sq.c (v := .int .i32 (dC m)) (wantT (g := 2) (d := 16) rfl rfl rfl) rfl rfl rfl ?_
    refine sq.c (v := .bool (!decide ((dC m) = (65533 : Int)))) (wantT (g := 2) (d := 16) rfl rfl rfl) rfl rfl rfl ?_
    refine sq.c (v := .bool (!decide ((dC m) = (65533 : Int)))) (wantT (g := 2) (d := 16) rfl rfl rfl) rfl rfl rfl ?_
    by_cases c3_4 : (dC m) = (65533 : Int)
    · rw [decide_eq_true c3_4]
      refine sq.c (v := .int .i64 (dN m)) (wantT (g := 5) (d := 19) rfl rfl rfl) rfl rfl rfl ?_
      refine sq.c (v := .bool (decide ((1 : Int) < (dN m)))) (wantT (g := 5) (d := 19) rfl rfl rfl) rfl rfl rfl ?_
      refine sq.c (v := .bool (decide ((1 : Int) < (dN m)))) (wantT (g := 2) (d := 16) rfl rfl rfl) rfl rfl rfl ?_
      refine sq.c (v := .bool (decide ((1 : Int) < (dN m)))) rfl rfl rfl rfl ?_
      refine sq.x rfl (CallsF.fn rfl (by kernel_rfl) rfl rfl) (f69_spec (decide ((1 : Int) < (dN m)))) ?_ ?_
      · intro h9 n10 T_ s11 hn2
        have hs := hs.trans (s11.mono (by simp))
        refine ⟨rfl, .inr ⟨rfl, hs, Nat.le_trans hn hn2, ?_⟩⟩
        have T2 := of_decide_eq_false T_
        rw [hq]
        exact val_no (go_bad (fun q => by omega))
      · rintro _ h9 n10 ⟨rfl, m_1⟩ s11 hn2 hf
        refine sq.w ?_
        have hb := s11.sub _ _ hb
        have hb1 := s11.sub _ _ hb1
        have R_r := R_r.keep s11
        have hs := hs.trans (s11.mono (by simp))
        have hn := Nat.le_trans hn hn2
        have hok := go_ok (l := m) ⟨c3_1, .inr (of_decide_eq_true m_1)⟩
        have hrg := dN_rng hok.1
        have hlm : (strB m).data.toList.length = m.length := rfl
        have hdl : (m.drop (dN m).toNat).length = m.length - (dN m).toNat := List.length_drop
        refine sq.e (AWp.seq (AWp.rowV (l := _) pok ?_))
        refine sq.c (v := .pointer (some ⟨b, 0, none⟩)) rfl rfl rfl rfl ?_
        refine sq.c (v := .pointer (some ⟨b, 0, none⟩)) rfl rfl rfl rfl ?_
        refine sq.c (v := .pointer (some ⟨b, 0, none⟩)) rfl rfl rfl rfl ?_
        refine sq.c (v := .pointer (some ⟨b, 0, none⟩)) rfl rfl (by kernel_rfl) rfl ?_
        refine sq.c (v := .string (strB m)) rfl rfl (ld1 (P := Tryz.prog) (t := 9) (p := 0) (v := .string (strB m)) (by kernel_rfl) (by kernel_rfl) hb rfl) rfl ?_
        refine sq.c (v := .int .i64 (dN m)) rfl rfl rfl rfl ?_
        refine sq.c (v := .string (strB (m.drop (dN m).toNat))) rfl rfl (Eq.trans (slice_str (P := Tryz.prog) (h := h9) (t := 9) (s := strB m) (l := dN m) (u := ((strB m).data.toList.length : Nat)) (by kernel_rfl) (.inr ⟨_, rfl⟩) (.inl ⟨rfl, rfl⟩) (by omega) (by omega) (by omega)) (okV (congrArg Value.string subD))) rfl ?_
        refine sq.c (v := .pointer (some ⟨b, 0, none⟩)) rfl rfl rfl rfl ?_
        refine sq.c (v := .pointer (some ⟨b, 0, none⟩)) rfl rfl (by kernel_rfl) rfl ?_
        refine sq.op rfl rfl (Does.store (k := 1) (xs := [.string (strB (m.drop (dN m).toNat))]) (cs' := [.string (strB (m.drop (dN m).toNat))]) hf (by kernel_rfl) rfl rfl rfl hb rfl rfl (Nat.le_of_ble_eq_true rfl) rfl) ?_
        rintro _ h13 n14 ⟨rfl, hb12⟩ s15 hn2 hf
        refine sq.w0 ?_
        have hb1 := s15.get1 (Ne.symm e_b_n) hb1
        have R_r := R_r.but s15 (fun c hc hm => d_r_b c hc (List.mem_singleton.1 hm))
        have hs := hs.at (by simp) s15
        have hn := Nat.le_trans hn hn2
        refine sq.e (AWp.seq (AWp.seq (AWp.rowV (l := _) pok ?_)))
        refine sq.c (v := .int .i32 (dC m)) rfl rfl rfl rfl ?_
        refine sq.e (AWp.block (AWp.seq (AWp.rowV (l := _) pok ?_)))
        refine sq.c (v := .bool (decide ((dC m) = (34 : Int)))) rfl rfl rfl rfl ?_
        refine sq.c (v := .bool (decide ((dC m) = (34 : Int)))) rfl rfl rfl rfl ?_
        refine sq.e ?_
        by_cases c6_0 : (dC m) = (34 : Int)
        · rw [decide_eq_true c6_0]
          refine AWp.condT rfl rfl ?_
          refine AWp.seq (AWp.rowV (l := _) pok ?_)
          refine sq.k rfl (CallsF.fn rfl (by kernel_rfl) rfl rfl) (f64_spec zs hb1 R_r hz d_r_n (by omega)) ?_
          rintro _ h16 n17 rfl s18 hn2 hf
          refine sq.w ?_
          have hb12 := s18 _ _ (fun hm => d_r_b _ hm rfl) hb12
          have hb1 := s18 _ _ (fun hm => d_r_n _ hm rfl) hb1
          have hs := hs.own B_r hf0 s18
          have hn := Nat.le_trans hn hn2
          refine sq.c (v := .string (strB (zs))) rfl rfl rfl rfl ?_
          refine sq.e ?_
          refine AWp.ret ?_
          refine ⟨rfl, [.string (strB (zs))], rfl, .inl ⟨.string (strB (zs)), rfl, hs, hn, ?_⟩⟩
          exact ⟨_, _, by rw [hq]; exact val_end hok c6_0, rfl, by omega, hb12⟩
        · rw [decide_eq_false c6_0]
          refine AWp.condF rfl rfl ?_
          refine AWp.seq (AWp.rowV (l := _) pok ?_)
          refine sq.c (v := .bool (decide ((dC m) = (92 : Int)))) rfl rfl rfl rfl ?_
          refine sq.c (v := .bool (decide ((dC m) = (92 : Int)))) rfl rfl rfl rfl ?_
          refine sq.e ?_
          by_cases c8_0 : (dC m) = (92 : Int)
          · rw [decide_eq_true c8_0]
            refine AWp.condT rfl rfl ?_
            refine AWp.rowV (l := _) pok ?_
            refine sq.c (v := .pointer (some ⟨b, 0, none⟩)) rfl rfl rfl rfl ?_
            refine sq.x rfl (CallsF.fn rfl (by kernel_rfl) rfl rfl) (f102_spec (m.drop (dN m).toNat) hb12 (by omega)) ?_ ?_
            · intro h20 n21 T_ s22 hn2
              have hs := hs.at (by simp) s22
              refine ⟨rfl, .inr ⟨rfl, hs, Nat.le_trans hn hn2, ?_⟩⟩
              rw [hq, val_esc hok c8_0, T_]
            · rintro _ h20 n21 ⟨c_, r_, hesc, rfl, hb19⟩ s22 hn2 hf
              refine sq.w ?_
              have hb1 := s22.get1 (Ne.symm e_b_n) hb1
              have R_r := R_r.but s22 (fun c hc hm => d_r_b c hc (List.mem_singleton.1 hm))
              have hs := hs.at (by simp) s22
              have hn := Nat.le_trans hn hn2
              refine sq.c (v := .int .i32 ((c_ : Int))) rfl rfl rfl rfl ?_
              refine sq.e (AWp.rowV (l := _) pok ?_)
              refine sq.c (v := .int .i32 ((c_ : Int))) rfl rfl rfl rfl ?_
              have hfo := hf
              refine sq.k rfl (CallsF.fn rfl (by kernel_rfl) rfl rfl) (f61_spec zs hpa hb1 R_r d_r_n (by omega) (c_ : Int) (esc_len hesc).2) ?_
              rintro u26 h27 n28 ⟨a23, cp24, hb25, R_r, hB_, d_r_n⟩ s29 hn2 hf
              refine sq.w ?_
              have dn_b : ∀ c ∈ blkOf (.slice a23 (zs ++ (encR (c_ : Int))).length cp24), c ≠ b := fun c hc => (hB_ c hc).elim (fun q => d_r_b c q) (fun q e => by rw [e] at q; have := hfo _ q; rw [hb19] at this; cases this)
              have hb19 := s29 _ _ (fun hm => (List.mem_cons.1 hm).elim (e_b_n) (fun q => d_r_b _ q rfl)) hb19
              have hs := SubBut.own2 (v := .slice a_r (zs).length cp_r) hs z_n B_r hf0 s29
              have B_r : ∀ c ∈ blkOf (.slice a23 (zs ++ (encR (c_ : Int))).length cp24), c ∈ [b] ∨ n ≤ c := fun c hc => (hB_ c hc).elim (B_r c) (fun q => .inr (Nat.le_trans hn q))
              have hn := Nat.le_trans hn hn2
              have d_r_b := dn_b
              refine sq.e ?_
              have hen := enc_len (c_ : Int)
              have hes := esc_len hesc
              refine ⟨_, _, rfl, by omega, r_, zs ++ encR (c_ : Int), g, .pointer (some ⟨n, 0, none⟩), a23, cp24, rfl, hs, hn, hf, hb19, hb25, R_r, d_r_b, d_r_n, B_r, (.inr rfl), (fun e => absurd e (app_ne _ _)), (by omega), (by rw [List.length_append]; omega), (by rw [hq, val_esc hok c8_0, hesc]), getV [undef, undef, (y5 2), undef, .int .i32 ((c_ : Int)), .int .i64 (dN m), .tuple #[.int .i32 (dC m), .int .i64 (dN m)], .pointer (some ⟨b, 0, none⟩), .pointer (some ⟨b, 0, none⟩), .pointer (some ⟨b, 0, none⟩), .string (strB m), .tuple #[.int .i32 (dC m), .int .i64 (dN m)], .int .i32 (dC m), .int .i64 (dN m), .int .i64 (dN m), .bool true, .bool true, .int .i32 (dC m), .bool false, .bool false, .int .i64 (dN m), .bool (decide ((1 : Int) < (dN m))), .bool (decide ((1 : Int) < (dN m))), .bool (decide ((1 : Int) < (dN m))), undef, .pointer (some ⟨b, 0, none⟩), .pointer (some ⟨b, 0, none⟩), .pointer (some ⟨b, 0, none⟩), .pointer (some ⟨b, 0, none⟩), .string (strB m), .int .i64 (dN m), .string (strB (m.drop (dN m).toNat)), .pointer (some ⟨b, 0, none⟩), .pointer (some ⟨b, 0, none⟩), .int .i32 (dC m), .bool false, .bool false, (y5 37), .bool true, .bool true, .pointer (some ⟨b, 0, none⟩), .int .i32 ((c_ : Int)), .int .i32 ((c_ : Int)), u26], rfl⟩
          · rw [decide_eq_false c8_0]
            refine AWp.condF rfl rfl ?_
            refine AWp.skip (AWp.rowV (l := _) pok ?_)
            refine sq.c (v := .int .i32 (dC m)) rfl rfl rfl rfl ?_
            have hfo := hf
            refine sq.k rfl (CallsF.fn rfl (by kernel_rfl) rfl rfl) (f61_spec zs hpa hb1 R_r d_r_n (by omega) (dC m) (dC_isR m)) ?_
            rintro u33 h34 n35 ⟨a30, cp31, hb32, R_r, hB_, d_r_n⟩ s36 hn2 hf
            refine sq.w ?_
            have dn_b : ∀ c ∈ blkOf (.slice a30 (zs ++ (encR (dC m))).length cp31), c ≠ b := fun c hc => (hB_ c hc).elim (fun q => d_r_b c q) (fun q e => by rw [e] at q; have := hfo _ q; rw [hb12] at this; cases this)
            have hb12 := s36 _ _ (fun hm => (List.mem_cons.1 hm).elim (e_b_n) (fun q => d_r_b _ q rfl)) hb12
            have hs := SubBut.own2 (v := .slice a_r (zs).length cp_r) hs z_n B_r hf0 s36
            have B_r : ∀ c ∈ blkOf (.slice a30 (zs ++ (encR (dC m))).length cp31), c ∈ [b] ∨ n ≤ c := fun c hc => (hB_ c hc).elim (B_r c) (fun q => .inr (Nat.le_trans hn q))
            have hn := Nat.le_trans hn hn2
            have d_r_b := dn_b
            refine sq.e ?_
            have hen := enc_len (dC m)
            skip
            refine ⟨_, _, rfl, by omega, m.drop (dN m).toNat, zs ++ encR (dC m), g, .pointer (some ⟨n, 0, none⟩), a30, cp31, rfl, hs, hn, hf, hb12, hb32, R_r, d_r_b, d_r_n, B_r, (.inr rfl), (fun e => absurd e (app_ne _ _)), (by omega), (by rw [List.length_append]; omega), (by rw [hq, val_go hok c6_0 c8_0]), getV [undef, undef, (y5 2), undef, .int .i32 (dC m), .int .i64 (dN m), .tuple #[.int .i32 (dC m), .int .i64 (dN m)], .pointer (some ⟨b, 0, none⟩), .pointer (some ⟨b, 0, none⟩), .pointer (some ⟨b, 0, none⟩), .string (strB m), .tuple #[.int .i32 (dC m), .int .i64 (dN m)], .int .i32 (dC m), .int .i64 (dN m), .int .i64 (dN m), .bool true, .bool true, .int .i32 (dC m), .bool false, .bool false, .int .i64 (dN m), .bool (decide ((1 : Int) < (dN m))), .bool (decide ((1 : Int) < (dN m))), .bool (decide ((1 : Int) < (dN m))), undef, .pointer (some ⟨b, 0, none⟩), .pointer (some ⟨b, 0, none⟩), .pointer (some ⟨b, 0, none⟩), .pointer (some ⟨b, 0, none⟩), .string (strB m), .int .i64 (dN m), .string (strB (m.drop (dN m).toNat)), .pointer (some ⟨b, 0, none⟩), .pointer (some ⟨b, 0, none⟩), .int .i32 (dC m), .bool false, .bool false, (y5 37), .bool false, .bool false, (y5 40), (y5 41), .int .i32 (dC m), u33], rfl⟩
    · rw [decide_eq_false c3_4]
      refine sq.s (wantF (g := 5) (d := 19) rfl rfl rfl) rfl ?_
      refine sq.s (wantF (g := 5) (d := 19) rfl rfl rfl) rfl ?_
      refine sq.c (v := .bool true) (wantT (g := 2) (d := 16) rfl rfl rfl) rfl rfl rfl ?_
      refine sq.c (v := .bool true) rfl rfl rfl rfl ?_
      refine sq.x rfl (CallsF.fn rfl (by kernel_rfl) rfl rfl) (f69_spec true) ?_ ?_
      · intro h37 n38 T_ s39 hn2
        have hs := hs.trans (s39.mono (by simp))
        refine ⟨rfl, .inr ⟨rfl, hs, Nat.le_trans hn hn2, ?_⟩⟩
        cases T_
      · rintro _ h37 n38 ⟨rfl, _⟩ s39 hn2 hf
        refine sq.w ?_
        have hb := s39.sub _ _ hb
        have hb1 := s39.sub _ _ hb1
        have R_r := R_r.keep s39
        have hs := hs.trans (s39.mono (by simp))
        have hn := Nat.le_trans hn hn2
        have hok := go_ok (l := m) ⟨c3_1, .inl c3_4⟩
        have hrg := dN_rng hok.1
        have hlm : (strB m).data.toList.length = m.length := rfl
        have hdl : (m.drop (dN m).toNat).length = m.length - (dN m).toNat := List.length_drop
        refine sq.e (AWp.seq (AWp.rowV (l := _) pok ?_))
        refine sq.c (v := .pointer (some ⟨b, 0, none⟩)) rfl rfl rfl rfl ?_
        refine sq.c (v := .pointer (some ⟨b, 0, none⟩)) rfl rfl rfl rfl ?_
        refine sq.c (v := .pointer (some ⟨b, 0, none⟩)) rfl rfl rfl rfl ?_
        refine sq.c (v := .pointer (some ⟨b, 0, none⟩)) rfl rfl (by kernel_rfl) rfl ?_
        refine sq.c (v := .string (strB m)) rfl rfl (ld1 (P := Tryz.prog) (t := 9) (p := 0) (v := .string (strB m)) (by kernel_rfl) (by kernel_rfl) hb rfl) rfl ?_
        refine sq.c (v := .int .i64 (dN m)) rfl rfl rfl rfl ?_
        refine sq.c (v := .string (strB (m.drop (dN m).toNat))) rfl rfl (Eq.trans (slice_str (P := Tryz.prog) (h := h37) (t := 9) (s := strB m) (l := dN m) (u := ((strB m).data.toList.length : Nat)) (by kernel_rfl) (.inr ⟨_, rfl⟩) (.inl ⟨rfl, rfl⟩) (by omega) (by omega) (by omega)) (okV (congrArg Value.string subD))) rfl ?_
        refine sq.c (v := .pointer (some ⟨b, 0, none⟩)) rfl rfl rfl rfl ?_
        refine sq.c (v := .pointer (some ⟨b, 0, none⟩)) rfl rfl (by kernel_rfl) rfl ?_
        refine sq.op rfl rfl (Does.store (k := 1) (xs := [.string (strB (m.drop (dN m).toNat))]) (cs' := [.string (strB (m.drop (dN m).toNat))]) hf (by kernel_rfl) rfl rfl rfl hb rfl rfl (Nat.le_of_ble_eq_true rfl) rfl) ?_
        rintro _ h41 n42 ⟨rfl, hb40⟩ s43 hn2 hf
        refine sq.w0 ?_
        have hb1 := s43.get1 (Ne.symm e_b_n) hb1
        have R_r := R_r.but s43 (fun c hc hm => d_r_b c hc (List.mem_singleton.1 hm))
        have hs := hs.at (by simp) s43
        have hn := Nat.le_trans hn hn2
        refine sq.e (AWp.seq (AWp.seq (AWp.rowV (l := _) pok ?_)))
        refine sq.c (v := .int .i32 (dC m)) rfl rfl rfl rfl ?_
        refine sq.e (AWp.block (AWp.seq (AWp.rowV (l := _) pok ?_)))
        refine sq.c (v := .bool (decide ((dC m) = (34 : Int)))) rfl rfl rfl rfl ?_
        refine sq.c (v := .bool (decide ((dC m) = (34 : Int)))) rfl rfl rfl rfl ?_
        refine sq.e ?_
        by_cases c6_0 : (dC m) = (34 : Int)
        · rw [decide_eq_true c6_0]
          refine AWp.condT rfl rfl ?_
          refine AWp.seq (AWp.rowV (l := _) pok ?_)
          refine sq.k rfl (CallsF.fn rfl (by kernel_rfl) rfl rfl) (f64_spec zs hb1 R_r hz d_r_n (by omega)) ?_
          rintro _ h44 n45 rfl s46 hn2 hf
          refine sq.w ?_
          have hb40 := s46 _ _ (fun hm => d_r_b _ hm rfl) hb40
          have hb1 := s46 _ _ (fun hm => d_r_n _ hm rfl) hb1
          have hs := hs.own B_r hf0 s46
          have hn := Nat.le_trans hn hn2
          refine sq.c (v := .string (strB (zs))) rfl rfl rfl rfl ?_
          refine sq.e ?_
          refine AWp.ret ?_
          refine ⟨rfl, [.string (strB (zs))], rfl, .inl ⟨.string (strB (zs)), rfl, hs, hn, ?_⟩⟩
          exact ⟨_, _, by rw [hq]; exact val_end hok c6_0, rfl, by omega, hb40⟩
        · rw [decide_eq_false c6_0]
          refine AWp.condF rfl rfl ?_
          refine AWp.seq (AWp.rowV (l := _) pok ?_)
          refine sq.c (v := .bool (decide ((dC m) = (92 : Int)))) rfl rfl rfl rfl ?_
          refine sq.c (v := .bool (decide ((dC m) = (92 : Int)))) rfl rfl rfl rfl ?_
          refine sq.e ?_
          by_cases c8_0 : (dC m) = (92 : Int)
          · rw [decide_eq_true c8_0]
            refine AWp.condT rfl rfl ?_
            refine AWp.rowV (l := _) pok ?_
            refine sq.c (v := .pointer (some ⟨b, 0, none⟩)) rfl rfl rfl rfl ?_
            refine sq.x rfl (CallsF.fn rfl (by kernel_rfl) rfl rfl) (f102_spec (m.drop (dN m).toNat) hb40 (by omega)) ?_ ?_
            · intro h48 n49 T_ s50 hn2
              have hs := hs.at (by simp) s50
              refine ⟨rfl, .inr ⟨rfl, hs, Nat.le_trans hn hn2, ?_⟩⟩
              rw [hq, val_esc hok c8_0, T_]
            · rintro _ h48 n49 ⟨c_, r_, hesc, rfl, hb47⟩ s50 hn2 hf
              refine sq.w ?_
              have hb1 := s50.get1 (Ne.symm e_b_n) hb1
              have R_r := R_r.but s50 (fun c hc hm => d_r_b c hc (List.mem_singleton.1 hm))
              have hs := hs.at (by simp) s50
              have hn := Nat.le_trans hn hn2
              refine sq.c (v := .int .i32 ((c_ : Int))) rfl rfl rfl rfl ?_
              refine sq.e (AWp.rowV (l := _) pok ?_)
              refine sq.c (v := .int .i32 ((c_ : Int))) rfl rfl rfl rfl ?_
              have hfo := hf
              refine sq.k rfl (CallsF.fn rfl (by kernel_rfl) rfl rfl) (f61_spec zs hpa hb1 R_r d_r_n (by omega) (c_ : Int) (esc_len hesc).2) ?_
              rintro u54 h55 n56 ⟨a51, cp52, hb53, R_r, hB_, d_r_n⟩ s57 hn2 hf
              refine sq.w ?_
              have dn_b : ∀ c ∈ blkOf (.slice a51 (zs ++ (encR (c_ : Int))).length cp52), c ≠ b := fun c hc => (hB_ c hc).elim (fun q => d_r_b c q) (fun q e => by rw [e] at q; have := hfo _ q; rw [hb47] at this; cases this)
              have hb47 := s57 _ _ (fun hm => (List.mem_cons.1 hm).elim (e_b_n) (fun q => d_r_b _ q rfl)) hb47
              have hs := SubBut.own2 (v := .slice a_r (zs).length cp_r) hs z_n B_r hf0 s57
              have B_r : ∀ c ∈ blkOf (.slice a51 (zs ++ (encR (c_ : Int))).length cp52), c ∈ [b] ∨ n ≤ c := fun c hc => (hB_ c hc).elim (B_r c) (fun q => .inr (Nat.le_trans hn q))
              have hn := Nat.le_trans hn hn2
              have d_r_b := dn_b
              refine sq.e ?_
              have hen := enc_len (c_ : Int)
              have hes := esc_len hesc
              refine ⟨_, _, rfl, by omega, r_, zs ++ encR (c_ : Int), g, .pointer (some ⟨n, 0, none⟩), a51, cp52, rfl, hs, hn, hf, hb47, hb53, R_r, d_r_b, d_r_n, B_r, (.inr rfl), (fun e => absurd e (app_ne _ _)), (by omega), (by rw [List.length_append]; omega), (by rw [hq, val_esc hok c8_0, hesc]), getV [undef, undef, (y5 2), undef, .int .i32 ((c_ : Int)), .int .i64 (dN m), .tuple #[.int .i32 (dC m), .int .i64 (dN m)], .pointer (some ⟨b, 0, none⟩), .pointer (some ⟨b, 0, none⟩), .pointer (some ⟨b, 0, none⟩), .string (strB m), .tuple #[.int .i32 (dC m), .int .i64 (dN m)], .int .i32 (dC m), .int .i64 (dN m), .int .i64 (dN m), .bool true, .bool true, .int .i32 (dC m), .bool true, .bool true, undef, undef, .bool true, .bool true, undef, .pointer (some ⟨b, 0, none⟩), .pointer (some ⟨b, 0, none⟩), .pointer (some ⟨b, 0, none⟩), .pointer (some ⟨b, 0, none⟩), .string (strB m), .int .i64 (dN m), .string (strB (m.drop (dN m).toNat)), .pointer (some ⟨b, 0, none⟩), .pointer (some ⟨b, 0, none⟩), .int .i32 (dC m), .bool false, .bool false, (y5 37), .bool true, .bool true, .pointer (some ⟨b, 0, none⟩), .int .i32 ((c_ : Int)), .int .i32 ((c_ : Int)), u54], rfl⟩
          · rw [decide_eq_false c8_0]
            refine AWp.condF rfl rfl ?_
            refine AWp.skip (AWp.rowV (l := _) pok ?_)
            refine sq.c (v := .int .i32 (dC m)) rfl rfl rfl rfl ?_
            have hfo := hf
            refine sq.k rfl (CallsF.fn rfl (by kernel_rfl) rfl rfl) (f61_spec zs hpa hb1 R_r d_r_n (by omega) (dC m) (dC_isR m)) ?_
            rintro u61 h62 n63 ⟨a58, cp59, hb60, R_r, hB_, d_r_n⟩ s64 hn2 hf
            refine sq.w ?_
            have dn_b : ∀ c ∈ blkOf (.slice a58 (zs ++ (encR (dC m))).length cp59), c ≠ b := fun c hc => (hB_ c hc).elim (fun q => d_r_b c q) (fun q e => by rw [e] at q; have := hfo _ q; rw [hb40] at this; cases this)
            have hb40 := s64 _ _ (fun hm => (List.mem_cons.1 hm).elim (e_b_n) (fun q => d_r_b _ q rfl)) hb40
            have hs := SubBut.own2 (v := .slice a_r (zs).length cp_r) hs z_n B_r hf0 s64
            have B_r : ∀ c ∈ blkOf (.slice a58 (zs ++ (encR (dC m))).length cp59), c ∈ [b] ∨ n ≤ c := fun c hc => (hB_ c hc).elim (B_r c) (fun q => .inr (Nat.le_trans hn q))
            have hn := Nat.le_trans hn hn2
            have d_r_b := dn_b
            refine sq.e ?_
            have hen := enc_len (dC m)
            skip
            refine ⟨_, _, rfl, by omega, m.drop (dN m).toNat, zs ++ encR (dC m), g, .pointer (some ⟨n, 0, none⟩), a58, cp59, rfl, hs, hn, hf, hb40, hb60, R_r, d_r_b, d_r_n, B_r, (.inr rfl), (fun e => absurd e (app_ne _ _)), (by omega), (by rw [List.length_append]; omega), (by rw [hq, val_go hok c6_0 c8_0]), getV [undef, undef, (y5 2), undef, .int .i32 (dC m), .int .i64 (dN m), .tuple #[.int .i32 (dC m), .int .i64 (dN m)], .pointer (some ⟨b, 0, none⟩), .pointer (some ⟨b, 0, none⟩), .pointer (some ⟨b, 0, none⟩), .string (strB m), .tuple #[.int .i32 (dC m), .int .i64 (dN m)], .int .i32 (dC m), .int .i64 (dN m), .int .i64 (dN m), .bool true, .bool true, .int .i32 (dC m), .bool true, .bool true, undef, undef, .bool true, .bool true, undef, .pointer (some ⟨b, 0, none⟩), .pointer (some ⟨b, 0, none⟩), .pointer (some ⟨b, 0, none⟩), .pointer (some ⟨b, 0, none⟩), .string (strB m), .int .i64 (dN m), .string (strB (m.drop (dN m).toNat)), .pointer (some ⟨b, 0, none⟩), .pointer (some ⟨b, 0, none⟩), .int .i32 (dC m), .bool false, .bool false, (y5 37), .bool false, .bool false, (y5 40), (y5 41), .int .i32 (dC m), u61], rfl⟩
  · rw [decide_eq_false c3_1]
    refine sq.s (wantF (g := 2) (d := 16) rfl rfl rfl) rfl ?_
    refine sq.s (wantF (g := 2) (d := 16) rfl rfl rfl) rfl ?_
    refine sq.s (wantF (g := 2) (d := 16) rfl rfl rfl) rfl ?_
    refine sq.s (wantU (g := 5) (d := 19) rfl rfl rfl) rfl ?_
    refine sq.s (wantU (g := 5) (d := 19) rfl rfl rfl) rfl ?_
    refine sq.s (wantF (g := 2) (d := 16) rfl rfl rfl) rfl ?_
    refine sq.c (v := .bool false) rfl rfl rfl rfl ?_
    refine sq.x rfl (CallsF.fn rfl (by kernel_rfl) rfl rfl) (f69_spec false) ?_ ?_
    · intro h65 n66 T_ s67 hn2
      have hs := hs.trans (s67.mono (by simp))
      refine ⟨rfl, .inr ⟨rfl, hs, Nat.le_trans hn hn2, ?_⟩⟩
      rw [hq]
      exact val_no (go_bad (fun q => c3_1 q.1))
    · rintro _ h65 n66 ⟨rfl, m_1⟩ s67 hn2 hf
      cases m_1
def labQ (l : List UInt8) : Prop := l.contains 61 = true ∧ Lib.hasPrefix l (cutA l 61 ++ [61, 34]) = true
instance (l : List UInt8) : Decidable (labQ l) := by unfold labQ; infer_instance
def labP (l : List UInt8) : Option (Lab × List UInt8) :=
  if labQ l then (match valP (l.drop (cutA l 61 ++ [61, 34]).length) with
    | none => none
    | some (v, r) => some ((strB (cutA l 61), strB v), r)) else none
theorem lab_no {l : List UInt8} (h : ¬ labQ l) : labP l = none := if_neg h
theorem lab_none {l : List UInt8} (h : labQ l) (hv : valP (l.drop (cutA l 61 ++ [61, 34]).length) = none) : labP l = none := by unfold labP; rw [if_pos h, hv]
theorem lab_yes {l v r : List UInt8} (h : labQ l) (hv : valP (l.drop (cutA l 61 ++ [61, 34]).length) = some (v, r)) : labP l = some ((strB (cutA l 61), strB v), r) := by unfold labP; rw [if_pos h, hv]
def moreF : Nat → List UInt8 → List Lab → Option (List Lab × List UInt8)
  | 0, _, _ => none
  | f + 1, r, ls => if Lib.hasPrefix r [44] = true then (match labP (r.drop 1) with
      | none => none
      | some (x, r') => moreF f r' (ls ++ [x])) else some (ls, r)
def endQ (ls : List Lab) (r : List UInt8) : Prop := Lib.hasPrefix r [125] = true ∧ r.drop 1 = [] ∧ mayB ls = true
instance (ls : List Lab) (r : List UInt8) : Decidable (endQ ls r) := by unfold endQ; infer_instance
def parP (l : List UInt8) : Option (List Lab) :=
  if Lib.hasPrefix l [123] = true then (match labP (l.drop 1) with
    | none => none
    | some (x, r) => (match moreF (l.length + 1) r [x] with
      | none => none
      | some (ls, r') => if endQ ls r' then some ls else none)) else none
theorem par_0 {l : List UInt8} (h : ¬ Lib.hasPrefix l [123] = true) : parP l = none := if_neg h
theorem par_1 {l : List UInt8} (h : Lib.hasPrefix l [123] = true) (h1 : labP (l.drop 1) = none) : parP l = none := by unfold parP; rw [if_pos h, h1]
theorem par_2 {l r : List UInt8} {x : Lab} (h : Lib.hasPrefix l [123] = true) (h1 : labP (l.drop 1) = some (x, r)) : parP l = match moreF (l.length + 1) r [x] with
      | none => none
      | some (ls, r') => if endQ ls r' then some ls else none := by unfold parP; rw [if_pos h, h1]
theorem more_no {f : Nat} {r : List UInt8} {ls : List Lab} (h : Lib.hasPrefix r [44] = false) : moreF (f + 1) r ls = some (ls, r) := by rw [moreF, if_neg (by rw [h]; decide)]
theorem more_none {f : Nat} {r : List UInt8} {ls : List Lab} (h : Lib.hasPrefix r [44] = true) (h1 : labP (r.drop 1) = none) : moreF (f + 1) r ls = none := by rw [moreF, if_pos h, h1]
theorem more_yes {f : Nat} {r r' : List UInt8} {ls : List Lab} {x : Lab} (h : Lib.hasPrefix r [44] = true) (h1 : labP (r.drop 1) = some (x, r')) : moreF (f + 1) r ls = moreF f r' (ls ++ [x]) := by rw [moreF, if_pos h, h1]
theorem pre_pos {l p : List UInt8} (h : Lib.hasPrefix l p = true) : p.length ≤ l.length := by
  unfold Lib.hasPrefix at h
  exact (List.isPrefixOf_iff_prefix.1 h).length_le
theorem f67_spec {h : Heap} {n : Nat} {b : Nat} {ci : CI} (l : List UInt8) (hb : h.get b = some (.cells [.string (strB l)] true ci)) (hl : l.length < 1000000000) (hld : Laid0 h) :
    Throws Tryz.prog 67 [.pointer (some ⟨b, 0, none⟩)] h n ([b]) (fun v h2 _ => ∃ (x : Lab) (r : List UInt8), labP l = some (x, r) ∧ v = .agg #[.string x.1, .string x.2] ∧ (r.length < l.length ∧ x.1.data.toList.length ≤ l.length ∧ x.2.data.toList.length ≤ 4 * l.length) ∧ h2.get b = some (.cells [.string (strB r)] true ci)) (WRONG) (labP l = none) := by
  refine Throws.free fun hf => ?_
  have hb0 := hb
  have hll : (strB l).data.toList.length = l.length := rfl
  have hcl : (cutA l 61).length ≤ l.length := (List.takeWhile_sublist _).length_le
  have hdl : (l.drop (cutA l 61 ++ [61, 34]).length).length = l.length - (cutA l 61 ++ [61, 34]).length := List.length_drop
  have hal : (cutA l 61 ++ [61, 34]).length = (cutA l 61).length + 2 := List.length_append
  have hs : SubBut h h ([b]) := .refl _ _
  have hn : n ≤ n := Nat.le_refl _
  have hf0 := hf
  refine Throws.of_bodyV (args := [.pointer (some ⟨b, 0, none⟩)]) (vs := [.pointer (some ⟨b, 0, none⟩), undef, undef, undef, undef, undef, undef, undef, undef, undef, undef, undef, undef, undef, undef, undef, undef, undef, undef, undef, undef, undef, undef, undef, undef]) Tryz.func67 rfl rfl ?_
  refine AWp.seq (AWp.rowV (l := _) pok ?_)
  have e_b_n : b ≠ n := hf.ne hb
  have z_n : h.get n = none := hf0 _ hn
  refine sq.op rfl rfl (Does.alloc (cs := [.string (⟨#[]⟩), .string (⟨#[]⟩)]) hf (z := .agg #[.string (⟨#[]⟩), .string (⟨#[]⟩)]) (by kernel_rfl) rfl) ?_
  rintro _ h2 n3 ⟨rfl, hb1⟩ s4 hn2 hf
  refine sq.w ?_
  have hb := s4.sub _ _ hb
  have hs := hs.trans (s4.mono (by simp))
  have hn := Nat.le_trans hn hn2
  refine sq.e (AWp.seq (AWp.rowV (l := _) pok ?_))
  refine sq.c (v := .pointer (some ⟨b, 0, none⟩)) rfl rfl rfl rfl ?_
  refine sq.c (v := .pointer (some ⟨b, 0, none⟩)) rfl rfl rfl rfl ?_
  refine sq.c (v := .pointer (some ⟨b, 0, none⟩)) rfl rfl (by kernel_rfl) rfl ?_
  refine sq.c (v := .string (strB l)) rfl rfl (ld1 (P := Tryz.prog) (t := 9) (p := 0) (v := .string (strB l)) (by kernel_rfl) (by kernel_rfl) hb rfl) rfl ?_
  refine sq.t (v := .tuple #[.string (strB (cutA l 61)), .string (strB (cutT l 61)), .bool ((l).contains 61)]) rfl (CallsF.fn rfl (by kernel_rfl) rfl rfl) (fun hf => f86_spec (strB l) 61 (by omega)) hf rfl ?_
  intro n5 hn2 hf
  have hn := Nat.le_trans hn hn2
  refine sq.c (v := .tuple #[.string (strB (cutA l 61)), .string (strB (cutT l 61)), .bool ((l).contains 61)]) rfl rfl rfl rfl ?_
  refine sq.c (v := .string (strB (cutA l 61))) rfl rfl rfl rfl ?_
  refine sq.c (v := .string (strB (cutT l 61))) rfl rfl rfl rfl ?_
  refine sq.c (v := .bool ((l).contains 61)) rfl rfl rfl rfl ?_
  refine sq.c (v := .string (strB (cutA l 61))) rfl rfl rfl rfl ?_
  refine sq.c (v := .string (strB (cutT l 61))) rfl rfl rfl rfl ?_
  refine sq.c (v := .bool ((l).contains 61)) rfl rfl rfl rfl ?_
  refine sq.e (AWp.seq (AWp.rowV (l := _) pok ?_))
  refine sq.c (v := .bool ((l).contains 61)) rfl rfl rfl rfl ?_
  refine sq.x rfl (CallsF.fn rfl (by kernel_rfl) rfl rfl) (f69_spec ((l).contains 61)) ?_ ?_
  · intro h6 n7 T_ s8 hn2
    have hs := hs.trans (s8.mono (by simp))
    refine ⟨rfl, .inr ⟨rfl, hs, Nat.le_trans hn hn2, ?_⟩⟩
    exact lab_no fun q => absurd (q.1.symm.trans T_) (by decide)
  · rintro _ h6 n7 ⟨rfl, m_1⟩ s8 hn2 hf
    refine sq.w ?_
    have hb := s8.sub _ _ hb
    have hb1 := s8.sub _ _ hb1
    have hs := hs.trans (s8.mono (by simp))
    have hn := Nat.le_trans hn hn2
    refine sq.e (AWp.seq (AWp.rowV (l := _) pok ?_))
    refine sq.c (v := .pointer (some ⟨b, 0, none⟩)) rfl rfl rfl rfl ?_
    refine sq.c (v := .string (strB (cutA l 61))) rfl rfl rfl rfl ?_
    refine sq.c (v := .string (strB (cutA l 61 ++ [61, 34]))) rfl rfl (Eq.trans (add_str (a := strB (cutA l 61)) (b := (⟨#[61, 34]⟩ : ByteArray)) (by show (cutA l 61).length + 2 < _; omega)) (okV (congrArg Value.string (strB_add _ _)))) rfl ?_
    refine sq.x rfl (CallsF.fn rfl (by kernel_rfl) rfl rfl) (f66_spec l hb (strB (cutA l 61 ++ [61, 34]))) ?_ ?_
    · intro h10 n11 T_ s12 hn2
      have hs := hs.at (by simp) s12
      refine ⟨rfl, .inr ⟨rfl, hs, Nat.le_trans hn hn2, ?_⟩⟩
      exact lab_no fun q => absurd (q.2.symm.trans T_) (by decide)
    · rintro _ h10 n11 ⟨rfl, p_1, hb9⟩ s12 hn2 hf
      refine sq.w ?_
      have hb1 := s12.get1 (Ne.symm e_b_n) hb1
      have hs := hs.at (by simp) s12
      have hn := Nat.le_trans hn hn2
      refine sq.e (AWp.seq (AWp.rowV (l := _) pok ?_))
      refine sq.c (v := .string (strB (cutA l 61))) rfl rfl rfl rfl ?_
      refine sq.c (v := .pointer (some ⟨b, 0, none⟩)) rfl rfl rfl rfl ?_
      refine sq.x rfl (CallsF.fn rfl (by kernel_rfl) rfl rfl) (f87_spec (l.drop (cutA l 61 ++ [61, 34]).length) hb9 (by omega) (hld.keep2 hs hb0)) ?_ ?_
      · intro h14 n15 T_ s16 hn2
        have hs := hs.at (by simp) s16
        refine ⟨rfl, .inr ⟨rfl, hs, Nat.le_trans hn hn2, ?_⟩⟩
        exact lab_none ⟨m_1, p_1⟩ T_
      · rintro _ h14 n15 ⟨o_, r_, hv_, rfl, hol, hb13⟩ s16 hn2 hf
        refine sq.w ?_
        have hb1 := s16.get1 (Ne.symm e_b_n) hb1
        have hs := hs.at (by simp) s16
        have hn := Nat.le_trans hn hn2
        refine sq.c (v := .agg #[.string (strB (cutA l 61)), .string (strB o_)]) rfl rfl (by kernel_rfl) rfl ?_
        refine sq.op rfl rfl (Does.store (k := 2) (xs := [.string (strB (cutA l 61)), .string (strB o_)]) (cs' := [.string (strB (cutA l 61)), .string (strB o_)]) hf (by kernel_rfl) rfl rfl rfl hb1 rfl rfl (Nat.le_of_ble_eq_true rfl) rfl) ?_
        rintro _ h18 n19 ⟨rfl, hb17⟩ s20 hn2 hf
        refine sq.w0 ?_
        have hb13 := s20.get1 (e_b_n) hb13
        have hs := hs.fresh z_n s20
        have hn := Nat.le_trans hn hn2
        refine sq.e ?_
        refine AWp.ret ?_
        refine ⟨rfl, [.agg #[.string (strB (cutA l 61)), .string (strB o_)]], (res_cell (ldA (P := Tryz.prog) (t := 40) (p := 0) (k := 2) (xs := [.string (strB (cutA l 61)), .string (strB o_)]) (by kernel_rfl) (by kernel_rfl) hb17 rfl (Nat.le_of_ble_eq_true rfl))), .inl ⟨.agg #[.string (strB (cutA l 61)), .string (strB o_)], rfl, hs, hn, ?_⟩⟩
        have hpl : (cutA l 61 ++ [61, 34]).length ≤ l.length := pre_pos p_1
        exact ⟨(strB (cutA l 61), strB o_), r_, lab_yes ⟨m_1, p_1⟩ hv_, rfl, ⟨by omega, hcl, (by show o_.length ≤ _; omega)⟩, hb13⟩
theorem f43_spec {h : Heap} {n : Nat} {b : Nat} {ci : CI} (l : List UInt8) (hb : h.get b = some (.cells [.string (strB l)] true ci)) (hl : l.length < 1000000000) (hld : Laid0 h) :
    Throws Tryz.prog 43 [.pointer (some ⟨b, 0, none⟩)] h n ([b]) (fun v h2 _ => ∃ (ls : List Lab) (a : Option Addr) (cp : Nat), parP l = some ls ∧ v = .slice a ls.length cp ∧ OwnRow encLab 40 h h2 (.slice a ls.length cp) ls) (WRONG) (parP l = none) := by
  refine Throws.free fun hf => ?_
  have hb0 := hb
  have hd1 : (l.drop 1).length = l.length - 1 := List.length_drop
  have hs : SubBut h h ([b]) := .refl _ _
  have hn : n ≤ n := Nat.le_refl _
  have hf0 := hf
  refine Throws.of_bodyV (args := [.pointer (some ⟨b, 0, none⟩)]) (vs := [.pointer (some ⟨b, 0, none⟩), undef, undef, undef, undef, undef, undef, undef, undef, undef, undef, undef, undef, undef, undef, undef, undef, undef, undef, undef, undef, undef, undef, undef, undef, undef, undef, undef, undef, undef, undef, undef, undef, undef]) Tryz.func43 rfl rfl ?_
  refine AWp.seq (AWp.rowV (l := _) pok ?_)
  refine sq.c (v := .slice none (0) (0)) rfl rfl rfl rfl ?_
  refine sq.e (AWp.seq (AWp.rowV (l := _) pok ?_))
  refine sq.c (v := .pointer (some ⟨b, 0, none⟩)) rfl rfl rfl rfl ?_
  refine sq.x rfl (CallsF.fn rfl (by kernel_rfl) rfl rfl) (f66_spec l hb ⟨#[123]⟩) ?_ ?_
  · intro h2 n3 T_ s4 hn2
    have hs := hs.at (by simp) s4
    refine ⟨rfl, .inr ⟨rfl, hs, Nat.le_trans hn hn2, ?_⟩⟩
    exact par_0 fun q => absurd (q.symm.trans T_) (by decide)
  · rintro _ h2 n3 ⟨rfl, p_1, hb1⟩ s4 hn2 hf
    refine sq.w ?_
    have hs := hs.at (by simp) s4
    have hn := Nat.le_trans hn hn2
    refine sq.e (AWp.seq (AWp.rowV (l := _) pok ?_))
    refine sq.c (v := .pointer (some ⟨b, 0, none⟩)) rfl rfl rfl rfl ?_
    refine sq.x rfl (CallsF.fn rfl (by kernel_rfl) rfl rfl) (f67_spec (l.drop 1) hb1 (by omega) (hld.keep2 hs hb0)) ?_ ?_
    · intro h6 n7 T_ s8 hn2
      have hs := hs.at (by simp) s8
      refine ⟨rfl, .inr ⟨rfl, hs, Nat.le_trans hn hn2, ?_⟩⟩
      exact par_1 p_1 T_
    · rintro _ h6 n7 ⟨x_, r_, hx_, rfl, hxl, hb5⟩ s8 hn2 hf
      refine sq.w ?_
      have hs := hs.at (by simp) s8
      have hn := Nat.le_trans hn hn2
      have e_b_n7 : b ≠ n7 := hf.ne hb5
      have z_n7 : h.get n7 = none := hf0 _ hn
      refine sq.op rfl rfl (Does.build (e := 40) (cs := [.string (x_.1), .string (x_.2)]) hf (fun _ _ => by kernel_rfl)) ?_
      rintro _ h10 n11 ⟨rfl, hb9⟩ s12 hn2 hf
      refine sq.w ?_
      have hb5 := s12.sub _ _ hb5
      have hs := hs.trans (s12.mono (by simp))
      have hn := Nat.le_trans hn hn2
      refine sq.c (v := .slice (some ⟨n7, 0, none⟩) (1) (1)) rfl rfl rfl rfl ?_
      refine sq.e (AWp.seq (AWp.block ?_))
      have R_l : OwnRow encLab 40 h h10 (.slice (some ⟨n7, 0, none⟩) [x_].length 1) [x_] := .inr ⟨_, _, _, rfl, hb9, z_n7, rfl, ⟨Nat.zero_lt_one, Nat.le_refl 1⟩, .inr rfl⟩
      have d_l_b : ∀ c ∈ blkOf (.slice (some ⟨n7, 0, none⟩) [x_].length 1), c ≠ b := fun c hc e => by
        have e2 := List.mem_singleton.1 (show c ∈ [n7] from hc)
        subst e2; exact e_b_n7 e.symm
      refine AWp.loopV (fun d vs h14 n15 => ∃ (m : List UInt8) (ls : List Lab) (f : Nat) (a_l : Option Addr) (cp_l : Nat), d = f + 1 ∧ SubBut h h14 ([b]) ∧ n ≤ n15 ∧ Free h14 n15 ∧ h14.get b = some (.cells [.string (strB m)] true ci) ∧ OwnRow encLab 40 h h14 (.slice a_l (ls).length cp_l) (ls) ∧ (∀ c ∈ blkOf (.slice a_l (ls).length cp_l), c ≠ b) ∧ (m.length < f) ∧ (ls.length + m.length ≤ l.length) ∧ (m.length ≤ l.length) ∧ (∀ x ∈ ls, x.1.data.toList.length < 9223372036854775808 ∧ x.2.data.toList.length < 9223372036854775808) ∧ (moreF (l.length + 1) r_ [x_] = moreF f m ls) ∧ ∃ y13 : Nat → Value, vs = [.pointer (some ⟨b, 0, none⟩), undef, .slice none (0) (0), .slice a_l (ls.length) cp_l, .pointer (some ⟨b, 0, none⟩), undef, .pointer (some ⟨b, 0, none⟩), .agg #[.string (x_.1), .string (x_.2)], .slice (some ⟨n7, 0, none⟩) (1) (1), (y13 9), (y13 10), (y13 11), (y13 12), (y13 13), (y13 14), (y13 15), (y13 16), (y13 17), (y13 18), (y13 19), (y13 20), undef, undef, undef, undef, undef, undef, undef, undef, undef, undef, undef, undef, undef]) (l.length + 1 + 1) ⟨r_, [x_], l.length + 1, (some ⟨n7, 0, none⟩), 1, rfl, hs, hn, hf, hb5, R_l, d_l_b, (by omega), (by simp only [List.length_cons, List.length_nil]; omega), (by omega), (by intro x hx; rw [List.mem_singleton] at hx; subst hx; exact ⟨by omega, by omega⟩), (rfl), getV [undef, undef, undef, undef, undef, undef, undef, undef, undef, undef, undef, undef, undef, undef, undef, undef, undef, undef, undef, undef, undef], rfl⟩ ?_
      rintro d vs h14 n15 ⟨m, ls, f, a_l, cp_l, rfl, hs, hn, hf, hb5, R_l, d_l_b, hlen, hll, hmm, hsz, hq, y13, rfl⟩
      obtain ⟨g, rfl⟩ : ∃ g, f = g + 1 := ⟨f - 1, by omega⟩
      have hd2 : (m.drop 1).length = m.length - 1 := List.length_drop
      refine AWp.seq (AWp.seq (AWp.rowV (l := _) pok ?_))
      refine sq.c (v := .pointer (some ⟨b, 0, none⟩)) rfl rfl rfl rfl ?_
      refine sq.c (v := .pointer (some ⟨b, 0, none⟩)) rfl rfl rfl rfl ?_
      refine sq.c (v := .pointer (some ⟨b, 0, none⟩)) rfl rfl (by kernel_rfl) rfl ?_
      refine sq.c (v := .string (strB m)) rfl rfl (ld1 (P := Tryz.prog) (t := 9) (p := 0) (v := .string (strB m)) (by kernel_rfl) (by kernel_rfl) hb5 rfl) rfl ?_
      refine sq.t (v := .bool (Lib.hasPrefix m [44])) rfl (CallsF.fn rfl (by kernel_rfl) rfl rfl) (fun hf => f68_spec (strB m) ⟨#[44]⟩) hf rfl ?_
      intro n16 hn2 hf
      have hn := Nat.le_trans hn hn2
      refine sq.e ?_
      rcases Bool.eq_false_or_eq_true (Lib.hasPrefix m [44]) with c_cm | c_cm
      · rw [c_cm]
        refine AWp.condT rfl rfl ?_
        refine AWp.skip (AWp.block (AWp.seq (AWp.rowV (l := _) pok ?_)))
        refine sq.c (v := .pointer (some ⟨b, 0, none⟩)) rfl rfl rfl rfl ?_
        refine sq.x rfl (CallsF.fn rfl (by kernel_rfl) rfl rfl) (f66_spec m hb5 ⟨#[44]⟩) ?_ ?_
        · intro h18 n19 T_ s20 hn2
          have hs := hs.at (by simp) s20
          refine ⟨rfl, .inr ⟨rfl, hs, Nat.le_trans hn hn2, ?_⟩⟩
          exact absurd (c_cm.symm.trans T_) (by decide)
        · rintro _ h18 n19 ⟨rfl, p_2, hb17⟩ s20 hn2 hf
          refine sq.w ?_
          have R_l := R_l.but s20 (fun c hc hm => d_l_b c hc (List.mem_singleton.1 hm))
          have hs := hs.at (by simp) s20
          have hn := Nat.le_trans hn hn2
          refine sq.e (AWp.rowV (l := _) pok ?_)
          refine sq.c (v := .slice a_l (ls.length) cp_l) rfl rfl rfl rfl ?_
          refine sq.c (v := .pointer (some ⟨b, 0, none⟩)) rfl rfl rfl rfl ?_
          refine sq.x rfl (CallsF.fn rfl (by kernel_rfl) rfl rfl) (f67_spec (m.drop 1) hb17 (by omega) (hld.keep2 hs hb0)) ?_ ?_
          · intro h22 n23 T_ s24 hn2
            have hs := hs.at (by simp) s24
            refine ⟨rfl, .inr ⟨rfl, hs, Nat.le_trans hn hn2, ?_⟩⟩
            rw [par_2 p_1 hx_, hq, more_none c_cm T_]
          · rintro _ h22 n23 ⟨x2_, r2_, hx2_, rfl, hxl2, hb21⟩ s24 hn2 hf
            refine sq.w ?_
            have R_l := R_l.but s24 (fun c hc hm => d_l_b c hc (List.mem_singleton.1 hm))
            have hs := hs.at (by simp) s24
            have hn := Nat.le_trans hn hn2
            have e_b_n23 : b ≠ n23 := hf.ne hb21
            have d_l_n23 : ∀ c ∈ blkOf (.slice a_l (ls).length cp_l), c ≠ n23 := fun c hc e => R_l.ne' (hf _ (Nat.le_refl _)) c hc (List.mem_singleton.2 e)
            have z_n23 : h.get n23 = none := hf0 _ hn
            refine sq.op rfl rfl (Does.build (e := 40) (cs := [.string (x2_.1), .string (x2_.2)]) hf (fun _ _ => by kernel_rfl)) ?_
            rintro _ h26 n27 ⟨rfl, hb25⟩ s28 hn2 hf
            refine sq.w ?_
            have hb21 := s28.sub _ _ hb21
            have R_l := R_l.keep s28
            have hs := hs.trans (s28.mono (by simp))
            have hn := Nat.le_trans hn hn2
            have hz0 : h.get n27 = none := hf0 _ hn
            have hfo := hf
            refine sq.op rfl rfl (Does.append (E := encLab) (xs := ls) (ys := [(x2_.1, x2_.2)]) appLab ⟨.slice 40, by kernel_rfl, fun _ q => by cases q⟩ hf hs R_l (IsRow.of (E := encLab) (xs := [(x2_.1, x2_.2)]) (cap := 1) hb25 (Nat.le_refl _)) rfl rfl (by simp only [List.length_cons, List.length_nil]; omega) (by simp only [List.length_cons, List.length_nil]; omega) hz0) ?_
            rintro v32 h29 n30 ⟨R_l, hs, hB33⟩ s31 hn2 hf
            refine sq.w ?_
            have dn_l_b : ∀ c ∈ blkOf v32, c ≠ b := fun c hc => (hB33 c hc).elim (fun q => d_l_b c q) (fun q => by rw [q]; exact (hfo.ne hb21).symm)
            have dn_l_n23 : ∀ c ∈ blkOf v32, c ≠ n23 := fun c hc => (hB33 c hc).elim (fun q => d_l_n23 c q) (fun q => by rw [q]; exact (hfo.ne hb25).symm)
            have hb21 := s31 _ _ (fun hm => d_l_b _ hm rfl) hb21
            have hb25 := s31 _ _ (fun hm => d_l_n23 _ hm rfl) hb25
            have d_l_b := dn_l_b
            have d_l_n23 := dn_l_n23
            obtain ⟨a34, cp35, rfl⟩ := R_l.slice
            have hn := Nat.le_trans hn hn2
            refine sq.c (v := .slice a34 (ls ++ [(x2_.1, x2_.2)]).length cp35) rfl rfl rfl rfl ?_
            refine sq.e ?_
            refine ⟨_, _, rfl, by omega, r2_, ls ++ [x2_], g, a34, cp35, rfl, hs, hn, hf, hb21, R_l, d_l_b, (by omega), (by rw [List.length_append, List.length_singleton]; omega), (by omega), (by intro x hx; rcases List.mem_append.1 hx with q | q; exact hsz x q; rw [List.mem_singleton] at q; subst q; exact ⟨by omega, by omega⟩), (by rw [hq, more_yes c_cm hx2_]), getV [undef, undef, undef, undef, undef, undef, undef, undef, undef, .pointer (some ⟨b, 0, none⟩), .pointer (some ⟨b, 0, none⟩), .pointer (some ⟨b, 0, none⟩), .string (strB m), .bool true, .pointer (some ⟨b, 0, none⟩), undef, .slice a_l (ls.length) cp_l, .pointer (some ⟨b, 0, none⟩), .agg #[.string (x2_.1), .string (x2_.2)], .slice (some ⟨n23, 0, none⟩) (1) (1), .slice a34 (ls ++ [(x2_.1, x2_.2)]).length cp35], rfl⟩
      · rw [c_cm]
        refine AWp.condF rfl rfl ?_
        refine AWp.exit ?_
        refine AWp.seq (AWp.rowV (l := _) pok ?_)
        refine sq.c (v := .pointer (some ⟨b, 0, none⟩)) rfl rfl rfl rfl ?_
        refine sq.x rfl (CallsF.fn rfl (by kernel_rfl) rfl rfl) (f66_spec m hb5 ⟨#[125]⟩) ?_ ?_
        · intro h37 n38 T_ s39 hn2
          have hs := hs.at (by simp) s39
          refine ⟨rfl, .inr ⟨rfl, hs, Nat.le_trans hn hn2, ?_⟩⟩
          rw [par_2 p_1 hx_, hq, more_no c_cm]
          exact if_neg fun q => absurd (q.1.symm.trans T_) (by decide)
        · rintro _ h37 n38 ⟨rfl, p_3, hb36⟩ s39 hn2 hf
          refine sq.w ?_
          have R_l := R_l.but s39 (fun c hc hm => d_l_b c hc (List.mem_singleton.1 hm))
          have hs := hs.at (by simp) s39
          have hn := Nat.le_trans hn hn2
          refine sq.e (AWp.seq (AWp.rowV (l := _) pok ?_))
          refine sq.c (v := .pointer (some ⟨b, 0, none⟩)) rfl rfl rfl rfl ?_
          refine sq.c (v := .pointer (some ⟨b, 0, none⟩)) rfl rfl rfl rfl ?_
          refine sq.c (v := .pointer (some ⟨b, 0, none⟩)) rfl rfl (by kernel_rfl) rfl ?_
          refine sq.c (v := .string (strB (m.drop 1))) rfl rfl (ld1 (P := Tryz.prog) (t := 9) (p := 0) (v := .string (strB (m.drop 1))) (by kernel_rfl) (by kernel_rfl) hb36 rfl) rfl ?_
          refine sq.c (v := .bool (decide (strB (m.drop 1) = (⟨#[]⟩ : ByteArray)))) rfl rfl (eqD _ _) rfl ?_
          refine sq.c (v := .bool (decide (strB (m.drop 1) = (⟨#[]⟩ : ByteArray)))) rfl rfl rfl rfl ?_
          by_cases c7_4 : strB (m.drop 1) = (⟨#[]⟩ : ByteArray)
          · rw [decide_eq_true c7_4]
            refine sq.c (v := .slice a_l (ls.length) cp_l) (wantT (g := 5) (d := 28) rfl rfl rfl) rfl rfl rfl ?_
            refine sq.t (v := .bool (mayB ls)) (wantT (g := 5) (d := 28) rfl rfl rfl) (CallsF.fn rfl (by kernel_rfl) rfl rfl) (fun hf => f24_spec ls R_l.is (by omega) hsz (hld.keep2 hs hb0)) hf rfl ?_
            intro n40 hn2 hf
            have hn := Nat.le_trans hn hn2
            refine sq.c (v := .bool (mayB ls)) rfl rfl rfl rfl ?_
            refine sq.x rfl (CallsF.fn rfl (by kernel_rfl) rfl rfl) (f69_spec (mayB ls)) ?_ ?_
            · intro h41 n42 T_ s43 hn2
              have hs := hs.trans (s43.mono (by simp))
              refine ⟨rfl, .inr ⟨rfl, hs, Nat.le_trans hn hn2, ?_⟩⟩
              rw [par_2 p_1 hx_, hq, more_no c_cm]
              exact if_neg fun q => absurd (q.2.2.symm.trans T_) (by decide)
            · rintro _ h41 n42 ⟨rfl, m_1⟩ s43 hn2 hf
              refine sq.w ?_
              have R_l := R_l.keep s43
              have hs := hs.trans (s43.mono (by simp))
              have hn := Nat.le_trans hn hn2
              refine sq.e (AWp.seq (AWp.rowV (l := _) pok ?_))
              refine sq.c (v := .slice a_l (ls.length) cp_l) rfl rfl rfl rfl ?_
              refine sq.c (v := .slice a_l (ls.length) cp_l) rfl rfl rfl rfl ?_
              refine sq.e ?_
              refine AWp.ret ?_
              refine ⟨rfl, [.slice a_l (ls.length) cp_l], rfl, .inl ⟨.slice a_l (ls.length) cp_l, rfl, hs, hn, ?_⟩⟩
              exact ⟨ls, _, _, by rw [par_2 p_1 hx_, hq, more_no c_cm]; exact if_pos ⟨p_3, strB_nil c7_4, m_1⟩, rfl, R_l⟩
          · rw [decide_eq_false c7_4]
            refine sq.s (wantF (g := 5) (d := 28) rfl rfl rfl) rfl ?_
            refine sq.s (wantF (g := 5) (d := 28) rfl rfl rfl) rfl ?_
            refine sq.c (v := .bool false) rfl rfl rfl rfl ?_
            refine sq.x rfl (CallsF.fn rfl (by kernel_rfl) rfl rfl) (f69_spec false) ?_ ?_
            · intro h44 n45 T_ s46 hn2
              have hs := hs.trans (s46.mono (by simp))
              refine ⟨rfl, .inr ⟨rfl, hs, Nat.le_trans hn hn2, ?_⟩⟩
              rw [par_2 p_1 hx_, hq, more_no c_cm]
              exact if_neg fun q => c7_4 (by rw [q.2.1])
            · rintro _ h44 n45 ⟨rfl, m_1⟩ s46 hn2 hf
              cases m_1
theorem f42_calm {h : Heap} {n : Nat} {p q : Nat} {v e : Value} (hp : h.get p = some (.cells [v] true ⟨22, 0, true⟩)) (hq : h.get q = some (.cells [e] true ⟨26, 0, true⟩)) (hpq : p ≠ q) :
    ACallD Tryz.prog 42 ([.pointer (some ⟨p, 0, none⟩), .pointer (some ⟨q, 0, none⟩)] : List Value).toArray .calm h n fun r m h2 n2 => (∃ u, r = .ret u) ∧ m = .calm ∧ SubBut h h2 [p, q] ∧ n ≤ n2 ∧ Free h2 n2 ∧ h2.get p = some (.cells [v] true ⟨22, 0, true⟩) ∧ h2.get q = some (.cells [e] true ⟨26, 0, true⟩) := by
  refine ACallD.free fun hf => ?_
  refine ACallD.of_body (args := [.pointer (some ⟨p, 0, none⟩), .pointer (some ⟨q, 0, none⟩)]) Tryz.func42 rfl ?_
  refine AWpS.seq (AWpS.recover rfl ?_)
  refine AWpS.of_wp ?_
  refine AWp.norm (k := 11) rfl rfl ?_
  show AWp Tryz.prog _ _ (frameV [.pointer (some ⟨p, 0, none⟩), .pointer (some ⟨q, 0, none⟩), undef, undef, undef, .nilIface, undef, undef, undef, undef, undef]) h n
  have hs : SubBut h h ([p, q]) := .refl _ _
  have hn : n ≤ n := Nat.le_refl _
  have hf0 := hf
  refine AWp.block (AWp.seq (AWp.rowV (l := _) pok ?_))
  refine sq.c (v := .bool true) rfl rfl (by kernel_rfl) rfl ?_
  refine sq.e ?_
  refine AWp.condT rfl rfl ?_
  refine AWp.rowV (l := _) pok ?_
  refine sq.c (v := .nilIface) rfl rfl rfl rfl ?_
  refine sq.e ?_
  refine ⟨rfl, [], rfl, ?_⟩
  exact ⟨⟨_, rfl⟩, rfl, hs, hn, hf, hp, hq⟩
theorem f42_pend {h : Heap} {n : Nat} {p q : Nat} {v e : Value} (hp : h.get p = some (.cells [v] true ⟨22, 0, true⟩)) (hq : h.get q = some (.cells [e] true ⟨26, 0, true⟩)) (hpq : p ≠ q) :
    ACallD Tryz.prog 42 ([.pointer (some ⟨p, 0, none⟩), .pointer (some ⟨q, 0, none⟩)] : List Value).toArray (.pend WRONG) h n fun r m h2 n2 => (∃ u, r = .ret u) ∧ m = .done WRONG ∧ SubBut h h2 [p, q] ∧ n ≤ n2 ∧ Free h2 n2 ∧ h2.get p = some (.cells [.slice none 0 0] true ⟨22, 0, true⟩) ∧ h2.get q = some (.cells [.int .i64 4] true ⟨26, 0, true⟩) := by
  refine ACallD.free fun hf => ?_
  refine ACallD.of_body (args := [.pointer (some ⟨p, 0, none⟩), .pointer (some ⟨q, 0, none⟩)]) Tryz.func42 rfl ?_
  refine AWpS.seq (AWpS.recover rfl ?_)
  refine AWpS.of_wp ?_
  refine AWp.norm (k := 11) rfl rfl ?_
  show AWp Tryz.prog _ _ (frameV [.pointer (some ⟨p, 0, none⟩), .pointer (some ⟨q, 0, none⟩), undef, undef, undef, .iface 51 (.agg #[]), undef, undef, undef, undef, undef]) h n
  have hs : SubBut h h ([p, q]) := .refl _ _
  have hn : n ≤ n := Nat.le_refl _
  have hf0 := hf
  refine AWp.block (AWp.seq (AWp.rowV (l := _) pok ?_))
  refine sq.c (v := .bool false) rfl rfl (by kernel_rfl) rfl ?_
  refine sq.e ?_
  refine AWp.condF rfl rfl ?_
  refine AWp.seq (AWp.rowV (l := _) pok ?_)
  refine sq.c (v := .tuple #[.agg #[], .bool true]) rfl rfl (by kernel_rfl) rfl ?_
  refine sq.c (v := .bool true) rfl rfl rfl rfl ?_
  refine sq.c (v := .agg #[]) rfl rfl rfl rfl ?_
  refine sq.e ?_
  refine AWp.condT rfl rfl ?_
  refine AWp.seq (AWp.rowV (l := _) pok ?_)
  have e_p_n : p ≠ n := hf.ne hp
  have e_q_n : q ≠ n := hf.ne hq
  have z_n : h.get n = none := hf0 _ hn
  refine sq.op rfl rfl (Does.alloc (cs := []) hf (z := .agg #[]) (by kernel_rfl) rfl) ?_
  rintro _ h2 n3 ⟨rfl, hb1⟩ s4 hn2 hf
  refine sq.w ?_
  have hp := s4.sub _ _ hp
  have hq := s4.sub _ _ hq
  have hs := hs.trans (s4.mono (by simp))
  have hn := Nat.le_trans hn hn2
  refine sq.op rfl rfl (Does.store (k := 0) (xs := []) (cs' := []) hf (by kernel_rfl) rfl rfl rfl hb1 rfl rfl (Nat.le_of_ble_eq_true rfl) rfl) ?_
  rintro _ h6 n7 ⟨rfl, hb5⟩ s8 hn2 hf
  refine sq.w0 ?_
  have hp := s8.get1 (e_p_n) hp
  have hq := s8.get1 (e_q_n) hq
  have hs := hs.fresh z_n s8
  have hn := Nat.le_trans hn hn2
  refine sq.e (AWp.rowV (l := _) pok ?_)
  refine sq.op rfl rfl (Does.store (k := 1) (xs := [.slice none (0) (0)]) (cs' := [.slice none (0) (0)]) hf (by kernel_rfl) rfl rfl rfl hp rfl rfl (Nat.le_of_ble_eq_true rfl) rfl) ?_
  rintro _ h10 n11 ⟨rfl, hb9⟩ s12 hn2 hf
  refine sq.w0 ?_
  have hq := s12.get1 (Ne.symm hpq) hq
  have hs := hs.at (by simp) s12
  have hn := Nat.le_trans hn hn2
  refine sq.op rfl rfl (Does.store (k := 1) (xs := [.int .i64 (4)]) (cs' := [.int .i64 (4)]) hf (by kernel_rfl) rfl rfl rfl hq rfl rfl (Nat.le_of_ble_eq_true rfl) rfl) ?_
  rintro _ h14 n15 ⟨rfl, hb13⟩ s16 hn2 hf
  refine sq.w0 ?_
  have hb9 := s16.get1 (hpq) hb9
  have hs := hs.at (by simp) s16
  have hn := Nat.le_trans hn hn2
  refine sq.e ?_
  refine ⟨rfl, [], rfl, ?_⟩
  exact ⟨⟨_, rfl⟩, rfl, hs, hn, hf, hb9, hb13⟩
def parB (s : ByteArray) : List Lab × Int := match parP s.data.toList with
  | some ls => (ls, 0)
  | none => ([], 4)
theorem res_cells2 {P : Program} {vs : List Value} {ds : List Deferred} {h : Heap} {a b : Tmp} {t u : TypeId} {x y : Value} (hx : loadE P t (getV vs a) h = some x) (hy : loadE P u (getV vs b) h = some y) : resultsE P (frameD vs ds) h [.cell a t, .cell b u] = some [x, y] := by
  have e1 : resultE P (frameD vs ds) h (.cell a t) = some x := by
    show loadE P t ((frameD vs ds).get a) h = some x
    rw [show (frameD vs ds).get a = getV vs a from frameV_get vs a]; exact hx
  have e2 : resultE P (frameD vs ds) h (.cell b u) = some y := by
    show loadE P u ((frameD vs ds).get b) h = some y
    rw [show (frameD vs ds).get b = getV vs b from frameV_get vs b]; exact hy
  simp only [resultsE, e1, e2]
theorem sub_fresh2 {h h1 h2 : Heap} {S : List Nat} {p q : Nat} (a : SubBut h h1 S) (hp : h.get p = none) (hq : h.get q = none) (c : SubBut h1 h2 [p, q]) : SubBut h h2 S := fun x o hx e => by
  refine c x o ?_ (a x o hx e)
  intro hm
  rcases List.mem_cons.1 hm with rfl | hm
  · rw [hp] at e; cases e
  · rw [List.mem_singleton] at hm; subst hm; rw [hq] at e; cases e
theorem Makes.of_defers {P : Program} (ok : POk P) {f : FuncId} {fn : Func} {c : Code} {args vs : List Value} {h : Heap} {n : Nat} {S : List Nat} {R : Value → Heap → Nat → Prop} {k : Nat} (hf : P.funcs[f]? = some fn) (hb : fn.body = some c) (hk : (frameOf args fn.ntmps).size = k) (hv : valsOf (frameOf args fn.ntmps) k = vs)
    (q : AWp P c (bodyAD P fn fun r h' n' => ∃ v, r = .ret v ∧ SubBut h h' S ∧ n ≤ n' ∧ R v h' n') (frameV vs) h n) : Makes P f args h n S R :=
  ACall.of_body_defers ok hf hb (AWp.norm hk rfl (by rw [hv]; exact q))
theorem f18_spec {h : Heap} {n : Nat} (s : ByteArray) (hls : s.data.toList.length < 1000000000) (hld : Laid0 h) :
    Makes Tryz.prog 18 [.string s] h n [] fun v h2 _ => ∃ (a : Option Addr) (cp : Nat), v = .tuple #[.slice a (parB s).1.length cp, .int .i64 (parB s).2] ∧ OwnRow encLab 40 h h2 (.slice a (parB s).1.length cp) (parB s).1 := by
  refine Makes.free fun hf => ?_
  have hs : SubBut h h [] := .refl _ _
  have hn : n ≤ n := Nat.le_refl _
  have hf0 := hf
  refine Makes.of_defers pok (vs := [.string s, undef, undef, undef, undef, undef, undef, undef, undef, undef, undef]) Tryz.func18 rfl rfl (by kernel_rfl) ?_
  refine AWp.seq (AWp.rowV (l := _) pok ?_)
  have zp : h.get n = none := hf0 _ hn
  refine sq.op rfl rfl (Does.alloc (cs := [.slice none 0 0]) hf (z := .slice none 0 0) (by kernel_rfl) rfl) ?_
  rintro _ h1 n1 ⟨rfl, hp⟩ s1 hn1 hf
  refine sq.w ?_
  have hs := hs.trans (s1.mono (by simp))
  have hn := Nat.le_trans hn hn1
  have hpq : n ≠ n1 := hf.ne hp
  have zq : h.get n1 = none := hf0 _ hn
  refine sq.op rfl rfl (Does.alloc (cs := [.int .i64 0]) hf (z := .int .i64 0) (by kernel_rfl) rfl) ?_
  rintro _ h2 n2 ⟨rfl, hq⟩ s2 hn2 hf
  refine sq.w ?_
  have hp := s2.sub _ _ hp
  have hs := hs.trans (s2.mono (by simp))
  have hn := Nat.le_trans hn hn2
  refine sq.e (AWp.seq (AWp.rowV (l := _) pok ?_))
  refine sq.c (v := .func (.func 42) #[] #[.pointer (some ⟨n, 0, none⟩), .pointer (some ⟨n1, 0, none⟩)]) rfl rfl rfl rfl ?_
  refine ⟨?_⟩
  rw [← frameD_nil]
  refine sd.d (ds := []) (fo := .tmp 5) (d := ⟨.fn (.func 42) #[.pointer (some ⟨n, 0, none⟩), .pointer (some ⟨n1, 0, none⟩)], #[]⟩) rfl rfl ?_ ?_
  · rfl
  refine sd.e ?_
  refine AWp.seq ?_
  refine AWp.seq_region pok ?_
  refine sd.c _ rfl rfl (v := .string s) rfl rfl ?_
  refine sd.c _ rfl rfl (v := .agg #[.string s]) (by kernel_rfl) rfl ?_
  have er1 : n ≠ n2 := hf.ne hp
  have er2 : n1 ≠ n2 := hf.ne hq
  have zr : h.get n2 = none := hf0 _ hn
  refine sd.op rfl rfl (Does.box (cs := [.string s]) hf rfl rfl) ?_
  rintro _ h3 n3 ⟨rfl, hr⟩ s3 hn3 hf
  have hp := s3.sub _ _ hp
  have hq := s3.sub _ _ hq
  have hs := hs.trans (s3.mono (by simp))
  have hn := Nat.le_trans hn hn3
  refine sd.c _ rfl rfl (v := .pointer (some ⟨n2, 0, none⟩)) rfl rfl ?_
  refine sd.e ?_
  refine AWp.seq ?_
  refine AWp.seq_region pok ?_
  refine sd.c _ rfl rfl (v := .pointer (some ⟨n2, 0, none⟩)) rfl rfl ?_
  refine sd.x (S := [n2]) rfl (CallsF.fn rfl (by kernel_rfl) rfl rfl) (f43_spec s.data.toList hr hls (hld.keep hs)) ?_ ?_
  · intro h4 n4 T_ s4 hn4 hf
    have hp := s4.get1 er1 hp
    have hq := s4.get1 er2 hq
    have hs := hs.fresh zr s4
    have hn := Nat.le_trans hn hn4
    have hB : parB s = ([], 4) := by unfold parB; rw [T_]
    rw [hB]
    refine ⟨by kernel_rfl, ACallD.mono (f42_pend hp hq hpq) ?_⟩
    rintro r m' h5 n5 _ ⟨⟨u, rfl⟩, rfl, s5, hn5, hf, hp, hq⟩
    refine ⟨_, res_cells2 (ld1 (p := 0) (v := .slice none 0 0) (by kernel_rfl) (by kernel_rfl) hp rfl) (ld1 (p := 0) (v := .int .i64 4) (by kernel_rfl) (by kernel_rfl) hq rfl), _, rfl, sub_fresh2 hs zp zq s5, Nat.le_trans hn hn5, none, 0, rfl, OwnRow.nil⟩
  · rintro v h4 n4 ⟨ls, a, cp, hpar, rfl, R⟩ s4 hn4 hf
    have hB : parB s = (ls, 0) := by unfold parB; rw [hpar]
    rw [hB]
    have dp : ∀ c ∈ blkOf (.slice a ls.length cp), c ≠ n := fun c hc e => R.ne hp c hc (List.mem_singleton.2 e)
    have dq : ∀ c ∈ blkOf (.slice a ls.length cp), c ≠ n1 := fun c hc e => R.ne hq c hc (List.mem_singleton.2 e)
    have R := R.from hs.sub
    have hp := s4.get1 er1 hp
    have hq := s4.get1 er2 hq
    have hs := hs.fresh zr s4
    have hn := Nat.le_trans hn hn4
    refine sd.op rfl rfl (Does.store (k := 1) (xs := [.slice a ls.length cp]) (cs' := [.slice a ls.length cp]) hf (by kernel_rfl) rfl rfl rfl hp rfl rfl (Nat.le_of_ble_eq_true rfl) rfl) ?_
    rintro _ h5 n5 ⟨rfl, hp⟩ s5 hn5 hf
    have R := R.but s5 (fun c hc hm => dp c hc (List.mem_singleton.1 hm))
    have hq := s5.get1 (Ne.symm hpq) hq
    have hs := hs.fresh zp s5
    have hn := Nat.le_trans hn hn5
    refine sd.op rfl rfl (Does.store (k := 1) (xs := [.int .i64 0]) (cs' := [.int .i64 0]) hf (by kernel_rfl) rfl rfl rfl hq rfl rfl (Nat.le_of_ble_eq_true rfl) rfl) ?_
    rintro _ h6 n6 ⟨rfl, hq⟩ s6 hn6 hf
    have R := R.but s6 (fun c hc hm => dq c hc (List.mem_singleton.1 hm))
    have hp := s6.get1 hpq hp
    have hs := hs.fresh zq s6
    have hn := Nat.le_trans hn hn6
    refine sd.e ?_
    refine AWp.ret ?_
    refine ⟨by kernel_rfl, ACallD.mono (f42_calm hp hq hpq) ?_⟩
    rintro r m' h7 n7 _ ⟨⟨u, rfl⟩, rfl, s7, hn7, hf, hp, hq⟩
    have R := R.but s7 (fun c hc hm => by
      rcases List.mem_cons.1 hm with e | hm
      · exact dp c hc e
      · exact dq c hc (List.mem_singleton.1 hm))
    exact ⟨_, res_cells2 (ld1 (p := 0) (v := .slice a ls.length cp) (by kernel_rfl) (by kernel_rfl) hp rfl) (ld1 (p := 0) (v := .int .i64 0) (by kernel_rfl) (by kernel_rfl) hq rfl), _, rfl, sub_fresh2 hs zp zq s7, Nat.le_trans hn hn7, _, _, rfl, R⟩
def hexI (c : Int) : Int := if 48 ≤ c ∧ c ≤ 57 then c - 48 else if 97 ≤ c ∧ c ≤ 102 then c - 97 + 10 else -1
theorem hexI_dig {c : Int} (h : 48 ≤ c ∧ c ≤ 57) : hexI c = c - 48 := by unfold hexI; rw [if_pos h]
theorem hexI_let {c : Int} (h : 97 ≤ c ∧ c ≤ 102) : hexI c = c - 97 + 10 := by unfold hexI; rw [if_neg (by omega), if_pos h]
theorem hexI_no {c : Int} (h : ¬ (48 ≤ c ∧ c ≤ 57)) (h2 : ¬ (97 ≤ c ∧ c ≤ 102)) : hexI c = -1 := by unfold hexI; rw [if_neg h, if_neg h2]
def rC (m : List UInt8) : Int := ((zz (Lib.decodeL m)).1 : Nat)
def rN (m : List UInt8) : Int := ((zz (Lib.decodeL m)).2 : Nat)
theorem f40_dr {h : Heap} {n : Nat} {s : ByteArray} {a : Int} (hlen : s.data.toList.length < 9223372036854775808) (h0 : 0 ≤ a) (h1 : a < ((s.data.toList.length : Nat) : Int)) :
    Tells Tryz.prog 40 [.string (sub s a (s.data.toList.length : Nat))] h n (.tuple #[.int .i64 (rC (s.data.toList.drop a.toNat)), .int .i64 (rN (s.data.toList.drop a.toNat))]) := by
  have := f40_at (h := h) (n := n) hlen h0 h1
  unfold rC rN
  rw [Lib.decodeL_drop]
  exact this
theorem r_bad {m : List UInt8} (h : rN m = 0) : m = [] ∨ Lib.decodeL m = (65533, 1) := by
  refine .inr ?_
  unfold rN zz at h
  split at h
  · rename_i e; exact e
  · have := Lib.decodeL_width m
    omega
theorem r_ok {m : List UInt8} (hne : m ≠ []) (h : ¬ rN m = 0) : (m ≠ [] ∧ Lib.decodeL m ≠ (65533, 1)) ∧ rC m = dC m ∧ rN m = dN m := by
  have h2 : Lib.decodeL m ≠ (65533, 1) := by
    intro e
    apply h
    unfold rN zz
    rw [if_pos e]; rfl
  obtain ⟨e1, e2⟩ := go_ne hne
  refine ⟨⟨hne, h2⟩, ?_, ?_⟩
  · unfold rC zz; rw [if_neg h2, e1]
  · unfold rN zz; rw [if_neg h2, e2]
theorem f70_spec {h : Heap} {n : Nat} (c : Int) (h0 : 0 ≤ c) (h1 : c < 256) :
    Tells Tryz.prog 70 [.int .u8 (c)] h n (.int .i64 (hexI c)) := by
  refine Makes.tells (Makes.free fun hf => ?_)
  have hs : SubBut h h ([]) := .refl _ _
  have hn : n ≤ n := Nat.le_refl _
  have hf0 := hf
  refine Makes.of_bodyV (args := [.int .u8 (c)]) (vs := [.int .u8 (c), undef, undef, undef, undef, undef, undef, undef, undef, undef, undef, undef, undef, undef, undef, undef, undef, undef, undef, undef, undef, undef]) Tryz.func70 rfl rfl ?_
  refine AWp.seq (AWp.rowV (l := _) pok ?_)
  refine sq.c (v := .int .i64 (0)) rfl rfl rfl rfl ?_
  refine sq.e (AWp.seq (AWp.seq (AWp.rowV (l := _) pok ?_)))
  refine sq.c (v := .int .u8 (c)) rfl rfl rfl rfl ?_
  refine sq.c (v := .bool (decide ((48 : Int) ≤ c))) rfl rfl rfl rfl ?_
  refine sq.c (v := .bool (decide ((48 : Int) ≤ c))) rfl rfl rfl rfl ?_
  by_cases c1_1 : (48 : Int) ≤ c
  · rw [decide_eq_true c1_1]
    refine sq.c (v := .int .u8 (c)) (wantT (g := 2) (d := 5) rfl rfl rfl) rfl rfl rfl ?_
    refine sq.c (v := .bool (decide (c ≤ (57 : Int)))) (wantT (g := 2) (d := 5) rfl rfl rfl) rfl rfl rfl ?_
    refine sq.c (v := .bool (decide (c ≤ (57 : Int)))) rfl rfl rfl rfl ?_
    refine sq.e ?_
    by_cases c1_4 : c ≤ (57 : Int)
    · rw [decide_eq_true c1_4]
      refine AWp.condT rfl rfl ?_
      refine AWp.seq (AWp.rowV (l := _) pok ?_)
      refine sq.c (v := .int .u8 (c)) rfl rfl rfl rfl ?_
      refine sq.c (v := .int .u8 (c - 48)) rfl rfl (okI (wrap_u8 (by omega) (by omega))) rfl ?_
      refine sq.c (v := .int .i64 (c - 48)) rfl rfl (Eq.trans (b := some (.int .i64 (IntKind.i64.wrap (c - 48)))) (by kernel_rfl) (okI (wrap_i64 (by omega) (by omega)))) rfl ?_
      refine sq.c (v := .int .i64 (c - 48)) rfl rfl rfl rfl ?_
      refine sq.e ?_
      refine AWp.ret ?_
      refine ⟨rfl, [.int .i64 (c - 48)], rfl, .int .i64 (c - 48), rfl, hs, hn, ?_⟩
      rw [hexI_dig ⟨c1_1, c1_4⟩]
    · rw [decide_eq_false c1_4]
      refine AWp.condF rfl rfl ?_
      refine AWp.skip (AWp.seq (AWp.seq (AWp.rowV (l := _) pok ?_)))
      refine sq.c (v := .int .u8 (c)) rfl rfl rfl rfl ?_
      refine sq.c (v := .bool (decide ((97 : Int) ≤ c))) rfl rfl rfl rfl ?_
      refine sq.c (v := .bool (decide ((97 : Int) ≤ c))) rfl rfl rfl rfl ?_
      by_cases c3_1 : (97 : Int) ≤ c
      · rw [decide_eq_true c3_1]
        refine sq.c (v := .int .u8 (c)) (wantT (g := 2) (d := 14) rfl rfl rfl) rfl rfl rfl ?_
        refine sq.c (v := .bool (decide (c ≤ (102 : Int)))) (wantT (g := 2) (d := 14) rfl rfl rfl) rfl rfl rfl ?_
        refine sq.c (v := .bool (decide (c ≤ (102 : Int)))) rfl rfl rfl rfl ?_
        refine sq.e ?_
        by_cases c3_4 : c ≤ (102 : Int)
        · rw [decide_eq_true c3_4]
          refine AWp.condT rfl rfl ?_
          refine AWp.seq (AWp.rowV (l := _) pok ?_)
          refine sq.c (v := .int .u8 (c)) rfl rfl rfl rfl ?_
          refine sq.c (v := .int .u8 (c - 97)) rfl rfl (okI (wrap_u8 (by omega) (by omega))) rfl ?_
          refine sq.c (v := .int .i64 (c - 97)) rfl rfl (Eq.trans (b := some (.int .i64 (IntKind.i64.wrap (c - 97)))) (by kernel_rfl) (okI (wrap_i64 (by omega) (by omega)))) rfl ?_
          refine sq.c (v := .int .i64 ((c - 97) + 10)) rfl rfl (okI (wrap_i64 (by omega) (by omega))) rfl ?_
          refine sq.c (v := .int .i64 ((c - 97) + 10)) rfl rfl rfl rfl ?_
          refine sq.e ?_
          refine AWp.ret ?_
          refine ⟨rfl, [.int .i64 ((c - 97) + 10)], rfl, .int .i64 ((c - 97) + 10), rfl, hs, hn, ?_⟩
          rw [hexI_let ⟨c3_1, c3_4⟩]
        · rw [decide_eq_false c3_4]
          refine AWp.condF rfl rfl ?_
          refine AWp.skip (AWp.seq (AWp.rowV (l := _) pok ?_))
          refine sq.c (v := .int .i64 (-1)) rfl rfl rfl rfl ?_
          refine sq.e ?_
          refine AWp.ret ?_
          refine ⟨rfl, [.int .i64 (-1)], rfl, .int .i64 (-1), rfl, hs, hn, ?_⟩
          rw [hexI_no (fun q => c1_4 q.2) (fun q => c3_4 q.2)]
      · rw [decide_eq_false c3_1]
        refine sq.s (wantF (g := 2) (d := 14) rfl rfl rfl) rfl ?_
        refine sq.s (wantF (g := 2) (d := 14) rfl rfl rfl) rfl ?_
        refine sq.c (v := .bool false) rfl rfl rfl rfl ?_
        refine sq.e ?_
        refine AWp.condF rfl rfl ?_
        refine AWp.skip (AWp.seq (AWp.rowV (l := _) pok ?_))
        refine sq.c (v := .int .i64 (-1)) rfl rfl rfl rfl ?_
        refine sq.e ?_
        refine AWp.ret ?_
        refine ⟨rfl, [.int .i64 (-1)], rfl, .int .i64 (-1), rfl, hs, hn, ?_⟩
        rw [hexI_no (fun q => c1_4 q.2) (fun q => c3_1 q.1)]
  · rw [decide_eq_false c1_1]
    refine sq.s (wantF (g := 2) (d := 5) rfl rfl rfl) rfl ?_
    refine sq.s (wantF (g := 2) (d := 5) rfl rfl rfl) rfl ?_
    refine sq.c (v := .bool false) rfl rfl rfl rfl ?_
    refine sq.e ?_
    refine AWp.condF rfl rfl ?_
    refine AWp.skip (AWp.seq (AWp.seq (AWp.rowV (l := _) pok ?_)))
    refine sq.c (v := .int .u8 (c)) rfl rfl rfl rfl ?_
    refine sq.c (v := .bool (decide ((97 : Int) ≤ c))) rfl rfl rfl rfl ?_
    refine sq.c (v := .bool (decide ((97 : Int) ≤ c))) rfl rfl rfl rfl ?_
    by_cases c3_1 : (97 : Int) ≤ c
    · rw [decide_eq_true c3_1]
      refine sq.c (v := .int .u8 (c)) (wantT (g := 2) (d := 14) rfl rfl rfl) rfl rfl rfl ?_
      refine sq.c (v := .bool (decide (c ≤ (102 : Int)))) (wantT (g := 2) (d := 14) rfl rfl rfl) rfl rfl rfl ?_
      refine sq.c (v := .bool (decide (c ≤ (102 : Int)))) rfl rfl rfl rfl ?_
      refine sq.e ?_
      by_cases c3_4 : c ≤ (102 : Int)
      · rw [decide_eq_true c3_4]
        refine AWp.condT rfl rfl ?_
        refine AWp.seq (AWp.rowV (l := _) pok ?_)
        refine sq.c (v := .int .u8 (c)) rfl rfl rfl rfl ?_
        refine sq.c (v := .int .u8 (c - 97)) rfl rfl (okI (wrap_u8 (by omega) (by omega))) rfl ?_
        refine sq.c (v := .int .i64 (c - 97)) rfl rfl (Eq.trans (b := some (.int .i64 (IntKind.i64.wrap (c - 97)))) (by kernel_rfl) (okI (wrap_i64 (by omega) (by omega)))) rfl ?_
        refine sq.c (v := .int .i64 ((c - 97) + 10)) rfl rfl (okI (wrap_i64 (by omega) (by omega))) rfl ?_
        refine sq.c (v := .int .i64 ((c - 97) + 10)) rfl rfl rfl rfl ?_
        refine sq.e ?_
        refine AWp.ret ?_
        refine ⟨rfl, [.int .i64 ((c - 97) + 10)], rfl, .int .i64 ((c - 97) + 10), rfl, hs, hn, ?_⟩
        rw [hexI_let ⟨c3_1, c3_4⟩]
      · rw [decide_eq_false c3_4]
        refine AWp.condF rfl rfl ?_
        refine AWp.skip (AWp.seq (AWp.rowV (l := _) pok ?_))
        refine sq.c (v := .int .i64 (-1)) rfl rfl rfl rfl ?_
        refine sq.e ?_
        refine AWp.ret ?_
        refine ⟨rfl, [.int .i64 (-1)], rfl, .int .i64 (-1), rfl, hs, hn, ?_⟩
        rw [hexI_no (fun q => c1_1 q.1) (fun q => c3_4 q.2)]
    · rw [decide_eq_false c3_1]
      refine sq.s (wantF (g := 2) (d := 14) rfl rfl rfl) rfl ?_
      refine sq.s (wantF (g := 2) (d := 14) rfl rfl rfl) rfl ?_
      refine sq.c (v := .bool false) rfl rfl rfl rfl ?_
      refine sq.e ?_
      refine AWp.condF rfl rfl ?_
      refine AWp.skip (AWp.seq (AWp.rowV (l := _) pok ?_))
      refine sq.c (v := .int .i64 (-1)) rfl rfl rfl rfl ?_
      refine sq.e ?_
      refine AWp.ret ?_
      refine ⟨rfl, [.int .i64 (-1)], rfl, .int .i64 (-1), rfl, hs, hn, ?_⟩
      rw [hexI_no (fun q => c1_1 q.1) (fun q => c3_1 q.1)]
theorem f71_spec {h : Heap} {n : Nat} (c : Int) (hr : isR c) :
    Tells Tryz.prog 71 [.int .i64 (c)] h n (.string (strB (encR c))) := by
  refine Makes.tells (Makes.free fun hf => ?_)
  obtain ⟨hr0, hr1, hr2⟩ := hr
  have hs : SubBut h h ([]) := .refl _ _
  have hn : n ≤ n := Nat.le_refl _
  have hf0 := hf
  refine Makes.of_bodyV (args := [.int .i64 (c)]) (vs := [.int .i64 (c), undef, undef, undef, undef, undef, undef, undef, undef, undef, undef, undef, undef, undef, undef, undef, undef, undef, undef, undef, undef, undef, undef, undef, undef, undef, undef, undef, undef, undef, undef, undef, undef, undef, undef, undef, undef, undef, undef, undef, undef, undef, undef, undef, undef, undef, undef, undef, undef, undef, undef, undef, undef, undef, undef, undef, undef, undef]) Tryz.func71 rfl rfl ?_
  refine AWp.seq (AWp.rowV (l := _) pok ?_)
  refine sq.c (v := .string (⟨#[]⟩)) rfl rfl rfl rfl ?_
  refine sq.e (AWp.seq (AWp.seq (AWp.rowV (l := _) pok ?_)))
  refine sq.c (v := .int .i64 (c)) rfl rfl rfl rfl ?_
  refine sq.c (v := .bool (decide (c < (128 : Int)))) rfl rfl rfl rfl ?_
  refine sq.e ?_
  by_cases c1_1 : c < (128 : Int)
  · rw [decide_eq_true c1_1]
    refine AWp.condT rfl rfl ?_
    refine AWp.seq (AWp.rowV (l := _) pok ?_)
    refine sq.c (v := .int .i64 (c)) rfl rfl rfl rfl ?_
    refine sq.c (v := .int .u8 (((lo8 (c)).toNat : Int))) rfl rfl (okI (Eq.trans (wrap_u8 (by omega) (by omega)) (lo8_int (by omega) (by omega)).symm)) rfl ?_
    have z_n : h.get n = none := hf0 _ hn
    refine sq.op rfl rfl (Does.build (e := 5) (cs := [.int .u8 (((lo8 (c)).toNat : Int))]) hf (fun _ _ => by kernel_rfl)) ?_
    rintro _ h2 n3 ⟨rfl, hb1⟩ s4 hn2 hf
    refine sq.w ?_
    have hs := hs.trans s4
    have hn := Nat.le_trans hn hn2
    refine sq.c (v := .string (⟨([lo8 (c)] : List UInt8).toArray⟩)) rfl rfl (strOf_row (P := Tryz.prog) (a := 42) (b := 9) (e := 5) (v := .slice (some ⟨n, 0, none⟩) (1) (1)) (bs := [lo8 (c)]) (by kernel_rfl) (by kernel_rfl) (by kernel_rfl) (by kernel_rfl) (IsRow.of (E := encByte) (xs := [lo8 (c)]) (cap := 1) hb1 (Nat.le_refl _))) rfl ?_
    refine sq.c (v := .string (⟨([lo8 (c)] : List UInt8).toArray⟩)) rfl rfl rfl rfl ?_
    refine sq.e ?_
    refine AWp.ret ?_
    refine ⟨rfl, [.string (⟨([lo8 (c)] : List UInt8).toArray⟩)], rfl, .string (⟨([lo8 (c)] : List UInt8).toArray⟩), rfl, hs, hn, ?_⟩
    rw [enc1 (by omega) (by omega)]
  · rw [decide_eq_false c1_1]
    refine AWp.condF rfl rfl ?_
    refine AWp.skip (AWp.seq (AWp.seq (AWp.rowV (l := _) pok ?_)))
    refine sq.c (v := .int .i64 (c)) rfl rfl rfl rfl ?_
    refine sq.c (v := .bool (decide (c < (2048 : Int)))) rfl rfl rfl rfl ?_
    refine sq.e ?_
    by_cases c3_1 : c < (2048 : Int)
    · rw [decide_eq_true c3_1]
      refine AWp.condT rfl rfl ?_
      refine AWp.seq (AWp.rowV (l := _) pok ?_)
      refine sq.c (v := .int .i64 (c)) rfl rfl rfl rfl ?_
      refine sq.c (v := .int .i64 (c / 64)) rfl rfl (okI (quo_i64 (by omega) (by omega))) rfl ?_
      refine sq.c (v := .int .i64 (192 + (c / 64))) rfl rfl (okI (wrap_i64 (by omega) (by omega))) rfl ?_
      refine sq.c (v := .int .u8 (((lo8 (192 + (c / 64))).toNat : Int))) rfl rfl (okI (Eq.trans (wrap_u8 (by omega) (by omega)) (lo8_int (by omega) (by omega)).symm)) rfl ?_
      refine sq.c (v := .int .i64 (c)) rfl rfl rfl rfl ?_
      refine sq.c (v := .int .i64 (c % 64)) rfl rfl (okI (Int.tmod_eq_emod_of_nonneg (by omega))) rfl ?_
      refine sq.c (v := .int .i64 (128 + (c % 64))) rfl rfl (okI (wrap_i64 (by omega) (by omega))) rfl ?_
      refine sq.c (v := .int .u8 (((lo8 (128 + (c % 64))).toNat : Int))) rfl rfl (okI (Eq.trans (wrap_u8 (by omega) (by omega)) (lo8_int (by omega) (by omega)).symm)) rfl ?_
      have z_n : h.get n = none := hf0 _ hn
      refine sq.op rfl rfl (Does.build (e := 5) (cs := [.int .u8 (((lo8 (192 + (c / 64))).toNat : Int)), .int .u8 (((lo8 (128 + (c % 64))).toNat : Int))]) hf (fun _ _ => by kernel_rfl)) ?_
      rintro _ h6 n7 ⟨rfl, hb5⟩ s8 hn2 hf
      refine sq.w ?_
      have hs := hs.trans s8
      have hn := Nat.le_trans hn hn2
      refine sq.c (v := .string (⟨([lo8 (192 + (c / 64)), lo8 (128 + (c % 64))] : List UInt8).toArray⟩)) rfl rfl (strOf_row (P := Tryz.prog) (a := 42) (b := 9) (e := 5) (v := .slice (some ⟨n, 0, none⟩) (2) (2)) (bs := [lo8 (192 + (c / 64)), lo8 (128 + (c % 64))]) (by kernel_rfl) (by kernel_rfl) (by kernel_rfl) (by kernel_rfl) (IsRow.of (E := encByte) (xs := [lo8 (192 + (c / 64)), lo8 (128 + (c % 64))]) (cap := 2) hb5 (Nat.le_refl _))) rfl ?_
      refine sq.c (v := .string (⟨([lo8 (192 + (c / 64)), lo8 (128 + (c % 64))] : List UInt8).toArray⟩)) rfl rfl rfl rfl ?_
      refine sq.e ?_
      refine AWp.ret ?_
      refine ⟨rfl, [.string (⟨([lo8 (192 + (c / 64)), lo8 (128 + (c % 64))] : List UInt8).toArray⟩)], rfl, .string (⟨([lo8 (192 + (c / 64)), lo8 (128 + (c % 64))] : List UInt8).toArray⟩), rfl, hs, hn, ?_⟩
      rw [enc2 (by omega) (by omega)]
    · rw [decide_eq_false c3_1]
      refine AWp.condF rfl rfl ?_
      refine AWp.skip (AWp.seq (AWp.seq (AWp.rowV (l := _) pok ?_)))
      refine sq.c (v := .int .i64 (c)) rfl rfl rfl rfl ?_
      refine sq.c (v := .bool (decide (c < (65536 : Int)))) rfl rfl rfl rfl ?_
      refine sq.e ?_
      by_cases c5_1 : c < (65536 : Int)
      · rw [decide_eq_true c5_1]
        refine AWp.condT rfl rfl ?_
        refine AWp.seq (AWp.rowV (l := _) pok ?_)
        refine sq.c (v := .int .i64 (c)) rfl rfl rfl rfl ?_
        refine sq.c (v := .int .i64 (c / 4096)) rfl rfl (okI (quo_i64 (by omega) (by omega))) rfl ?_
        refine sq.c (v := .int .i64 (224 + (c / 4096))) rfl rfl (okI (wrap_i64 (by omega) (by omega))) rfl ?_
        refine sq.c (v := .int .u8 (((lo8 (224 + (c / 4096))).toNat : Int))) rfl rfl (okI (Eq.trans (wrap_u8 (by omega) (by omega)) (lo8_int (by omega) (by omega)).symm)) rfl ?_
        refine sq.c (v := .int .i64 (c)) rfl rfl rfl rfl ?_
        refine sq.c (v := .int .i64 (c / 64)) rfl rfl (okI (quo_i64 (by omega) (by omega))) rfl ?_
        refine sq.c (v := .int .i64 ((c / 64) % 64)) rfl rfl (okI (Int.tmod_eq_emod_of_nonneg (by omega))) rfl ?_
        refine sq.c (v := .int .i64 (128 + ((c / 64) % 64))) rfl rfl (okI (wrap_i64 (by omega) (by omega))) rfl ?_
        refine sq.c (v := .int .u8 (((lo8 (128 + ((c / 64) % 64))).toNat : Int))) rfl rfl (okI (Eq.trans (wrap_u8 (by omega) (by omega)) (lo8_int (by omega) (by omega)).symm)) rfl ?_
        refine sq.c (v := .int .i64 (c)) rfl rfl rfl rfl ?_
        refine sq.c (v := .int .i64 (c % 64)) rfl rfl (okI (Int.tmod_eq_emod_of_nonneg (by omega))) rfl ?_
        refine sq.c (v := .int .i64 (128 + (c % 64))) rfl rfl (okI (wrap_i64 (by omega) (by omega))) rfl ?_
        refine sq.c (v := .int .u8 (((lo8 (128 + (c % 64))).toNat : Int))) rfl rfl (okI (Eq.trans (wrap_u8 (by omega) (by omega)) (lo8_int (by omega) (by omega)).symm)) rfl ?_
        have z_n : h.get n = none := hf0 _ hn
        refine sq.op rfl rfl (Does.build (e := 5) (cs := [.int .u8 (((lo8 (224 + (c / 4096))).toNat : Int)), .int .u8 (((lo8 (128 + ((c / 64) % 64))).toNat : Int)), .int .u8 (((lo8 (128 + (c % 64))).toNat : Int))]) hf (fun _ _ => by kernel_rfl)) ?_
        rintro _ h10 n11 ⟨rfl, hb9⟩ s12 hn2 hf
        refine sq.w ?_
        have hs := hs.trans s12
        have hn := Nat.le_trans hn hn2
        refine sq.c (v := .string (⟨([lo8 (224 + (c / 4096)), lo8 (128 + ((c / 64) % 64)), lo8 (128 + (c % 64))] : List UInt8).toArray⟩)) rfl rfl (strOf_row (P := Tryz.prog) (a := 42) (b := 9) (e := 5) (v := .slice (some ⟨n, 0, none⟩) (3) (3)) (bs := [lo8 (224 + (c / 4096)), lo8 (128 + ((c / 64) % 64)), lo8 (128 + (c % 64))]) (by kernel_rfl) (by kernel_rfl) (by kernel_rfl) (by kernel_rfl) (IsRow.of (E := encByte) (xs := [lo8 (224 + (c / 4096)), lo8 (128 + ((c / 64) % 64)), lo8 (128 + (c % 64))]) (cap := 3) hb9 (Nat.le_refl _))) rfl ?_
        refine sq.c (v := .string (⟨([lo8 (224 + (c / 4096)), lo8 (128 + ((c / 64) % 64)), lo8 (128 + (c % 64))] : List UInt8).toArray⟩)) rfl rfl rfl rfl ?_
        refine sq.e ?_
        refine AWp.ret ?_
        refine ⟨rfl, [.string (⟨([lo8 (224 + (c / 4096)), lo8 (128 + ((c / 64) % 64)), lo8 (128 + (c % 64))] : List UInt8).toArray⟩)], rfl, .string (⟨([lo8 (224 + (c / 4096)), lo8 (128 + ((c / 64) % 64)), lo8 (128 + (c % 64))] : List UInt8).toArray⟩), rfl, hs, hn, ?_⟩
        rw [enc3 (by omega)]
      · rw [decide_eq_false c5_1]
        refine AWp.condF rfl rfl ?_
        refine AWp.skip (AWp.seq (AWp.rowV (l := _) pok ?_))
        refine sq.c (v := .int .i64 (c)) rfl rfl rfl rfl ?_
        refine sq.c (v := .int .i64 (c / 262144)) rfl rfl (okI (quo_i64 (by omega) (by omega))) rfl ?_
        refine sq.c (v := .int .i64 (240 + (c / 262144))) rfl rfl (okI (wrap_i64 (by omega) (by omega))) rfl ?_
        refine sq.c (v := .int .u8 (((lo8 (240 + (c / 262144))).toNat : Int))) rfl rfl (okI (Eq.trans (wrap_u8 (by omega) (by omega)) (lo8_int (by omega) (by omega)).symm)) rfl ?_
        refine sq.c (v := .int .i64 (c)) rfl rfl rfl rfl ?_
        refine sq.c (v := .int .i64 (c / 4096)) rfl rfl (okI (quo_i64 (by omega) (by omega))) rfl ?_
        refine sq.c (v := .int .i64 ((c / 4096) % 64)) rfl rfl (okI (Int.tmod_eq_emod_of_nonneg (by omega))) rfl ?_
        refine sq.c (v := .int .i64 (128 + ((c / 4096) % 64))) rfl rfl (okI (wrap_i64 (by omega) (by omega))) rfl ?_
        refine sq.c (v := .int .u8 (((lo8 (128 + ((c / 4096) % 64))).toNat : Int))) rfl rfl (okI (Eq.trans (wrap_u8 (by omega) (by omega)) (lo8_int (by omega) (by omega)).symm)) rfl ?_
        refine sq.c (v := .int .i64 (c)) rfl rfl rfl rfl ?_
        refine sq.c (v := .int .i64 (c / 64)) rfl rfl (okI (quo_i64 (by omega) (by omega))) rfl ?_
        refine sq.c (v := .int .i64 ((c / 64) % 64)) rfl rfl (okI (Int.tmod_eq_emod_of_nonneg (by omega))) rfl ?_
        refine sq.c (v := .int .i64 (128 + ((c / 64) % 64))) rfl rfl (okI (wrap_i64 (by omega) (by omega))) rfl ?_
        refine sq.c (v := .int .u8 (((lo8 (128 + ((c / 64) % 64))).toNat : Int))) rfl rfl (okI (Eq.trans (wrap_u8 (by omega) (by omega)) (lo8_int (by omega) (by omega)).symm)) rfl ?_
        refine sq.c (v := .int .i64 (c)) rfl rfl rfl rfl ?_
        refine sq.c (v := .int .i64 (c % 64)) rfl rfl (okI (Int.tmod_eq_emod_of_nonneg (by omega))) rfl ?_
        refine sq.c (v := .int .i64 (128 + (c % 64))) rfl rfl (okI (wrap_i64 (by omega) (by omega))) rfl ?_
        refine sq.c (v := .int .u8 (((lo8 (128 + (c % 64))).toNat : Int))) rfl rfl (okI (Eq.trans (wrap_u8 (by omega) (by omega)) (lo8_int (by omega) (by omega)).symm)) rfl ?_
        have z_n : h.get n = none := hf0 _ hn
        refine sq.op rfl rfl (Does.build (e := 5) (cs := [.int .u8 (((lo8 (240 + (c / 262144))).toNat : Int)), .int .u8 (((lo8 (128 + ((c / 4096) % 64))).toNat : Int)), .int .u8 (((lo8 (128 + ((c / 64) % 64))).toNat : Int)), .int .u8 (((lo8 (128 + (c % 64))).toNat : Int))]) hf (fun _ _ => by kernel_rfl)) ?_
        rintro _ h14 n15 ⟨rfl, hb13⟩ s16 hn2 hf
        refine sq.w ?_
        have hs := hs.trans s16
        have hn := Nat.le_trans hn hn2
        refine sq.c (v := .string (⟨([lo8 (240 + (c / 262144)), lo8 (128 + ((c / 4096) % 64)), lo8 (128 + ((c / 64) % 64)), lo8 (128 + (c % 64))] : List UInt8).toArray⟩)) rfl rfl (strOf_row (P := Tryz.prog) (a := 42) (b := 9) (e := 5) (v := .slice (some ⟨n, 0, none⟩) (4) (4)) (bs := [lo8 (240 + (c / 262144)), lo8 (128 + ((c / 4096) % 64)), lo8 (128 + ((c / 64) % 64)), lo8 (128 + (c % 64))]) (by kernel_rfl) (by kernel_rfl) (by kernel_rfl) (by kernel_rfl) (IsRow.of (E := encByte) (xs := [lo8 (240 + (c / 262144)), lo8 (128 + ((c / 4096) % 64)), lo8 (128 + ((c / 64) % 64)), lo8 (128 + (c % 64))]) (cap := 4) hb13 (Nat.le_refl _))) rfl ?_
        refine sq.c (v := .string (⟨([lo8 (240 + (c / 262144)), lo8 (128 + ((c / 4096) % 64)), lo8 (128 + ((c / 64) % 64)), lo8 (128 + (c % 64))] : List UInt8).toArray⟩)) rfl rfl rfl rfl ?_
        refine sq.e ?_
        refine AWp.ret ?_
        refine ⟨rfl, [.string (⟨([lo8 (240 + (c / 262144)), lo8 (128 + ((c / 4096) % 64)), lo8 (128 + ((c / 64) % 64)), lo8 (128 + (c % 64))] : List UInt8).toArray⟩)], rfl, .string (⟨([lo8 (240 + (c / 262144)), lo8 (128 + ((c / 4096) % 64)), lo8 (128 + ((c / 64) % 64)), lo8 (128 + (c % 64))] : List UInt8).toArray⟩), rfl, hs, hn, ?_⟩
        rw [enc4 (by omega) (by omega)]
abbrev bsOf (s : ByteArray) : List UInt8 := s.data.toList
theorem bt_drop {s : ByteArray} {p : Int} (h0 : 0 ≤ p) : bt (strB ((bsOf s).drop p.toNat)) 0 = bt s p := by
  have e : (strB ((bsOf s).drop p.toNat)).data.toList[(0 : Int).toNat]? = s.data.toList[p.toNat]? := by
    show ((bsOf s).drop p.toNat)[0]? = _
    rw [List.getElem?_drop, Nat.add_zero]
  unfold bt
  rw [e]
theorem drop_one {s : ByteArray} {p : Int} (h0 : 0 ≤ p) : ((bsOf s).drop p.toNat).drop 1 = (bsOf s).drop (p + 1).toNat := by
  rw [List.drop_drop, show (p + 1).toNat = p.toNat + 1 by omega]
theorem drop_nil {s : ByteArray} {p : Int} (h : ¬ p < ((bsOf s).length : Nat)) : (bsOf s).drop p.toNat = [] := List.drop_eq_nil_of_le (by omega)
theorem drop_ne {s : ByteArray} {p : Int} (h0 : 0 ≤ p) (h : p < ((bsOf s).length : Nat)) : (bsOf s).drop p.toNat ≠ [] := by
  intro e
  have := congrArg List.length e
  rw [List.length_drop] at this
  simp only [List.length_nil] at this
  omega
theorem pre_one {l : List UInt8} {c : UInt8} : Lib.hasPrefix l [c] = true ↔ l[0]? = some c := by
  unfold Lib.hasPrefix
  cases l with
  | nil => simp [List.isPrefixOf]
  | cons x r =>
    simp only [List.isPrefixOf, Bool.and_true, beq_iff_eq, List.getElem?_cons_zero, Option.some.injEq]
    exact eq_comm
theorem pre_bt {s : ByteArray} {p : Int} {c : UInt8} (h0 : 0 ≤ p) : Lib.hasPrefix ((bsOf s).drop p.toNat) [c] = true ↔ p < ((bsOf s).length : Nat) ∧ bt s p = c.toNat := by
  rw [pre_one, List.getElem?_drop, Nat.add_zero]
  unfold bt
  constructor
  · intro h
    have := (List.getElem?_eq_some_iff.1 h).1
    refine ⟨by omega, ?_⟩
    have h' : s.data.toList[p.toNat]? = some c := h
    rw [h']; rfl
  · rintro ⟨h1, h2⟩
    have hlt : p.toNat < (bsOf s).length := by omega
    rw [List.getElem?_eq_getElem hlt]
    have h3 : (((bsOf s)[p.toNat]?).getD 0).toNat = c.toNat := Int.ofNat_inj.1 h2
    rw [List.getElem?_eq_getElem hlt, Option.getD_some] at h3
    rw [UInt8.toNat_inj.1 h3]
theorem esc_end {s : ByteArray} {p : Int} (h : ¬ p < ((bsOf s).length : Nat)) : escP ((bsOf s).drop p.toNat) = none := by
  rw [drop_nil h]; rfl
theorem esc_u {s : ByteArray} {p : Int} (h0 : 0 ≤ p) (h : p < ((bsOf s).length : Nat)) (hb : bt s p = 117) : escP ((bsOf s).drop p.toNat) = numP ((bsOf s).drop (p + 1).toNat) := by
  unfold escP
  rw [if_neg (drop_ne h0 h), bt_drop h0, if_pos hb, drop_one h0]
theorem esc_q {s : ByteArray} {p : Int} (h0 : 0 ≤ p) (h : p < ((bsOf s).length : Nat)) (hb : bt s p = 34 ∨ bt s p = 92) : escP ((bsOf s).drop p.toNat) = some ((bt s p).toNat, (bsOf s).drop (p + 1).toNat) := by
  unfold escP
  rw [if_neg (drop_ne h0 h), bt_drop h0, if_neg (by omega), if_pos hb, drop_one h0]
theorem esc_no {s : ByteArray} {p : Int} (h0 : 0 ≤ p) (h : p < ((bsOf s).length : Nat)) (hu : ¬ bt s p = 117) (hb : ¬ bt s p = 34) (hb2 : ¬ bt s p = 92) : escP ((bsOf s).drop p.toNat) = none := by
  unfold escP
  rw [if_neg (drop_ne h0 h), bt_drop h0, if_neg hu, if_neg (by omega)]
theorem num_at0 {s : ByteArray} {p : Int} (h0 : 0 ≤ p) (h : ¬ (p < ((bsOf s).length : Nat) ∧ bt s p = 123)) : numP ((bsOf s).drop p.toNat) = none :=
  num_no fun q => h ((pre_bt (c := 123) h0).1 q.1)
theorem hexI_iff (b : UInt8) : 0 ≤ hexI b.toNat ↔ isHexB b = true := by
  have key : ∀ n : Fin 256, 0 ≤ hexI ((UInt8.ofNat n.val).toNat : Nat) ↔ isHexB (UInt8.ofNat n.val) = true := by decide +kernel
  have := key ⟨b.toNat, b.toNat_lt⟩
  simpa using this
theorem hexI_val (b : UInt8) (h : isHexB b = true) : hexI b.toNat = hexD b := by
  have := hex_rng h
  have h2 := hexD_or b
  rcases this with q | q
  · rw [hexI_dig (by omega)]; omega
  · rw [hexI_let (by omega)]; omega
theorem bt_get {s : ByteArray} {z : Int} (h0 : 0 ≤ z) (h : z < ((bsOf s).length : Nat)) : ∃ b, (bsOf s)[z.toNat]? = some b ∧ bt s z = b.toNat := by
  have hlt : z.toNat < (bsOf s).length := by omega
  refine ⟨(bsOf s)[z.toNat], List.getElem?_eq_getElem hlt, ?_⟩
  have h' : s.data.toList[z.toNat]? = some (bsOf s)[z.toNat] := List.getElem?_eq_getElem hlt
  unfold bt
  rw [h']; rfl
theorem num_scan {s : ByteArray} {fr z k : Int} (h1 : 1 ≤ fr) (hz : fr ≤ z) (hzl : z ≤ ((bsOf s).length : Nat)) (h6 : z - fr ≤ 6) (hlt : fr - 1 < ((bsOf s).length : Nat)) (hb : bt s (fr - 1) = 123)
    (hk : k = (hexV (((bsOf s).drop fr.toNat).take (z - fr).toNat) : Nat)) (ha : (((bsOf s).drop fr.toNat).take (z - fr).toNat).all isHexB = true) (hstop : z < ((bsOf s).length : Nat) → z - fr < 6 → ¬ 0 ≤ hexI (bt s z)) :
    ((fr < z ∧ z < ((bsOf s).length : Nat) ∧ bt s z = 125 ∧ ¬ 1114111 < k ∧ ¬ (55296 ≤ k ∧ k ≤ 57343)) → numP ((bsOf s).drop (fr - 1).toNat) = some (k.toNat, (bsOf s).drop (z + 1).toNat)) ∧
    (¬ (fr < z ∧ z < ((bsOf s).length : Nat) ∧ bt s z = 125 ∧ ¬ 1114111 < k ∧ ¬ (55296 ≤ k ∧ k ≤ 57343)) → numP ((bsOf s).drop (fr - 1).toNat) = none) := by
  obtain ⟨q1, hq1⟩ : ∃ q1, q1 = (bsOf s).drop fr.toNat := ⟨_, rfl⟩
  obtain ⟨j, hj⟩ : ∃ j, j = (z - fr).toNat := ⟨_, rfl⟩
  have hd1 : ((bsOf s).drop (fr - 1).toNat).drop 1 = q1 := by rw [hq1, drop_one (by omega)]; congr 1; omega
  have hp : Lib.hasPrefix ((bsOf s).drop (fr - 1).toNat) [123] = true := (pre_bt (c := 123) (by omega)).2 ⟨hlt, hb⟩
  rw [← hq1, ← hj] at hk ha
  have hql : q1.length = (bsOf s).length - fr.toNat := by rw [hq1, List.length_drop]
  have hat : ∀ i : Nat, fr + i < ((bsOf s).length : Nat) → ∃ b, q1[i]? = some b ∧ bt s (fr + i) = b.toNat := by
    intro i hi
    obtain ⟨b, e1, e2⟩ := bt_get (s := s) (z := fr + i) (by omega) hi
    refine ⟨b, ?_, e2⟩
    rw [hq1, List.getElem?_drop, ← e1]
    congr 1; omega
  have hall : ∀ i b, i < j → q1[i]? = some b → isHexB b = true := by
    intro i b hi hb
    refine List.all_eq_true.1 ha b ?_
    exact List.mem_of_getElem? (i := i) (by rw [List.getElem?_take, if_pos hi]; exact hb)
  have h125 : isHexB 125 = false := by decide
  have hrest : q1.drop (j + 1) = (bsOf s).drop (z + 1).toNat := by rw [hq1, List.drop_drop]; congr 1; omega
  have hval : validN (hexV (q1.take j)) = true ↔ ¬ 1114111 < k ∧ ¬ (55296 ≤ k ∧ k ≤ 57343) := by
    unfold validN Lib.validRune
    rw [decide_eq_true_eq]
    omega
  have hnumQ : numQ ((bsOf s).drop (fr - 1).toNat) ↔ (fr < z ∧ z < ((bsOf s).length : Nat) ∧ bt s z = 125 ∧ ¬ 1114111 < k ∧ ¬ (55296 ≤ k ∧ k ≤ 57343)) ∧ cutA q1 125 = q1.take j ∧ cutT q1 125 = q1.drop (j + 1) := by
    unfold numQ
    rw [hd1]
    rcases idx_cut 125 q1 with ⟨g1, g2, g3, g4⟩ | ⟨i, g1, g2, g3, g4, g5⟩
    · constructor
      · intro q; rw [g4] at q; cases q.2.1
      · rintro ⟨⟨f1, f2, f3, _⟩, _, _⟩
        obtain ⟨b, e1, e2⟩ := hat j (by omega)
        have : fr + (j : Int) = z := by omega
        rw [this, f3] at e2
        have hb125 : b = 125 := by apply UInt8.toNat_inj.1; show b.toNat = 125; omega
        subst hb125
        exact (Lib.indexByte_none g1 j e1).elim
    · obtain ⟨f1, f2⟩ := Lib.indexByte_some g1
      have hil : (q1.take i).length = i := by rw [List.length_take]; omega
      constructor
      · rintro ⟨_, _, q3, q4, q5, q6⟩
        rw [g3] at q3 q4 q5 q6
        rw [hil] at q4
        have hi0 : 0 < i := by
          rcases Nat.eq_zero_or_pos i with e | e
          · subst e; exact (q3 rfl).elim
          · exact e
        have hij : i = j := by
          rcases Nat.lt_trichotomy i j with q | q | q
          · have := hall i 125 q f1
            rw [h125] at this; cases this
          · exact q
          · exfalso
            obtain ⟨b, e1, e2⟩ := hat j (by omega)
            have hbx : isHexB b = true := List.all_eq_true.1 q5 b (List.mem_of_getElem? (i := j) (by rw [List.getElem?_take, if_pos q]; exact e1))
            have hz' : fr + (j : Int) = z := by omega
            rw [hz'] at e2
            exact hstop (by omega) (by omega) (by rw [e2]; exact (hexI_iff b).2 hbx)
        subst hij
        obtain ⟨b, e1, e2⟩ := hat i (by omega)
        rw [f1] at e1
        cases e1
        have hz' : fr + (i : Int) = z := by omega
        rw [hz'] at e2
        exact ⟨⟨by omega, by omega, e2, hval.1 q6⟩, g3, g4⟩
      · rintro ⟨⟨p1, p2, p3, p4⟩, p5, p6⟩
        rw [p5]
        have hjl : (q1.take j).length = j := by rw [List.length_take]; omega
        refine ⟨hp, g5, ?_, by omega, ha, hval.2 p4⟩
        intro e
        have := congrArg List.length e
        rw [hjl] at this
        simp only [List.length_nil] at this
        omega
  have hcut : (fr < z ∧ z < ((bsOf s).length : Nat) ∧ bt s z = 125) → cutA q1 125 = q1.take j ∧ cutT q1 125 = q1.drop (j + 1) := by
    rintro ⟨p1, p2, p3⟩
    obtain ⟨b, e1, e2⟩ := hat j (by omega)
    have hz' : fr + (j : Int) = z := by omega
    rw [hz', p3] at e2
    have hb125 : b = 125 := by apply UInt8.toNat_inj.1; show b.toNat = 125; omega
    subst hb125
    rcases idx_cut 125 q1 with ⟨g1, _⟩ | ⟨i, g1, g2, g3, g4, g5⟩
    · exact (Lib.indexByte_none g1 j e1).elim
    · obtain ⟨f1, f2⟩ := Lib.indexByte_some g1
      have hij : i = j := by
        rcases Nat.lt_trichotomy i j with q | q | q
        · have := hall i 125 q f1
          rw [h125] at this; cases this
        · exact q
        · exact (f2 j q e1).elim
      subst hij
      exact ⟨g3, g4⟩
  constructor
  · intro hc
    have hcc := hcut ⟨hc.1, hc.2.1, hc.2.2.1⟩
    rw [num_yes (hnumQ.2 ⟨hc, hcc⟩), hd1, hcc.1, hcc.2, hrest, hk, Int.toNat_natCast]
  · intro hc
    exact num_no fun q => hc (hnumQ.1 q).1
def vS (s : ByteArray) (a : Int) : ByteArray := match valP ((bsOf s).drop a.toNat) with
  | some (o, _) => strB o
  | none => ⟨#[]⟩
def vN (s : ByteArray) (a : Int) : Int := match valP ((bsOf s).drop a.toNat) with
  | some (_, r) => ((bsOf s).length : Nat) - (r.length : Nat)
  | none => -1
theorem v_none {s : ByteArray} {a : Int} (h : valP ((bsOf s).drop a.toNat) = none) : vS s a = ⟨#[]⟩ ∧ vN s a = -1 := by unfold vS vN; rw [h]; exact ⟨rfl, rfl⟩
theorem v_some {s : ByteArray} {a p : Int} {o : List UInt8} (h0 : 0 ≤ p) (h1 : p ≤ ((bsOf s).length : Nat)) (h : valP ((bsOf s).drop a.toNat) = some (o, (bsOf s).drop p.toNat)) : vS s a = strB o ∧ vN s a = p := by
  unfold vS vN
  rw [h]
  refine ⟨rfl, ?_⟩
  show ((bsOf s).length : Int) - (((bsOf s).drop p.toNat).length : Nat) = p
  rw [List.length_drop]
  omega
theorem take_all {l : List UInt8} {i : Nat} {b : UInt8} (h : l[i]? = some b) (ha : (l.take i).all isHexB = true) (hb : isHexB b = true) : (l.take (i + 1)).all isHexB = true := by
  obtain ⟨hi, rfl⟩ := List.getElem?_eq_some_iff.1 h
  rw [List.take_succ_eq_append_getElem hi, List.all_append, ha, List.all_cons, hb]
  rfl
theorem hexI_rng (c : Int) : -1 ≤ hexI c ∧ hexI c ≤ 15 := by unfold hexI; repeat' split <;> omega
theorem f44_spec {h : Heap} {n : Nat} (s : ByteArray) (a : Int) (ha0 : 0 ≤ a) (ha1 : a ≤ (s.data.toList.length : Nat)) (hls : s.data.toList.length < 1000000000) :
    Tells Tryz.prog 44 [.string (s), .int .i64 (a)] h n (.tuple #[.string (vS s a), .int .i64 (vN s a)]) := by
  refine Makes.tells (Makes.free fun hf => ?_)
  have hbl : (bsOf s).length = s.data.toList.length := rfl
  have hs : SubBut h h ([]) := .refl _ _
  have hn : n ≤ n := Nat.le_refl _
  have hf0 := hf
  refine Makes.of_bodyV (args := [.string (s), .int .i64 (a)]) (vs := [.string (s), .int .i64 (a), undef, undef, undef, undef, undef, undef, undef, undef, undef, undef, undef, undef, undef, undef, undef, undef, undef, undef, undef, undef, undef, undef, undef, undef, undef, undef, undef, undef, undef, undef, undef, undef, undef, undef, undef, undef, undef, undef, undef, undef, undef, undef, undef, undef, undef, undef, undef, undef, undef, undef, undef, undef, undef, undef, undef, undef, undef, undef, undef, undef, undef, undef, undef, undef, undef, undef, undef, undef, undef, undef, undef, undef, undef, undef, undef, undef, undef, undef, undef, undef, undef, undef, undef, undef, undef, undef, undef, undef, undef, undef, undef, undef, undef, undef, undef, undef, undef, undef, undef, undef, undef, undef, undef, undef, undef, undef, undef, undef, undef, undef, undef, undef, undef, undef, undef, undef, undef, undef, undef, undef]) Tryz.func44 rfl rfl ?_
  refine AWp.seq (AWp.rowV (l := _) pok ?_)
  refine sq.c (v := .string (⟨#[]⟩)) rfl rfl rfl rfl ?_
  refine sq.c (v := .int .i64 (0)) rfl rfl rfl rfl ?_
  refine sq.e (AWp.seq (AWp.rowV (l := _) pok ?_))
  refine sq.c (v := .string (⟨#[]⟩)) rfl rfl rfl rfl ?_
  refine sq.e (AWp.seq (AWp.block ?_))
  refine AWp.loopV (fun d vs h' n2 => ∃ (p : Int) (zs : List UInt8) (f : Nat), d = f + 1 ∧ h = h' ∧ n ≤ n2 ∧ Free h n2 ∧ (0 ≤ p) ∧ (p ≤ ((s.data.toList.length : Nat) : Int)) ∧ (((s.data.toList.length : Nat) : Int) - p < f) ∧ ((zs.length : Int) + 4 * (((s.data.toList.length : Nat) : Int) - p) ≤ 4 * ((s.data.toList.length : Nat) : Int)) ∧ (valP ((bsOf s).drop a.toNat) = valF f ((bsOf s).drop p.toNat) zs) ∧ ∃ y1 : Nat → Value, vs = [.string (s), .int .i64 (p), undef, undef, (y1 4), (y1 5), .string (strB zs), (y1 7), (y1 8), (y1 9), (y1 10), (y1 11), (y1 12), (y1 13), (y1 14), (y1 15), (y1 16), (y1 17), (y1 18), (y1 19), (y1 20), (y1 21), (y1 22), (y1 23), (y1 24), (y1 25), (y1 26), (y1 27), (y1 28), (y1 29), (y1 30), (y1 31), (y1 32), (y1 33), (y1 34), (y1 35), (y1 36), (y1 37), (y1 38), (y1 39), (y1 40), (y1 41), (y1 42), (y1 43), (y1 44), (y1 45), (y1 46), (y1 47), (y1 48), (y1 49), (y1 50), (y1 51), (y1 52), (y1 53), (y1 54), (y1 55), (y1 56), (y1 57), (y1 58), (y1 59), (y1 60), (y1 61), (y1 62), (y1 63), (y1 64), (y1 65), (y1 66), (y1 67), (y1 68), (y1 69), (y1 70), (y1 71), (y1 72), (y1 73), (y1 74), (y1 75), (y1 76), (y1 77), (y1 78), (y1 79), (y1 80), (y1 81), (y1 82), (y1 83), (y1 84), (y1 85), (y1 86), (y1 87), (y1 88), (y1 89), (y1 90), (y1 91), (y1 92), (y1 93), (y1 94), (y1 95), (y1 96), (y1 97), (y1 98), (y1 99), (y1 100), (y1 101), (y1 102), (y1 103), (y1 104), (y1 105), (y1 106), (y1 107), (y1 108), (y1 109), (y1 110), (y1 111), (y1 112), (y1 113), (y1 114), (y1 115), (y1 116), (y1 117), (y1 118), (y1 119), (y1 120), (y1 121)]) (((bsOf s).drop a.toNat).length + 1 + 1) ⟨a, [], ((bsOf s).drop a.toNat).length + 1, rfl, rfl, hn, hf, (by omega), (by omega), (by rw [List.length_drop]; omega), (by simp only [List.length_nil]; omega), (rfl), getV [undef, undef, undef, undef, .string (⟨#[]⟩), .int .i64 (0), undef, undef, undef, undef, undef, undef, undef, undef, undef, undef, undef, undef, undef, undef, undef, undef, undef, undef, undef, undef, undef, undef, undef, undef, undef, undef, undef, undef, undef, undef, undef, undef, undef, undef, undef, undef, undef, undef, undef, undef, undef, undef, undef, undef, undef, undef, undef, undef, undef, undef, undef, undef, undef, undef, undef, undef, undef, undef, undef, undef, undef, undef, undef, undef, undef, undef, undef, undef, undef, undef, undef, undef, undef, undef, undef, undef, undef, undef, undef, undef, undef, undef, undef, undef, undef, undef, undef, undef, undef, undef, undef, undef, undef, undef, undef, undef, undef, undef, undef, undef, undef, undef, undef, undef, undef, undef, undef, undef, undef, undef, undef, undef, undef, undef, undef, undef], rfl⟩ ?_
  rintro d vs h' n2 ⟨p, zs, f, rfl, rfl, hn, hf, hp0, hp1, hlen, hzl, hq, y1, rfl⟩
  obtain ⟨g, rfl⟩ : ∃ g, f = g + 1 := ⟨f - 1, by omega⟩
  refine AWp.seq (AWp.seq (AWp.rowV (l := _) pok ?_))
  refine sq.c (v := .int .i64 (p)) rfl rfl rfl rfl ?_
  refine sq.c (v := .string (s)) rfl rfl rfl rfl ?_
  refine sq.c (v := .int .i64 ((((s).data.toList.length : Nat) : Int))) rfl rfl (by kernel_rfl) rfl ?_
  refine sq.c (v := .bool (decide (p < ((((s).data.toList.length : Nat) : Int))))) rfl rfl rfl rfl ?_
  refine sq.e ?_
  by_cases c2_3 : p < ((((s).data.toList.length : Nat) : Int))
  · rw [decide_eq_true c2_3]
    refine AWp.condT rfl rfl ?_
    refine AWp.skip (AWp.block (AWp.seq (AWp.rowV (l := _) pok ?_)))
    refine sq.c (v := .string (s)) rfl rfl rfl rfl ?_
    refine sq.c (v := .int .i64 (p)) rfl rfl rfl rfl ?_
    refine sq.c (v := .string (sub (s) (p) ((((s).data.toList.length : Nat) : Int)))) rfl rfl (slice_str (P := Tryz.prog) (h := h) (t := 9) (s := s) (l := p) (u := (((s).data.toList.length : Nat) : Int)) (by kernel_rfl) (.inr ⟨_, rfl⟩) (.inl ⟨rfl, rfl⟩) (by omega) (by omega) (by omega)) rfl ?_
    refine sq.t (v := .tuple #[.int .i64 (rC ((bsOf s).drop p.toNat)), .int .i64 (rN ((bsOf s).drop p.toNat))]) rfl (CallsF.fn rfl (by kernel_rfl) rfl rfl) (fun hf => f40_dr (by omega) hp0 c2_3) hf rfl ?_
    intro n3 hn2 hf
    have hn := Nat.le_trans hn hn2
    refine sq.c (v := .tuple #[.int .i64 (rC ((bsOf s).drop p.toNat)), .int .i64 (rN ((bsOf s).drop p.toNat))]) rfl rfl rfl rfl ?_
    refine sq.c (v := .int .i64 (rC ((bsOf s).drop p.toNat))) rfl rfl rfl rfl ?_
    refine sq.c (v := .int .i64 (rN ((bsOf s).drop p.toNat))) rfl rfl rfl rfl ?_
    refine sq.c (v := .int .i64 (rC ((bsOf s).drop p.toNat))) rfl rfl rfl rfl ?_
    refine sq.c (v := .int .i64 (rN ((bsOf s).drop p.toNat))) rfl rfl rfl rfl ?_
    refine sq.e (AWp.seq (AWp.seq (AWp.rowV (l := _) pok ?_)))
    refine sq.c (v := .int .i64 (rN ((bsOf s).drop p.toNat))) rfl rfl rfl rfl ?_
    refine sq.c (v := .bool (decide ((rN ((bsOf s).drop p.toNat)) = (0 : Int)))) rfl rfl rfl rfl ?_
    refine sq.e ?_
    by_cases c4_1 : (rN ((bsOf s).drop p.toNat)) = (0 : Int)
    · rw [decide_eq_true c4_1]
      refine AWp.condT rfl rfl ?_
      refine AWp.seq (AWp.rowV (l := _) pok ?_)
      refine sq.c (v := .string (⟨#[]⟩)) rfl rfl rfl rfl ?_
      refine sq.c (v := .int .i64 (-1)) rfl rfl rfl rfl ?_
      refine sq.e ?_
      refine AWp.ret ?_
      refine ⟨rfl, [.string (⟨#[]⟩), .int .i64 (-1)], rfl, .tuple #[.string (⟨#[]⟩), .int .i64 (-1)], rfl, hs, hn, ?_⟩
      have e := v_none (s := s) (a := a) (by rw [hq]; exact val_no (r_bad c4_1))
      rw [e.1, e.2]
    · rw [decide_eq_false c4_1]
      refine AWp.condF rfl rfl ?_
      refine AWp.skip (AWp.seq (AWp.rowV (l := _) pok ?_))
      refine sq.c (v := .int .i64 (p)) rfl rfl rfl rfl ?_
      refine sq.c (v := .int .i64 (rN ((bsOf s).drop p.toNat))) rfl rfl rfl rfl ?_
      obtain ⟨hok, hrc, hrn⟩ := r_ok (drop_ne hp0 c2_3) c4_1
      have hrg := dN_rng hok.1
      have hdl : ((bsOf s).drop p.toNat).length = (bsOf s).length - p.toNat := List.length_drop
      obtain ⟨p1, hp1e⟩ : ∃ p1 : Int, p + rN ((bsOf s).drop p.toNat) = p1 := ⟨_, rfl⟩
      have hdr : ((bsOf s).drop p.toNat).drop (dN ((bsOf s).drop p.toNat)).toNat = (bsOf s).drop p1.toNat := by rw [List.drop_drop]; congr 1; omega
      refine sq.c (v := .int .i64 (p1)) rfl rfl (okI (Eq.trans (wrap_i64 (by omega) (by omega)) hp1e)) rfl ?_
      refine sq.c (v := .int .i64 (p1)) rfl rfl rfl rfl ?_
      refine sq.e (AWp.seq (AWp.seq (AWp.rowV (l := _) pok ?_)))
      refine sq.c (v := .int .i64 (rC ((bsOf s).drop p.toNat))) rfl rfl rfl rfl ?_
      refine sq.c (v := .bool (decide ((rC ((bsOf s).drop p.toNat)) = (34 : Int)))) rfl rfl rfl rfl ?_
      refine sq.e ?_
      by_cases c7_1 : (rC ((bsOf s).drop p.toNat)) = (34 : Int)
      · rw [decide_eq_true c7_1]
        refine AWp.condT rfl rfl ?_
        refine AWp.seq (AWp.rowV (l := _) pok ?_)
        refine sq.c (v := .string (strB zs)) rfl rfl rfl rfl ?_
        refine sq.c (v := .int .i64 (p1)) rfl rfl rfl rfl ?_
        refine sq.c (v := .string (strB zs)) rfl rfl rfl rfl ?_
        refine sq.c (v := .int .i64 (p1)) rfl rfl rfl rfl ?_
        refine sq.e ?_
        refine AWp.ret ?_
        refine ⟨rfl, [.string (strB zs), .int .i64 (p1)], rfl, .tuple #[.string (strB zs), .int .i64 (p1)], rfl, hs, hn, ?_⟩
        have e := v_some (s := s) (a := a) (p := p1) (o := zs) (by omega) (by show p1 ≤ ((s.data.toList.length : Nat) : Int); omega) (by rw [hq, val_end hok (by omega), hdr])
        rw [e.1, e.2]
      · rw [decide_eq_false c7_1]
        refine AWp.condF rfl rfl ?_
        refine AWp.skip (AWp.seq (AWp.seq (AWp.rowV (l := _) pok ?_)))
        refine sq.c (v := .int .i64 (rC ((bsOf s).drop p.toNat))) rfl rfl rfl rfl ?_
        refine sq.c (v := .bool (decide ((rC ((bsOf s).drop p.toNat)) = (92 : Int)))) rfl rfl rfl rfl ?_
        refine sq.e ?_
        by_cases c9_1 : (rC ((bsOf s).drop p.toNat)) = (92 : Int)
        · rw [decide_eq_true c9_1]
          refine AWp.condT rfl rfl ?_
          refine AWp.seq (AWp.seq (AWp.rowV (l := _) pok ?_))
          refine sq.c (v := .int .i64 (p1)) rfl rfl rfl rfl ?_
          refine sq.c (v := .string (s)) rfl rfl rfl rfl ?_
          refine sq.c (v := .int .i64 ((((s).data.toList.length : Nat) : Int))) rfl rfl (by kernel_rfl) rfl ?_
          refine sq.c (v := .bool (decide (((((s).data.toList.length : Nat) : Int)) ≤ p1))) rfl rfl rfl rfl ?_
          refine sq.e ?_
          by_cases c10_3 : ((((s).data.toList.length : Nat) : Int)) ≤ p1
          · rw [decide_eq_true c10_3]
            refine AWp.condT rfl rfl ?_
            refine AWp.seq (AWp.rowV (l := _) pok ?_)
            refine sq.c (v := .string (⟨#[]⟩)) rfl rfl rfl rfl ?_
            refine sq.c (v := .int .i64 (-1)) rfl rfl rfl rfl ?_
            refine sq.e ?_
            refine AWp.ret ?_
            refine ⟨rfl, [.string (⟨#[]⟩), .int .i64 (-1)], rfl, .tuple #[.string (⟨#[]⟩), .int .i64 (-1)], rfl, hs, hn, ?_⟩
            have e := v_none (s := s) (a := a) (by rw [hq, val_esc hok (by omega), hdr, esc_end (by show ¬ p1 < ((s.data.toList.length : Nat) : Int); omega)])
            rw [e.1, e.2]
          · rw [decide_eq_false c10_3]
            refine AWp.condF rfl rfl ?_
            refine AWp.skip (AWp.seq (AWp.rowV (l := _) pok ?_))
            refine sq.c (v := .string (s)) rfl rfl rfl rfl ?_
            refine sq.c (v := .int .i64 (p1)) rfl rfl rfl rfl ?_
            refine sq.c (v := .int .u8 (bt (s) (p1))) rfl rfl (index_str (P := Tryz.prog) (t := 9) (s := s) (i := p1) (k := .i64) (by kernel_rfl) (by omega) (by omega)) rfl ?_
            refine sq.c (v := .int .i64 (bt (s) (p1))) rfl rfl (Eq.trans (b := some (.int .i64 (IntKind.i64.wrap (bt (s) (p1))))) (by kernel_rfl) (okI (wrap_i64 (by have := bt_lt (s) (p1); omega) (by have := bt_lt (s) (p1); omega)))) rfl ?_
            refine sq.c (v := .int .i64 (bt (s) (p1))) rfl rfl rfl rfl ?_
            refine sq.e (AWp.seq (AWp.rowV (l := _) pok ?_))
            refine sq.c (v := .int .i64 (p1)) rfl rfl rfl rfl ?_
            obtain ⟨p2, hp2e⟩ : ∃ p2 : Int, p1 + 1 = p2 := ⟨_, rfl⟩
            refine sq.c (v := .int .i64 (p2)) rfl rfl (okI (Eq.trans (wrap_i64 (by omega) (by omega)) hp2e)) rfl ?_
            refine sq.c (v := .int .i64 (p2)) rfl rfl rfl rfl ?_
            refine sq.e (AWp.seq (AWp.rowV (l := _) pok ?_))
            refine sq.c (v := .int .i64 (bt (s) (p1))) rfl rfl rfl rfl ?_
            refine sq.c (v := .bool (decide ((bt (s) (p1)) = (117 : Int)))) rfl rfl rfl rfl ?_
            refine sq.e ?_
            by_cases c14_1 : (bt (s) (p1)) = (117 : Int)
            · rw [decide_eq_true c14_1]
              refine AWp.condT rfl rfl ?_
              refine AWp.seq (AWp.seq (AWp.rowV (l := _) pok ?_))
              refine sq.c (v := .int .i64 (p2)) rfl rfl rfl rfl ?_
              refine sq.c (v := .string (s)) rfl rfl rfl rfl ?_
              refine sq.c (v := .int .i64 ((((s).data.toList.length : Nat) : Int))) rfl rfl (by kernel_rfl) rfl ?_
              refine sq.c (v := .bool (decide (((((s).data.toList.length : Nat) : Int)) ≤ p2))) rfl rfl rfl rfl ?_
              refine sq.c (v := .bool (decide (((((s).data.toList.length : Nat) : Int)) ≤ p2))) rfl rfl rfl rfl ?_
              by_cases c15_3 : ((((s).data.toList.length : Nat) : Int)) ≤ p2
              · rw [decide_eq_true c15_3]
                refine sq.s (wantF (g := 4) (d := 48) rfl rfl rfl) rfl ?_
                refine sq.s (wantF (g := 4) (d := 48) rfl rfl rfl) rfl ?_
                refine sq.s (wantF (g := 4) (d := 48) rfl rfl rfl) rfl ?_
                refine sq.s (wantF (g := 4) (d := 48) rfl rfl rfl) rfl ?_
                refine sq.c (v := .bool true) rfl rfl rfl rfl ?_
                refine sq.e ?_
                refine AWp.condT rfl rfl ?_
                refine AWp.seq (AWp.rowV (l := _) pok ?_)
                refine sq.c (v := .string (⟨#[]⟩)) rfl rfl rfl rfl ?_
                refine sq.c (v := .int .i64 (-1)) rfl rfl rfl rfl ?_
                refine sq.e ?_
                refine AWp.ret ?_
                refine ⟨rfl, [.string (⟨#[]⟩), .int .i64 (-1)], rfl, .tuple #[.string (⟨#[]⟩), .int .i64 (-1)], rfl, hs, hn, ?_⟩
                have e := v_none (s := s) (a := a) (by rw [hq, val_esc hok (by omega), hdr, esc_u (by omega) (by show p1 < ((s.data.toList.length : Nat) : Int); omega) c14_1, show p1 + 1 = p2 by omega, num_at0 (by omega) (fun q => by have q1 : p2 < ((s.data.toList.length : Nat) : Int) := q.1; omega)])
                rw [e.1, e.2]
              · rw [decide_eq_false c15_3]
                refine sq.c (v := .string (s)) (wantT (g := 4) (d := 48) rfl rfl rfl) rfl rfl rfl ?_
                refine sq.c (v := .int .i64 (p2)) (wantT (g := 4) (d := 48) rfl rfl rfl) rfl rfl rfl ?_
                refine sq.c (v := .int .u8 (bt (s) (p2))) (wantT (g := 4) (d := 48) rfl rfl rfl) rfl (index_str (P := Tryz.prog) (t := 9) (s := s) (i := p2) (k := .i64) (by kernel_rfl) (by omega) (by omega)) rfl ?_
                refine sq.c (v := .bool (!decide ((bt (s) (p2)) = (123 : Int)))) (wantT (g := 4) (d := 48) rfl rfl rfl) rfl rfl rfl ?_
                refine sq.c (v := .bool (!decide ((bt (s) (p2)) = (123 : Int)))) rfl rfl rfl rfl ?_
                refine sq.e ?_
                by_cases c15_8 : (bt (s) (p2)) = (123 : Int)
                · rw [decide_eq_true c15_8]
                  refine AWp.condF rfl rfl ?_
                  refine AWp.skip (AWp.seq (AWp.rowV (l := _) pok ?_))
                  refine sq.c (v := .int .i64 (p2)) rfl rfl rfl rfl ?_
                  obtain ⟨fr, hfre⟩ : ∃ fr : Int, p2 + 1 = fr := ⟨_, rfl⟩
                  refine sq.c (v := .int .i64 (fr)) rfl rfl (okI (Eq.trans (wrap_i64 (by omega) (by omega)) hfre)) rfl ?_
                  refine sq.c (v := .int .i64 (fr)) rfl rfl rfl rfl ?_
                  refine sq.e (AWp.seq (AWp.rowV (l := _) pok ?_))
                  refine sq.c (v := .int .i64 (fr)) rfl rfl rfl rfl ?_
                  refine sq.c (v := .int .i64 (fr)) rfl rfl rfl rfl ?_
                  refine sq.e (AWp.seq (AWp.rowV (l := _) pok ?_))
                  refine sq.c (v := .int .i64 (0)) rfl rfl rfl rfl ?_
                  refine sq.e (AWp.seq (AWp.block ?_))
                  refine AWp.loopV (fun d vs h' n5 => ∃ (z k : Int), d = (((s.data.toList.length : Nat) : Int) - z + 1).toNat ∧ h = h' ∧ n ≤ n5 ∧ Free h n5 ∧ (fr ≤ z) ∧ (z ≤ ((s.data.toList.length : Nat) : Int)) ∧ (z - fr ≤ 6) ∧ (k = (hexV (((bsOf s).drop fr.toNat).take (z - fr).toNat) : Nat)) ∧ ((((bsOf s).drop fr.toNat).take (z - fr).toNat).all isHexB = true) ∧ ∃ y4 : Nat → Value, vs = [.string (s), .int .i64 (z), undef, undef, (y1 4), (y1 5), .string (strB zs), .int .i64 (k), .int .i64 (rN ((bsOf s).drop p.toNat)), .int .i64 (fr), .int .i64 (p), .string (s), .int .i64 ((((s).data.toList.length : Nat) : Int)), .bool true, .tuple #[.int .i64 (rC ((bsOf s).drop p.toNat)), .int .i64 (rN ((bsOf s).drop p.toNat))], .string (s), .int .i64 (p), .string (sub (s) (p) ((((s).data.toList.length : Nat) : Int))), .tuple #[.int .i64 (rC ((bsOf s).drop p.toNat)), .int .i64 (rN ((bsOf s).drop p.toNat))], .int .i64 (rC ((bsOf s).drop p.toNat)), .int .i64 (rN ((bsOf s).drop p.toNat)), .int .i64 (rN ((bsOf s).drop p.toNat)), .bool false, .int .i64 (p), .int .i64 (rN ((bsOf s).drop p.toNat)), .int .i64 (p1), .int .i64 (rC ((bsOf s).drop p.toNat)), .bool false, (y1 28), (y1 29), .int .i64 (rC ((bsOf s).drop p.toNat)), .bool true, .int .i64 (p1), .string (s), .int .i64 ((((s).data.toList.length : Nat) : Int)), .bool false, .string (s), .int .i64 (p1), .int .u8 (bt (s) (p1)), .int .i64 (bt (s) (p1)), .int .i64 (p1), .int .i64 (p2), .int .i64 (bt (s) (p1)), .bool true, .int .i64 (p2), .string (s), .int .i64 ((((s).data.toList.length : Nat) : Int)), .bool false, .bool false, .string (s), .int .i64 (p2), .int .u8 (bt (s) (p2)), .bool false, .bool false, .int .i64 (p2), .int .i64 (fr), .int .i64 (fr), (y4 57), (y4 58), (y4 59), (y4 60), (y4 61), (y4 62), (y4 63), (y4 64), (y4 65), (y4 66), (y4 67), (y4 68), (y4 69), (y4 70), (y4 71), (y4 72), (y4 73), (y4 74), (y4 75), (y4 76), (y4 77), (y4 78), (y4 79), (y4 80), (y4 81), (y4 82), (y1 83), (y1 84), (y1 85), (y1 86), (y1 87), (y1 88), (y1 89), (y1 90), (y1 91), (y1 92), (y1 93), (y1 94), (y1 95), (y1 96), (y1 97), (y1 98), (y1 99), (y1 100), (y1 101), (y1 102), (y1 103), (y1 104), (y1 105), (y1 106), (y1 107), (y1 108), (y1 109), (y1 110), (y1 111), (y1 112), (y1 113), (y1 114), (y1 115), (y1 116), (y1 117), (y1 118), (y1 119), (y1 120), (y1 121)]) ((((s.data.toList.length : Nat) : Int) - fr + 1).toNat) ⟨fr, 0, rfl, rfl, hn, hf, (by omega), (by omega), (by omega), (by rw [Int.sub_self]; rfl), (by rw [Int.sub_self]; rfl), getV [undef, undef, undef, undef, undef, undef, undef, undef, undef, undef, undef, undef, undef, undef, undef, undef, undef, undef, undef, undef, undef, undef, undef, undef, undef, undef, undef, undef, undef, undef, undef, undef, undef, undef, undef, undef, undef, undef, undef, undef, undef, undef, undef, undef, undef, undef, undef, undef, undef, undef, undef, undef, undef, undef, undef, undef, undef, (y1 57), (y1 58), (y1 59), (y1 60), (y1 61), (y1 62), (y1 63), (y1 64), (y1 65), (y1 66), (y1 67), (y1 68), (y1 69), (y1 70), (y1 71), (y1 72), (y1 73), (y1 74), (y1 75), (y1 76), (y1 77), (y1 78), (y1 79), (y1 80), (y1 81), (y1 82)], rfl⟩ ?_
                  rintro d vs h' n5 ⟨z, k, rfl, rfl, hn, hf, hz0, hz1, hz6, hk, hha, y4, rfl⟩
                  have hk6 := hexV_six (l := (((bsOf s).drop fr.toNat).take (z - fr).toNat)) (by rw [List.length_take]; omega) hha
                  refine AWp.seq (AWp.seq (AWp.rowV (l := _) pok ?_))
                  refine sq.c (v := .int .i64 (z)) rfl rfl rfl rfl ?_
                  refine sq.c (v := .string (s)) rfl rfl rfl rfl ?_
                  refine sq.c (v := .int .i64 ((((s).data.toList.length : Nat) : Int))) rfl rfl (by kernel_rfl) rfl ?_
                  refine sq.c (v := .bool (decide (z < ((((s).data.toList.length : Nat) : Int))))) rfl rfl rfl rfl ?_
                  refine sq.c (v := .bool (decide (z < ((((s).data.toList.length : Nat) : Int))))) rfl rfl rfl rfl ?_
                  by_cases c20_3 : z < ((((s).data.toList.length : Nat) : Int))
                  · rw [decide_eq_true c20_3]
                    refine sq.c (v := .int .i64 (z)) (wantT (g := 4) (d := 61) rfl rfl rfl) rfl rfl rfl ?_
                    refine sq.c (v := .int .i64 (fr)) (wantT (g := 4) (d := 61) rfl rfl rfl) rfl rfl rfl ?_
                    refine sq.c (v := .int .i64 (z - fr)) (wantT (g := 4) (d := 61) rfl rfl rfl) rfl (okI (wrap_i64 (by omega) (by omega))) rfl ?_
                    refine sq.c (v := .bool (decide ((z - fr) < (6 : Int)))) (wantT (g := 4) (d := 61) rfl rfl rfl) rfl rfl rfl ?_
                    refine sq.c (v := .bool (decide ((z - fr) < (6 : Int)))) rfl rfl rfl rfl ?_
                    refine sq.c (v := .bool (decide ((z - fr) < (6 : Int)))) rfl rfl rfl rfl ?_
                    by_cases c20_8 : (z - fr) < (6 : Int)
                    · rw [decide_eq_true c20_8]
                      refine sq.c (v := .string (s)) (wantT (g := 10) (d := 67) rfl rfl rfl) rfl rfl rfl ?_
                      refine sq.c (v := .int .i64 (z)) (wantT (g := 10) (d := 67) rfl rfl rfl) rfl rfl rfl ?_
                      refine sq.c (v := .int .u8 (bt (s) (z))) (wantT (g := 10) (d := 67) rfl rfl rfl) rfl (index_str (P := Tryz.prog) (t := 9) (s := s) (i := z) (k := .i64) (by kernel_rfl) (by omega) (by omega)) rfl ?_
                      refine sq.t (v := .int .i64 (hexI (bt (s) (z)))) (wantT (g := 10) (d := 67) rfl rfl rfl) (CallsF.fn rfl (by kernel_rfl) rfl rfl) (fun hf => f70_spec (bt (s) (z)) (bt_lt _ _).1 (bt_lt _ _).2) hf rfl ?_
                      intro n6 hn2 hf
                      have hn := Nat.le_trans hn hn2
                      refine sq.c (v := .bool (decide ((0 : Int) ≤ (hexI (bt (s) (z)))))) (wantT (g := 10) (d := 67) rfl rfl rfl) rfl rfl rfl ?_
                      refine sq.c (v := .bool (decide ((0 : Int) ≤ (hexI (bt (s) (z)))))) rfl rfl rfl rfl ?_
                      refine sq.e ?_
                      by_cases c20_15 : (0 : Int) ≤ (hexI (bt (s) (z)))
                      · rw [decide_eq_true c20_15]
                        refine AWp.condT rfl rfl ?_
                        refine AWp.skip (AWp.block (AWp.seq (AWp.rowV (l := _) pok ?_)))
                        refine sq.c (v := .int .i64 (k)) rfl rfl rfl rfl ?_
                        refine sq.c (v := .int .i64 (k * 16)) rfl rfl (okI (wrap_i64 (by omega) (by omega))) rfl ?_
                        refine sq.c (v := .string (s)) rfl rfl rfl rfl ?_
                        refine sq.c (v := .int .i64 (z)) rfl rfl rfl rfl ?_
                        refine sq.c (v := .int .u8 (bt (s) (z))) rfl rfl (index_str (P := Tryz.prog) (t := 9) (s := s) (i := z) (k := .i64) (by kernel_rfl) (by omega) (by omega)) rfl ?_
                        refine sq.t (v := .int .i64 (hexI (bt (s) (z)))) rfl (CallsF.fn rfl (by kernel_rfl) rfl rfl) (fun hf => f70_spec (bt (s) (z)) (bt_lt _ _).1 (bt_lt _ _).2) hf rfl ?_
                        intro n7 hn2 hf
                        have hn := Nat.le_trans hn hn2
                        refine sq.c (v := .int .i64 ((k * 16) + (hexI (bt (s) (z))))) rfl rfl (okI (wrap_i64 (by have := hexI_rng (bt s z); omega) (by have := hexI_rng (bt s z); omega))) rfl ?_
                        refine sq.c (v := .int .i64 ((k * 16) + (hexI (bt (s) (z))))) rfl rfl rfl rfl ?_
                        refine sq.e (AWp.rowV (l := _) pok ?_)
                        refine sq.c (v := .int .i64 (z)) rfl rfl rfl rfl ?_
                        refine sq.c (v := .int .i64 (z + 1)) rfl rfl (okI (wrap_i64 (by omega) (by omega))) rfl ?_
                        refine sq.c (v := .int .i64 (z + 1)) rfl rfl rfl rfl ?_
                        refine sq.e ?_
                        obtain ⟨b_, hb1, hb2⟩ := bt_get (s := s) (z := z) (by omega) c20_3
                        have hbx : isHexB b_ = true := (hexI_iff b_).1 (by rw [← hb2]; exact c20_15)
                        have hgt : ((bsOf s).drop fr.toNat)[(z - fr).toNat]? = some b_ := by rw [List.getElem?_drop, ← hb1]; congr 1; omega
                        have hst := hexV_step hgt
                        have hvb := hexI_val b_ hbx
                        rw [← hb2] at hvb
                        refine ⟨_, _, rfl, by omega, z + 1, k * 16 + hexI (bt (s) (z)), rfl, rfl, hn, hf, (by omega), (by omega), (by omega), (by rw [show (z + 1 - fr).toNat = (z - fr).toNat + 1 by omega, hst]; omega), (by rw [show (z + 1 - fr).toNat = (z - fr).toNat + 1 by omega]; exact take_all hgt hha hbx), getV [undef, undef, undef, undef, undef, undef, undef, undef, undef, undef, undef, undef, undef, undef, undef, undef, undef, undef, undef, undef, undef, undef, undef, undef, undef, undef, undef, undef, undef, undef, undef, undef, undef, undef, undef, undef, undef, undef, undef, undef, undef, undef, undef, undef, undef, undef, undef, undef, undef, undef, undef, undef, undef, undef, undef, undef, undef, .int .i64 (z), .string (s), .int .i64 ((((s).data.toList.length : Nat) : Int)), .bool true, .bool true, .int .i64 (z), .int .i64 (fr), .int .i64 (z - fr), .bool true, .bool true, .bool true, .string (s), .int .i64 (z), .int .u8 (bt (s) (z)), .int .i64 (hexI (bt (s) (z))), .bool true, .bool true, .int .i64 (k), .int .i64 (k * 16), .string (s), .int .i64 (z), .int .u8 (bt (s) (z)), .int .i64 (hexI (bt (s) (z))), .int .i64 ((k * 16) + (hexI (bt (s) (z)))), .int .i64 (z), .int .i64 (z + 1)], rfl⟩
                      · rw [decide_eq_false c20_15]
                        refine AWp.condF rfl rfl ?_
                        refine AWp.exit ?_
                        refine AWp.seq (AWp.seq (AWp.rowV (l := _) pok ?_))
                        refine sq.c (v := .int .i64 (z)) rfl rfl rfl rfl ?_
                        refine sq.c (v := .int .i64 (fr)) rfl rfl rfl rfl ?_
                        refine sq.c (v := .bool (decide (z = fr))) rfl rfl rfl rfl ?_
                        refine sq.c (v := .bool (decide (z = fr))) rfl rfl rfl rfl ?_
                        by_cases c23_2 : z = fr
                        · rw [decide_eq_true c23_2]
                          refine sq.s (wantF (g := 3) (d := 86) rfl rfl rfl) rfl ?_
                          refine sq.s (wantF (g := 3) (d := 86) rfl rfl rfl) rfl ?_
                          refine sq.s (wantF (g := 3) (d := 86) rfl rfl rfl) rfl ?_
                          refine sq.s (wantF (g := 3) (d := 86) rfl rfl rfl) rfl ?_
                          refine sq.c (v := .bool true) rfl rfl rfl rfl ?_
                          refine sq.c (v := .bool true) rfl rfl rfl rfl ?_
                          refine sq.s (wantF (g := 9) (d := 92) rfl rfl rfl) rfl ?_
                          refine sq.s (wantF (g := 9) (d := 92) rfl rfl rfl) rfl ?_
                          refine sq.s (wantF (g := 9) (d := 92) rfl rfl rfl) rfl ?_
                          refine sq.s (wantF (g := 9) (d := 92) rfl rfl rfl) rfl ?_
                          refine sq.c (v := .bool true) rfl rfl rfl rfl ?_
                          refine sq.c (v := .bool true) rfl rfl rfl rfl ?_
                          refine sq.s (wantF (g := 15) (d := 98) rfl rfl rfl) rfl ?_
                          refine sq.s (wantF (g := 15) (d := 98) rfl rfl rfl) rfl ?_
                          refine sq.c (v := .bool true) rfl rfl rfl rfl ?_
                          refine sq.c (v := .bool true) rfl rfl rfl rfl ?_
                          refine sq.s (wantF (g := 19) (d := 102) rfl rfl rfl) rfl ?_
                          refine sq.s (wantF (g := 19) (d := 102) rfl rfl rfl) rfl ?_
                          refine sq.s (wantF (g := 19) (d := 102) rfl rfl rfl) rfl ?_
                          refine sq.s (wantU (g := 22) (d := 105) rfl rfl rfl) rfl ?_
                          refine sq.s (wantU (g := 22) (d := 105) rfl rfl rfl) rfl ?_
                          refine sq.s (wantF (g := 19) (d := 102) rfl rfl rfl) rfl ?_
                          refine sq.c (v := .bool true) rfl rfl rfl rfl ?_
                          refine sq.e ?_
                          refine AWp.condT rfl rfl ?_
                          refine AWp.seq (AWp.rowV (l := _) pok ?_)
                          refine sq.c (v := .string (⟨#[]⟩)) rfl rfl rfl rfl ?_
                          refine sq.c (v := .int .i64 (-1)) rfl rfl rfl rfl ?_
                          refine sq.e ?_
                          refine AWp.ret ?_
                          refine ⟨rfl, [.string (⟨#[]⟩), .int .i64 (-1)], rfl, .tuple #[.string (⟨#[]⟩), .int .i64 (-1)], rfl, hs, hn, ?_⟩
                          have ns := num_scan (s := s) (fr := fr) (z := z) (k := k) (by omega) hz0 hz1 hz6 (by show fr - 1 < ((s.data.toList.length : Nat) : Int); omega) (by rw [show fr - 1 = p2 by omega]; exact c15_8) hk hha (fun _ _ => c20_15)
                          have e := v_none (s := s) (a := a) (by rw [hq, val_esc hok (by omega), hdr, esc_u (by omega) (by show p1 < ((s.data.toList.length : Nat) : Int); omega) c14_1, show p1 + 1 = p2 by omega, show p2 = fr - 1 by omega, ns.2 (fun q => by have q1 : fr < z ∧ z < ((s.data.toList.length : Nat) : Int) ∧ bt s z = 125 ∧ ¬ 1114111 < k ∧ ¬ (55296 ≤ k ∧ k ≤ 57343) := q; omega)])
                          rw [e.1, e.2]
                        · rw [decide_eq_false c23_2]
                          refine sq.c (v := .int .i64 (z)) (wantT (g := 3) (d := 86) rfl rfl rfl) rfl rfl rfl ?_
                          refine sq.c (v := .string (s)) (wantT (g := 3) (d := 86) rfl rfl rfl) rfl rfl rfl ?_
                          refine sq.c (v := .int .i64 ((((s).data.toList.length : Nat) : Int))) (wantT (g := 3) (d := 86) rfl rfl rfl) rfl (by kernel_rfl) rfl ?_
                          refine sq.c (v := .bool (decide (((((s).data.toList.length : Nat) : Int)) ≤ z))) (wantT (g := 3) (d := 86) rfl rfl rfl) rfl rfl rfl ?_
                          refine sq.c (v := .bool (decide (((((s).data.toList.length : Nat) : Int)) ≤ z))) rfl rfl rfl rfl ?_
                          refine sq.c (v := .bool (decide (((((s).data.toList.length : Nat) : Int)) ≤ z))) rfl rfl rfl rfl ?_
                          by_cases c23_7 : ((((s).data.toList.length : Nat) : Int)) ≤ z
                          · rw [decide_eq_true c23_7]
                            refine sq.s (wantF (g := 9) (d := 92) rfl rfl rfl) rfl ?_
                            refine sq.s (wantF (g := 9) (d := 92) rfl rfl rfl) rfl ?_
                            refine sq.s (wantF (g := 9) (d := 92) rfl rfl rfl) rfl ?_
                            refine sq.s (wantF (g := 9) (d := 92) rfl rfl rfl) rfl ?_
                            refine sq.c (v := .bool true) rfl rfl rfl rfl ?_
                            refine sq.c (v := .bool true) rfl rfl rfl rfl ?_
                            refine sq.s (wantF (g := 15) (d := 98) rfl rfl rfl) rfl ?_
                            refine sq.s (wantF (g := 15) (d := 98) rfl rfl rfl) rfl ?_
                            refine sq.c (v := .bool true) rfl rfl rfl rfl ?_
                            refine sq.c (v := .bool true) rfl rfl rfl rfl ?_
                            refine sq.s (wantF (g := 19) (d := 102) rfl rfl rfl) rfl ?_
                            refine sq.s (wantF (g := 19) (d := 102) rfl rfl rfl) rfl ?_
                            refine sq.s (wantF (g := 19) (d := 102) rfl rfl rfl) rfl ?_
                            refine sq.s (wantU (g := 22) (d := 105) rfl rfl rfl) rfl ?_
                            refine sq.s (wantU (g := 22) (d := 105) rfl rfl rfl) rfl ?_
                            refine sq.s (wantF (g := 19) (d := 102) rfl rfl rfl) rfl ?_
                            refine sq.c (v := .bool true) rfl rfl rfl rfl ?_
                            refine sq.e ?_
                            refine AWp.condT rfl rfl ?_
                            refine AWp.seq (AWp.rowV (l := _) pok ?_)
                            refine sq.c (v := .string (⟨#[]⟩)) rfl rfl rfl rfl ?_
                            refine sq.c (v := .int .i64 (-1)) rfl rfl rfl rfl ?_
                            refine sq.e ?_
                            refine AWp.ret ?_
                            refine ⟨rfl, [.string (⟨#[]⟩), .int .i64 (-1)], rfl, .tuple #[.string (⟨#[]⟩), .int .i64 (-1)], rfl, hs, hn, ?_⟩
                            have ns := num_scan (s := s) (fr := fr) (z := z) (k := k) (by omega) hz0 hz1 hz6 (by show fr - 1 < ((s.data.toList.length : Nat) : Int); omega) (by rw [show fr - 1 = p2 by omega]; exact c15_8) hk hha (fun _ _ => c20_15)
                            have e := v_none (s := s) (a := a) (by rw [hq, val_esc hok (by omega), hdr, esc_u (by omega) (by show p1 < ((s.data.toList.length : Nat) : Int); omega) c14_1, show p1 + 1 = p2 by omega, show p2 = fr - 1 by omega, ns.2 (fun q => by have q1 : fr < z ∧ z < ((s.data.toList.length : Nat) : Int) ∧ bt s z = 125 ∧ ¬ 1114111 < k ∧ ¬ (55296 ≤ k ∧ k ≤ 57343) := q; omega)])
                            rw [e.1, e.2]
                          · rw [decide_eq_false c23_7]
                            refine sq.c (v := .string (s)) (wantT (g := 9) (d := 92) rfl rfl rfl) rfl rfl rfl ?_
                            refine sq.c (v := .int .i64 (z)) (wantT (g := 9) (d := 92) rfl rfl rfl) rfl rfl rfl ?_
                            refine sq.c (v := .int .u8 (bt (s) (z))) (wantT (g := 9) (d := 92) rfl rfl rfl) rfl (index_str (P := Tryz.prog) (t := 9) (s := s) (i := z) (k := .i64) (by kernel_rfl) (by omega) (by omega)) rfl ?_
                            refine sq.c (v := .bool (!decide ((bt (s) (z)) = (125 : Int)))) (wantT (g := 9) (d := 92) rfl rfl rfl) rfl rfl rfl ?_
                            refine sq.c (v := .bool (!decide ((bt (s) (z)) = (125 : Int)))) rfl rfl rfl rfl ?_
                            refine sq.c (v := .bool (!decide ((bt (s) (z)) = (125 : Int)))) rfl rfl rfl rfl ?_
                            by_cases c23_13 : (bt (s) (z)) = (125 : Int)
                            · rw [decide_eq_true c23_13]
                              refine sq.c (v := .int .i64 (k)) (wantT (g := 15) (d := 98) rfl rfl rfl) rfl rfl rfl ?_
                              refine sq.c (v := .bool (decide ((1114111 : Int) < k))) (wantT (g := 15) (d := 98) rfl rfl rfl) rfl rfl rfl ?_
                              refine sq.c (v := .bool (decide ((1114111 : Int) < k))) rfl rfl rfl rfl ?_
                              refine sq.c (v := .bool (decide ((1114111 : Int) < k))) rfl rfl rfl rfl ?_
                              by_cases c23_17 : (1114111 : Int) < k
                              · rw [decide_eq_true c23_17]
                                refine sq.s (wantF (g := 19) (d := 102) rfl rfl rfl) rfl ?_
                                refine sq.s (wantF (g := 19) (d := 102) rfl rfl rfl) rfl ?_
                                refine sq.s (wantF (g := 19) (d := 102) rfl rfl rfl) rfl ?_
                                refine sq.s (wantU (g := 22) (d := 105) rfl rfl rfl) rfl ?_
                                refine sq.s (wantU (g := 22) (d := 105) rfl rfl rfl) rfl ?_
                                refine sq.s (wantF (g := 19) (d := 102) rfl rfl rfl) rfl ?_
                                refine sq.c (v := .bool true) rfl rfl rfl rfl ?_
                                refine sq.e ?_
                                refine AWp.condT rfl rfl ?_
                                refine AWp.seq (AWp.rowV (l := _) pok ?_)
                                refine sq.c (v := .string (⟨#[]⟩)) rfl rfl rfl rfl ?_
                                refine sq.c (v := .int .i64 (-1)) rfl rfl rfl rfl ?_
                                refine sq.e ?_
                                refine AWp.ret ?_
                                refine ⟨rfl, [.string (⟨#[]⟩), .int .i64 (-1)], rfl, .tuple #[.string (⟨#[]⟩), .int .i64 (-1)], rfl, hs, hn, ?_⟩
                                have ns := num_scan (s := s) (fr := fr) (z := z) (k := k) (by omega) hz0 hz1 hz6 (by show fr - 1 < ((s.data.toList.length : Nat) : Int); omega) (by rw [show fr - 1 = p2 by omega]; exact c15_8) hk hha (fun _ _ => c20_15)
                                have e := v_none (s := s) (a := a) (by rw [hq, val_esc hok (by omega), hdr, esc_u (by omega) (by show p1 < ((s.data.toList.length : Nat) : Int); omega) c14_1, show p1 + 1 = p2 by omega, show p2 = fr - 1 by omega, ns.2 (fun q => by have q1 : fr < z ∧ z < ((s.data.toList.length : Nat) : Int) ∧ bt s z = 125 ∧ ¬ 1114111 < k ∧ ¬ (55296 ≤ k ∧ k ≤ 57343) := q; omega)])
                                rw [e.1, e.2]
                              · rw [decide_eq_false c23_17]
                                refine sq.c (v := .int .i64 (k)) (wantT (g := 19) (d := 102) rfl rfl rfl) rfl rfl rfl ?_
                                refine sq.c (v := .bool (decide ((55296 : Int) ≤ k))) (wantT (g := 19) (d := 102) rfl rfl rfl) rfl rfl rfl ?_
                                refine sq.c (v := .bool (decide ((55296 : Int) ≤ k))) (wantT (g := 19) (d := 102) rfl rfl rfl) rfl rfl rfl ?_
                                by_cases c23_21 : (55296 : Int) ≤ k
                                · rw [decide_eq_true c23_21]
                                  refine sq.c (v := .int .i64 (k)) (wantT (g := 22) (d := 105) rfl rfl rfl) rfl rfl rfl ?_
                                  refine sq.c (v := .bool (decide (k ≤ (57343 : Int)))) (wantT (g := 22) (d := 105) rfl rfl rfl) rfl rfl rfl ?_
                                  refine sq.c (v := .bool (decide (k ≤ (57343 : Int)))) (wantT (g := 19) (d := 102) rfl rfl rfl) rfl rfl rfl ?_
                                  refine sq.c (v := .bool (decide (k ≤ (57343 : Int)))) rfl rfl rfl rfl ?_
                                  refine sq.e ?_
                                  by_cases c23_24 : k ≤ (57343 : Int)
                                  · rw [decide_eq_true c23_24]
                                    refine AWp.condT rfl rfl ?_
                                    refine AWp.seq (AWp.rowV (l := _) pok ?_)
                                    refine sq.c (v := .string (⟨#[]⟩)) rfl rfl rfl rfl ?_
                                    refine sq.c (v := .int .i64 (-1)) rfl rfl rfl rfl ?_
                                    refine sq.e ?_
                                    refine AWp.ret ?_
                                    refine ⟨rfl, [.string (⟨#[]⟩), .int .i64 (-1)], rfl, .tuple #[.string (⟨#[]⟩), .int .i64 (-1)], rfl, hs, hn, ?_⟩
                                    have ns := num_scan (s := s) (fr := fr) (z := z) (k := k) (by omega) hz0 hz1 hz6 (by show fr - 1 < ((s.data.toList.length : Nat) : Int); omega) (by rw [show fr - 1 = p2 by omega]; exact c15_8) hk hha (fun _ _ => c20_15)
                                    have e := v_none (s := s) (a := a) (by rw [hq, val_esc hok (by omega), hdr, esc_u (by omega) (by show p1 < ((s.data.toList.length : Nat) : Int); omega) c14_1, show p1 + 1 = p2 by omega, show p2 = fr - 1 by omega, ns.2 (fun q => by have q1 : fr < z ∧ z < ((s.data.toList.length : Nat) : Int) ∧ bt s z = 125 ∧ ¬ 1114111 < k ∧ ¬ (55296 ≤ k ∧ k ≤ 57343) := q; omega)])
                                    rw [e.1, e.2]
                                  · rw [decide_eq_false c23_24]
                                    refine AWp.condF rfl rfl ?_
                                    refine AWp.skip (AWp.rowV (l := _) pok ?_)
                                    refine sq.c (v := .int .i64 (z)) rfl rfl rfl rfl ?_
                                    refine sq.c (v := .int .i64 (z + 1)) rfl rfl (okI (wrap_i64 (by omega) (by omega))) rfl ?_
                                    refine sq.c (v := .int .i64 (z + 1)) rfl rfl rfl rfl ?_
                                    refine sq.e (AWp.rowV (l := _) pok ?_)
                                    refine sq.c (v := .string (strB zs)) rfl rfl rfl rfl ?_
                                    refine sq.c (v := .int .i64 (k)) rfl rfl rfl rfl ?_
                                    refine sq.t (v := .string (strB (encR (k)))) rfl (CallsF.fn rfl (by kernel_rfl) rfl rfl) (fun hf => f71_spec (k) (by unfold isR; omega)) hf rfl ?_
                                    intro n8 hn2 hf
                                    have hn := Nat.le_trans hn hn2
                                    have hen := enc_len (k)
                                    refine sq.c (v := .string (strB (zs ++ encR (k)))) rfl rfl (Eq.trans (add_str (a := strB zs) (b := strB (encR (k))) (by show zs.length + (encR (k)).length < _; omega)) (okV (congrArg Value.string (strB_add _ _)))) rfl ?_
                                    refine sq.c (v := .string (strB (zs ++ encR (k)))) rfl rfl rfl rfl ?_
                                    refine sq.e ?_
                                    have ns := num_scan (s := s) (fr := fr) (z := z) (k := k) (by omega) hz0 hz1 hz6 (by show fr - 1 < ((s.data.toList.length : Nat) : Int); omega) (by rw [show fr - 1 = p2 by omega]; exact c15_8) hk hha (fun _ _ => c20_15)
                                    refine ⟨_, _, rfl, by omega, z + 1, zs ++ encR (k), g, rfl, rfl, hn, hf, (by omega), (by omega), (by omega), (by rw [List.length_append]; omega), (by rw [hq, val_esc hok (by omega), hdr, esc_u (by omega) (by show p1 < ((s.data.toList.length : Nat) : Int); omega) c14_1, show p1 + 1 = p2 by omega, show p2 = fr - 1 by omega, ns.1 ⟨by omega, (by show z < ((s.data.toList.length : Nat) : Int); omega), by omega, by omega, by omega⟩]; show valF g _ (zs ++ encR ((k.toNat : Nat) : Int)) = _; rw [Int.toNat_of_nonneg (by omega)]), getV [undef, undef, undef, undef, (y1 4), (y1 5), undef, .int .i64 (k), .int .i64 (rN ((bsOf s).drop p.toNat)), .int .i64 (fr), .int .i64 (p), .string (s), .int .i64 ((((s).data.toList.length : Nat) : Int)), .bool true, .tuple #[.int .i64 (rC ((bsOf s).drop p.toNat)), .int .i64 (rN ((bsOf s).drop p.toNat))], .string (s), .int .i64 (p), .string (sub (s) (p) ((((s).data.toList.length : Nat) : Int))), .tuple #[.int .i64 (rC ((bsOf s).drop p.toNat)), .int .i64 (rN ((bsOf s).drop p.toNat))], .int .i64 (rC ((bsOf s).drop p.toNat)), .int .i64 (rN ((bsOf s).drop p.toNat)), .int .i64 (rN ((bsOf s).drop p.toNat)), .bool false, .int .i64 (p), .int .i64 (rN ((bsOf s).drop p.toNat)), .int .i64 (p1), .int .i64 (rC ((bsOf s).drop p.toNat)), .bool false, (y1 28), (y1 29), .int .i64 (rC ((bsOf s).drop p.toNat)), .bool true, .int .i64 (p1), .string (s), .int .i64 ((((s).data.toList.length : Nat) : Int)), .bool false, .string (s), .int .i64 (p1), .int .u8 (bt (s) (p1)), .int .i64 (bt (s) (p1)), .int .i64 (p1), .int .i64 (p2), .int .i64 (bt (s) (p1)), .bool true, .int .i64 (p2), .string (s), .int .i64 ((((s).data.toList.length : Nat) : Int)), .bool false, .bool false, .string (s), .int .i64 (p2), .int .u8 (bt (s) (p2)), .bool false, .bool false, .int .i64 (p2), .int .i64 (fr), .int .i64 (fr), .int .i64 (z), .string (s), .int .i64 ((((s).data.toList.length : Nat) : Int)), .bool true, .bool true, .int .i64 (z), .int .i64 (fr), .int .i64 (z - fr), .bool true, .bool true, .bool true, .string (s), .int .i64 (z), .int .u8 (bt (s) (z)), .int .i64 (hexI (bt (s) (z))), .bool false, .bool false, (y4 74), (y4 75), (y4 76), (y4 77), (y4 78), (y4 79), (y4 80), (y4 81), (y4 82), .int .i64 (z), .int .i64 (fr), .bool false, .bool false, .int .i64 (z), .string (s), .int .i64 ((((s).data.toList.length : Nat) : Int)), .bool false, .bool false, .bool false, .string (s), .int .i64 (z), .int .u8 (bt (s) (z)), .bool false, .bool false, .bool false, .int .i64 (k), .bool false, .bool false, .bool false, .int .i64 (k), .bool true, .bool true, .int .i64 (k), .bool false, .bool false, .bool false, .int .i64 (z), .int .i64 (z + 1), (y1 112), (y1 113), (y1 114), (y1 115), (y1 116), (y1 117), .string (strB zs), .int .i64 (k), .string (strB (encR (k))), .string (strB (zs ++ encR (k)))], rfl⟩
                                · rw [decide_eq_false c23_21]
                                  refine sq.s (wantF (g := 22) (d := 105) rfl rfl rfl) rfl ?_
                                  refine sq.s (wantF (g := 22) (d := 105) rfl rfl rfl) rfl ?_
                                  refine sq.c (v := .bool false) (wantT (g := 19) (d := 102) rfl rfl rfl) rfl rfl rfl ?_
                                  refine sq.c (v := .bool false) rfl rfl rfl rfl ?_
                                  refine sq.e ?_
                                  refine AWp.condF rfl rfl ?_
                                  refine AWp.skip (AWp.rowV (l := _) pok ?_)
                                  refine sq.c (v := .int .i64 (z)) rfl rfl rfl rfl ?_
                                  refine sq.c (v := .int .i64 (z + 1)) rfl rfl (okI (wrap_i64 (by omega) (by omega))) rfl ?_
                                  refine sq.c (v := .int .i64 (z + 1)) rfl rfl rfl rfl ?_
                                  refine sq.e (AWp.rowV (l := _) pok ?_)
                                  refine sq.c (v := .string (strB zs)) rfl rfl rfl rfl ?_
                                  refine sq.c (v := .int .i64 (k)) rfl rfl rfl rfl ?_
                                  refine sq.t (v := .string (strB (encR (k)))) rfl (CallsF.fn rfl (by kernel_rfl) rfl rfl) (fun hf => f71_spec (k) (by unfold isR; omega)) hf rfl ?_
                                  intro n9 hn2 hf
                                  have hn := Nat.le_trans hn hn2
                                  have hen := enc_len (k)
                                  refine sq.c (v := .string (strB (zs ++ encR (k)))) rfl rfl (Eq.trans (add_str (a := strB zs) (b := strB (encR (k))) (by show zs.length + (encR (k)).length < _; omega)) (okV (congrArg Value.string (strB_add _ _)))) rfl ?_
                                  refine sq.c (v := .string (strB (zs ++ encR (k)))) rfl rfl rfl rfl ?_
                                  refine sq.e ?_
                                  have ns := num_scan (s := s) (fr := fr) (z := z) (k := k) (by omega) hz0 hz1 hz6 (by show fr - 1 < ((s.data.toList.length : Nat) : Int); omega) (by rw [show fr - 1 = p2 by omega]; exact c15_8) hk hha (fun _ _ => c20_15)
                                  refine ⟨_, _, rfl, by omega, z + 1, zs ++ encR (k), g, rfl, rfl, hn, hf, (by omega), (by omega), (by omega), (by rw [List.length_append]; omega), (by rw [hq, val_esc hok (by omega), hdr, esc_u (by omega) (by show p1 < ((s.data.toList.length : Nat) : Int); omega) c14_1, show p1 + 1 = p2 by omega, show p2 = fr - 1 by omega, ns.1 ⟨by omega, (by show z < ((s.data.toList.length : Nat) : Int); omega), by omega, by omega, by omega⟩]; show valF g _ (zs ++ encR ((k.toNat : Nat) : Int)) = _; rw [Int.toNat_of_nonneg (by omega)]), getV [undef, undef, undef, undef, (y1 4), (y1 5), undef, .int .i64 (k), .int .i64 (rN ((bsOf s).drop p.toNat)), .int .i64 (fr), .int .i64 (p), .string (s), .int .i64 ((((s).data.toList.length : Nat) : Int)), .bool true, .tuple #[.int .i64 (rC ((bsOf s).drop p.toNat)), .int .i64 (rN ((bsOf s).drop p.toNat))], .string (s), .int .i64 (p), .string (sub (s) (p) ((((s).data.toList.length : Nat) : Int))), .tuple #[.int .i64 (rC ((bsOf s).drop p.toNat)), .int .i64 (rN ((bsOf s).drop p.toNat))], .int .i64 (rC ((bsOf s).drop p.toNat)), .int .i64 (rN ((bsOf s).drop p.toNat)), .int .i64 (rN ((bsOf s).drop p.toNat)), .bool false, .int .i64 (p), .int .i64 (rN ((bsOf s).drop p.toNat)), .int .i64 (p1), .int .i64 (rC ((bsOf s).drop p.toNat)), .bool false, (y1 28), (y1 29), .int .i64 (rC ((bsOf s).drop p.toNat)), .bool true, .int .i64 (p1), .string (s), .int .i64 ((((s).data.toList.length : Nat) : Int)), .bool false, .string (s), .int .i64 (p1), .int .u8 (bt (s) (p1)), .int .i64 (bt (s) (p1)), .int .i64 (p1), .int .i64 (p2), .int .i64 (bt (s) (p1)), .bool true, .int .i64 (p2), .string (s), .int .i64 ((((s).data.toList.length : Nat) : Int)), .bool false, .bool false, .string (s), .int .i64 (p2), .int .u8 (bt (s) (p2)), .bool false, .bool false, .int .i64 (p2), .int .i64 (fr), .int .i64 (fr), .int .i64 (z), .string (s), .int .i64 ((((s).data.toList.length : Nat) : Int)), .bool true, .bool true, .int .i64 (z), .int .i64 (fr), .int .i64 (z - fr), .bool true, .bool true, .bool true, .string (s), .int .i64 (z), .int .u8 (bt (s) (z)), .int .i64 (hexI (bt (s) (z))), .bool false, .bool false, (y4 74), (y4 75), (y4 76), (y4 77), (y4 78), (y4 79), (y4 80), (y4 81), (y4 82), .int .i64 (z), .int .i64 (fr), .bool false, .bool false, .int .i64 (z), .string (s), .int .i64 ((((s).data.toList.length : Nat) : Int)), .bool false, .bool false, .bool false, .string (s), .int .i64 (z), .int .u8 (bt (s) (z)), .bool false, .bool false, .bool false, .int .i64 (k), .bool false, .bool false, .bool false, .int .i64 (k), .bool false, .bool false, undef, undef, .bool false, .bool false, .int .i64 (z), .int .i64 (z + 1), (y1 112), (y1 113), (y1 114), (y1 115), (y1 116), (y1 117), .string (strB zs), .int .i64 (k), .string (strB (encR (k))), .string (strB (zs ++ encR (k)))], rfl⟩
                            · rw [decide_eq_false c23_13]
                              refine sq.s (wantF (g := 15) (d := 98) rfl rfl rfl) rfl ?_
                              refine sq.s (wantF (g := 15) (d := 98) rfl rfl rfl) rfl ?_
                              refine sq.c (v := .bool true) rfl rfl rfl rfl ?_
                              refine sq.c (v := .bool true) rfl rfl rfl rfl ?_
                              refine sq.s (wantF (g := 19) (d := 102) rfl rfl rfl) rfl ?_
                              refine sq.s (wantF (g := 19) (d := 102) rfl rfl rfl) rfl ?_
                              refine sq.s (wantF (g := 19) (d := 102) rfl rfl rfl) rfl ?_
                              refine sq.s (wantU (g := 22) (d := 105) rfl rfl rfl) rfl ?_
                              refine sq.s (wantU (g := 22) (d := 105) rfl rfl rfl) rfl ?_
                              refine sq.s (wantF (g := 19) (d := 102) rfl rfl rfl) rfl ?_
                              refine sq.c (v := .bool true) rfl rfl rfl rfl ?_
                              refine sq.e ?_
                              refine AWp.condT rfl rfl ?_
                              refine AWp.seq (AWp.rowV (l := _) pok ?_)
                              refine sq.c (v := .string (⟨#[]⟩)) rfl rfl rfl rfl ?_
                              refine sq.c (v := .int .i64 (-1)) rfl rfl rfl rfl ?_
                              refine sq.e ?_
                              refine AWp.ret ?_
                              refine ⟨rfl, [.string (⟨#[]⟩), .int .i64 (-1)], rfl, .tuple #[.string (⟨#[]⟩), .int .i64 (-1)], rfl, hs, hn, ?_⟩
                              have ns := num_scan (s := s) (fr := fr) (z := z) (k := k) (by omega) hz0 hz1 hz6 (by show fr - 1 < ((s.data.toList.length : Nat) : Int); omega) (by rw [show fr - 1 = p2 by omega]; exact c15_8) hk hha (fun _ _ => c20_15)
                              have e := v_none (s := s) (a := a) (by rw [hq, val_esc hok (by omega), hdr, esc_u (by omega) (by show p1 < ((s.data.toList.length : Nat) : Int); omega) c14_1, show p1 + 1 = p2 by omega, show p2 = fr - 1 by omega, ns.2 (fun q => by have q1 : fr < z ∧ z < ((s.data.toList.length : Nat) : Int) ∧ bt s z = 125 ∧ ¬ 1114111 < k ∧ ¬ (55296 ≤ k ∧ k ≤ 57343) := q; omega)])
                              rw [e.1, e.2]
                    · rw [decide_eq_false c20_8]
                      refine sq.s (wantF (g := 10) (d := 67) rfl rfl rfl) rfl ?_
                      refine sq.s (wantF (g := 10) (d := 67) rfl rfl rfl) rfl ?_
                      refine sq.s (wantF (g := 10) (d := 67) rfl rfl rfl) rfl ?_
                      refine sq.s (wantF (g := 10) (d := 67) rfl rfl rfl) rfl ?_
                      refine sq.s (wantF (g := 10) (d := 67) rfl rfl rfl) rfl ?_
                      refine sq.c (v := .bool false) rfl rfl rfl rfl ?_
                      refine sq.e ?_
                      refine AWp.condF rfl rfl ?_
                      refine AWp.exit ?_
                      refine AWp.seq (AWp.seq (AWp.rowV (l := _) pok ?_))
                      refine sq.c (v := .int .i64 (z)) rfl rfl rfl rfl ?_
                      refine sq.c (v := .int .i64 (fr)) rfl rfl rfl rfl ?_
                      refine sq.c (v := .bool (decide (z = fr))) rfl rfl rfl rfl ?_
                      refine sq.c (v := .bool (decide (z = fr))) rfl rfl rfl rfl ?_
                      by_cases c23_2 : z = fr
                      · rw [decide_eq_true c23_2]
                        refine sq.s (wantF (g := 3) (d := 86) rfl rfl rfl) rfl ?_
                        refine sq.s (wantF (g := 3) (d := 86) rfl rfl rfl) rfl ?_
                        refine sq.s (wantF (g := 3) (d := 86) rfl rfl rfl) rfl ?_
                        refine sq.s (wantF (g := 3) (d := 86) rfl rfl rfl) rfl ?_
                        refine sq.c (v := .bool true) rfl rfl rfl rfl ?_
                        refine sq.c (v := .bool true) rfl rfl rfl rfl ?_
                        refine sq.s (wantF (g := 9) (d := 92) rfl rfl rfl) rfl ?_
                        refine sq.s (wantF (g := 9) (d := 92) rfl rfl rfl) rfl ?_
                        refine sq.s (wantF (g := 9) (d := 92) rfl rfl rfl) rfl ?_
                        refine sq.s (wantF (g := 9) (d := 92) rfl rfl rfl) rfl ?_
                        refine sq.c (v := .bool true) rfl rfl rfl rfl ?_
                        refine sq.c (v := .bool true) rfl rfl rfl rfl ?_
                        refine sq.s (wantF (g := 15) (d := 98) rfl rfl rfl) rfl ?_
                        refine sq.s (wantF (g := 15) (d := 98) rfl rfl rfl) rfl ?_
                        refine sq.c (v := .bool true) rfl rfl rfl rfl ?_
                        refine sq.c (v := .bool true) rfl rfl rfl rfl ?_
                        refine sq.s (wantF (g := 19) (d := 102) rfl rfl rfl) rfl ?_
                        refine sq.s (wantF (g := 19) (d := 102) rfl rfl rfl) rfl ?_
                        refine sq.s (wantF (g := 19) (d := 102) rfl rfl rfl) rfl ?_
                        refine sq.s (wantU (g := 22) (d := 105) rfl rfl rfl) rfl ?_
                        refine sq.s (wantU (g := 22) (d := 105) rfl rfl rfl) rfl ?_
                        refine sq.s (wantF (g := 19) (d := 102) rfl rfl rfl) rfl ?_
                        refine sq.c (v := .bool true) rfl rfl rfl rfl ?_
                        refine sq.e ?_
                        refine AWp.condT rfl rfl ?_
                        refine AWp.seq (AWp.rowV (l := _) pok ?_)
                        refine sq.c (v := .string (⟨#[]⟩)) rfl rfl rfl rfl ?_
                        refine sq.c (v := .int .i64 (-1)) rfl rfl rfl rfl ?_
                        refine sq.e ?_
                        refine AWp.ret ?_
                        refine ⟨rfl, [.string (⟨#[]⟩), .int .i64 (-1)], rfl, .tuple #[.string (⟨#[]⟩), .int .i64 (-1)], rfl, hs, hn, ?_⟩
                        have ns := num_scan (s := s) (fr := fr) (z := z) (k := k) (by omega) hz0 hz1 hz6 (by show fr - 1 < ((s.data.toList.length : Nat) : Int); omega) (by rw [show fr - 1 = p2 by omega]; exact c15_8) hk hha (fun _ a => absurd a c20_8)
                        have e := v_none (s := s) (a := a) (by rw [hq, val_esc hok (by omega), hdr, esc_u (by omega) (by show p1 < ((s.data.toList.length : Nat) : Int); omega) c14_1, show p1 + 1 = p2 by omega, show p2 = fr - 1 by omega, ns.2 (fun q => by have q1 : fr < z ∧ z < ((s.data.toList.length : Nat) : Int) ∧ bt s z = 125 ∧ ¬ 1114111 < k ∧ ¬ (55296 ≤ k ∧ k ≤ 57343) := q; omega)])
                        rw [e.1, e.2]
                      · rw [decide_eq_false c23_2]
                        refine sq.c (v := .int .i64 (z)) (wantT (g := 3) (d := 86) rfl rfl rfl) rfl rfl rfl ?_
                        refine sq.c (v := .string (s)) (wantT (g := 3) (d := 86) rfl rfl rfl) rfl rfl rfl ?_
                        refine sq.c (v := .int .i64 ((((s).data.toList.length : Nat) : Int))) (wantT (g := 3) (d := 86) rfl rfl rfl) rfl (by kernel_rfl) rfl ?_
                        refine sq.c (v := .bool (decide (((((s).data.toList.length : Nat) : Int)) ≤ z))) (wantT (g := 3) (d := 86) rfl rfl rfl) rfl rfl rfl ?_
                        refine sq.c (v := .bool (decide (((((s).data.toList.length : Nat) : Int)) ≤ z))) rfl rfl rfl rfl ?_
                        refine sq.c (v := .bool (decide (((((s).data.toList.length : Nat) : Int)) ≤ z))) rfl rfl rfl rfl ?_
                        by_cases c23_7 : ((((s).data.toList.length : Nat) : Int)) ≤ z
                        · rw [decide_eq_true c23_7]
                          refine sq.s (wantF (g := 9) (d := 92) rfl rfl rfl) rfl ?_
                          refine sq.s (wantF (g := 9) (d := 92) rfl rfl rfl) rfl ?_
                          refine sq.s (wantF (g := 9) (d := 92) rfl rfl rfl) rfl ?_
                          refine sq.s (wantF (g := 9) (d := 92) rfl rfl rfl) rfl ?_
                          refine sq.c (v := .bool true) rfl rfl rfl rfl ?_
                          refine sq.c (v := .bool true) rfl rfl rfl rfl ?_
                          refine sq.s (wantF (g := 15) (d := 98) rfl rfl rfl) rfl ?_
                          refine sq.s (wantF (g := 15) (d := 98) rfl rfl rfl) rfl ?_
                          refine sq.c (v := .bool true) rfl rfl rfl rfl ?_
                          refine sq.c (v := .bool true) rfl rfl rfl rfl ?_
                          refine sq.s (wantF (g := 19) (d := 102) rfl rfl rfl) rfl ?_
                          refine sq.s (wantF (g := 19) (d := 102) rfl rfl rfl) rfl ?_
                          refine sq.s (wantF (g := 19) (d := 102) rfl rfl rfl) rfl ?_
                          refine sq.s (wantU (g := 22) (d := 105) rfl rfl rfl) rfl ?_
                          refine sq.s (wantU (g := 22) (d := 105) rfl rfl rfl) rfl ?_
                          refine sq.s (wantF (g := 19) (d := 102) rfl rfl rfl) rfl ?_
                          refine sq.c (v := .bool true) rfl rfl rfl rfl ?_
                          refine sq.e ?_
                          refine AWp.condT rfl rfl ?_
                          refine AWp.seq (AWp.rowV (l := _) pok ?_)
                          refine sq.c (v := .string (⟨#[]⟩)) rfl rfl rfl rfl ?_
                          refine sq.c (v := .int .i64 (-1)) rfl rfl rfl rfl ?_
                          refine sq.e ?_
                          refine AWp.ret ?_
                          refine ⟨rfl, [.string (⟨#[]⟩), .int .i64 (-1)], rfl, .tuple #[.string (⟨#[]⟩), .int .i64 (-1)], rfl, hs, hn, ?_⟩
                          have ns := num_scan (s := s) (fr := fr) (z := z) (k := k) (by omega) hz0 hz1 hz6 (by show fr - 1 < ((s.data.toList.length : Nat) : Int); omega) (by rw [show fr - 1 = p2 by omega]; exact c15_8) hk hha (fun _ a => absurd a c20_8)
                          have e := v_none (s := s) (a := a) (by rw [hq, val_esc hok (by omega), hdr, esc_u (by omega) (by show p1 < ((s.data.toList.length : Nat) : Int); omega) c14_1, show p1 + 1 = p2 by omega, show p2 = fr - 1 by omega, ns.2 (fun q => by have q1 : fr < z ∧ z < ((s.data.toList.length : Nat) : Int) ∧ bt s z = 125 ∧ ¬ 1114111 < k ∧ ¬ (55296 ≤ k ∧ k ≤ 57343) := q; omega)])
                          rw [e.1, e.2]
                        · rw [decide_eq_false c23_7]
                          refine sq.c (v := .string (s)) (wantT (g := 9) (d := 92) rfl rfl rfl) rfl rfl rfl ?_
                          refine sq.c (v := .int .i64 (z)) (wantT (g := 9) (d := 92) rfl rfl rfl) rfl rfl rfl ?_
                          refine sq.c (v := .int .u8 (bt (s) (z))) (wantT (g := 9) (d := 92) rfl rfl rfl) rfl (index_str (P := Tryz.prog) (t := 9) (s := s) (i := z) (k := .i64) (by kernel_rfl) (by omega) (by omega)) rfl ?_
                          refine sq.c (v := .bool (!decide ((bt (s) (z)) = (125 : Int)))) (wantT (g := 9) (d := 92) rfl rfl rfl) rfl rfl rfl ?_
                          refine sq.c (v := .bool (!decide ((bt (s) (z)) = (125 : Int)))) rfl rfl rfl rfl ?_
                          refine sq.c (v := .bool (!decide ((bt (s) (z)) = (125 : Int)))) rfl rfl rfl rfl ?_
                          by_cases c23_13 : (bt (s) (z)) = (125 : Int)
                          · rw [decide_eq_true c23_13]
                            refine sq.c (v := .int .i64 (k)) (wantT (g := 15) (d := 98) rfl rfl rfl) rfl rfl rfl ?_
                            refine sq.c (v := .bool (decide ((1114111 : Int) < k))) (wantT (g := 15) (d := 98) rfl rfl rfl) rfl rfl rfl ?_
                            refine sq.c (v := .bool (decide ((1114111 : Int) < k))) rfl rfl rfl rfl ?_
                            refine sq.c (v := .bool (decide ((1114111 : Int) < k))) rfl rfl rfl rfl ?_
                            by_cases c23_17 : (1114111 : Int) < k
                            · rw [decide_eq_true c23_17]
                              refine sq.s (wantF (g := 19) (d := 102) rfl rfl rfl) rfl ?_
                              refine sq.s (wantF (g := 19) (d := 102) rfl rfl rfl) rfl ?_
                              refine sq.s (wantF (g := 19) (d := 102) rfl rfl rfl) rfl ?_
                              refine sq.s (wantU (g := 22) (d := 105) rfl rfl rfl) rfl ?_
                              refine sq.s (wantU (g := 22) (d := 105) rfl rfl rfl) rfl ?_
                              refine sq.s (wantF (g := 19) (d := 102) rfl rfl rfl) rfl ?_
                              refine sq.c (v := .bool true) rfl rfl rfl rfl ?_
                              refine sq.e ?_
                              refine AWp.condT rfl rfl ?_
                              refine AWp.seq (AWp.rowV (l := _) pok ?_)
                              refine sq.c (v := .string (⟨#[]⟩)) rfl rfl rfl rfl ?_
                              refine sq.c (v := .int .i64 (-1)) rfl rfl rfl rfl ?_
                              refine sq.e ?_
                              refine AWp.ret ?_
                              refine ⟨rfl, [.string (⟨#[]⟩), .int .i64 (-1)], rfl, .tuple #[.string (⟨#[]⟩), .int .i64 (-1)], rfl, hs, hn, ?_⟩
                              have ns := num_scan (s := s) (fr := fr) (z := z) (k := k) (by omega) hz0 hz1 hz6 (by show fr - 1 < ((s.data.toList.length : Nat) : Int); omega) (by rw [show fr - 1 = p2 by omega]; exact c15_8) hk hha (fun _ a => absurd a c20_8)
                              have e := v_none (s := s) (a := a) (by rw [hq, val_esc hok (by omega), hdr, esc_u (by omega) (by show p1 < ((s.data.toList.length : Nat) : Int); omega) c14_1, show p1 + 1 = p2 by omega, show p2 = fr - 1 by omega, ns.2 (fun q => by have q1 : fr < z ∧ z < ((s.data.toList.length : Nat) : Int) ∧ bt s z = 125 ∧ ¬ 1114111 < k ∧ ¬ (55296 ≤ k ∧ k ≤ 57343) := q; omega)])
                              rw [e.1, e.2]
                            · rw [decide_eq_false c23_17]
                              refine sq.c (v := .int .i64 (k)) (wantT (g := 19) (d := 102) rfl rfl rfl) rfl rfl rfl ?_
                              refine sq.c (v := .bool (decide ((55296 : Int) ≤ k))) (wantT (g := 19) (d := 102) rfl rfl rfl) rfl rfl rfl ?_
                              refine sq.c (v := .bool (decide ((55296 : Int) ≤ k))) (wantT (g := 19) (d := 102) rfl rfl rfl) rfl rfl rfl ?_
                              by_cases c23_21 : (55296 : Int) ≤ k
                              · rw [decide_eq_true c23_21]
                                refine sq.c (v := .int .i64 (k)) (wantT (g := 22) (d := 105) rfl rfl rfl) rfl rfl rfl ?_
                                refine sq.c (v := .bool (decide (k ≤ (57343 : Int)))) (wantT (g := 22) (d := 105) rfl rfl rfl) rfl rfl rfl ?_
                                refine sq.c (v := .bool (decide (k ≤ (57343 : Int)))) (wantT (g := 19) (d := 102) rfl rfl rfl) rfl rfl rfl ?_
                                refine sq.c (v := .bool (decide (k ≤ (57343 : Int)))) rfl rfl rfl rfl ?_
                                refine sq.e ?_
                                by_cases c23_24 : k ≤ (57343 : Int)
                                · rw [decide_eq_true c23_24]
                                  refine AWp.condT rfl rfl ?_
                                  refine AWp.seq (AWp.rowV (l := _) pok ?_)
                                  refine sq.c (v := .string (⟨#[]⟩)) rfl rfl rfl rfl ?_
                                  refine sq.c (v := .int .i64 (-1)) rfl rfl rfl rfl ?_
                                  refine sq.e ?_
                                  refine AWp.ret ?_
                                  refine ⟨rfl, [.string (⟨#[]⟩), .int .i64 (-1)], rfl, .tuple #[.string (⟨#[]⟩), .int .i64 (-1)], rfl, hs, hn, ?_⟩
                                  have ns := num_scan (s := s) (fr := fr) (z := z) (k := k) (by omega) hz0 hz1 hz6 (by show fr - 1 < ((s.data.toList.length : Nat) : Int); omega) (by rw [show fr - 1 = p2 by omega]; exact c15_8) hk hha (fun _ a => absurd a c20_8)
                                  have e := v_none (s := s) (a := a) (by rw [hq, val_esc hok (by omega), hdr, esc_u (by omega) (by show p1 < ((s.data.toList.length : Nat) : Int); omega) c14_1, show p1 + 1 = p2 by omega, show p2 = fr - 1 by omega, ns.2 (fun q => by have q1 : fr < z ∧ z < ((s.data.toList.length : Nat) : Int) ∧ bt s z = 125 ∧ ¬ 1114111 < k ∧ ¬ (55296 ≤ k ∧ k ≤ 57343) := q; omega)])
                                  rw [e.1, e.2]
                                · rw [decide_eq_false c23_24]
                                  refine AWp.condF rfl rfl ?_
                                  refine AWp.skip (AWp.rowV (l := _) pok ?_)
                                  refine sq.c (v := .int .i64 (z)) rfl rfl rfl rfl ?_
                                  refine sq.c (v := .int .i64 (z + 1)) rfl rfl (okI (wrap_i64 (by omega) (by omega))) rfl ?_
                                  refine sq.c (v := .int .i64 (z + 1)) rfl rfl rfl rfl ?_
                                  refine sq.e (AWp.rowV (l := _) pok ?_)
                                  refine sq.c (v := .string (strB zs)) rfl rfl rfl rfl ?_
                                  refine sq.c (v := .int .i64 (k)) rfl rfl rfl rfl ?_
                                  refine sq.t (v := .string (strB (encR (k)))) rfl (CallsF.fn rfl (by kernel_rfl) rfl rfl) (fun hf => f71_spec (k) (by unfold isR; omega)) hf rfl ?_
                                  intro n10 hn2 hf
                                  have hn := Nat.le_trans hn hn2
                                  have hen := enc_len (k)
                                  refine sq.c (v := .string (strB (zs ++ encR (k)))) rfl rfl (Eq.trans (add_str (a := strB zs) (b := strB (encR (k))) (by show zs.length + (encR (k)).length < _; omega)) (okV (congrArg Value.string (strB_add _ _)))) rfl ?_
                                  refine sq.c (v := .string (strB (zs ++ encR (k)))) rfl rfl rfl rfl ?_
                                  refine sq.e ?_
                                  have ns := num_scan (s := s) (fr := fr) (z := z) (k := k) (by omega) hz0 hz1 hz6 (by show fr - 1 < ((s.data.toList.length : Nat) : Int); omega) (by rw [show fr - 1 = p2 by omega]; exact c15_8) hk hha (fun _ a => absurd a c20_8)
                                  refine ⟨_, _, rfl, by omega, z + 1, zs ++ encR (k), g, rfl, rfl, hn, hf, (by omega), (by omega), (by omega), (by rw [List.length_append]; omega), (by rw [hq, val_esc hok (by omega), hdr, esc_u (by omega) (by show p1 < ((s.data.toList.length : Nat) : Int); omega) c14_1, show p1 + 1 = p2 by omega, show p2 = fr - 1 by omega, ns.1 ⟨by omega, (by show z < ((s.data.toList.length : Nat) : Int); omega), by omega, by omega, by omega⟩]; show valF g _ (zs ++ encR ((k.toNat : Nat) : Int)) = _; rw [Int.toNat_of_nonneg (by omega)]), getV [undef, undef, undef, undef, (y1 4), (y1 5), undef, .int .i64 (k), .int .i64 (rN ((bsOf s).drop p.toNat)), .int .i64 (fr), .int .i64 (p), .string (s), .int .i64 ((((s).data.toList.length : Nat) : Int)), .bool true, .tuple #[.int .i64 (rC ((bsOf s).drop p.toNat)), .int .i64 (rN ((bsOf s).drop p.toNat))], .string (s), .int .i64 (p), .string (sub (s) (p) ((((s).data.toList.length : Nat) : Int))), .tuple #[.int .i64 (rC ((bsOf s).drop p.toNat)), .int .i64 (rN ((bsOf s).drop p.toNat))], .int .i64 (rC ((bsOf s).drop p.toNat)), .int .i64 (rN ((bsOf s).drop p.toNat)), .int .i64 (rN ((bsOf s).drop p.toNat)), .bool false, .int .i64 (p), .int .i64 (rN ((bsOf s).drop p.toNat)), .int .i64 (p1), .int .i64 (rC ((bsOf s).drop p.toNat)), .bool false, (y1 28), (y1 29), .int .i64 (rC ((bsOf s).drop p.toNat)), .bool true, .int .i64 (p1), .string (s), .int .i64 ((((s).data.toList.length : Nat) : Int)), .bool false, .string (s), .int .i64 (p1), .int .u8 (bt (s) (p1)), .int .i64 (bt (s) (p1)), .int .i64 (p1), .int .i64 (p2), .int .i64 (bt (s) (p1)), .bool true, .int .i64 (p2), .string (s), .int .i64 ((((s).data.toList.length : Nat) : Int)), .bool false, .bool false, .string (s), .int .i64 (p2), .int .u8 (bt (s) (p2)), .bool false, .bool false, .int .i64 (p2), .int .i64 (fr), .int .i64 (fr), .int .i64 (z), .string (s), .int .i64 ((((s).data.toList.length : Nat) : Int)), .bool true, .bool true, .int .i64 (z), .int .i64 (fr), .int .i64 (z - fr), .bool false, .bool false, .bool false, undef, undef, undef, undef, undef, .bool false, (y4 74), (y4 75), (y4 76), (y4 77), (y4 78), (y4 79), (y4 80), (y4 81), (y4 82), .int .i64 (z), .int .i64 (fr), .bool false, .bool false, .int .i64 (z), .string (s), .int .i64 ((((s).data.toList.length : Nat) : Int)), .bool false, .bool false, .bool false, .string (s), .int .i64 (z), .int .u8 (bt (s) (z)), .bool false, .bool false, .bool false, .int .i64 (k), .bool false, .bool false, .bool false, .int .i64 (k), .bool true, .bool true, .int .i64 (k), .bool false, .bool false, .bool false, .int .i64 (z), .int .i64 (z + 1), (y1 112), (y1 113), (y1 114), (y1 115), (y1 116), (y1 117), .string (strB zs), .int .i64 (k), .string (strB (encR (k))), .string (strB (zs ++ encR (k)))], rfl⟩
                              · rw [decide_eq_false c23_21]
                                refine sq.s (wantF (g := 22) (d := 105) rfl rfl rfl) rfl ?_
                                refine sq.s (wantF (g := 22) (d := 105) rfl rfl rfl) rfl ?_
                                refine sq.c (v := .bool false) (wantT (g := 19) (d := 102) rfl rfl rfl) rfl rfl rfl ?_
                                refine sq.c (v := .bool false) rfl rfl rfl rfl ?_
                                refine sq.e ?_
                                refine AWp.condF rfl rfl ?_
                                refine AWp.skip (AWp.rowV (l := _) pok ?_)
                                refine sq.c (v := .int .i64 (z)) rfl rfl rfl rfl ?_
                                refine sq.c (v := .int .i64 (z + 1)) rfl rfl (okI (wrap_i64 (by omega) (by omega))) rfl ?_
                                refine sq.c (v := .int .i64 (z + 1)) rfl rfl rfl rfl ?_
                                refine sq.e (AWp.rowV (l := _) pok ?_)
                                refine sq.c (v := .string (strB zs)) rfl rfl rfl rfl ?_
                                refine sq.c (v := .int .i64 (k)) rfl rfl rfl rfl ?_
                                refine sq.t (v := .string (strB (encR (k)))) rfl (CallsF.fn rfl (by kernel_rfl) rfl rfl) (fun hf => f71_spec (k) (by unfold isR; omega)) hf rfl ?_
                                intro n11 hn2 hf
                                have hn := Nat.le_trans hn hn2
                                have hen := enc_len (k)
                                refine sq.c (v := .string (strB (zs ++ encR (k)))) rfl rfl (Eq.trans (add_str (a := strB zs) (b := strB (encR (k))) (by show zs.length + (encR (k)).length < _; omega)) (okV (congrArg Value.string (strB_add _ _)))) rfl ?_
                                refine sq.c (v := .string (strB (zs ++ encR (k)))) rfl rfl rfl rfl ?_
                                refine sq.e ?_
                                have ns := num_scan (s := s) (fr := fr) (z := z) (k := k) (by omega) hz0 hz1 hz6 (by show fr - 1 < ((s.data.toList.length : Nat) : Int); omega) (by rw [show fr - 1 = p2 by omega]; exact c15_8) hk hha (fun _ a => absurd a c20_8)
                                refine ⟨_, _, rfl, by omega, z + 1, zs ++ encR (k), g, rfl, rfl, hn, hf, (by omega), (by omega), (by omega), (by rw [List.length_append]; omega), (by rw [hq, val_esc hok (by omega), hdr, esc_u (by omega) (by show p1 < ((s.data.toList.length : Nat) : Int); omega) c14_1, show p1 + 1 = p2 by omega, show p2 = fr - 1 by omega, ns.1 ⟨by omega, (by show z < ((s.data.toList.length : Nat) : Int); omega), by omega, by omega, by omega⟩]; show valF g _ (zs ++ encR ((k.toNat : Nat) : Int)) = _; rw [Int.toNat_of_nonneg (by omega)]), getV [undef, undef, undef, undef, (y1 4), (y1 5), undef, .int .i64 (k), .int .i64 (rN ((bsOf s).drop p.toNat)), .int .i64 (fr), .int .i64 (p), .string (s), .int .i64 ((((s).data.toList.length : Nat) : Int)), .bool true, .tuple #[.int .i64 (rC ((bsOf s).drop p.toNat)), .int .i64 (rN ((bsOf s).drop p.toNat))], .string (s), .int .i64 (p), .string (sub (s) (p) ((((s).data.toList.length : Nat) : Int))), .tuple #[.int .i64 (rC ((bsOf s).drop p.toNat)), .int .i64 (rN ((bsOf s).drop p.toNat))], .int .i64 (rC ((bsOf s).drop p.toNat)), .int .i64 (rN ((bsOf s).drop p.toNat)), .int .i64 (rN ((bsOf s).drop p.toNat)), .bool false, .int .i64 (p), .int .i64 (rN ((bsOf s).drop p.toNat)), .int .i64 (p1), .int .i64 (rC ((bsOf s).drop p.toNat)), .bool false, (y1 28), (y1 29), .int .i64 (rC ((bsOf s).drop p.toNat)), .bool true, .int .i64 (p1), .string (s), .int .i64 ((((s).data.toList.length : Nat) : Int)), .bool false, .string (s), .int .i64 (p1), .int .u8 (bt (s) (p1)), .int .i64 (bt (s) (p1)), .int .i64 (p1), .int .i64 (p2), .int .i64 (bt (s) (p1)), .bool true, .int .i64 (p2), .string (s), .int .i64 ((((s).data.toList.length : Nat) : Int)), .bool false, .bool false, .string (s), .int .i64 (p2), .int .u8 (bt (s) (p2)), .bool false, .bool false, .int .i64 (p2), .int .i64 (fr), .int .i64 (fr), .int .i64 (z), .string (s), .int .i64 ((((s).data.toList.length : Nat) : Int)), .bool true, .bool true, .int .i64 (z), .int .i64 (fr), .int .i64 (z - fr), .bool false, .bool false, .bool false, undef, undef, undef, undef, undef, .bool false, (y4 74), (y4 75), (y4 76), (y4 77), (y4 78), (y4 79), (y4 80), (y4 81), (y4 82), .int .i64 (z), .int .i64 (fr), .bool false, .bool false, .int .i64 (z), .string (s), .int .i64 ((((s).data.toList.length : Nat) : Int)), .bool false, .bool false, .bool false, .string (s), .int .i64 (z), .int .u8 (bt (s) (z)), .bool false, .bool false, .bool false, .int .i64 (k), .bool false, .bool false, .bool false, .int .i64 (k), .bool false, .bool false, undef, undef, .bool false, .bool false, .int .i64 (z), .int .i64 (z + 1), (y1 112), (y1 113), (y1 114), (y1 115), (y1 116), (y1 117), .string (strB zs), .int .i64 (k), .string (strB (encR (k))), .string (strB (zs ++ encR (k)))], rfl⟩
                          · rw [decide_eq_false c23_13]
                            refine sq.s (wantF (g := 15) (d := 98) rfl rfl rfl) rfl ?_
                            refine sq.s (wantF (g := 15) (d := 98) rfl rfl rfl) rfl ?_
                            refine sq.c (v := .bool true) rfl rfl rfl rfl ?_
                            refine sq.c (v := .bool true) rfl rfl rfl rfl ?_
                            refine sq.s (wantF (g := 19) (d := 102) rfl rfl rfl) rfl ?_
                            refine sq.s (wantF (g := 19) (d := 102) rfl rfl rfl) rfl ?_
                            refine sq.s (wantF (g := 19) (d := 102) rfl rfl rfl) rfl ?_
                            refine sq.s (wantU (g := 22) (d := 105) rfl rfl rfl) rfl ?_
                            refine sq.s (wantU (g := 22) (d := 105) rfl rfl rfl) rfl ?_
                            refine sq.s (wantF (g := 19) (d := 102) rfl rfl rfl) rfl ?_
                            refine sq.c (v := .bool true) rfl rfl rfl rfl ?_
                            refine sq.e ?_
                            refine AWp.condT rfl rfl ?_
                            refine AWp.seq (AWp.rowV (l := _) pok ?_)
                            refine sq.c (v := .string (⟨#[]⟩)) rfl rfl rfl rfl ?_
                            refine sq.c (v := .int .i64 (-1)) rfl rfl rfl rfl ?_
                            refine sq.e ?_
                            refine AWp.ret ?_
                            refine ⟨rfl, [.string (⟨#[]⟩), .int .i64 (-1)], rfl, .tuple #[.string (⟨#[]⟩), .int .i64 (-1)], rfl, hs, hn, ?_⟩
                            have ns := num_scan (s := s) (fr := fr) (z := z) (k := k) (by omega) hz0 hz1 hz6 (by show fr - 1 < ((s.data.toList.length : Nat) : Int); omega) (by rw [show fr - 1 = p2 by omega]; exact c15_8) hk hha (fun _ a => absurd a c20_8)
                            have e := v_none (s := s) (a := a) (by rw [hq, val_esc hok (by omega), hdr, esc_u (by omega) (by show p1 < ((s.data.toList.length : Nat) : Int); omega) c14_1, show p1 + 1 = p2 by omega, show p2 = fr - 1 by omega, ns.2 (fun q => by have q1 : fr < z ∧ z < ((s.data.toList.length : Nat) : Int) ∧ bt s z = 125 ∧ ¬ 1114111 < k ∧ ¬ (55296 ≤ k ∧ k ≤ 57343) := q; omega)])
                            rw [e.1, e.2]
                  · rw [decide_eq_false c20_3]
                    refine sq.s (wantF (g := 4) (d := 61) rfl rfl rfl) rfl ?_
                    refine sq.s (wantF (g := 4) (d := 61) rfl rfl rfl) rfl ?_
                    refine sq.s (wantF (g := 4) (d := 61) rfl rfl rfl) rfl ?_
                    refine sq.s (wantF (g := 4) (d := 61) rfl rfl rfl) rfl ?_
                    refine sq.c (v := .bool false) rfl rfl rfl rfl ?_
                    refine sq.c (v := .bool false) rfl rfl rfl rfl ?_
                    refine sq.s (wantF (g := 10) (d := 67) rfl rfl rfl) rfl ?_
                    refine sq.s (wantF (g := 10) (d := 67) rfl rfl rfl) rfl ?_
                    refine sq.s (wantF (g := 10) (d := 67) rfl rfl rfl) rfl ?_
                    refine sq.s (wantF (g := 10) (d := 67) rfl rfl rfl) rfl ?_
                    refine sq.s (wantF (g := 10) (d := 67) rfl rfl rfl) rfl ?_
                    refine sq.c (v := .bool false) rfl rfl rfl rfl ?_
                    refine sq.e ?_
                    refine AWp.condF rfl rfl ?_
                    refine AWp.exit ?_
                    refine AWp.seq (AWp.seq (AWp.rowV (l := _) pok ?_))
                    refine sq.c (v := .int .i64 (z)) rfl rfl rfl rfl ?_
                    refine sq.c (v := .int .i64 (fr)) rfl rfl rfl rfl ?_
                    refine sq.c (v := .bool (decide (z = fr))) rfl rfl rfl rfl ?_
                    refine sq.c (v := .bool (decide (z = fr))) rfl rfl rfl rfl ?_
                    by_cases c23_2 : z = fr
                    · rw [decide_eq_true c23_2]
                      refine sq.s (wantF (g := 3) (d := 86) rfl rfl rfl) rfl ?_
                      refine sq.s (wantF (g := 3) (d := 86) rfl rfl rfl) rfl ?_
                      refine sq.s (wantF (g := 3) (d := 86) rfl rfl rfl) rfl ?_
                      refine sq.s (wantF (g := 3) (d := 86) rfl rfl rfl) rfl ?_
                      refine sq.c (v := .bool true) rfl rfl rfl rfl ?_
                      refine sq.c (v := .bool true) rfl rfl rfl rfl ?_
                      refine sq.s (wantF (g := 9) (d := 92) rfl rfl rfl) rfl ?_
                      refine sq.s (wantF (g := 9) (d := 92) rfl rfl rfl) rfl ?_
                      refine sq.s (wantF (g := 9) (d := 92) rfl rfl rfl) rfl ?_
                      refine sq.s (wantF (g := 9) (d := 92) rfl rfl rfl) rfl ?_
                      refine sq.c (v := .bool true) rfl rfl rfl rfl ?_
                      refine sq.c (v := .bool true) rfl rfl rfl rfl ?_
                      refine sq.s (wantF (g := 15) (d := 98) rfl rfl rfl) rfl ?_
                      refine sq.s (wantF (g := 15) (d := 98) rfl rfl rfl) rfl ?_
                      refine sq.c (v := .bool true) rfl rfl rfl rfl ?_
                      refine sq.c (v := .bool true) rfl rfl rfl rfl ?_
                      refine sq.s (wantF (g := 19) (d := 102) rfl rfl rfl) rfl ?_
                      refine sq.s (wantF (g := 19) (d := 102) rfl rfl rfl) rfl ?_
                      refine sq.s (wantF (g := 19) (d := 102) rfl rfl rfl) rfl ?_
                      refine sq.s (wantU (g := 22) (d := 105) rfl rfl rfl) rfl ?_
                      refine sq.s (wantU (g := 22) (d := 105) rfl rfl rfl) rfl ?_
                      refine sq.s (wantF (g := 19) (d := 102) rfl rfl rfl) rfl ?_
                      refine sq.c (v := .bool true) rfl rfl rfl rfl ?_
                      refine sq.e ?_
                      refine AWp.condT rfl rfl ?_
                      refine AWp.seq (AWp.rowV (l := _) pok ?_)
                      refine sq.c (v := .string (⟨#[]⟩)) rfl rfl rfl rfl ?_
                      refine sq.c (v := .int .i64 (-1)) rfl rfl rfl rfl ?_
                      refine sq.e ?_
                      refine AWp.ret ?_
                      refine ⟨rfl, [.string (⟨#[]⟩), .int .i64 (-1)], rfl, .tuple #[.string (⟨#[]⟩), .int .i64 (-1)], rfl, hs, hn, ?_⟩
                      have ns := num_scan (s := s) (fr := fr) (z := z) (k := k) (by omega) hz0 hz1 hz6 (by show fr - 1 < ((s.data.toList.length : Nat) : Int); omega) (by rw [show fr - 1 = p2 by omega]; exact c15_8) hk hha (fun a _ => absurd a c20_3)
                      have e := v_none (s := s) (a := a) (by rw [hq, val_esc hok (by omega), hdr, esc_u (by omega) (by show p1 < ((s.data.toList.length : Nat) : Int); omega) c14_1, show p1 + 1 = p2 by omega, show p2 = fr - 1 by omega, ns.2 (fun q => by have q1 : fr < z ∧ z < ((s.data.toList.length : Nat) : Int) ∧ bt s z = 125 ∧ ¬ 1114111 < k ∧ ¬ (55296 ≤ k ∧ k ≤ 57343) := q; omega)])
                      rw [e.1, e.2]
                    · rw [decide_eq_false c23_2]
                      refine sq.c (v := .int .i64 (z)) (wantT (g := 3) (d := 86) rfl rfl rfl) rfl rfl rfl ?_
                      refine sq.c (v := .string (s)) (wantT (g := 3) (d := 86) rfl rfl rfl) rfl rfl rfl ?_
                      refine sq.c (v := .int .i64 ((((s).data.toList.length : Nat) : Int))) (wantT (g := 3) (d := 86) rfl rfl rfl) rfl (by kernel_rfl) rfl ?_
                      refine sq.c (v := .bool (decide (((((s).data.toList.length : Nat) : Int)) ≤ z))) (wantT (g := 3) (d := 86) rfl rfl rfl) rfl rfl rfl ?_
                      refine sq.c (v := .bool (decide (((((s).data.toList.length : Nat) : Int)) ≤ z))) rfl rfl rfl rfl ?_
                      refine sq.c (v := .bool (decide (((((s).data.toList.length : Nat) : Int)) ≤ z))) rfl rfl rfl rfl ?_
                      by_cases c23_7 : ((((s).data.toList.length : Nat) : Int)) ≤ z
                      · rw [decide_eq_true c23_7]
                        refine sq.s (wantF (g := 9) (d := 92) rfl rfl rfl) rfl ?_
                        refine sq.s (wantF (g := 9) (d := 92) rfl rfl rfl) rfl ?_
                        refine sq.s (wantF (g := 9) (d := 92) rfl rfl rfl) rfl ?_
                        refine sq.s (wantF (g := 9) (d := 92) rfl rfl rfl) rfl ?_
                        refine sq.c (v := .bool true) rfl rfl rfl rfl ?_
                        refine sq.c (v := .bool true) rfl rfl rfl rfl ?_
                        refine sq.s (wantF (g := 15) (d := 98) rfl rfl rfl) rfl ?_
                        refine sq.s (wantF (g := 15) (d := 98) rfl rfl rfl) rfl ?_
                        refine sq.c (v := .bool true) rfl rfl rfl rfl ?_
                        refine sq.c (v := .bool true) rfl rfl rfl rfl ?_
                        refine sq.s (wantF (g := 19) (d := 102) rfl rfl rfl) rfl ?_
                        refine sq.s (wantF (g := 19) (d := 102) rfl rfl rfl) rfl ?_
                        refine sq.s (wantF (g := 19) (d := 102) rfl rfl rfl) rfl ?_
                        refine sq.s (wantU (g := 22) (d := 105) rfl rfl rfl) rfl ?_
                        refine sq.s (wantU (g := 22) (d := 105) rfl rfl rfl) rfl ?_
                        refine sq.s (wantF (g := 19) (d := 102) rfl rfl rfl) rfl ?_
                        refine sq.c (v := .bool true) rfl rfl rfl rfl ?_
                        refine sq.e ?_
                        refine AWp.condT rfl rfl ?_
                        refine AWp.seq (AWp.rowV (l := _) pok ?_)
                        refine sq.c (v := .string (⟨#[]⟩)) rfl rfl rfl rfl ?_
                        refine sq.c (v := .int .i64 (-1)) rfl rfl rfl rfl ?_
                        refine sq.e ?_
                        refine AWp.ret ?_
                        refine ⟨rfl, [.string (⟨#[]⟩), .int .i64 (-1)], rfl, .tuple #[.string (⟨#[]⟩), .int .i64 (-1)], rfl, hs, hn, ?_⟩
                        have ns := num_scan (s := s) (fr := fr) (z := z) (k := k) (by omega) hz0 hz1 hz6 (by show fr - 1 < ((s.data.toList.length : Nat) : Int); omega) (by rw [show fr - 1 = p2 by omega]; exact c15_8) hk hha (fun a _ => absurd a c20_3)
                        have e := v_none (s := s) (a := a) (by rw [hq, val_esc hok (by omega), hdr, esc_u (by omega) (by show p1 < ((s.data.toList.length : Nat) : Int); omega) c14_1, show p1 + 1 = p2 by omega, show p2 = fr - 1 by omega, ns.2 (fun q => by have q1 : fr < z ∧ z < ((s.data.toList.length : Nat) : Int) ∧ bt s z = 125 ∧ ¬ 1114111 < k ∧ ¬ (55296 ≤ k ∧ k ≤ 57343) := q; omega)])
                        rw [e.1, e.2]
                      · rw [decide_eq_false c23_7]
                        refine sq.c (v := .string (s)) (wantT (g := 9) (d := 92) rfl rfl rfl) rfl rfl rfl ?_
                        refine sq.c (v := .int .i64 (z)) (wantT (g := 9) (d := 92) rfl rfl rfl) rfl rfl rfl ?_
                        refine sq.c (v := .int .u8 (bt (s) (z))) (wantT (g := 9) (d := 92) rfl rfl rfl) rfl (index_str (P := Tryz.prog) (t := 9) (s := s) (i := z) (k := .i64) (by kernel_rfl) (by omega) (by omega)) rfl ?_
                        refine sq.c (v := .bool (!decide ((bt (s) (z)) = (125 : Int)))) (wantT (g := 9) (d := 92) rfl rfl rfl) rfl rfl rfl ?_
                        refine sq.c (v := .bool (!decide ((bt (s) (z)) = (125 : Int)))) rfl rfl rfl rfl ?_
                        refine sq.c (v := .bool (!decide ((bt (s) (z)) = (125 : Int)))) rfl rfl rfl rfl ?_
                        by_cases c23_13 : (bt (s) (z)) = (125 : Int)
                        · rw [decide_eq_true c23_13]
                          refine sq.c (v := .int .i64 (k)) (wantT (g := 15) (d := 98) rfl rfl rfl) rfl rfl rfl ?_
                          refine sq.c (v := .bool (decide ((1114111 : Int) < k))) (wantT (g := 15) (d := 98) rfl rfl rfl) rfl rfl rfl ?_
                          refine sq.c (v := .bool (decide ((1114111 : Int) < k))) rfl rfl rfl rfl ?_
                          refine sq.c (v := .bool (decide ((1114111 : Int) < k))) rfl rfl rfl rfl ?_
                          by_cases c23_17 : (1114111 : Int) < k
                          · rw [decide_eq_true c23_17]
                            refine sq.s (wantF (g := 19) (d := 102) rfl rfl rfl) rfl ?_
                            refine sq.s (wantF (g := 19) (d := 102) rfl rfl rfl) rfl ?_
                            refine sq.s (wantF (g := 19) (d := 102) rfl rfl rfl) rfl ?_
                            refine sq.s (wantU (g := 22) (d := 105) rfl rfl rfl) rfl ?_
                            refine sq.s (wantU (g := 22) (d := 105) rfl rfl rfl) rfl ?_
                            refine sq.s (wantF (g := 19) (d := 102) rfl rfl rfl) rfl ?_
                            refine sq.c (v := .bool true) rfl rfl rfl rfl ?_
                            refine sq.e ?_
                            refine AWp.condT rfl rfl ?_
                            refine AWp.seq (AWp.rowV (l := _) pok ?_)
                            refine sq.c (v := .string (⟨#[]⟩)) rfl rfl rfl rfl ?_
                            refine sq.c (v := .int .i64 (-1)) rfl rfl rfl rfl ?_
                            refine sq.e ?_
                            refine AWp.ret ?_
                            refine ⟨rfl, [.string (⟨#[]⟩), .int .i64 (-1)], rfl, .tuple #[.string (⟨#[]⟩), .int .i64 (-1)], rfl, hs, hn, ?_⟩
                            have ns := num_scan (s := s) (fr := fr) (z := z) (k := k) (by omega) hz0 hz1 hz6 (by show fr - 1 < ((s.data.toList.length : Nat) : Int); omega) (by rw [show fr - 1 = p2 by omega]; exact c15_8) hk hha (fun a _ => absurd a c20_3)
                            have e := v_none (s := s) (a := a) (by rw [hq, val_esc hok (by omega), hdr, esc_u (by omega) (by show p1 < ((s.data.toList.length : Nat) : Int); omega) c14_1, show p1 + 1 = p2 by omega, show p2 = fr - 1 by omega, ns.2 (fun q => by have q1 : fr < z ∧ z < ((s.data.toList.length : Nat) : Int) ∧ bt s z = 125 ∧ ¬ 1114111 < k ∧ ¬ (55296 ≤ k ∧ k ≤ 57343) := q; omega)])
                            rw [e.1, e.2]
                          · rw [decide_eq_false c23_17]
                            refine sq.c (v := .int .i64 (k)) (wantT (g := 19) (d := 102) rfl rfl rfl) rfl rfl rfl ?_
                            refine sq.c (v := .bool (decide ((55296 : Int) ≤ k))) (wantT (g := 19) (d := 102) rfl rfl rfl) rfl rfl rfl ?_
                            refine sq.c (v := .bool (decide ((55296 : Int) ≤ k))) (wantT (g := 19) (d := 102) rfl rfl rfl) rfl rfl rfl ?_
                            by_cases c23_21 : (55296 : Int) ≤ k
                            · rw [decide_eq_true c23_21]
                              refine sq.c (v := .int .i64 (k)) (wantT (g := 22) (d := 105) rfl rfl rfl) rfl rfl rfl ?_
                              refine sq.c (v := .bool (decide (k ≤ (57343 : Int)))) (wantT (g := 22) (d := 105) rfl rfl rfl) rfl rfl rfl ?_
                              refine sq.c (v := .bool (decide (k ≤ (57343 : Int)))) (wantT (g := 19) (d := 102) rfl rfl rfl) rfl rfl rfl ?_
                              refine sq.c (v := .bool (decide (k ≤ (57343 : Int)))) rfl rfl rfl rfl ?_
                              refine sq.e ?_
                              by_cases c23_24 : k ≤ (57343 : Int)
                              · rw [decide_eq_true c23_24]
                                refine AWp.condT rfl rfl ?_
                                refine AWp.seq (AWp.rowV (l := _) pok ?_)
                                refine sq.c (v := .string (⟨#[]⟩)) rfl rfl rfl rfl ?_
                                refine sq.c (v := .int .i64 (-1)) rfl rfl rfl rfl ?_
                                refine sq.e ?_
                                refine AWp.ret ?_
                                refine ⟨rfl, [.string (⟨#[]⟩), .int .i64 (-1)], rfl, .tuple #[.string (⟨#[]⟩), .int .i64 (-1)], rfl, hs, hn, ?_⟩
                                have ns := num_scan (s := s) (fr := fr) (z := z) (k := k) (by omega) hz0 hz1 hz6 (by show fr - 1 < ((s.data.toList.length : Nat) : Int); omega) (by rw [show fr - 1 = p2 by omega]; exact c15_8) hk hha (fun a _ => absurd a c20_3)
                                have e := v_none (s := s) (a := a) (by rw [hq, val_esc hok (by omega), hdr, esc_u (by omega) (by show p1 < ((s.data.toList.length : Nat) : Int); omega) c14_1, show p1 + 1 = p2 by omega, show p2 = fr - 1 by omega, ns.2 (fun q => by have q1 : fr < z ∧ z < ((s.data.toList.length : Nat) : Int) ∧ bt s z = 125 ∧ ¬ 1114111 < k ∧ ¬ (55296 ≤ k ∧ k ≤ 57343) := q; omega)])
                                rw [e.1, e.2]
                              · rw [decide_eq_false c23_24]
                                refine AWp.condF rfl rfl ?_
                                refine AWp.skip (AWp.rowV (l := _) pok ?_)
                                refine sq.c (v := .int .i64 (z)) rfl rfl rfl rfl ?_
                                refine sq.c (v := .int .i64 (z + 1)) rfl rfl (okI (wrap_i64 (by omega) (by omega))) rfl ?_
                                refine sq.c (v := .int .i64 (z + 1)) rfl rfl rfl rfl ?_
                                refine sq.e (AWp.rowV (l := _) pok ?_)
                                refine sq.c (v := .string (strB zs)) rfl rfl rfl rfl ?_
                                refine sq.c (v := .int .i64 (k)) rfl rfl rfl rfl ?_
                                refine sq.t (v := .string (strB (encR (k)))) rfl (CallsF.fn rfl (by kernel_rfl) rfl rfl) (fun hf => f71_spec (k) (by unfold isR; omega)) hf rfl ?_
                                intro n12 hn2 hf
                                have hn := Nat.le_trans hn hn2
                                have hen := enc_len (k)
                                refine sq.c (v := .string (strB (zs ++ encR (k)))) rfl rfl (Eq.trans (add_str (a := strB zs) (b := strB (encR (k))) (by show zs.length + (encR (k)).length < _; omega)) (okV (congrArg Value.string (strB_add _ _)))) rfl ?_
                                refine sq.c (v := .string (strB (zs ++ encR (k)))) rfl rfl rfl rfl ?_
                                refine sq.e ?_
                                have ns := num_scan (s := s) (fr := fr) (z := z) (k := k) (by omega) hz0 hz1 hz6 (by show fr - 1 < ((s.data.toList.length : Nat) : Int); omega) (by rw [show fr - 1 = p2 by omega]; exact c15_8) hk hha (fun a _ => absurd a c20_3)
                                refine ⟨_, _, rfl, by omega, z + 1, zs ++ encR (k), g, rfl, rfl, hn, hf, (by omega), (by omega), (by omega), (by rw [List.length_append]; omega), (by rw [hq, val_esc hok (by omega), hdr, esc_u (by omega) (by show p1 < ((s.data.toList.length : Nat) : Int); omega) c14_1, show p1 + 1 = p2 by omega, show p2 = fr - 1 by omega, ns.1 ⟨by omega, (by show z < ((s.data.toList.length : Nat) : Int); omega), by omega, by omega, by omega⟩]; show valF g _ (zs ++ encR ((k.toNat : Nat) : Int)) = _; rw [Int.toNat_of_nonneg (by omega)]), getV [undef, undef, undef, undef, (y1 4), (y1 5), undef, .int .i64 (k), .int .i64 (rN ((bsOf s).drop p.toNat)), .int .i64 (fr), .int .i64 (p), .string (s), .int .i64 ((((s).data.toList.length : Nat) : Int)), .bool true, .tuple #[.int .i64 (rC ((bsOf s).drop p.toNat)), .int .i64 (rN ((bsOf s).drop p.toNat))], .string (s), .int .i64 (p), .string (sub (s) (p) ((((s).data.toList.length : Nat) : Int))), .tuple #[.int .i64 (rC ((bsOf s).drop p.toNat)), .int .i64 (rN ((bsOf s).drop p.toNat))], .int .i64 (rC ((bsOf s).drop p.toNat)), .int .i64 (rN ((bsOf s).drop p.toNat)), .int .i64 (rN ((bsOf s).drop p.toNat)), .bool false, .int .i64 (p), .int .i64 (rN ((bsOf s).drop p.toNat)), .int .i64 (p1), .int .i64 (rC ((bsOf s).drop p.toNat)), .bool false, (y1 28), (y1 29), .int .i64 (rC ((bsOf s).drop p.toNat)), .bool true, .int .i64 (p1), .string (s), .int .i64 ((((s).data.toList.length : Nat) : Int)), .bool false, .string (s), .int .i64 (p1), .int .u8 (bt (s) (p1)), .int .i64 (bt (s) (p1)), .int .i64 (p1), .int .i64 (p2), .int .i64 (bt (s) (p1)), .bool true, .int .i64 (p2), .string (s), .int .i64 ((((s).data.toList.length : Nat) : Int)), .bool false, .bool false, .string (s), .int .i64 (p2), .int .u8 (bt (s) (p2)), .bool false, .bool false, .int .i64 (p2), .int .i64 (fr), .int .i64 (fr), .int .i64 (z), .string (s), .int .i64 ((((s).data.toList.length : Nat) : Int)), .bool false, .bool false, undef, undef, undef, undef, .bool false, .bool false, undef, undef, undef, undef, undef, .bool false, (y4 74), (y4 75), (y4 76), (y4 77), (y4 78), (y4 79), (y4 80), (y4 81), (y4 82), .int .i64 (z), .int .i64 (fr), .bool false, .bool false, .int .i64 (z), .string (s), .int .i64 ((((s).data.toList.length : Nat) : Int)), .bool false, .bool false, .bool false, .string (s), .int .i64 (z), .int .u8 (bt (s) (z)), .bool false, .bool false, .bool false, .int .i64 (k), .bool false, .bool false, .bool false, .int .i64 (k), .bool true, .bool true, .int .i64 (k), .bool false, .bool false, .bool false, .int .i64 (z), .int .i64 (z + 1), (y1 112), (y1 113), (y1 114), (y1 115), (y1 116), (y1 117), .string (strB zs), .int .i64 (k), .string (strB (encR (k))), .string (strB (zs ++ encR (k)))], rfl⟩
                            · rw [decide_eq_false c23_21]
                              refine sq.s (wantF (g := 22) (d := 105) rfl rfl rfl) rfl ?_
                              refine sq.s (wantF (g := 22) (d := 105) rfl rfl rfl) rfl ?_
                              refine sq.c (v := .bool false) (wantT (g := 19) (d := 102) rfl rfl rfl) rfl rfl rfl ?_
                              refine sq.c (v := .bool false) rfl rfl rfl rfl ?_
                              refine sq.e ?_
                              refine AWp.condF rfl rfl ?_
                              refine AWp.skip (AWp.rowV (l := _) pok ?_)
                              refine sq.c (v := .int .i64 (z)) rfl rfl rfl rfl ?_
                              refine sq.c (v := .int .i64 (z + 1)) rfl rfl (okI (wrap_i64 (by omega) (by omega))) rfl ?_
                              refine sq.c (v := .int .i64 (z + 1)) rfl rfl rfl rfl ?_
                              refine sq.e (AWp.rowV (l := _) pok ?_)
                              refine sq.c (v := .string (strB zs)) rfl rfl rfl rfl ?_
                              refine sq.c (v := .int .i64 (k)) rfl rfl rfl rfl ?_
                              refine sq.t (v := .string (strB (encR (k)))) rfl (CallsF.fn rfl (by kernel_rfl) rfl rfl) (fun hf => f71_spec (k) (by unfold isR; omega)) hf rfl ?_
                              intro n13 hn2 hf
                              have hn := Nat.le_trans hn hn2
                              have hen := enc_len (k)
                              refine sq.c (v := .string (strB (zs ++ encR (k)))) rfl rfl (Eq.trans (add_str (a := strB zs) (b := strB (encR (k))) (by show zs.length + (encR (k)).length < _; omega)) (okV (congrArg Value.string (strB_add _ _)))) rfl ?_
                              refine sq.c (v := .string (strB (zs ++ encR (k)))) rfl rfl rfl rfl ?_
                              refine sq.e ?_
                              have ns := num_scan (s := s) (fr := fr) (z := z) (k := k) (by omega) hz0 hz1 hz6 (by show fr - 1 < ((s.data.toList.length : Nat) : Int); omega) (by rw [show fr - 1 = p2 by omega]; exact c15_8) hk hha (fun a _ => absurd a c20_3)
                              refine ⟨_, _, rfl, by omega, z + 1, zs ++ encR (k), g, rfl, rfl, hn, hf, (by omega), (by omega), (by omega), (by rw [List.length_append]; omega), (by rw [hq, val_esc hok (by omega), hdr, esc_u (by omega) (by show p1 < ((s.data.toList.length : Nat) : Int); omega) c14_1, show p1 + 1 = p2 by omega, show p2 = fr - 1 by omega, ns.1 ⟨by omega, (by show z < ((s.data.toList.length : Nat) : Int); omega), by omega, by omega, by omega⟩]; show valF g _ (zs ++ encR ((k.toNat : Nat) : Int)) = _; rw [Int.toNat_of_nonneg (by omega)]), getV [undef, undef, undef, undef, (y1 4), (y1 5), undef, .int .i64 (k), .int .i64 (rN ((bsOf s).drop p.toNat)), .int .i64 (fr), .int .i64 (p), .string (s), .int .i64 ((((s).data.toList.length : Nat) : Int)), .bool true, .tuple #[.int .i64 (rC ((bsOf s).drop p.toNat)), .int .i64 (rN ((bsOf s).drop p.toNat))], .string (s), .int .i64 (p), .string (sub (s) (p) ((((s).data.toList.length : Nat) : Int))), .tuple #[.int .i64 (rC ((bsOf s).drop p.toNat)), .int .i64 (rN ((bsOf s).drop p.toNat))], .int .i64 (rC ((bsOf s).drop p.toNat)), .int .i64 (rN ((bsOf s).drop p.toNat)), .int .i64 (rN ((bsOf s).drop p.toNat)), .bool false, .int .i64 (p), .int .i64 (rN ((bsOf s).drop p.toNat)), .int .i64 (p1), .int .i64 (rC ((bsOf s).drop p.toNat)), .bool false, (y1 28), (y1 29), .int .i64 (rC ((bsOf s).drop p.toNat)), .bool true, .int .i64 (p1), .string (s), .int .i64 ((((s).data.toList.length : Nat) : Int)), .bool false, .string (s), .int .i64 (p1), .int .u8 (bt (s) (p1)), .int .i64 (bt (s) (p1)), .int .i64 (p1), .int .i64 (p2), .int .i64 (bt (s) (p1)), .bool true, .int .i64 (p2), .string (s), .int .i64 ((((s).data.toList.length : Nat) : Int)), .bool false, .bool false, .string (s), .int .i64 (p2), .int .u8 (bt (s) (p2)), .bool false, .bool false, .int .i64 (p2), .int .i64 (fr), .int .i64 (fr), .int .i64 (z), .string (s), .int .i64 ((((s).data.toList.length : Nat) : Int)), .bool false, .bool false, undef, undef, undef, undef, .bool false, .bool false, undef, undef, undef, undef, undef, .bool false, (y4 74), (y4 75), (y4 76), (y4 77), (y4 78), (y4 79), (y4 80), (y4 81), (y4 82), .int .i64 (z), .int .i64 (fr), .bool false, .bool false, .int .i64 (z), .string (s), .int .i64 ((((s).data.toList.length : Nat) : Int)), .bool false, .bool false, .bool false, .string (s), .int .i64 (z), .int .u8 (bt (s) (z)), .bool false, .bool false, .bool false, .int .i64 (k), .bool false, .bool false, .bool false, .int .i64 (k), .bool false, .bool false, undef, undef, .bool false, .bool false, .int .i64 (z), .int .i64 (z + 1), (y1 112), (y1 113), (y1 114), (y1 115), (y1 116), (y1 117), .string (strB zs), .int .i64 (k), .string (strB (encR (k))), .string (strB (zs ++ encR (k)))], rfl⟩
                        · rw [decide_eq_false c23_13]
                          refine sq.s (wantF (g := 15) (d := 98) rfl rfl rfl) rfl ?_
                          refine sq.s (wantF (g := 15) (d := 98) rfl rfl rfl) rfl ?_
                          refine sq.c (v := .bool true) rfl rfl rfl rfl ?_
                          refine sq.c (v := .bool true) rfl rfl rfl rfl ?_
                          refine sq.s (wantF (g := 19) (d := 102) rfl rfl rfl) rfl ?_
                          refine sq.s (wantF (g := 19) (d := 102) rfl rfl rfl) rfl ?_
                          refine sq.s (wantF (g := 19) (d := 102) rfl rfl rfl) rfl ?_
                          refine sq.s (wantU (g := 22) (d := 105) rfl rfl rfl) rfl ?_
                          refine sq.s (wantU (g := 22) (d := 105) rfl rfl rfl) rfl ?_
                          refine sq.s (wantF (g := 19) (d := 102) rfl rfl rfl) rfl ?_
                          refine sq.c (v := .bool true) rfl rfl rfl rfl ?_
                          refine sq.e ?_
                          refine AWp.condT rfl rfl ?_
                          refine AWp.seq (AWp.rowV (l := _) pok ?_)
                          refine sq.c (v := .string (⟨#[]⟩)) rfl rfl rfl rfl ?_
                          refine sq.c (v := .int .i64 (-1)) rfl rfl rfl rfl ?_
                          refine sq.e ?_
                          refine AWp.ret ?_
                          refine ⟨rfl, [.string (⟨#[]⟩), .int .i64 (-1)], rfl, .tuple #[.string (⟨#[]⟩), .int .i64 (-1)], rfl, hs, hn, ?_⟩
                          have ns := num_scan (s := s) (fr := fr) (z := z) (k := k) (by omega) hz0 hz1 hz6 (by show fr - 1 < ((s.data.toList.length : Nat) : Int); omega) (by rw [show fr - 1 = p2 by omega]; exact c15_8) hk hha (fun a _ => absurd a c20_3)
                          have e := v_none (s := s) (a := a) (by rw [hq, val_esc hok (by omega), hdr, esc_u (by omega) (by show p1 < ((s.data.toList.length : Nat) : Int); omega) c14_1, show p1 + 1 = p2 by omega, show p2 = fr - 1 by omega, ns.2 (fun q => by have q1 : fr < z ∧ z < ((s.data.toList.length : Nat) : Int) ∧ bt s z = 125 ∧ ¬ 1114111 < k ∧ ¬ (55296 ≤ k ∧ k ≤ 57343) := q; omega)])
                          rw [e.1, e.2]
                · rw [decide_eq_false c15_8]
                  refine AWp.condT rfl rfl ?_
                  refine AWp.seq (AWp.rowV (l := _) pok ?_)
                  refine sq.c (v := .string (⟨#[]⟩)) rfl rfl rfl rfl ?_
                  refine sq.c (v := .int .i64 (-1)) rfl rfl rfl rfl ?_
                  refine sq.e ?_
                  refine AWp.ret ?_
                  refine ⟨rfl, [.string (⟨#[]⟩), .int .i64 (-1)], rfl, .tuple #[.string (⟨#[]⟩), .int .i64 (-1)], rfl, hs, hn, ?_⟩
                  have e := v_none (s := s) (a := a) (by rw [hq, val_esc hok (by omega), hdr, esc_u (by omega) (by show p1 < ((s.data.toList.length : Nat) : Int); omega) c14_1, show p1 + 1 = p2 by omega, num_at0 (by omega) (fun q => c15_8 q.2)])
                  rw [e.1, e.2]
            · rw [decide_eq_false c14_1]
              refine AWp.condF rfl rfl ?_
              refine AWp.seq (AWp.rowV (l := _) pok ?_)
              refine sq.c (v := .int .i64 (bt (s) (p1))) rfl rfl rfl rfl ?_
              refine sq.c (v := .bool (!decide ((bt (s) (p1)) = (34 : Int)))) rfl rfl rfl rfl ?_
              refine sq.c (v := .bool (!decide ((bt (s) (p1)) = (34 : Int)))) rfl rfl rfl rfl ?_
              by_cases c26_1 : (bt (s) (p1)) = (34 : Int)
              · rw [decide_eq_true c26_1]
                refine sq.s (wantF (g := 2) (d := 114) rfl rfl rfl) rfl ?_
                refine sq.s (wantF (g := 2) (d := 114) rfl rfl rfl) rfl ?_
                refine sq.c (v := .bool false) rfl rfl rfl rfl ?_
                refine sq.e ?_
                refine AWp.condF rfl rfl ?_
                refine AWp.skip (AWp.rowV (l := _) pok ?_)
                refine sq.c (v := .string (strB zs)) rfl rfl rfl rfl ?_
                refine sq.c (v := .int .i64 (bt (s) (p1))) rfl rfl rfl rfl ?_
                refine sq.t (v := .string (strB (encR (bt (s) (p1))))) rfl (CallsF.fn rfl (by kernel_rfl) rfl rfl) (fun hf => f71_spec (bt (s) (p1)) (by unfold isR; omega)) hf rfl ?_
                intro n14 hn2 hf
                have hn := Nat.le_trans hn hn2
                have hen := enc_len (bt (s) (p1))
                refine sq.c (v := .string (strB (zs ++ encR (bt (s) (p1))))) rfl rfl (Eq.trans (add_str (a := strB zs) (b := strB (encR (bt (s) (p1)))) (by show zs.length + (encR (bt (s) (p1))).length < _; omega)) (okV (congrArg Value.string (strB_add _ _)))) rfl ?_
                refine sq.c (v := .string (strB (zs ++ encR (bt (s) (p1))))) rfl rfl rfl rfl ?_
                refine sq.e ?_
                skip
                refine ⟨_, _, rfl, by omega, p2, zs ++ encR (bt (s) (p1)), g, rfl, rfl, hn, hf, (by omega), (by omega), (by omega), (by rw [List.length_append]; omega), (by rw [hq, val_esc hok (by omega), hdr, esc_q (by omega) (by show p1 < ((s.data.toList.length : Nat) : Int); omega) (.inl c26_1), show p1 + 1 = p2 by omega]; show valF g _ (zs ++ encR (((bt s p1).toNat : Nat) : Int)) = _; rw [Int.toNat_of_nonneg (by omega)]), getV [undef, undef, undef, undef, (y1 4), (y1 5), undef, .int .i64 (bt (s) (p1)), .int .i64 (rN ((bsOf s).drop p.toNat)), (y1 9), .int .i64 (p), .string (s), .int .i64 ((((s).data.toList.length : Nat) : Int)), .bool true, .tuple #[.int .i64 (rC ((bsOf s).drop p.toNat)), .int .i64 (rN ((bsOf s).drop p.toNat))], .string (s), .int .i64 (p), .string (sub (s) (p) ((((s).data.toList.length : Nat) : Int))), .tuple #[.int .i64 (rC ((bsOf s).drop p.toNat)), .int .i64 (rN ((bsOf s).drop p.toNat))], .int .i64 (rC ((bsOf s).drop p.toNat)), .int .i64 (rN ((bsOf s).drop p.toNat)), .int .i64 (rN ((bsOf s).drop p.toNat)), .bool false, .int .i64 (p), .int .i64 (rN ((bsOf s).drop p.toNat)), .int .i64 (p1), .int .i64 (rC ((bsOf s).drop p.toNat)), .bool false, (y1 28), (y1 29), .int .i64 (rC ((bsOf s).drop p.toNat)), .bool true, .int .i64 (p1), .string (s), .int .i64 ((((s).data.toList.length : Nat) : Int)), .bool false, .string (s), .int .i64 (p1), .int .u8 (bt (s) (p1)), .int .i64 (bt (s) (p1)), .int .i64 (p1), .int .i64 (p2), .int .i64 (bt (s) (p1)), .bool false, (y1 44), (y1 45), (y1 46), (y1 47), (y1 48), (y1 49), (y1 50), (y1 51), (y1 52), (y1 53), (y1 54), (y1 55), (y1 56), (y1 57), (y1 58), (y1 59), (y1 60), (y1 61), (y1 62), (y1 63), (y1 64), (y1 65), (y1 66), (y1 67), (y1 68), (y1 69), (y1 70), (y1 71), (y1 72), (y1 73), (y1 74), (y1 75), (y1 76), (y1 77), (y1 78), (y1 79), (y1 80), (y1 81), (y1 82), (y1 83), (y1 84), (y1 85), (y1 86), (y1 87), (y1 88), (y1 89), (y1 90), (y1 91), (y1 92), (y1 93), (y1 94), (y1 95), (y1 96), (y1 97), (y1 98), (y1 99), (y1 100), (y1 101), (y1 102), (y1 103), (y1 104), (y1 105), (y1 106), (y1 107), (y1 108), (y1 109), (y1 110), (y1 111), .int .i64 (bt (s) (p1)), .bool false, .bool false, undef, undef, .bool false, .string (strB zs), .int .i64 (bt (s) (p1)), .string (strB (encR (bt (s) (p1)))), .string (strB (zs ++ encR (bt (s) (p1))))], rfl⟩
              · rw [decide_eq_false c26_1]
                refine sq.c (v := .int .i64 (bt (s) (p1))) (wantT (g := 2) (d := 114) rfl rfl rfl) rfl rfl rfl ?_
                refine sq.c (v := .bool (!decide ((bt (s) (p1)) = (92 : Int)))) (wantT (g := 2) (d := 114) rfl rfl rfl) rfl rfl rfl ?_
                refine sq.c (v := .bool (!decide ((bt (s) (p1)) = (92 : Int)))) rfl rfl rfl rfl ?_
                refine sq.e ?_
                by_cases c26_4 : (bt (s) (p1)) = (92 : Int)
                · rw [decide_eq_true c26_4]
                  refine AWp.condF rfl rfl ?_
                  refine AWp.skip (AWp.rowV (l := _) pok ?_)
                  refine sq.c (v := .string (strB zs)) rfl rfl rfl rfl ?_
                  refine sq.c (v := .int .i64 (bt (s) (p1))) rfl rfl rfl rfl ?_
                  refine sq.t (v := .string (strB (encR (bt (s) (p1))))) rfl (CallsF.fn rfl (by kernel_rfl) rfl rfl) (fun hf => f71_spec (bt (s) (p1)) (by unfold isR; omega)) hf rfl ?_
                  intro n15 hn2 hf
                  have hn := Nat.le_trans hn hn2
                  have hen := enc_len (bt (s) (p1))
                  refine sq.c (v := .string (strB (zs ++ encR (bt (s) (p1))))) rfl rfl (Eq.trans (add_str (a := strB zs) (b := strB (encR (bt (s) (p1)))) (by show zs.length + (encR (bt (s) (p1))).length < _; omega)) (okV (congrArg Value.string (strB_add _ _)))) rfl ?_
                  refine sq.c (v := .string (strB (zs ++ encR (bt (s) (p1))))) rfl rfl rfl rfl ?_
                  refine sq.e ?_
                  skip
                  refine ⟨_, _, rfl, by omega, p2, zs ++ encR (bt (s) (p1)), g, rfl, rfl, hn, hf, (by omega), (by omega), (by omega), (by rw [List.length_append]; omega), (by rw [hq, val_esc hok (by omega), hdr, esc_q (by omega) (by show p1 < ((s.data.toList.length : Nat) : Int); omega) (.inr c26_4), show p1 + 1 = p2 by omega]; show valF g _ (zs ++ encR (((bt s p1).toNat : Nat) : Int)) = _; rw [Int.toNat_of_nonneg (by omega)]), getV [undef, undef, undef, undef, (y1 4), (y1 5), undef, .int .i64 (bt (s) (p1)), .int .i64 (rN ((bsOf s).drop p.toNat)), (y1 9), .int .i64 (p), .string (s), .int .i64 ((((s).data.toList.length : Nat) : Int)), .bool true, .tuple #[.int .i64 (rC ((bsOf s).drop p.toNat)), .int .i64 (rN ((bsOf s).drop p.toNat))], .string (s), .int .i64 (p), .string (sub (s) (p) ((((s).data.toList.length : Nat) : Int))), .tuple #[.int .i64 (rC ((bsOf s).drop p.toNat)), .int .i64 (rN ((bsOf s).drop p.toNat))], .int .i64 (rC ((bsOf s).drop p.toNat)), .int .i64 (rN ((bsOf s).drop p.toNat)), .int .i64 (rN ((bsOf s).drop p.toNat)), .bool false, .int .i64 (p), .int .i64 (rN ((bsOf s).drop p.toNat)), .int .i64 (p1), .int .i64 (rC ((bsOf s).drop p.toNat)), .bool false, (y1 28), (y1 29), .int .i64 (rC ((bsOf s).drop p.toNat)), .bool true, .int .i64 (p1), .string (s), .int .i64 ((((s).data.toList.length : Nat) : Int)), .bool false, .string (s), .int .i64 (p1), .int .u8 (bt (s) (p1)), .int .i64 (bt (s) (p1)), .int .i64 (p1), .int .i64 (p2), .int .i64 (bt (s) (p1)), .bool false, (y1 44), (y1 45), (y1 46), (y1 47), (y1 48), (y1 49), (y1 50), (y1 51), (y1 52), (y1 53), (y1 54), (y1 55), (y1 56), (y1 57), (y1 58), (y1 59), (y1 60), (y1 61), (y1 62), (y1 63), (y1 64), (y1 65), (y1 66), (y1 67), (y1 68), (y1 69), (y1 70), (y1 71), (y1 72), (y1 73), (y1 74), (y1 75), (y1 76), (y1 77), (y1 78), (y1 79), (y1 80), (y1 81), (y1 82), (y1 83), (y1 84), (y1 85), (y1 86), (y1 87), (y1 88), (y1 89), (y1 90), (y1 91), (y1 92), (y1 93), (y1 94), (y1 95), (y1 96), (y1 97), (y1 98), (y1 99), (y1 100), (y1 101), (y1 102), (y1 103), (y1 104), (y1 105), (y1 106), (y1 107), (y1 108), (y1 109), (y1 110), (y1 111), .int .i64 (bt (s) (p1)), .bool true, .bool true, .int .i64 (bt (s) (p1)), .bool false, .bool false, .string (strB zs), .int .i64 (bt (s) (p1)), .string (strB (encR (bt (s) (p1)))), .string (strB (zs ++ encR (bt (s) (p1))))], rfl⟩
                · rw [decide_eq_false c26_4]
                  refine AWp.condT rfl rfl ?_
                  refine AWp.seq (AWp.rowV (l := _) pok ?_)
                  refine sq.c (v := .string (⟨#[]⟩)) rfl rfl rfl rfl ?_
                  refine sq.c (v := .int .i64 (-1)) rfl rfl rfl rfl ?_
                  refine sq.e ?_
                  refine AWp.ret ?_
                  refine ⟨rfl, [.string (⟨#[]⟩), .int .i64 (-1)], rfl, .tuple #[.string (⟨#[]⟩), .int .i64 (-1)], rfl, hs, hn, ?_⟩
                  have e := v_none (s := s) (a := a) (by rw [hq, val_esc hok (by omega), hdr, esc_no (by omega) (by show p1 < ((s.data.toList.length : Nat) : Int); omega) c14_1 c26_1 c26_4])
                  rw [e.1, e.2]
        · rw [decide_eq_false c9_1]
          refine AWp.condF rfl rfl ?_
          refine AWp.skip (AWp.rowV (l := _) pok ?_)
          refine sq.c (v := .string (strB zs)) rfl rfl rfl rfl ?_
          refine sq.c (v := .int .i64 (rC ((bsOf s).drop p.toNat))) rfl rfl rfl rfl ?_
          refine sq.t (v := .string (strB (encR (rC ((bsOf s).drop p.toNat))))) rfl (CallsF.fn rfl (by kernel_rfl) rfl rfl) (fun hf => f71_spec (rC ((bsOf s).drop p.toNat)) (by rw [hrc]; exact dC_isR _)) hf rfl ?_
          intro n16 hn2 hf
          have hn := Nat.le_trans hn hn2
          have hen := enc_len (rC ((bsOf s).drop p.toNat))
          refine sq.c (v := .string (strB (zs ++ encR (rC ((bsOf s).drop p.toNat))))) rfl rfl (Eq.trans (add_str (a := strB zs) (b := strB (encR (rC ((bsOf s).drop p.toNat)))) (by show zs.length + (encR (rC ((bsOf s).drop p.toNat))).length < _; omega)) (okV (congrArg Value.string (strB_add _ _)))) rfl ?_
          refine sq.c (v := .string (strB (zs ++ encR (rC ((bsOf s).drop p.toNat))))) rfl rfl rfl rfl ?_
          refine sq.e ?_
          skip
          refine ⟨_, _, rfl, by omega, p1, zs ++ encR (rC ((bsOf s).drop p.toNat)), g, rfl, rfl, hn, hf, (by omega), (by omega), (by omega), (by rw [List.length_append]; omega), (by rw [hq, val_go hok (by omega) (by omega), hdr, hrc]), getV [undef, undef, undef, undef, (y1 4), (y1 5), undef, .int .i64 (rC ((bsOf s).drop p.toNat)), .int .i64 (rN ((bsOf s).drop p.toNat)), (y1 9), .int .i64 (p), .string (s), .int .i64 ((((s).data.toList.length : Nat) : Int)), .bool true, .tuple #[.int .i64 (rC ((bsOf s).drop p.toNat)), .int .i64 (rN ((bsOf s).drop p.toNat))], .string (s), .int .i64 (p), .string (sub (s) (p) ((((s).data.toList.length : Nat) : Int))), .tuple #[.int .i64 (rC ((bsOf s).drop p.toNat)), .int .i64 (rN ((bsOf s).drop p.toNat))], .int .i64 (rC ((bsOf s).drop p.toNat)), .int .i64 (rN ((bsOf s).drop p.toNat)), .int .i64 (rN ((bsOf s).drop p.toNat)), .bool false, .int .i64 (p), .int .i64 (rN ((bsOf s).drop p.toNat)), .int .i64 (p1), .int .i64 (rC ((bsOf s).drop p.toNat)), .bool false, (y1 28), (y1 29), .int .i64 (rC ((bsOf s).drop p.toNat)), .bool false, (y1 32), (y1 33), (y1 34), (y1 35), (y1 36), (y1 37), (y1 38), (y1 39), (y1 40), (y1 41), (y1 42), (y1 43), (y1 44), (y1 45), (y1 46), (y1 47), (y1 48), (y1 49), (y1 50), (y1 51), (y1 52), (y1 53), (y1 54), (y1 55), (y1 56), (y1 57), (y1 58), (y1 59), (y1 60), (y1 61), (y1 62), (y1 63), (y1 64), (y1 65), (y1 66), (y1 67), (y1 68), (y1 69), (y1 70), (y1 71), (y1 72), (y1 73), (y1 74), (y1 75), (y1 76), (y1 77), (y1 78), (y1 79), (y1 80), (y1 81), (y1 82), (y1 83), (y1 84), (y1 85), (y1 86), (y1 87), (y1 88), (y1 89), (y1 90), (y1 91), (y1 92), (y1 93), (y1 94), (y1 95), (y1 96), (y1 97), (y1 98), (y1 99), (y1 100), (y1 101), (y1 102), (y1 103), (y1 104), (y1 105), (y1 106), (y1 107), (y1 108), (y1 109), (y1 110), (y1 111), (y1 112), (y1 113), (y1 114), (y1 115), (y1 116), (y1 117), .string (strB zs), .int .i64 (rC ((bsOf s).drop p.toNat)), .string (strB (encR (rC ((bsOf s).drop p.toNat)))), .string (strB (zs ++ encR (rC ((bsOf s).drop p.toNat))))], rfl⟩
  · rw [decide_eq_false c2_3]
    refine AWp.condF rfl rfl ?_
    refine AWp.exit ?_
    refine AWp.seq (AWp.rowV (l := _) pok ?_)
    refine sq.c (v := .string (⟨#[]⟩)) rfl rfl rfl rfl ?_
    refine sq.c (v := .int .i64 (-1)) rfl rfl rfl rfl ?_
    refine sq.e ?_
    refine AWp.ret ?_
    refine ⟨rfl, [.string (⟨#[]⟩), .int .i64 (-1)], rfl, .tuple #[.string (⟨#[]⟩), .int .i64 (-1)], rfl, hs, hn, ?_⟩
    have e := v_none (s := s) (a := a) (by rw [hq, drop_nil c2_3]; exact val_no (.inl rfl))
    rw [e.1, e.2]
end Go.Proofs.YtkpjfibpaojelaaGreatDoor
