/- labels: keys tell labels apart: LabelsUnlike. -/
import Derived.Test.YtkpjfibpaojelaaGreatDoorLabK
import Derived.Test.YtkpjfibpaojelaaGreatDoorLabMayLaw
namespace Go.Proofs.YtkpjfibpaojelaaGreatDoor
open Go Go.Abs
set_option maxRecDepth 100000
set_option maxHeartbeats 4000000

theorem lo8_toNat {n : Nat} (h : n < 256) : (lo8 (n : Nat)).toNat = n := by
  unfold lo8
  rw [Int.toNat_natCast, UInt8.toNat_ofNat']
  omega
theorem or128 : ∀ n, n < 256 → n ||| 128 = n % 128 + 128 := by decide +kernel
theorem hi8_toNat (u : UInt8) : (hi8 u).toNat = u.toNat % 128 + 128 := by
  unfold hi8
  rw [UInt8.toNat_or]
  exact or128 _ u.toNat_lt
theorem lo8_mod (n : Nat) : (lo8 (n : Nat)).toNat = n % 256 := by
  unfold lo8
  rw [Int.toNat_natCast, UInt8.toNat_ofNat']
/-- No number's bytes begin another one's. -/
theorem uvar_code : ∀ (m n : Nat) (u v : List UInt8), uvar m ++ u = uvar n ++ v → m = n ∧ u = v := by
  intro m
  induction m using Nat.strongRecOn with
  | ind m ih =>
    intro n u v e
    rw [uvar, uvar.eq_1 n] at e
    split at e
    · rename_i hm
      split at e
      · rename_i hn
        simp only [List.cons_append, List.nil_append, List.cons.injEq] at e
        have := congrArg UInt8.toNat e.1
        rw [lo8_mod, lo8_mod] at this
        exact ⟨by omega, e.2⟩
      · simp only [List.cons_append, List.nil_append, List.cons.injEq] at e
        have := congrArg UInt8.toNat e.1
        rw [lo8_mod, hi8_toNat, lo8_mod] at this
        omega
    · rename_i hm
      split at e
      · simp only [List.cons_append, List.nil_append, List.cons.injEq] at e
        have := congrArg UInt8.toNat e.1
        rw [hi8_toNat, lo8_mod, lo8_mod] at this
        omega
      · simp only [List.cons_append, List.cons.injEq] at e
        have h1 := congrArg UInt8.toNat e.1
        rw [hi8_toNat, hi8_toNat, lo8_mod, lo8_mod] at h1
        obtain ⟨h2, h3⟩ := ih (m / 128) (by omega) (n / 128) u v e.2
        exact ⟨by omega, h3⟩
theorem txt_code {s t : ByteArray} {u v : List UInt8} (e : txt s ++ u = txt t ++ v) : s = t ∧ u = v := by
  unfold txt at e
  rw [List.append_assoc, List.append_assoc] at e
  obtain ⟨h1, h2⟩ := uvar_code _ _ _ _ e
  obtain ⟨h3, h4⟩ := List.append_inj h2 h1
  exact ⟨ByteArray.ext (Array.ext' h3), h4⟩
theorem txt_ne (s : ByteArray) : txt s ≠ [] := by
  intro e
  have := congrArg List.length e
  have h := uvar_pos s.data.toList.length
  unfold txt at this
  rw [List.length_append] at this
  simp only [List.length_nil] at this
  omega
theorem key_code : ∀ (la lb : List Lab) (r : List UInt8), keyB la ++ r = keyB lb → ∃ lc, lb = la ++ lc := by
  intro la
  induction la with
  | nil => intro lb r _; exact ⟨lb, rfl⟩
  | cons x la ih =>
    intro lb r e
    cases lb with
    | nil =>
      exfalso
      unfold keyB at e
      rw [List.flatMap_cons, List.flatMap_nil, List.append_assoc, List.append_assoc] at e
      exact txt_ne x.1 (List.append_eq_nil_iff.1 e).1
    | cons y lb =>
      unfold keyB at e
      rw [List.flatMap_cons, List.flatMap_cons, List.append_assoc, List.append_assoc, List.append_assoc] at e
      obtain ⟨h1, h2⟩ := txt_code e
      obtain ⟨h3, h4⟩ := txt_code h2
      obtain ⟨lc, rfl⟩ := ih lb r h4
      exact ⟨lc, by rw [show x = y from Prod.ext h1 h3]; rfl⟩
theorem key_append (la lc : List Lab) : keyB (la ++ lc) = keyB la ++ keyB lc := by unfold keyB; rw [List.flatMap_append]
theorem key_inj {la lb : List Lab} : keyB la = keyB lb ↔ la = lb := by
  constructor
  · intro e
    obtain ⟨l1, e1⟩ := key_code la lb [] (by rw [List.append_nil]; exact e)
    obtain ⟨l2, e2⟩ := key_code lb la [] (by rw [List.append_nil]; exact e.symm)
    have h1 := congrArg List.length e1
    have h2 := congrArg List.length e2
    rw [List.length_append] at h1 h2
    have : l1 = [] := List.eq_nil_of_length_eq_zero (by omega)
    rw [e1, this, List.append_nil]
  · intro e; rw [e]
abbrev keyS (ls : List Lab) : ByteArray := ⟨(keyB ls).toArray⟩
theorem keyS_inj {la lb : List Lab} : keyS la = keyS lb ↔ la = lb := by
  rw [← key_inj]
  constructor
  · intro e
    have := congrArg (fun b : ByteArray => b.data.toList) e
    simpa using this
  · intro e; unfold keyS; rw [e]
theorem key_eq (la lb : List Lab) : binE Tryz.prog .eql 9 false false (.string (keyS la)) (.string (keyS lb)) = some (.bool (decide (la = lb))) := by
  refine Eq.trans (eqD _ _) ?_
  have : decide (keyS la = keyS lb) = decide (la = lb) := decide_eq_decide.2 keyS_inj
  rw [this]
theorem same_ne (b : Bool) : binE Tryz.prog .neq 4 false false (.bool b) (.bool b) = some (.bool false) := by
  rw [boolNeq]; cases b <;> rfl
theorem keyS_len (ls : List Lab) : (keyS ls).data.toList.length = (keyB ls).length := by simp
theorem key_sub {la lb : List Lab} (hl : (keyB la).length ≤ (keyB lb).length) : sub (keyS lb) 0 ((keyS la).data.toList.length : Nat) = keyS la ↔ ∃ lc, lb = la ++ lc := by
  have e0 : (sub (keyS lb) 0 ((keyS la).data.toList.length : Nat)).data.toList = (keyB lb).take (keyB la).length := by
    rw [keyS_len]
    simp [sub, sliceS]
  constructor
  · intro e
    rw [e] at e0
    have : keyB la = (keyB lb).take (keyB la).length := by simpa using e0
    have h2 := List.take_append_drop (keyB la).length (keyB lb)
    rw [← this] at h2
    exact key_code la lb _ h2
  · rintro ⟨lc, rfl⟩
    apply ByteArray.ext
    apply Array.ext'
    rw [e0, key_append, List.take_left]
theorem key_long {la lb lc : List Lab} (e : lb = la ++ lc) : la.length ≤ lb.length ∧ lb.take la.length = la ∧ (keyB la).length ≤ (keyB lb).length := by
  subst e
  refine ⟨by simp, by simp, by rw [key_append]; simp⟩


/-- baton/batonlaw05.LabelsUnlike -/
theorem f5_spec {h : Heap} {n : Nat} {a1 a2 : Option Addr} {cp1 cp2 : Nat} (la lb : List Lab) (hla : IsRow encLab h (.slice a1 la.length cp1) la) (hlb : IsRow encLab h (.slice a2 lb.length cp2) lb) (hcb : lb.length ≤ cp2 ∧ cp2 < U) (hld : Laid0 h) :
    Tells Tryz.prog 5 [.slice a1 (la.length) cp1, .slice a2 (lb.length) cp2] h n (.bool true) := by
  refine Makes.tells (Makes.free fun hf => ?_)
  have hs : SubBut h h ([]) := .refl _ _
  have hn : n ≤ n := Nat.le_refl _
  have hf0 := hf
  refine Makes.of_bodyV (args := [.slice a1 (la.length) cp1, .slice a2 (lb.length) cp2]) (vs := [.slice a1 (la.length) cp1, .slice a2 (lb.length) cp2, undef, undef, undef, undef, undef, undef, undef, undef, undef, undef, undef, undef, undef, undef, undef, undef, undef, undef, undef, undef, undef, undef, undef, undef, undef, undef, undef, undef, undef, undef, undef, undef, undef, undef, undef, undef, undef, undef, undef, undef, undef, undef, undef, undef, undef, undef, undef, undef, undef, undef, undef, undef, undef, undef, undef, undef, undef, undef, undef, undef, undef, undef, undef, undef, undef, undef, undef]) Tryz.func5 rfl rfl ?_
  refine AWp.seq ?_
  refine AWp.rowV (l := _) pok ?_
  refine sq.c (v := .bool false) rfl rfl rfl rfl ?_
  refine sq.e ?_
  refine AWp.seq ?_
  refine AWp.seq ?_
  refine AWp.rowV (l := _) pok ?_
  refine sq.c (v := .slice a1 (la.length) cp1) rfl rfl rfl rfl ?_
  refine sq.k rfl (CallsF.fn rfl (by kernel_rfl) rfl rfl) (f12_spec la (hla.keep hs)) ?_
  rintro _ h1 n2 ⟨b_a, rfl, hb_a⟩ s3 hn2 hf
  refine sq.w ?_
  have hs := hs.trans s3
  have hn := Nat.le_trans hn hn2
  refine sq.c (v := .bool (b_a)) rfl rfl rfl rfl ?_
  rcases Bool.eq_false_or_eq_true (b_a) with c_a | c_a
  · rw [c_a]
    refine sq.s (wantF (g := 2) (d := 9) rfl rfl rfl) rfl ?_
    refine sq.s (wantF (g := 2) (d := 9) rfl rfl rfl) rfl ?_
    refine sq.c (v := .bool true) rfl rfl rfl rfl ?_
    refine sq.c (v := .bool true) rfl rfl rfl rfl ?_
    refine sq.s (wantF (g := 6) (d := 13) rfl rfl rfl) rfl ?_
    refine sq.s (wantF (g := 6) (d := 13) rfl rfl rfl) rfl ?_
    refine sq.c (v := .bool true) rfl rfl rfl rfl ?_
    refine sq.e ?_
    refine AWp.condT rfl rfl ?_
    refine AWp.seq ?_
    refine AWp.rowV (l := _) pok ?_
    refine sq.t (v := .bool true) rfl (CallsF.fn rfl (by kernel_rfl) rfl rfl) (fun hf => f13_spec (hld.keep hs)) hf rfl ?_
    intro n4 hn2 hf
    have hn := Nat.le_trans hn hn2
    refine sq.c (v := .bool true) rfl rfl rfl rfl ?_
    refine sq.e ?_
    refine AWp.ret ?_
    -- end 1: c_a
    refine ⟨rfl, [.bool true], rfl, .bool true, rfl, hs, hn, ?_⟩
    rfl
  · rw [c_a]
    refine sq.c (v := .slice a2 (lb.length) cp2) (wantT (g := 2) (d := 9) rfl rfl rfl) rfl rfl rfl ?_
    refine sq.k (wantT (g := 2) (d := 9) rfl rfl rfl) (CallsF.fn rfl (by kernel_rfl) rfl rfl) (f12_spec lb (hlb.keep hs)) ?_
    rintro _ h5 n6 ⟨b_b, rfl, hb_b⟩ s7 hn2 hf
    refine sq.w ?_
    have hs := hs.trans s7
    have hn := Nat.le_trans hn hn2
    refine sq.c (v := .bool (b_b)) rfl rfl rfl rfl ?_
    refine sq.c (v := .bool (b_b)) rfl rfl rfl rfl ?_
    rcases Bool.eq_false_or_eq_true (b_b) with c_b | c_b
    · rw [c_b]
      refine sq.s (wantF (g := 6) (d := 13) rfl rfl rfl) rfl ?_
      refine sq.s (wantF (g := 6) (d := 13) rfl rfl rfl) rfl ?_
      refine sq.c (v := .bool true) rfl rfl rfl rfl ?_
      refine sq.e ?_
      refine AWp.condT rfl rfl ?_
      refine AWp.seq ?_
      refine AWp.rowV (l := _) pok ?_
      refine sq.t (v := .bool true) rfl (CallsF.fn rfl (by kernel_rfl) rfl rfl) (fun hf => f13_spec (hld.keep hs)) hf rfl ?_
      intro n8 hn2 hf
      have hn := Nat.le_trans hn hn2
      refine sq.c (v := .bool true) rfl rfl rfl rfl ?_
      refine sq.e ?_
      refine AWp.ret ?_
      -- end 2: ¬c_a c_b
      refine ⟨rfl, [.bool true], rfl, .bool true, rfl, hs, hn, ?_⟩
      rfl
    · rw [c_b]
      refine sq.t (v := .bool true) (wantT (g := 6) (d := 13) rfl rfl rfl) (CallsF.fn rfl (by kernel_rfl) rfl rfl) (fun hf => f13_spec (hld.keep hs)) hf rfl ?_
      intro n9 hn2 hf
      have hn := Nat.le_trans hn hn2
      refine sq.c (v := .bool false) (wantT (g := 6) (d := 13) rfl rfl rfl) rfl rfl rfl ?_
      refine sq.c (v := .bool false) rfl rfl rfl rfl ?_
      refine sq.e ?_
      refine AWp.condF rfl rfl ?_
      refine AWp.skip ?_
      refine AWp.seq ?_
      refine AWp.rowV (l := _) pok ?_
      refine sq.c (v := .slice a1 (la.length) cp1) rfl rfl rfl rfl ?_
      refine sq.t (v := .string (keyS la)) rfl (CallsF.fn rfl (by kernel_rfl) rfl rfl) (fun hf => f28_spec la (hla.keep hs) (hb_a c_a).1 (hb_a c_a).2) hf rfl ?_
      intro n10 hn2 hf
      have hn := Nat.le_trans hn hn2
      refine sq.c (v := .slice a2 (lb.length) cp2) rfl rfl rfl rfl ?_
      refine sq.t (v := .string (keyS lb)) rfl (CallsF.fn rfl (by kernel_rfl) rfl rfl) (fun hf => f28_spec lb (hlb.keep hs) (hb_b c_b).1 (hb_b c_b).2) hf rfl ?_
      intro n11 hn2 hf
      have hn := Nat.le_trans hn hn2
      refine sq.c (v := .string (keyS la)) rfl rfl rfl rfl ?_
      refine sq.c (v := .string (keyS lb)) rfl rfl rfl rfl ?_
      refine sq.e ?_
      refine AWp.seq ?_
      refine AWp.seq ?_
      refine AWp.rowV (l := _) pok ?_
      refine sq.c (v := .string (keyS la)) rfl rfl rfl rfl ?_
      refine sq.c (v := .string (keyS lb)) rfl rfl rfl rfl ?_
      refine sq.c (v := .bool (decide (la = lb))) rfl rfl (key_eq _ _) rfl ?_
      refine sq.c (v := .slice a1 (la.length) cp1) rfl rfl rfl rfl ?_
      refine sq.c (v := .slice a2 (lb.length) cp2) rfl rfl rfl rfl ?_
      refine sq.t (v := .bool (decide (la = lb))) rfl (CallsF.fn rfl (by kernel_rfl) rfl rfl) (fun hf => f26_spec la lb (hla.keep hs) (hlb.keep hs) (by have := (hb_a c_a).1; omega)) hf rfl ?_
      intro n12 hn2 hf
      have hn := Nat.le_trans hn hn2
      refine sq.c (v := .bool false) rfl rfl (same_ne _) rfl ?_
      refine sq.e ?_
      refine AWp.condF rfl rfl ?_
      refine AWp.skip ?_
      refine AWp.seq ?_
      refine AWp.seq ?_
      refine AWp.rowV (l := _) pok ?_
      refine sq.c (v := .string (keyS lb)) rfl rfl rfl rfl ?_
      refine sq.c (v := .int .i64 ((((keyS lb).data.toList.length : Nat) : Int))) rfl rfl (by kernel_rfl) rfl ?_
      refine sq.c (v := .string (keyS la)) rfl rfl rfl rfl ?_
      refine sq.c (v := .int .i64 ((((keyS la).data.toList.length : Nat) : Int))) rfl rfl (by kernel_rfl) rfl ?_
      refine sq.c (v := .bool (decide (((((keyS lb).data.toList.length : Nat) : Int)) < ((((keyS la).data.toList.length : Nat) : Int))))) rfl rfl rfl rfl ?_
      refine sq.c (v := .bool (decide (((((keyS lb).data.toList.length : Nat) : Int)) < ((((keyS la).data.toList.length : Nat) : Int))))) rfl rfl rfl rfl ?_
      by_cases c6_4 : ((((keyS lb).data.toList.length : Nat) : Int)) < ((((keyS la).data.toList.length : Nat) : Int))
      · rw [decide_eq_true c6_4]
        refine sq.s (wantF (g := 5) (d := 34) rfl rfl rfl) rfl ?_
        refine sq.s (wantF (g := 5) (d := 34) rfl rfl rfl) rfl ?_
        refine sq.s (wantF (g := 5) (d := 34) rfl rfl rfl) rfl ?_
        refine sq.s (wantF (g := 5) (d := 34) rfl rfl rfl) rfl ?_
        refine sq.s (wantF (g := 5) (d := 34) rfl rfl rfl) rfl ?_
        refine sq.s (wantF (g := 5) (d := 34) rfl rfl rfl) rfl ?_
        refine sq.c (v := .bool true) rfl rfl rfl rfl ?_
        refine sq.e ?_
        refine AWp.condT rfl rfl ?_
        refine AWp.seq ?_
        refine AWp.rowV (l := _) pok ?_
        refine sq.c (v := .slice a1 (la.length) cp1) rfl rfl rfl rfl ?_
        refine sq.c (v := .int .i64 (((la.length : Nat) : Int))) rfl rfl (by kernel_rfl) rfl ?_
        refine sq.c (v := .slice a2 (lb.length) cp2) rfl rfl rfl rfl ?_
        refine sq.c (v := .int .i64 (((lb.length : Nat) : Int))) rfl rfl (by kernel_rfl) rfl ?_
        refine sq.c (v := .bool (decide ((((lb.length : Nat) : Int)) < (((la.length : Nat) : Int))))) rfl rfl rfl rfl ?_
        refine sq.c (v := .bool (decide ((((lb.length : Nat) : Int)) < (((la.length : Nat) : Int))))) rfl rfl rfl rfl ?_
        by_cases c7_4 : (((lb.length : Nat) : Int)) < (((la.length : Nat) : Int))
        · rw [decide_eq_true c7_4]
          refine sq.s (wantF (g := 5) (d := 47) rfl rfl rfl) rfl ?_
          refine sq.s (wantF (g := 5) (d := 47) rfl rfl rfl) rfl ?_
          refine sq.s (wantF (g := 5) (d := 47) rfl rfl rfl) rfl ?_
          refine sq.s (wantF (g := 5) (d := 47) rfl rfl rfl) rfl ?_
          refine sq.s (wantF (g := 5) (d := 47) rfl rfl rfl) rfl ?_
          refine sq.s (wantF (g := 5) (d := 47) rfl rfl rfl) rfl ?_
          refine sq.s (wantF (g := 5) (d := 47) rfl rfl rfl) rfl ?_
          refine sq.c (v := .bool true) rfl rfl rfl rfl ?_
          refine sq.c (v := .bool true) rfl rfl rfl rfl ?_
          refine sq.e ?_
          refine AWp.ret ?_
          -- end 3: ¬c_a ¬c_b c6_4 c7_4
          refine ⟨rfl, [.bool true], rfl, .bool true, rfl, hs, hn, ?_⟩
          rfl
        · rw [decide_eq_false c7_4]
          refine sq.c (v := .slice a1 (la.length) cp1) (wantT (g := 5) (d := 47) rfl rfl rfl) rfl rfl rfl ?_
          refine sq.c (v := .slice a2 (lb.length) cp2) (wantT (g := 5) (d := 47) rfl rfl rfl) rfl rfl rfl ?_
          refine sq.c (v := .slice a1 (la.length) cp1) (wantT (g := 5) (d := 47) rfl rfl rfl) rfl rfl rfl ?_
          refine sq.c (v := .int .i64 (((la.length : Nat) : Int))) (wantT (g := 5) (d := 47) rfl rfl rfl) rfl (by kernel_rfl) rfl ?_
          obtain ⟨ht_, R_t⟩ := IsRow.take (P := Tryz.prog) (t := 22) (e := 40) (kd := .i64) (k := la.length) (by kernel_rfl) (by kernel_rfl) (hlb.keep hs) hcb (by omega)
          refine sq.c (v := .slice a2 (lb.take la.length).length cp2) (wantT (g := 5) (d := 47) rfl rfl rfl) rfl ht_ rfl ?_
          refine sq.t (v := .bool (decide (la = (lb.take la.length)))) (wantT (g := 5) (d := 47) rfl rfl rfl) (CallsF.fn rfl (by kernel_rfl) rfl rfl) (fun hf => f26_spec la (lb.take la.length) (hla.keep hs) R_t (by have := (hb_a c_a).1; omega)) hf rfl ?_
          intro n13 hn2 hf
          have hn := Nat.le_trans hn hn2
          rcases Bool.eq_false_or_eq_true (decide (la = (lb.take la.length))) with c_s7 | c_s7
          · exfalso
            have e := of_decide_eq_true c_s7
            have h0 := List.take_append_drop la.length lb
            rw [← e] at h0
            have h3 := key_long h0.symm
            have h4 := h3.2.2
            rw [keyS_len lb, keyS_len la] at c6_4
            omega
          · rw [c_s7]
            refine sq.c (v := .bool true) (wantT (g := 5) (d := 47) rfl rfl rfl) rfl rfl rfl ?_
            refine sq.c (v := .bool true) rfl rfl rfl rfl ?_
            refine sq.c (v := .bool true) rfl rfl rfl rfl ?_
            refine sq.e ?_
            refine AWp.ret ?_
            -- end 4: ¬c_a ¬c_b c6_4 ¬c7_4 ¬c_s7
            refine ⟨rfl, [.bool true], rfl, .bool true, rfl, hs, hn, ?_⟩
            rfl
      · rw [decide_eq_false c6_4]
        refine sq.c (v := .string (keyS lb)) (wantT (g := 5) (d := 34) rfl rfl rfl) rfl rfl rfl ?_
        refine sq.c (v := .string (keyS la)) (wantT (g := 5) (d := 34) rfl rfl rfl) rfl rfl rfl ?_
        refine sq.c (v := .int .i64 ((((keyS la).data.toList.length : Nat) : Int))) (wantT (g := 5) (d := 34) rfl rfl rfl) rfl (by kernel_rfl) rfl ?_
        refine sq.c (v := .string (sub (keyS lb) (0) ((((keyS la).data.toList.length : Nat) : Int)))) (wantT (g := 5) (d := 34) rfl rfl rfl) rfl (slice_str (P := Tryz.prog) (h := h5) (t := 9) (s := keyS lb) (l := 0) (u := (((keyS la).data.toList.length : Nat) : Int)) (by kernel_rfl) (.inl ⟨rfl, rfl⟩) (.inr ⟨_, rfl⟩) (by omega) (by omega) (by omega)) rfl ?_
        refine sq.c (v := .string (keyS la)) (wantT (g := 5) (d := 34) rfl rfl rfl) rfl rfl rfl ?_
        refine sq.c (v := .bool (!decide (sub (keyS lb) (0) ((((keyS la).data.toList.length : Nat) : Int)) = keyS la))) (wantT (g := 5) (d := 34) rfl rfl rfl) rfl (neD _ _) rfl ?_
        refine sq.c (v := .bool (!decide (sub (keyS lb) (0) ((((keyS la).data.toList.length : Nat) : Int)) = keyS la))) rfl rfl rfl rfl ?_
        refine sq.e ?_
        by_cases c6_11 : sub (keyS lb) (0) ((((keyS la).data.toList.length : Nat) : Int)) = keyS la
        · rw [decide_eq_true c6_11]
          refine AWp.condF rfl rfl ?_
          refine AWp.skip ?_
          refine AWp.seq ?_
          refine AWp.rowV (l := _) pok ?_
          refine sq.c (v := .slice a1 (la.length) cp1) rfl rfl rfl rfl ?_
          refine sq.c (v := .int .i64 (((la.length : Nat) : Int))) rfl rfl (by kernel_rfl) rfl ?_
          refine sq.c (v := .slice a2 (lb.length) cp2) rfl rfl rfl rfl ?_
          refine sq.c (v := .int .i64 (((lb.length : Nat) : Int))) rfl rfl (by kernel_rfl) rfl ?_
          refine sq.c (v := .bool (decide ((((la.length : Nat) : Int)) ≤ (((lb.length : Nat) : Int))))) rfl rfl rfl rfl ?_
          refine sq.c (v := .bool (decide ((((la.length : Nat) : Int)) ≤ (((lb.length : Nat) : Int))))) rfl rfl rfl rfl ?_
          by_cases c8_4 : (((la.length : Nat) : Int)) ≤ (((lb.length : Nat) : Int))
          · rw [decide_eq_true c8_4]
            refine sq.c (v := .slice a1 (la.length) cp1) (wantT (g := 5) (d := 61) rfl rfl rfl) rfl rfl rfl ?_
            refine sq.c (v := .slice a2 (lb.length) cp2) (wantT (g := 5) (d := 61) rfl rfl rfl) rfl rfl rfl ?_
            refine sq.c (v := .slice a1 (la.length) cp1) (wantT (g := 5) (d := 61) rfl rfl rfl) rfl rfl rfl ?_
            refine sq.c (v := .int .i64 (((la.length : Nat) : Int))) (wantT (g := 5) (d := 61) rfl rfl rfl) rfl (by kernel_rfl) rfl ?_
            obtain ⟨ht_, R_t⟩ := IsRow.take (P := Tryz.prog) (t := 22) (e := 40) (kd := .i64) (k := la.length) (by kernel_rfl) (by kernel_rfl) (hlb.keep hs) hcb (by omega)
            refine sq.c (v := .slice a2 (lb.take la.length).length cp2) (wantT (g := 5) (d := 61) rfl rfl rfl) rfl ht_ rfl ?_
            refine sq.t (v := .bool (decide (la = (lb.take la.length)))) (wantT (g := 5) (d := 61) rfl rfl rfl) (CallsF.fn rfl (by kernel_rfl) rfl rfl) (fun hf => f26_spec la (lb.take la.length) (hla.keep hs) R_t (by have := (hb_a c_a).1; omega)) hf rfl ?_
            intro n14 hn2 hf
            have hn := Nat.le_trans hn hn2
            refine sq.c (v := .bool (decide (la = (lb.take la.length)))) rfl rfl rfl rfl ?_
            refine sq.c (v := .bool (decide (la = (lb.take la.length)))) rfl rfl rfl rfl ?_
            refine sq.e ?_
            refine AWp.ret ?_
            -- end 5: ¬c_a ¬c_b ¬c6_4 c6_11 c8_4
            refine ⟨rfl, [.bool (decide (la = (lb.take la.length)))], rfl, .bool (decide (la = (lb.take la.length))), rfl, hs, hn, ?_⟩
            obtain ⟨lc, e2⟩ := (key_sub (by rw [keyS_len lb, keyS_len la] at c6_4; omega)).1 c6_11
            exact congrArg Value.bool (decide_eq_true (key_long e2).2.1.symm)
          · exfalso
            obtain ⟨lc, e2⟩ := (key_sub (by rw [keyS_len lb, keyS_len la] at c6_4; omega)).1 c6_11
            have := (key_long e2).1
            omega
        · rw [decide_eq_false c6_11]
          refine AWp.condT rfl rfl ?_
          refine AWp.seq ?_
          refine AWp.rowV (l := _) pok ?_
          refine sq.c (v := .slice a1 (la.length) cp1) rfl rfl rfl rfl ?_
          refine sq.c (v := .int .i64 (((la.length : Nat) : Int))) rfl rfl (by kernel_rfl) rfl ?_
          refine sq.c (v := .slice a2 (lb.length) cp2) rfl rfl rfl rfl ?_
          refine sq.c (v := .int .i64 (((lb.length : Nat) : Int))) rfl rfl (by kernel_rfl) rfl ?_
          refine sq.c (v := .bool (decide ((((lb.length : Nat) : Int)) < (((la.length : Nat) : Int))))) rfl rfl rfl rfl ?_
          refine sq.c (v := .bool (decide ((((lb.length : Nat) : Int)) < (((la.length : Nat) : Int))))) rfl rfl rfl rfl ?_
          by_cases c7_4 : (((lb.length : Nat) : Int)) < (((la.length : Nat) : Int))
          · rw [decide_eq_true c7_4]
            refine sq.s (wantF (g := 5) (d := 47) rfl rfl rfl) rfl ?_
            refine sq.s (wantF (g := 5) (d := 47) rfl rfl rfl) rfl ?_
            refine sq.s (wantF (g := 5) (d := 47) rfl rfl rfl) rfl ?_
            refine sq.s (wantF (g := 5) (d := 47) rfl rfl rfl) rfl ?_
            refine sq.s (wantF (g := 5) (d := 47) rfl rfl rfl) rfl ?_
            refine sq.s (wantF (g := 5) (d := 47) rfl rfl rfl) rfl ?_
            refine sq.s (wantF (g := 5) (d := 47) rfl rfl rfl) rfl ?_
            refine sq.c (v := .bool true) rfl rfl rfl rfl ?_
            refine sq.c (v := .bool true) rfl rfl rfl rfl ?_
            refine sq.e ?_
            refine AWp.ret ?_
            -- end 6: ¬c_a ¬c_b ¬c6_4 ¬c6_11 c7_4
            refine ⟨rfl, [.bool true], rfl, .bool true, rfl, hs, hn, ?_⟩
            rfl
          · rw [decide_eq_false c7_4]
            refine sq.c (v := .slice a1 (la.length) cp1) (wantT (g := 5) (d := 47) rfl rfl rfl) rfl rfl rfl ?_
            refine sq.c (v := .slice a2 (lb.length) cp2) (wantT (g := 5) (d := 47) rfl rfl rfl) rfl rfl rfl ?_
            refine sq.c (v := .slice a1 (la.length) cp1) (wantT (g := 5) (d := 47) rfl rfl rfl) rfl rfl rfl ?_
            refine sq.c (v := .int .i64 (((la.length : Nat) : Int))) (wantT (g := 5) (d := 47) rfl rfl rfl) rfl (by kernel_rfl) rfl ?_
            obtain ⟨ht_, R_t⟩ := IsRow.take (P := Tryz.prog) (t := 22) (e := 40) (kd := .i64) (k := la.length) (by kernel_rfl) (by kernel_rfl) (hlb.keep hs) hcb (by omega)
            refine sq.c (v := .slice a2 (lb.take la.length).length cp2) (wantT (g := 5) (d := 47) rfl rfl rfl) rfl ht_ rfl ?_
            refine sq.t (v := .bool (decide (la = (lb.take la.length)))) (wantT (g := 5) (d := 47) rfl rfl rfl) (CallsF.fn rfl (by kernel_rfl) rfl rfl) (fun hf => f26_spec la (lb.take la.length) (hla.keep hs) R_t (by have := (hb_a c_a).1; omega)) hf rfl ?_
            intro n15 hn2 hf
            have hn := Nat.le_trans hn hn2
            rcases Bool.eq_false_or_eq_true (decide (la = (lb.take la.length))) with c_s7 | c_s7
            · exfalso
              have e := of_decide_eq_true c_s7
              have h0 := List.take_append_drop la.length lb
              rw [← e] at h0
              have h3 := key_long h0.symm
              exact c6_11 ((key_sub h3.2.2).2 ⟨_, h0.symm⟩)
            · rw [c_s7]
              refine sq.c (v := .bool true) (wantT (g := 5) (d := 47) rfl rfl rfl) rfl rfl rfl ?_
              refine sq.c (v := .bool true) rfl rfl rfl rfl ?_
              refine sq.c (v := .bool true) rfl rfl rfl rfl ?_
              refine sq.e ?_
              refine AWp.ret ?_
              -- end 7: ¬c_a ¬c_b ¬c6_4 ¬c6_11 ¬c7_4 ¬c_s7
              refine ⟨rfl, [.bool true], rfl, .bool true, rfl, hs, hn, ?_⟩
              rfl

end Go.Proofs.YtkpjfibpaojelaaGreatDoor
