/- texts of the claim, part 7: FenT4 FenT5 FenT6 FenT7 FenP1 FenW FenP2 FenP3. -/
import Derived.Test.YtkpaklofdkjinaaDoorPv6
set_option linter.unusedVariables false
set_option linter.unusedSimpArgs false
set_option linter.unusedSectionVars false
namespace Go.Proofs.YtkpaklofdkjinaaDoor
open Go Go.Abs Go.RowKit Go.Shelf
set_option maxRecDepth 100000
set_option maxHeartbeats 8000000
theorem putS_kept : ∀ (ys xs : List Samp), (putS xs ys).1 = xs ++ keptV ys (putS xs ys).2
  | [], xs => by simp [putS, keptV]
  | y :: ys, xs => by
    simp only [putS]
    split
    · simp only [keptV, if_pos]
      rw [putS_kept ys (xs ++ [y]), List.append_assoc]; rfl
    · rename_i hj
      simp only [keptV, if_neg hj]
      exact putS_kept ys xs
theorem mset_mem {κ ν : Type} [DecidableEq κ] {L : List (κ × ν × Nat)} {ck : Nat} {k : κ} {v : ν} {x : κ × ν × Nat} (h : x ∈ mset L ck k v) : x ∈ L ∨ (x.1 = k ∧ x.2.1 = v) := by
  unfold mset at h
  split at h
  · rename_i i _
    obtain ⟨j, hj⟩ := List.getElem?_of_mem h
    rw [List.getElem?_modify] at hj
    cases hg : L[j]? with
    | none => rw [hg] at hj; cases hj
    | some y =>
      rw [hg] at hj
      by_cases e : i = j
      · simp [e] at hj; subst hj; exact .inr ⟨rfl, rfl⟩
      · simp [e] at hj; subst hj; exact .inl (List.mem_of_getElem? hg)
  · rcases List.mem_append.1 h with h | h
    · exact .inl h
    · rw [List.mem_singleton] at h; subst h; exact .inr ⟨rfl, rfl⟩
theorem InvS.put {N : Nat} {S : SP} (q : InvS N S) {ck : Nat} {ten : ByteArray} {s : Ser} (hn : nameB ten = true) (hb : mayB s.1 = true) (hs : Small s) : InvS (N + 6000) (pS S ck ten s) := by
  have up : InvS (N + 6000) S := fun x hx => by
    obtain ⟨a, b, c⟩ := q x hx
    exact ⟨a, by omega, c⟩
  unfold pS
  split
  · exact up
  · rename_i hk
    intro x hx
    rcases mset_mem hx with hx | ⟨e1, e2⟩
    · exact up x hx
    · rw [e1, e2]
      have hw := q.was (ten, keyA s.1)
      have hl := (putS_len s.2 (wasOf S (ten, keyA s.1))).2
      have h2 := hs.2.1
      refine ⟨putS_may _ _ hw.1, ?_, ⟨hs.1, hs.2.2⟩, ?_, hb, rfl, hn⟩
      · show (putS _ _).1.length ≤ _
        omega
      · show 0 < (putS _ _).1.length
        rw [putS_kept, List.length_append]
        have : 0 < (keptV s.2 (putS (wasOf S (ten, keyA s.1)) s.2).2).length := List.length_pos_iff.2 hk
        omega
theorem pBad_le (S : SP) (ten : ByteArray) (s : Ser) : 0 ≤ pBad S ten s ∧ pBad S ten s ≤ (s.2.length : Nat) := by
  have := badV_le (pPut S ten s).2
  unfold pBad
  have e : (pPut S ten s).2.length = s.2.length := (putS_len _ _).1
  rw [e] at this
  exact this
theorem mayBat_parts {b : Bat} (h : mayBat b = true) : nameB b.ten = true ∧ ∀ s ∈ b.ser, mayB s.1 = true ∧ ∀ x ∈ s.2, mayT x.1 = true := by
  unfold mayBat at h
  simp only [Bool.and_eq_true, List.all_eq_true] at h
  refine ⟨h.1.1, fun s hs => ?_⟩
  have := h.2 s hs
  unfold okSer at this
  simp only [Bool.and_eq_true, List.all_eq_true] at this
  exact this
structure TSt where
  S : SP
  ck : Nat
  ks : List Ser
  bad : Int
def stepT (ten : ByteArray) (R : TSt) (s : Ser) : TSt := ⟨pS R.S R.ck ten s, pCk R.S R.ck ten s, if pKept R.S ten s = [] then R.ks else R.ks ++ [(s.1, pKept R.S ten s)], R.bad + pBad R.S ten s⟩
def foldT (ten : ByteArray) (R : TSt) (ss : List Ser) : TSt := ss.foldl (stepT ten) R
theorem foldT_snoc (ten : ByteArray) (R : TSt) (ss : List Ser) (s : Ser) : foldT ten R (ss ++ [s]) = stepT ten (foldT ten R ss) s := by unfold foldT; rw [List.foldl_append]; rfl
structure TkR where
  e : Int
  F : FM
  kf : Nat
  S : SP
  kg : Nat
  kb : Bat
  bad : Int
  rose : Bool
def takeNo (e : Int) (F : FM) (kf : Nat) (S : SP) (kg : Nat) : TkR := ⟨e, F, kf, S, kg, ⟨⟨#[]⟩, ⟨#[]⟩, 0, []⟩, 0, false⟩
def takeOk (F : FM) (kf : Nat) (b : Bat) (R : TSt) (rose : Bool) : TkR := ⟨0, F, kf, R.S, R.ck, ⟨b.ten, b.clu, b.epo, R.ks⟩, R.bad, rose⟩
def takeR (F : FM) (kf : Nat) (S : SP) (kg : Nat) (b : Bat) : TkR :=
  if mayBat b = false then takeNo 4 F kf S kg
  else if b.clu = ⟨#[]⟩ then takeOk F kf b (foldT b.ten ⟨S, kg, [], 0⟩ b.ser) false
  else if b.epo < (mget F (b.ten, b.clu)).getD 0 then takeNo 61 F kf S kg
  else takeOk (mset F kf (b.ten, b.clu) b.epo) (mck F kf (b.ten, b.clu)) b (foldT b.ten ⟨S, kg, [], 0⟩ b.ser) (decide ((mget F (b.ten, b.clu)).getD 0 < b.epo))
theorem takeX_spec {h : Heap} {n : Nat} {b f g kf kg : Nat} {c : CI} (F : FM) (G : SM) (S : SP) (hb_ : h.get b = some (.cells [.map (some f), .map (some g)] true c)) (hf_ : h.get f = some (.map (mapE plV intV F) kf)) (hg_ : h.get g = some (.map (mapE plV ownV G) kg)) (okF : MOk F kf) (okG : MOk G kg) (hS : SMIs h G S) (ne_f_g : f ≠ g) {a : Option Addr} {cp N : Nat} (ten clu : ByteArray) (epo : Int) (rs : List RSer) (ss : List Ser) (hr : IsRow encSer h (.slice a rs.length cp) rs) (hd : SersIs h rs ss) (hld : Laid0 h) (hsm : Smalls ss) (q1 : ten.data.toList.length < 9223372036854775808) (q2 : clu.data.toList.length < 9223372036854775808) (hinv : InvS N S) (hN : N + 7200000 < 1000000000000) :
    Makes Tryd.prog 13 [.pointer (some ⟨b, 0, none⟩), .agg #[.string (ten), .string (clu), .int .i64 (epo), .slice a (rs.length) cp]] h n ([f, g]) (fun v h2 _ => ∃ w os G2, v = .tuple #[.agg #[.string (takeR F kf S kg ⟨ten, clu, epo, ss⟩).kb.ten, .string (takeR F kf S kg ⟨ten, clu, epo, ss⟩).kb.clu, .int .i64 (takeR F kf S kg ⟨ten, clu, epo, ss⟩).kb.epo, w, .int .i64 (takeR F kf S kg ⟨ten, clu, epo, ss⟩).bad, .bool (takeR F kf S kg ⟨ten, clu, epo, ss⟩).rose], .int .i64 (takeR F kf S kg ⟨ten, clu, epo, ss⟩).e] ∧ OwnRow encSerO 43 h h2 w os ∧ FSers h2 (os.map serV) (takeR F kf S kg ⟨ten, clu, epo, ss⟩).kb.ser ∧ h2.get f = some (.map (mapE plV intV (takeR F kf S kg ⟨ten, clu, epo, ss⟩).F) (takeR F kf S kg ⟨ten, clu, epo, ss⟩).kf) ∧ h2.get g = some (.map (mapE plV ownV G2) (takeR F kf S kg ⟨ten, clu, epo, ss⟩).kg) ∧ MOk (takeR F kf S kg ⟨ten, clu, epo, ss⟩).F (takeR F kf S kg ⟨ten, clu, epo, ss⟩).kf ∧ MOk G2 (takeR F kf S kg ⟨ten, clu, epo, ss⟩).kg ∧ SMIs h2 G2 (takeR F kf S kg ⟨ten, clu, epo, ss⟩).S) := by
 refine Makes.free fun hf => ?_
 have ne_b_f : b ≠ f := by intro e; subst e; rw [hb_] at hf_; cases hf_
 have ne_b_g : b ≠ g := by intro e; subst e; rw [hb_] at hg_; cases hg_
 have hNC : NoCells h [f, g] := .cons hf_ (.cons hg_ (.nil h))
 have hKS : Ours h [f, g] := .cons hf_ rfl (.cons hg_ rfl (.nil h))
 have hrl : rs.length = ss.length := hd.1
 have hs1 : ss.length ≤ 1200 := hsm.1
 have hs : SubBut h h ([f, g]) := .refl _ _
 have hn : n ≤ n := Nat.le_refl _
 have hf0 := hf
 refine Makes.of_bodyV (args := [.pointer (some ⟨b, 0, none⟩), .agg #[.string (ten), .string (clu), .int .i64 (epo), .slice a (rs.length) cp]]) (vs := [.pointer (some ⟨b, 0, none⟩), .agg #[.string (ten), .string (clu), .int .i64 (epo), .slice a (rs.length) cp], undef, undef, undef, undef, undef, undef, undef, undef, undef, undef, undef, undef, undef, undef, undef, undef, undef, undef, undef, undef, undef, undef, undef, undef, undef, undef, undef, undef, undef, undef, undef, undef, undef, undef, undef, undef, undef, undef, undef, undef, undef, undef, undef, undef, undef, undef, undef, undef, undef, undef, undef, undef, undef, undef, undef, undef, undef, undef, undef, undef, undef, undef, undef, undef, undef, undef, undef, undef, undef, undef, undef, undef, undef, undef, undef, undef, undef, undef, undef, undef, undef, undef, undef, undef, undef, undef, undef, undef, undef, undef, undef, undef, undef, undef, undef, undef, undef]) Tryd.func13 rfl rfl ?_
 refine AWp.seq (AWp.rowV (l := _) pok ?_)
 have e_f_n : f ≠ n := hf.ne hf_
 have e_g_n : g ≠ n := hf.ne hg_
 refine sq.op rfl rfl (Does.box (cs := [.string (ten), .string (clu), .int .i64 (epo), .slice a (rs.length) cp]) hf rfl rfl) ?_
 rintro _ h2 n3 ⟨rfl, hb1⟩ s4 hn2 hf
 refine sq.w ?_
 have hS := hS.keep (.of0 s4)
 have hld := hld.keep s4
 have hb_ := s4.sub _ _ hb_
 have hf_ := s4.sub _ _ hf_
 have hg_ := s4.sub _ _ hg_
 have hs := hs.trans (s4.mono (by simp))
 have hn := Nat.le_trans hn hn2
 have e_f_n3 : f ≠ n3 := hf.ne hf_
 have e_g_n3 : g ≠ n3 := hf.ne hg_
 have z_n3 : h.get n3 = none := hf0 _ hn
 refine sq.op rfl rfl (Does.alloc (cs := [.string (⟨#[]⟩), .string (⟨#[]⟩), .int .i64 (0), .slice none (0) (0), .int .i64 (0), .bool false]) hf (z := .agg #[.string (⟨#[]⟩), .string (⟨#[]⟩), .int .i64 (0), .slice none (0) (0), .int .i64 (0), .bool false]) (by kernel_rfl) rfl) ?_
 rintro _ h6 n7 ⟨rfl, hb5⟩ s8 hn2 hf
 refine sq.w ?_
 have hS := hS.keep (.of0 s8)
 have hld := hld.keep s8
 have hb_ := s8.sub _ _ hb_
 have hf_ := s8.sub _ _ hf_
 have hg_ := s8.sub _ _ hg_
 have hb1 := s8.sub _ _ hb1
 have hs := hs.trans (s8.mono (by simp))
 have hn := Nat.le_trans hn hn2
 refine sq.c (v := .int .i64 (0)) rfl rfl rfl rfl ?_
 refine sq.e (AWp.seq (AWp.seq (AWp.rowV (l := _) pok ?_)))
 refine sq.c (v := .pointer (some ⟨b, 0, none⟩)) rfl rfl rfl rfl ?_
 refine sq.c (v := .bool false) rfl rfl (by kernel_rfl) rfl ?_
 refine sq.e ?_
 refine AWp.condF rfl rfl ?_
 refine AWp.skip (AWp.seq (AWp.seq (AWp.rowV (l := _) pok ?_)))
 refine sq.c (v := .agg #[.string (ten), .string (clu), .int .i64 (epo), .slice a (rs.length) cp]) rfl rfl (ldA (P := Tryd.prog) (t := 31) (p := 0) (k := 4) (xs := [.string (ten), .string (clu), .int .i64 (epo), .slice a (rs.length) cp]) (by kernel_rfl) (by kernel_rfl) hb1 rfl (Nat.le_of_ble_eq_true rfl)) rfl ?_
 refine sq.t (v := .bool (mayBat ⟨ten, clu, epo, ss⟩)) rfl (CallsF.fn rfl (by kernel_rfl) rfl rfl) (fun hf => mayBat_spec _ _ _ _ _ (isRow_noc hr hs hNC) (hd.noc hs hNC) hld hsm q1 q2) hf rfl ?_
 intro n9 hn2 hf
 have hn := Nat.le_trans hn hn2
 rcases Bool.eq_false_or_eq_true (mayBat ⟨ten, clu, epo, ss⟩) with c3_1 | c3_1
 ·rw [c3_1]
  refine sq.c (v := .bool false) rfl rfl rfl rfl ?_
  refine sq.e ?_
  refine AWp.condF rfl rfl ?_
  refine AWp.skip (AWp.seq (AWp.rowV (l := _) pok ?_))
  refine sq.c (v := .pointer (some ⟨n, 0, none⟩)) rfl rfl (by kernel_rfl) rfl ?_
  refine sq.c (v := .string (ten)) rfl rfl (ld1 (P := Tryd.prog) (t := 9) (p := 0) (v := .string (ten)) (by kernel_rfl) (by kernel_rfl) hb1 rfl) rfl ?_
  refine sq.c (v := .pointer (some ⟨n, 1, none⟩)) rfl rfl (by kernel_rfl) rfl ?_
  refine sq.c (v := .string (clu)) rfl rfl (ld1 (P := Tryd.prog) (t := 9) (p := 1) (v := .string (clu)) (by kernel_rfl) (by kernel_rfl) hb1 rfl) rfl ?_
  refine sq.c (v := .pointer (some ⟨n, 2, none⟩)) rfl rfl (by kernel_rfl) rfl ?_
  refine sq.c (v := .int .i64 (epo)) rfl rfl (ld1 (P := Tryd.prog) (t := 2) (p := 2) (v := .int .i64 (epo)) (by kernel_rfl) (by kernel_rfl) hb1 rfl) rfl ?_
  refine sq.c (v := .agg #[.string (ten), .string (clu), .int .i64 (epo), .slice none (0) (0)]) rfl rfl (by kernel_rfl) rfl ?_
  refine sq.c (v := .agg #[.string (ten), .string (clu), .int .i64 (epo), .slice none (0) (0), .int .i64 (0), .bool false]) rfl rfl (by kernel_rfl) rfl ?_
  have e_b_n9 : b ≠ n9 := hf.ne hb_
  have e_f_n9 : f ≠ n9 := hf.ne hf_
  have e_g_n9 : g ≠ n9 := hf.ne hg_
  have e_n_n9 : n ≠ n9 := hf.ne hb1
  have e_n3_n9 : n3 ≠ n9 := hf.ne hb5
  have z_n9 : h.get n9 = none := hf0 _ hn
  refine sq.op rfl rfl (Does.alloc (cs := [.string (⟨#[]⟩), .string (⟨#[]⟩), .int .i64 (0), .slice none (0) (0), .int .i64 (0), .bool false]) hf (z := .agg #[.string (⟨#[]⟩), .string (⟨#[]⟩), .int .i64 (0), .slice none (0) (0), .int .i64 (0), .bool false]) (by kernel_rfl) rfl) ?_
  rintro _ h11 n12 ⟨rfl, hb10⟩ s13 hn2 hf
  refine sq.w ?_
  have hS := hS.keep (.of0 s13)
  have hb_ := s13.sub _ _ hb_
  have hf_ := s13.sub _ _ hf_
  have hg_ := s13.sub _ _ hg_
  have hb1 := s13.sub _ _ hb1
  have hb5 := s13.sub _ _ hb5
  have hs := hs.trans (s13.mono (by simp))
  have hn := Nat.le_trans hn hn2
  refine sq.op rfl rfl (Does.store (k := 6) (xs := [.string (ten), .string (clu), .int .i64 (epo), .slice none (0) (0), .int .i64 (0), .bool false]) (cs' := [.string (ten), .string (clu), .int .i64 (epo), .slice none (0) (0), .int .i64 (0), .bool false]) hf (by kernel_rfl) rfl rfl rfl hb10 rfl rfl (Nat.le_of_ble_eq_true rfl) rfl) ?_
  rintro _ h15 n16 ⟨rfl, hb14⟩ s17 hn2 hf
  refine sq.w0 ?_
  have hS := hS.keep (.own s17 hb10 rfl)
  have hb_ := s17.get1 (e_b_n9) hb_
  have hf_ := s17.get1 (e_f_n9) hf_
  have hg_ := s17.get1 (e_g_n9) hg_
  have hb1 := s17.get1 (e_n_n9) hb1
  have hb5 := s17.get1 (e_n3_n9) hb5
  have hs := hs.fresh z_n9 s17
  have hn := Nat.le_trans hn hn2
  refine sq.e (AWp.seq (AWp.seq (AWp.rowV (l := _) pok ?_)))
  refine sq.c (v := .pointer (some ⟨n, 1, none⟩)) rfl rfl (by kernel_rfl) rfl ?_
  refine sq.c (v := .string (clu)) rfl rfl (ld1 (P := Tryd.prog) (t := 9) (p := 1) (v := .string (clu)) (by kernel_rfl) (by kernel_rfl) hb1 rfl) rfl ?_
  refine sq.c (v := .bool (!decide (clu = (⟨#[]⟩ : ByteArray)))) rfl rfl (neD _ _) rfl ?_
  refine sq.e ?_
  by_cases c6_2 : clu = (⟨#[]⟩ : ByteArray)
  ·rw [decide_eq_true c6_2]
   refine AWp.condF rfl rfl ?_
   refine AWp.skip (AWp.seq (AWp.seq (AWp.rowV (l := _) pok ?_)))
   refine sq.c (v := .pointer (some ⟨n, 3, none⟩)) rfl rfl (by kernel_rfl) rfl ?_
   refine sq.c (v := .slice a (rs.length) cp) rfl rfl (ld1 (P := Tryd.prog) (t := 29) (p := 3) (v := .slice a (rs.length) cp) (by kernel_rfl) (by kernel_rfl) hb1 rfl) rfl ?_
   refine sq.c (v := .int .i64 (((rs.length : Nat) : Int))) rfl rfl (by kernel_rfl) rfl ?_
   refine sq.c (v := .int .i64 (0)) rfl rfl rfl rfl ?_
   refine sq.e (AWp.block ?_)
   have hmb := mayBat_parts c3_1
   refine AWp.loopV (fun d vs h19 n20 => ∃ (i : Int) (R : TSt) (G' : SM) (os : List (Hdr × Hdr)) (a_o : Option Addr) (cp_o : Nat), d = ((rs.length : Nat) - i + 1).toNat ∧ SubBut h h19 ([f, g]) ∧ n ≤ n20 ∧ Free h19 n20 ∧ h19.get b = some (.cells [.map (some f), .map (some g)] true c) ∧ h19.get f = some (.map (mapE plV intV F) kf) ∧ h19.get g = some (.map (mapE plV ownV G') R.ck) ∧ SMIs h19 G' R.S ∧ h19.get n = some (.cells [.string (ten), .string (clu), .int .i64 (epo), .slice a (rs.length) cp] true ⟨31, 0, true⟩) ∧ h19.get n3 = some (.cells [.string (⟨#[]⟩), .string (⟨#[]⟩), .int .i64 (0), .slice none (0) (0), .int .i64 (0), .bool false] true ⟨33, 0, true⟩) ∧ h19.get n9 = some (.cells [.string (ten), .string (clu), .int .i64 (epo), .slice a_o (os.length) cp_o, .int .i64 (R.bad), .bool false] true ⟨33, 0, true⟩) ∧ FSers h19 (os.map serV) R.ks ∧ OwnRow encSerO 43 h h19 (.slice a_o (os).length cp_o) (os) ∧ (∀ c ∈ blkOf (.slice a_o (os).length cp_o), c ≠ b) ∧ (∀ c ∈ blkOf (.slice a_o (os).length cp_o), c ≠ f) ∧ (∀ c ∈ blkOf (.slice a_o (os).length cp_o), c ≠ g) ∧ (∀ c ∈ blkOf (.slice a_o (os).length cp_o), c ≠ n) ∧ (∀ c ∈ blkOf (.slice a_o (os).length cp_o), c ≠ n3) ∧ (∀ c ∈ blkOf (.slice a_o (os).length cp_o), c ≠ n9) ∧ MOk G' R.ck ∧ (0 ≤ i) ∧ (i ≤ (rs.length : Nat)) ∧ (R = foldT ten ⟨S, kg, [], 0⟩ (ss.take i.toNat)) ∧ (InvS (N + 6000 * i.toNat) R.S) ∧ (0 ≤ R.bad) ∧ (R.bad ≤ 6000 * i) ∧ (os.length ≤ i.toNat) ∧ ∃ y18 : Nat → Value, vs = [.pointer (some ⟨b, 0, none⟩), .agg #[.string (ten), .string (clu), .int .i64 (epo), .slice a (rs.length) cp], undef, .pointer (some ⟨n, 0, none⟩), .pointer (some ⟨n3, 0, none⟩), .int .i64 (0), .pointer (some ⟨n9, 0, none⟩), undef, undef, (y18 9), (y18 10), (y18 11), .pointer (some ⟨b, 0, none⟩), .bool false, undef, .agg #[.string (ten), .string (clu), .int .i64 (epo), .slice a (rs.length) cp], .bool true, .bool false, undef, .pointer (some ⟨n, 0, none⟩), .string (ten), .pointer (some ⟨n, 1, none⟩), .string (clu), .pointer (some ⟨n, 2, none⟩), .int .i64 (epo), .agg #[.string (ten), .string (clu), .int .i64 (epo), .slice none (0) (0)], .agg #[.string (ten), .string (clu), .int .i64 (epo), .slice none (0) (0), .int .i64 (0), .bool false], .pointer (some ⟨n, 1, none⟩), .string (clu), .bool false, undef, undef, undef, undef, undef, undef, undef, undef, undef, undef, undef, undef, undef, undef, undef, undef, undef, undef, undef, undef, undef, undef, undef, undef, undef, undef, undef, undef, undef, undef, undef, undef, .pointer (some ⟨n, 3, none⟩), .slice a (rs.length) cp, .int .i64 (((rs.length : Nat) : Int)), .int .i64 (i), (y18 66), (y18 67), (y18 68), (y18 69), (y18 70), (y18 71), (y18 72), (y18 73), (y18 74), (y18 75), (y18 76), (y18 77), (y18 78), (y18 79), (y18 80), (y18 81), (y18 82), (y18 83), (y18 84), (y18 85), (y18 86), (y18 87), (y18 88), (y18 89), (y18 90), (y18 91), (y18 92), (y18 93), (y18 94), (y18 95), (y18 96), (y18 97), undef]) (((rs.length : Nat) - (0 : Int) + 1).toNat) ⟨0, ⟨S, kg, [], 0⟩, G, [], none, 0, rfl, hs, hn, hf, hb_, hf_, hg_, hS, hb1, hb5, hb14, (FSers.nil _), OwnRow.nil, (by simp [blkOf]), (by simp [blkOf]), (by simp [blkOf]), (by simp [blkOf]), (by simp [blkOf]), (by simp [blkOf]), okG, (by omega), (by omega), (rfl), (hinv), (Int.le_refl 0), (Int.le_refl 0), (Nat.le_refl 0), getV [undef, undef, undef, undef, undef, undef, undef, undef, undef, undef, undef, undef, undef, undef, undef, undef, undef, undef, undef, undef, undef, undef, undef, undef, undef, undef, undef, undef, undef, undef, undef, undef, undef, undef, undef, undef, undef, undef, undef, undef, undef, undef, undef, undef, undef, undef, undef, undef, undef, undef, undef, undef, undef, undef, undef, undef, undef, undef, undef, undef, undef, undef, undef, undef, undef, undef, undef, undef, undef, undef, undef, undef, undef, undef, undef, undef, undef, undef, undef, undef, undef, undef, undef, undef, undef, undef, undef, undef, undef, undef, undef, undef, undef, undef, undef, undef, undef, undef], rfl⟩ ?_
   rintro d vs h19 n20 ⟨i, R, G', os, a_o, cp_o, rfl, hs, hn, hf, hb_, hf_, hg_, hS, hb1, hb5, hb14, D, R_o, d_o_b, d_o_f, d_o_g, d_o_n, d_o_n3, d_o_n9, okg2, hi0, hi1, hR, hinv2, hbd0, hbd1, hol, y18, rfl⟩
   refine AWp.seq (AWp.rowV (l := _) pok ?_)
   refine sq.c (v := .bool (decide (i < (((rs.length : Nat) : Int))))) rfl rfl rfl rfl ?_
   refine sq.e (AWp.seq ?_)
   by_cases c13_0 : i < (((rs.length : Nat) : Int))
   ·rw [decide_eq_true c13_0]
    refine AWp.condT rfl rfl ?_
    refine AWp.skip (AWp.seq (AWp.block (AWp.seq (AWp.rowV (l := _) pok ?_))))
    have i27 : (0 : Int) ≤ (i : Int) := by omega
    obtain ⟨x28, hx_x28⟩ : ∃ x, (rs)[((i : Int)).toNat]? = some x := ⟨_, List.getElem?_eq_getElem (by omega)⟩
    obtain ⟨y_x28, hy_x28, L_x28, M_x28⟩ := hd.at hx_x28
    obtain ⟨v1_x28, v2_x28⟩ := x28
    obtain ⟨a1_x28, c1_x28, rfl⟩ := (show IsRow encLab _ v1_x28 y_x28.1 from L_x28).slice
    obtain ⟨a2_x28, c2_x28, rfl⟩ := (show IsRow encSmp _ v2_x28 y_x28.2 from M_x28).slice
    obtain ⟨b21, o22, cs_b21, ow_b21, ci_b21, ie26, hb23, hc24, hr25⟩ := IsRow.at (P := Tryd.prog) (t := 29) (e := 43) (k := .i64) (by kernel_rfl) (by kernel_rfl) (isRow_noc hr hs hNC) i27 hx_x28
    refine sq.c (v := .pointer (some ⟨b21, o22, none⟩)) rfl rfl ie26 rfl ?_
    refine sq.c (v := .agg #[.slice a1_x28 (y_x28.1.length) c1_x28, .slice a2_x28 (y_x28.2.length) c2_x28]) rfl rfl (ldR (P := Tryd.prog) (t := 43) (k := 2) (xs := [.slice a1_x28 (y_x28.1.length) c1_x28, .slice a2_x28 (y_x28.2.length) c2_x28]) (by kernel_rfl) (by kernel_rfl) hr25) rfl ?_
    have e_b_n20 : b ≠ n20 := hf.ne hb_
    have e_f_n20 : f ≠ n20 := hf.ne hf_
    have e_g_n20 : g ≠ n20 := hf.ne hg_
    have e_n_n20 : n ≠ n20 := hf.ne hb1
    have e_n3_n20 : n3 ≠ n20 := hf.ne hb5
    have e_n9_n20 : n9 ≠ n20 := hf.ne hb14
    have d_o_n20 : ∀ c ∈ blkOf (.slice a_o (os).length cp_o), c ≠ n20 := fun c hc e => R_o.ne' (hf _ (Nat.le_refl _)) c hc (List.mem_singleton.2 e)
    have z_n20 : h.get n20 = none := hf0 _ hn
    refine sq.op rfl rfl (Does.alloc (cs := [.slice none (0) (0), .slice none (0) (0)]) hf (z := .agg #[.slice none (0) (0), .slice none (0) (0)]) (by kernel_rfl) rfl) ?_
    rintro _ h30 n31 ⟨rfl, hb29⟩ s32 hn2 hf
    refine sq.w ?_
    have hS := hS.keep (.of0 s32)
    have D := D.keep (.of0 s32)
    have R_o := R_o.keep s32
    have hb_ := s32.sub _ _ hb_
    have hf_ := s32.sub _ _ hf_
    have hg_ := s32.sub _ _ hg_
    have hb1 := s32.sub _ _ hb1
    have hb5 := s32.sub _ _ hb5
    have hb14 := s32.sub _ _ hb14
    have hs := hs.trans (s32.mono (by simp))
    have hn := Nat.le_trans hn hn2
    refine sq.op rfl rfl (Does.store (k := 2) (xs := [.slice a1_x28 (y_x28.1.length) c1_x28, .slice a2_x28 (y_x28.2.length) c2_x28]) (cs' := [.slice a1_x28 (y_x28.1.length) c1_x28, .slice a2_x28 (y_x28.2.length) c2_x28]) hf (by kernel_rfl) rfl rfl rfl hb29 rfl rfl (Nat.le_of_ble_eq_true rfl) rfl) ?_
    rintro _ h34 n35 ⟨rfl, hb33⟩ s36 hn2 hf
    refine sq.w0 ?_
    have hS := hS.keep (.own s36 hb29 rfl)
    have D := D.keep (.own s36 hb29 rfl)
    have R_o := R_o.but s36 (fun c hc hm => d_o_n20 c hc (List.mem_singleton.1 hm))
    have hb_ := s36.get1 (e_b_n20) hb_
    have hf_ := s36.get1 (e_f_n20) hf_
    have hg_ := s36.get1 (e_g_n20) hg_
    have hb1 := s36.get1 (e_n_n20) hb1
    have hb5 := s36.get1 (e_n3_n20) hb5
    have hb14 := s36.get1 (e_n9_n20) hb14
    have hs := hs.fresh z_n20 s36
    have hn := Nat.le_trans hn hn2
    refine sq.e (AWp.seq (AWp.rowV (l := _) pok ?_))
    refine sq.c (v := .pointer (some ⟨b, 0, none⟩)) rfl rfl rfl rfl ?_
    refine sq.c (v := .pointer (some ⟨n, 0, none⟩)) rfl rfl (by kernel_rfl) rfl ?_
    refine sq.c (v := .string (ten)) rfl rfl (ld1 (P := Tryd.prog) (t := 9) (p := 0) (v := .string (ten)) (by kernel_rfl) (by kernel_rfl) hb1 rfl) rfl ?_
    refine sq.c (v := .agg #[.slice a1_x28 (y_x28.1.length) c1_x28, .slice a2_x28 (y_x28.2.length) c2_x28]) rfl rfl (ldA (P := Tryd.prog) (t := 43) (p := 0) (k := 2) (xs := [.slice a1_x28 (y_x28.1.length) c1_x28, .slice a2_x28 (y_x28.2.length) c2_x28]) (by kernel_rfl) (by kernel_rfl) hb33 rfl (Nat.le_of_ble_eq_true rfl)) rfl ?_
    have hsx := hsm.2 _ (List.mem_of_getElem? hy_x28)
    refine sq.k rfl (CallsF.fn rfl (by kernel_rfl) rfl rfl) (putSt _ _ _ hb_ hf_ hg_ okF okg2 hS ne_f_g ten _ _ (isRow_noc L_x28 hs hNC) (isRow_noc M_x28 hs hNC) hsx hinv2 (by omega)) ?_
    rintro _ h37 n38 ⟨v_k, Gk, rfl, F_k, hgk, okk, sm_k⟩ s39 hn2 hf
    obtain ⟨a_k, c_k, rfl⟩ := F_k.slice
    refine sq.w ?_
    have D := D.keep (.own s39 hg_ rfl)
    have R_o := R_o.but s39 (fun c hc hm => d_o_g c hc (List.mem_singleton.1 hm))
    have hb_ := s39.get1 (ne_b_g) hb_
    have hf_ := s39.get1 (ne_f_g) hf_
    have hb1 := s39.get1 (Ne.symm e_g_n) hb1
    have hb5 := s39.get1 (Ne.symm e_g_n3) hb5
    have hb14 := s39.get1 (Ne.symm e_g_n9) hb14
    have hb33 := s39.get1 (Ne.symm e_g_n20) hb33
    have hs := hs.at (by simp) s39
    have hn := Nat.le_trans hn hn2
    have hpb : 0 ≤ pBad R.S ten (y_x28.1, y_x28.2) ∧ pBad R.S ten (y_x28.1, y_x28.2) ≤ (y_x28.2.length : Nat) := pBad_le R.S ten (y_x28.1, y_x28.2)
    have hsx2 : y_x28.2.length < 6000 := hsx.2.1
    have hS := sm_k
    refine sq.c (v := .tuple #[.slice a_k (pKept R.S ten (y_x28.1, y_x28.2)).length c_k, .int .i64 (pBad R.S ten (y_x28.1, y_x28.2))]) rfl rfl rfl rfl ?_
    refine sq.c (v := .slice a_k (pKept R.S ten (y_x28.1, y_x28.2)).length c_k) rfl rfl rfl rfl ?_
    refine sq.c (v := .int .i64 (pBad R.S ten (y_x28.1, y_x28.2))) rfl rfl rfl rfl ?_
    refine sq.c (v := .slice a_k (pKept R.S ten (y_x28.1, y_x28.2)).length c_k) rfl rfl rfl rfl ?_
    refine sq.c (v := .int .i64 (pBad R.S ten (y_x28.1, y_x28.2))) rfl rfl rfl rfl ?_
    refine sq.e (AWp.seq (AWp.rowV (l := _) pok ?_))
    refine sq.c (v := .pointer (some ⟨n9, 4, none⟩)) rfl rfl (by kernel_rfl) rfl ?_
    refine sq.c (v := .int .i64 (R.bad)) rfl rfl (ld1 (P := Tryd.prog) (t := 3) (p := 4) (v := .int .i64 (R.bad)) (by kernel_rfl) (by kernel_rfl) hb14 rfl) rfl ?_
    refine sq.c (v := .int .i64 (pBad R.S ten (y_x28.1, y_x28.2))) rfl rfl rfl rfl ?_
    refine sq.c (v := .int .i64 (R.bad + (pBad R.S ten (y_x28.1, y_x28.2)))) rfl rfl (okI (wrap_i64 (by have := hpb.1; omega) (by have := hpb.2; omega))) rfl ?_
    refine sq.c (v := .pointer (some ⟨n9, 4, none⟩)) rfl rfl (by kernel_rfl) rfl ?_
    refine sq.op rfl rfl (Does.store (k := 1) (xs := [.int .i64 (R.bad + (pBad R.S ten (y_x28.1, y_x28.2)))]) (cs' := [.string (ten), .string (clu), .int .i64 (epo), .slice a_o (os.length) cp_o, .int .i64 (R.bad + (pBad R.S ten (y_x28.1, y_x28.2))), .bool false]) hf (by kernel_rfl) rfl rfl rfl hb14 rfl rfl (Nat.le_of_ble_eq_true rfl) rfl) ?_
    rintro _ h41 n42 ⟨rfl, hb40⟩ s43 hn2 hf
    refine sq.w0 ?_
    have D := D.keep (.own s43 hb14 rfl)
    have R_o := R_o.but s43 (fun c hc hm => d_o_n9 c hc (List.mem_singleton.1 hm))
    have hS := hS.keep (.own s43 hb14 rfl)
    have F_k := F_k.keep (.own s43 hb14 rfl)
    have hb_ := s43.get1 (e_b_n9) hb_
    have hf_ := s43.get1 (e_f_n9) hf_
    have hgk := s43.get1 (e_g_n9) hgk
    have hb1 := s43.get1 (e_n_n9) hb1
    have hb5 := s43.get1 (e_n3_n9) hb5
    have hb33 := s43.get1 (Ne.symm e_n9_n20) hb33
    have hs := hs.fresh z_n9 s43
    have hn := Nat.le_trans hn hn2
    refine sq.e (AWp.seq (AWp.rowV (l := _) pok ?_))
    refine sq.c (v := .slice a_k (pKept R.S ten (y_x28.1, y_x28.2)).length c_k) rfl rfl rfl rfl ?_
    refine sq.c (v := .int .i64 ((((pKept R.S ten (y_x28.1, y_x28.2)).length : Nat) : Int))) rfl rfl (by kernel_rfl) rfl ?_
    refine sq.c (v := .bool (decide ((0 : Int) < ((((pKept R.S ten (y_x28.1, y_x28.2)).length : Nat) : Int))))) rfl rfl rfl rfl ?_
    refine sq.e ?_
    by_cases c17_2 : (0 : Int) < ((((pKept R.S ten (y_x28.1, y_x28.2)).length : Nat) : Int))
    ·rw [decide_eq_true c17_2]
     refine AWp.condT rfl rfl ?_
     refine AWp.anyJ pok [0, 1, 2, 3, 4, 6, 5, 7, 8, 9, 10, 11, 12] (by kernel_rfl) (by kernel_rfl) rfl (fun x fr fr' h n hd _ q => ⟨hd ▸ q.1, q.2⟩) ?_
     refine dj.c (v := .pointer (some ⟨n9, 0, none⟩)) rfl (by kernel_rfl) rfl rfl (by kernel_rfl) rfl ?_
     refine dj.c (v := .pointer (some ⟨n9, 3, none⟩)) rfl (by kernel_rfl) rfl rfl (by kernel_rfl) rfl ?_
     refine dj.gB (v := .slice a_o (os.length) cp_o) n9 rfl (by kernel_rfl) rfl rfl (fun _ q_ => (ld1 (P := Tryd.prog) (t := 29) (p := 3) (v := .slice a_o (os.length) cp_o) (by kernel_rfl) (by kernel_rfl) (q_ _ hb40) rfl)) rfl ?_
     refine dj.c (v := .pointer (some ⟨n20, 0, none⟩)) rfl (by kernel_rfl) rfl rfl (by kernel_rfl) rfl ?_
     refine dj.gB (v := .slice a1_x28 (y_x28.1.length) c1_x28) n20 rfl (by kernel_rfl) rfl rfl (fun _ q_ => (ld1 (P := Tryd.prog) (t := 40) (p := 0) (v := .slice a1_x28 (y_x28.1.length) c1_x28) (by kernel_rfl) (by kernel_rfl) (q_ _ hb33) rfl)) rfl ?_
     refine dj.c (v := .slice a_k (pKept R.S ten (y_x28.1, y_x28.2)).length c_k) rfl (by kernel_rfl) rfl rfl rfl rfl ?_
     refine dj.k rfl (by kernel_rfl) rfl (CallsF.fn rfl (by kernel_rfl) rfl rfl) (cloneLFz _ (isRow_noc L_x28 hs hNC) (by have := hsx.1; omega)) (keepJD (by kernel_rfl) (keepJC (by simp) keepJN)) ?_
     rintro v_q43 h44 n45 R_q43 s46 hn2 hf
     obtain ⟨a_q43, c_q43, rfl⟩ := R_q43.slice
     refine dj.w ?_
     have D := D.keep (.of0 s46)
     have R_o := R_o.keep s46
     have hS := hS.keep (.of0 s46)
     have F_k := F_k.keep (.of0 s46)
     have hb_ := s46.sub _ _ hb_
     have hf_ := s46.sub _ _ hf_
     have hgk := s46.sub _ _ hgk
     have hb1 := s46.sub _ _ hb1
     have hb5 := s46.sub _ _ hb5
     have hb40 := s46.sub _ _ hb40
     have hb33 := s46.sub _ _ hb33
     have hs := hs.trans (s46.mono (by simp))
     have hn := Nat.le_trans hn hn2
     refine dj.c (v := .agg #[.slice a_q43 (y_x28.1).length c_q43, .slice a_k (pKept R.S ten (y_x28.1, y_x28.2)).length c_k]) rfl (by kernel_rfl) rfl rfl (by kernel_rfl) rfl ?_
     have d_o_n45 : ∀ c ∈ blkOf (.slice a_o (os).length cp_o), c ≠ n45 := fun c hc e => R_o.ne' (hf _ (Nat.le_refl _)) c hc (List.mem_singleton.2 e)
     refine dj.op rfl (by kernel_rfl) rfl rfl (Does.build (e := 43) (cs := [.slice a_q43 (y_x28.1).length c_q43, .slice a_k (pKept R.S ten (y_x28.1, y_x28.2)).length c_k]) hf (fun _ _ => by kernel_rfl)) (keepJC (by simp) (keepJC (by simp) keepJN)) ?_
     rintro _ h48 n49 ⟨rfl, hb47⟩ s50 hn2 hf
     refine dj.w ?_
     have D := D.keep (.of0 s50)
     have R_o := R_o.keep s50
     have hS := hS.keep (.of0 s50)
     have F_k := F_k.keep (.of0 s50)
     have R_q43 := R_q43.keep (.of0 s50)
     have hb_ := s50.sub _ _ hb_
     have hf_ := s50.sub _ _ hf_
     have hgk := s50.sub _ _ hgk
     have hb1 := s50.sub _ _ hb1
     have hb5 := s50.sub _ _ hb5
     have hb40 := s50.sub _ _ hb40
     have hb33 := s50.sub _ _ hb33
     have hs := hs.trans (s50.mono (by simp))
     have hn := Nat.le_trans hn hn2
     have hz0 : h.get n49 = none := hf0 _ hn
     have hfo := hf
     have hFo := R_o.ours
     refine dj.op rfl (by kernel_rfl) rfl rfl (Does.append (E := encSerO) (xs := os) (ys := [((a_q43, (y_x28.1).length, c_q43), (a_k, (pKept R.S ten (y_x28.1, y_x28.2)).length, c_k))]) appSerO ⟨.slice 43, by kernel_rfl, fun _ q => by cases q⟩ hf hs R_o (IsRow.of (E := encSerO) (xs := [((a_q43, (y_x28.1).length, c_q43), (a_k, (pKept R.S ten (y_x28.1, y_x28.2)).length, c_k))]) (cap := 1) hb47 (Nat.le_refl _)) rfl rfl (by have := hsx.1; simp only [List.length_cons, List.length_nil]; omega) (by have := hsx.1; simp only [List.length_cons, List.length_nil]; omega) hz0) (keepJC (fun hm => d_o_n20 _ hm rfl) (keepJD (by kernel_rfl) keepJN)) ?_
     rintro v54 h51 n52 ⟨R_o, hs, hB55⟩ s53 hn2 hf
     refine dj.w ?_
     have dn_o_b : ∀ c ∈ blkOf v54, c ≠ b := fun c hc => (hB55 c hc).elim (fun q => d_o_b c q) (fun q => by rw [q]; exact (hfo.ne hb_).symm)
     have dn_o_f : ∀ c ∈ blkOf v54, c ≠ f := fun c hc => (hB55 c hc).elim (fun q => d_o_f c q) (fun q => by rw [q]; exact (hfo.ne hf_).symm)
     have dn_o_g : ∀ c ∈ blkOf v54, c ≠ g := fun c hc => (hB55 c hc).elim (fun q => d_o_g c q) (fun q => by rw [q]; exact (hfo.ne hgk).symm)
     have dn_o_n : ∀ c ∈ blkOf v54, c ≠ n := fun c hc => (hB55 c hc).elim (fun q => d_o_n c q) (fun q => by rw [q]; exact (hfo.ne hb1).symm)
     have dn_o_n3 : ∀ c ∈ blkOf v54, c ≠ n3 := fun c hc => (hB55 c hc).elim (fun q => d_o_n3 c q) (fun q => by rw [q]; exact (hfo.ne hb5).symm)
     have dn_o_n9 : ∀ c ∈ blkOf v54, c ≠ n9 := fun c hc => (hB55 c hc).elim (fun q => d_o_n9 c q) (fun q => by rw [q]; exact (hfo.ne hb40).symm)
     have dn_o_n20 : ∀ c ∈ blkOf v54, c ≠ n20 := fun c hc => (hB55 c hc).elim (fun q => d_o_n20 c q) (fun q => by rw [q]; exact (hfo.ne hb33).symm)
     have dn_o_n45 : ∀ c ∈ blkOf v54, c ≠ n45 := fun c hc => (hB55 c hc).elim (fun q => d_o_n45 c q) (fun q => by rw [q]; exact (hfo.ne hb47).symm)
     have ours_s53 := hFo
     have hb_ := s53 _ _ (fun hm => d_o_b _ hm rfl) hb_
     have hf_ := s53 _ _ (fun hm => d_o_f _ hm rfl) hf_
     have hgk := s53 _ _ (fun hm => d_o_g _ hm rfl) hgk
     have hb1 := s53 _ _ (fun hm => d_o_n _ hm rfl) hb1
     have hb5 := s53 _ _ (fun hm => d_o_n3 _ hm rfl) hb5
     have hb40 := s53 _ _ (fun hm => d_o_n9 _ hm rfl) hb40
     have D := D.keep (.of s53 ours_s53)
     have hb33 := s53 _ _ (fun hm => d_o_n20 _ hm rfl) hb33
     have hS := hS.keep (.of s53 ours_s53)
     have F_k := F_k.keep (.of s53 ours_s53)
     have R_q43 := R_q43.keep (.of s53 ours_s53)
     have hb47 := s53 _ _ (fun hm => d_o_n45 _ hm rfl) hb47
     have d_o_b := dn_o_b
     have d_o_f := dn_o_f
     have d_o_g := dn_o_g
     have d_o_n := dn_o_n
     have d_o_n3 := dn_o_n3
     have d_o_n9 := dn_o_n9
     have d_o_n20 := dn_o_n20
     have d_o_n45 := dn_o_n45
     obtain ⟨a56, cp57, rfl⟩ := R_o.slice
     have hn := Nat.le_trans hn hn2
     refine dj.c (v := .pointer (some ⟨n9, 0, none⟩)) rfl (by kernel_rfl) rfl rfl (by kernel_rfl) rfl ?_
     refine dj.c (v := .pointer (some ⟨n9, 3, none⟩)) rfl (by kernel_rfl) rfl rfl (by kernel_rfl) rfl ?_
     refine dj.op rfl (by kernel_rfl) rfl rfl (Does.store (k := 1) (xs := [.slice a56 (os ++ [((a_q43, (y_x28.1).length, c_q43), (a_k, (pKept R.S ten (y_x28.1, y_x28.2)).length, c_k))]).length cp57]) (cs' := [.string (ten), .string (clu), .int .i64 (epo), .slice a56 (os ++ [((a_q43, (y_x28.1).length, c_q43), (a_k, (pKept R.S ten (y_x28.1, y_x28.2)).length, c_k))]).length cp57, .int .i64 (R.bad + (pBad R.S ten (y_x28.1, y_x28.2))), .bool false]) hf (by kernel_rfl) rfl rfl rfl hb40 rfl rfl (Nat.le_of_ble_eq_true rfl) rfl) (keepJD (by kernel_rfl) (keepJD (by kernel_rfl) keepJN)) ?_
     rintro _ h59 n60 ⟨rfl, hb58⟩ s61 hn2 hf
     refine dj.w0 ?_
     have D := D.keep (.own s61 hb40 rfl)
     have hS := hS.keep (.own s61 hb40 rfl)
     have F_k := F_k.keep (.own s61 hb40 rfl)
     have R_q43 := R_q43.keep (.own s61 hb40 rfl)
     have R_o := R_o.but s61 (fun c hc hm => d_o_n9 c hc (List.mem_singleton.1 hm))
     have hb_ := s61.get1 (e_b_n9) hb_
     have hf_ := s61.get1 (e_f_n9) hf_
     have hgk := s61.get1 (e_g_n9) hgk
     have hb1 := s61.get1 (e_n_n9) hb1
     have hb5 := s61.get1 (e_n3_n9) hb5
     have hs := hs.fresh z_n9 s61
     have hn := Nat.le_trans hn hn2
     refine dj.e ?_
     refine AWp.rowV (l := _) pok ?_
     refine sq.c (v := .int .i64 (i + 1)) rfl rfl (okI (wrap_i64 (by omega) (by omega))) rfl ?_
     refine sq.c (v := .int .i64 (i + 1)) rfl rfl rfl rfl ?_
     refine sq.e ?_
     have hne : ¬ pKept R.S ten y_x28 = [] := fun e => by rw [show pKept R.S ten (y_x28.1, y_x28.2) = [] from e] at c17_2; simp at c17_2
     refine ⟨_, _, rfl, by omega, i + 1, stepT ten R y_x28, Gk, os ++ [((a_q43, (y_x28.1).length, c_q43), (a_k, (pKept R.S ten (y_x28.1, y_x28.2)).length, c_k))], a56, cp57, rfl, hs, hn, hf, hb_, hf_, hgk, hS, hb1, hb5, hb58, (by rw [show (stepT ten R y_x28).ks = _ from if_neg hne]; exact FSers.snocO D ⟨R_q43, F_k⟩), R_o, d_o_b, d_o_f, d_o_g, d_o_n, d_o_n3, d_o_n9, okk, (by omega), (by omega), (by rw [take_snoc hi0 hy_x28, foldT_snoc, ← hR]), (by rw [show N + 6000 * (i + 1).toNat = N + 6000 * i.toNat + 6000 by omega]; exact hinv2.put hmb.1 (hmb.2 _ (List.mem_of_getElem? hy_x28)).1 hsx), (Int.add_nonneg hbd0 hpb.1), (show R.bad + pBad R.S ten (y_x28.1, y_x28.2) ≤ _ by omega), (by simp only [List.length_append, List.length_cons, List.length_nil]; omega), getV [undef, undef, undef, undef, undef, undef, undef, undef, undef, .pointer (some ⟨n20, 0, none⟩), .slice a_k (pKept R.S ten (y_x28.1, y_x28.2)).length c_k, .int .i64 (pBad R.S ten (y_x28.1, y_x28.2)), undef, undef, undef, undef, undef, undef, undef, undef, undef, undef, undef, undef, undef, undef, undef, undef, undef, undef, undef, undef, undef, undef, undef, undef, undef, undef, undef, undef, undef, undef, undef, undef, undef, undef, undef, undef, undef, undef, undef, undef, undef, undef, undef, undef, undef, undef, undef, undef, undef, undef, undef, undef, undef, undef, .bool true, .pointer (some ⟨b21, o22, none⟩), .agg #[.slice a1_x28 (y_x28.1.length) c1_x28, .slice a2_x28 (y_x28.2.length) c2_x28], .tuple #[.slice a_k (pKept R.S ten (y_x28.1, y_x28.2)).length c_k, .int .i64 (pBad R.S ten (y_x28.1, y_x28.2))], .pointer (some ⟨b, 0, none⟩), .pointer (some ⟨n, 0, none⟩), .string (ten), .agg #[.slice a1_x28 (y_x28.1.length) c1_x28, .slice a2_x28 (y_x28.2.length) c2_x28], .tuple #[.slice a_k (pKept R.S ten (y_x28.1, y_x28.2)).length c_k, .int .i64 (pBad R.S ten (y_x28.1, y_x28.2))], .slice a_k (pKept R.S ten (y_x28.1, y_x28.2)).length c_k, .int .i64 (pBad R.S ten (y_x28.1, y_x28.2)), .pointer (some ⟨n9, 4, none⟩), .int .i64 (R.bad), .int .i64 (pBad R.S ten (y_x28.1, y_x28.2)), .int .i64 (R.bad + (pBad R.S ten (y_x28.1, y_x28.2))), .pointer (some ⟨n9, 4, none⟩), .slice a_k (pKept R.S ten (y_x28.1, y_x28.2)).length c_k, .int .i64 ((((pKept R.S ten (y_x28.1, y_x28.2)).length : Nat) : Int)), .bool true, .pointer (some ⟨n9, 0, none⟩), .pointer (some ⟨n9, 3, none⟩), .slice a_o (os.length) cp_o, .pointer (some ⟨n20, 0, none⟩), .slice a1_x28 (y_x28.1.length) c1_x28, .slice a_q43 (y_x28.1).length c_q43, .slice a_k (pKept R.S ten (y_x28.1, y_x28.2)).length c_k, .agg #[.slice a_q43 (y_x28.1).length c_q43, .slice a_k (pKept R.S ten (y_x28.1, y_x28.2)).length c_k], .slice (some ⟨n45, 0, none⟩) (1) (1), .slice a56 (os ++ [((a_q43, (y_x28.1).length, c_q43), (a_k, (pKept R.S ten (y_x28.1, y_x28.2)).length, c_k))]).length cp57, .pointer (some ⟨n9, 0, none⟩), .pointer (some ⟨n9, 3, none⟩), .int .i64 (i + 1)], rfl⟩
    ·rw [decide_eq_false c17_2]
     refine AWp.condF rfl rfl ?_
     refine AWp.skip (AWp.rowV (l := _) pok ?_)
     refine sq.c (v := .int .i64 (i + 1)) rfl rfl (okI (wrap_i64 (by omega) (by omega))) rfl ?_
     refine sq.c (v := .int .i64 (i + 1)) rfl rfl rfl rfl ?_
     refine sq.e ?_
     have he : pKept R.S ten y_x28 = [] := List.eq_nil_of_length_eq_zero (show (pKept R.S ten (y_x28.1, y_x28.2)).length = 0 by omega)
     refine ⟨_, _, rfl, by omega, i + 1, stepT ten R y_x28, Gk, os, a_o, cp_o, rfl, hs, hn, hf, hb_, hf_, hgk, hS, hb1, hb5, hb40, (by rw [show (stepT ten R y_x28).ks = _ from if_pos he]; exact D), R_o, d_o_b, d_o_f, d_o_g, d_o_n, d_o_n3, d_o_n9, okk, (by omega), (by omega), (by rw [take_snoc hi0 hy_x28, foldT_snoc, ← hR]), (by rw [show N + 6000 * (i + 1).toNat = N + 6000 * i.toNat + 6000 by omega]; exact hinv2.put hmb.1 (hmb.2 _ (List.mem_of_getElem? hy_x28)).1 hsx), (Int.add_nonneg hbd0 hpb.1), (show R.bad + pBad R.S ten (y_x28.1, y_x28.2) ≤ _ by omega), (by omega), getV [undef, undef, undef, undef, undef, undef, undef, undef, undef, .pointer (some ⟨n20, 0, none⟩), .slice a_k (pKept R.S ten (y_x28.1, y_x28.2)).length c_k, .int .i64 (pBad R.S ten (y_x28.1, y_x28.2)), undef, undef, undef, undef, undef, undef, undef, undef, undef, undef, undef, undef, undef, undef, undef, undef, undef, undef, undef, undef, undef, undef, undef, undef, undef, undef, undef, undef, undef, undef, undef, undef, undef, undef, undef, undef, undef, undef, undef, undef, undef, undef, undef, undef, undef, undef, undef, undef, undef, undef, undef, undef, undef, undef, .bool true, .pointer (some ⟨b21, o22, none⟩), .agg #[.slice a1_x28 (y_x28.1.length) c1_x28, .slice a2_x28 (y_x28.2.length) c2_x28], .tuple #[.slice a_k (pKept R.S ten (y_x28.1, y_x28.2)).length c_k, .int .i64 (pBad R.S ten (y_x28.1, y_x28.2))], .pointer (some ⟨b, 0, none⟩), .pointer (some ⟨n, 0, none⟩), .string (ten), .agg #[.slice a1_x28 (y_x28.1.length) c1_x28, .slice a2_x28 (y_x28.2.length) c2_x28], .tuple #[.slice a_k (pKept R.S ten (y_x28.1, y_x28.2)).length c_k, .int .i64 (pBad R.S ten (y_x28.1, y_x28.2))], .slice a_k (pKept R.S ten (y_x28.1, y_x28.2)).length c_k, .int .i64 (pBad R.S ten (y_x28.1, y_x28.2)), .pointer (some ⟨n9, 4, none⟩), .int .i64 (R.bad), .int .i64 (pBad R.S ten (y_x28.1, y_x28.2)), .int .i64 (R.bad + (pBad R.S ten (y_x28.1, y_x28.2))), .pointer (some ⟨n9, 4, none⟩), .slice a_k (pKept R.S ten (y_x28.1, y_x28.2)).length c_k, .int .i64 ((((pKept R.S ten (y_x28.1, y_x28.2)).length : Nat) : Int)), .bool false, (y18 85), (y18 86), (y18 87), (y18 88), (y18 89), (y18 90), (y18 91), (y18 92), (y18 93), (y18 94), (y18 95), (y18 96), .int .i64 (i + 1)], rfl⟩
   ·rw [decide_eq_false c13_0]
    refine AWp.condF rfl rfl ?_
    refine AWp.exit ?_
    refine AWp.seq (AWp.rowV (l := _) pok ?_)
    refine sq.c (v := .agg #[.string (ten), .string (clu), .int .i64 (epo), .slice a_o (os.length) cp_o, .int .i64 (R.bad), .bool false]) rfl rfl (ldA (P := Tryd.prog) (t := 33) (p := 0) (k := 6) (xs := [.string (ten), .string (clu), .int .i64 (epo), .slice a_o (os.length) cp_o, .int .i64 (R.bad), .bool false]) (by kernel_rfl) (by kernel_rfl) hb14 rfl (Nat.le_of_ble_eq_true rfl)) rfl ?_
    refine sq.op rfl rfl (Does.store (k := 6) (xs := [.string (ten), .string (clu), .int .i64 (epo), .slice a_o (os.length) cp_o, .int .i64 (R.bad), .bool false]) (cs' := [.string (ten), .string (clu), .int .i64 (epo), .slice a_o (os.length) cp_o, .int .i64 (R.bad), .bool false]) hf (by kernel_rfl) rfl rfl rfl hb5 rfl rfl (Nat.le_of_ble_eq_true rfl) rfl) ?_
    rintro _ h63 n64 ⟨rfl, hb62⟩ s65 hn2 hf
    refine sq.w0 ?_
    have hS := hS.keep (.own s65 hb5 rfl)
    have D := D.keep (.own s65 hb5 rfl)
    have R_o := R_o.but s65 (fun c hc hm => d_o_n3 c hc (List.mem_singleton.1 hm))
    have hf_ := s65.get1 (e_f_n3) hf_
    have hg_ := s65.get1 (e_g_n3) hg_
    have hs := hs.fresh z_n3 s65
    have hn := Nat.le_trans hn hn2
    refine sq.c (v := .int .i64 (0)) rfl rfl rfl rfl ?_
    refine sq.e ?_
    refine AWp.ret ?_
    refine ⟨rfl, [.agg #[.string (ten), .string (clu), .int .i64 (epo), .slice a_o (os.length) cp_o, .int .i64 (R.bad), .bool false], .int .i64 (0)], (res_cellC (ldA (P := Tryd.prog) (t := 33) (p := 0) (k := 6) (xs := [.string (ten), .string (clu), .int .i64 (epo), .slice a_o (os.length) cp_o, .int .i64 (R.bad), .bool false]) (by kernel_rfl) (by kernel_rfl) hb62 rfl (Nat.le_of_ble_eq_true rfl)) rfl), .tuple #[.agg #[.string (ten), .string (clu), .int .i64 (epo), .slice a_o (os.length) cp_o, .int .i64 (R.bad), .bool false], .int .i64 (0)], rfl, hs, hn, ?_⟩
    rw [show i.toNat = ss.length by omega, List.take_length] at hR
    rw [show takeR F kf S kg ⟨ten, clu, epo, ss⟩ = takeOk F kf ⟨ten, clu, epo, ss⟩ R false by unfold takeR; rw [if_neg (by rw [c3_1]; simp)]; dsimp only; rw [if_pos c6_2, ← hR]]
    exact ⟨_, _, _, rfl, R_o, D, hf_, hg_, okF, okg2, hS⟩
  ·rw [decide_eq_false c6_2]
   refine AWp.condT rfl rfl ?_
   refine AWp.seq (AWp.rowV (l := _) pok ?_)
   refine sq.c (v := .pointer (some ⟨n, 0, none⟩)) rfl rfl (by kernel_rfl) rfl ?_
   refine sq.c (v := .string (ten)) rfl rfl (ld1 (P := Tryd.prog) (t := 9) (p := 0) (v := .string (ten)) (by kernel_rfl) (by kernel_rfl) hb1 rfl) rfl ?_
   refine sq.c (v := .pointer (some ⟨n, 1, none⟩)) rfl rfl (by kernel_rfl) rfl ?_
   refine sq.c (v := .string (clu)) rfl rfl (ld1 (P := Tryd.prog) (t := 9) (p := 1) (v := .string (clu)) (by kernel_rfl) (by kernel_rfl) hb1 rfl) rfl ?_
   refine sq.c (v := .agg #[.string (ten), .string (clu)]) rfl rfl (by kernel_rfl) rfl ?_
   have e_b_n16 : b ≠ n16 := hf.ne hb_
   have e_f_n16 : f ≠ n16 := hf.ne hf_
   have e_g_n16 : g ≠ n16 := hf.ne hg_
   have e_n_n16 : n ≠ n16 := hf.ne hb1
   have e_n3_n16 : n3 ≠ n16 := hf.ne hb5
   have e_n9_n16 : n9 ≠ n16 := hf.ne hb14
   have z_n16 : h.get n16 = none := hf0 _ hn
   refine sq.op rfl rfl (Does.alloc (cs := [.string (⟨#[]⟩), .string (⟨#[]⟩)]) hf (z := .agg #[.string (⟨#[]⟩), .string (⟨#[]⟩)]) (by kernel_rfl) rfl) ?_
   rintro _ h67 n68 ⟨rfl, hb66⟩ s69 hn2 hf
   refine sq.w ?_
   have hS := hS.keep (.of0 s69)
   have hb_ := s69.sub _ _ hb_
   have hf_ := s69.sub _ _ hf_
   have hg_ := s69.sub _ _ hg_
   have hb1 := s69.sub _ _ hb1
   have hb5 := s69.sub _ _ hb5
   have hb14 := s69.sub _ _ hb14
   have hs := hs.trans (s69.mono (by simp))
   have hn := Nat.le_trans hn hn2
   refine sq.op rfl rfl (Does.store (k := 2) (xs := [.string (ten), .string (clu)]) (cs' := [.string (ten), .string (clu)]) hf (by kernel_rfl) rfl rfl rfl hb66 rfl rfl (Nat.le_of_ble_eq_true rfl) rfl) ?_
   rintro _ h71 n72 ⟨rfl, hb70⟩ s73 hn2 hf
   refine sq.w0 ?_
   have hS := hS.keep (.own s73 hb66 rfl)
   have hb_ := s73.get1 (e_b_n16) hb_
   have hf_ := s73.get1 (e_f_n16) hf_
   have hg_ := s73.get1 (e_g_n16) hg_
   have hb1 := s73.get1 (e_n_n16) hb1
   have hb5 := s73.get1 (e_n3_n16) hb5
   have hb14 := s73.get1 (e_n9_n16) hb14
   have hs := hs.fresh z_n16 s73
   have hn := Nat.le_trans hn hn2
   refine sq.e (AWp.seq (AWp.seq ?_))
   refine AWp.anyK pok [0, 1, 2, 3, 4, 5, 6, 7, 8] (by kernel_rfl) (by kernel_rfl) rfl (fun x fr fr' h n hd _ q => ⟨hd ▸ q.1, q.2⟩) ?_
   refine dk.c (v := .pointer (some ⟨n, 2, none⟩)) rfl (by kernel_rfl) rfl rfl (by kernel_rfl) rfl ?_
   refine dk.gB (v := .int .i64 (epo)) n rfl (by kernel_rfl) rfl rfl (fun _ q_ => (ld1 (P := Tryd.prog) (t := 2) (p := 2) (v := .int .i64 (epo)) (by kernel_rfl) (by kernel_rfl) (q_ _ hb1) rfl)) rfl ?_
   refine dk.c (v := .pointer (some ⟨b, 0, none⟩)) rfl (by kernel_rfl) rfl rfl rfl rfl ?_
   refine dk.c (v := .pointer (some ⟨b, 0, none⟩)) rfl (by kernel_rfl) rfl rfl rfl rfl ?_
   refine dk.c (v := .pointer (some ⟨b, 0, none⟩)) rfl (by kernel_rfl) rfl rfl (by kernel_rfl) rfl ?_
   refine dk.gB (v := .map (some f)) b rfl (by kernel_rfl) rfl rfl (fun _ q_ => (ld1 (P := Tryd.prog) (t := 66) (p := 0) (v := .map (some f)) (by kernel_rfl) (by kernel_rfl) (q_ _ hb_) rfl)) rfl ?_
   refine dk.gB (v := .agg #[.string (ten), .string (clu)]) n16 rfl (by kernel_rfl) rfl rfl (fun _ q_ => (ldA (P := Tryd.prog) (t := 73) (p := 0) (k := 2) (xs := [.string (ten), .string (clu)]) (by kernel_rfl) (by kernel_rfl) (q_ _ hb70) rfl (Nat.le_of_ble_eq_true rfl))) rfl ?_
   refine dk.gB (v := .int .i64 (((mget F (ten, clu)).getD 0))) f rfl (by kernel_rfl) rfl rfl (fun _ q_ => (lk (P := Tryd.prog) (K := plV) (V := intV) (kt := 73) (el := 2) (t := 66) (k := (ten, clu)) (d := (0 : Int)) Tryd.underlying66 keyPl (by kernel_rfl) rfl (q_ _ hf_))) rfl ?_
   refine dk.c (v := .bool (decide (epo < (((mget F (ten, clu)).getD 0))))) rfl (by kernel_rfl) rfl rfl rfl rfl ?_
   refine dk.e ?_
   by_cases c8_8 : epo < (((mget F (ten, clu)).getD 0))
   ·rw [decide_eq_true c8_8]
    refine AWp.condT rfl rfl ?_
    refine AWp.seq (AWp.rowV (l := _) pok ?_)
    refine sq.c (v := .agg #[.string (⟨#[]⟩), .string (⟨#[]⟩), .int .i64 (0), .slice none (0) (0), .int .i64 (0), .bool false]) rfl rfl (by kernel_rfl) rfl ?_
    refine sq.op rfl rfl (Does.store (k := 6) (xs := [.string (⟨#[]⟩), .string (⟨#[]⟩), .int .i64 (0), .slice none (0) (0), .int .i64 (0), .bool false]) (cs' := [.string (⟨#[]⟩), .string (⟨#[]⟩), .int .i64 (0), .slice none (0) (0), .int .i64 (0), .bool false]) hf (by kernel_rfl) rfl rfl rfl hb5 rfl rfl (Nat.le_of_ble_eq_true rfl) rfl) ?_
    rintro _ h75 n76 ⟨rfl, hb74⟩ s77 hn2 hf
    refine sq.w0 ?_
    have hS := hS.keep (.own s77 hb5 rfl)
    have hf_ := s77.get1 (e_f_n3) hf_
    have hg_ := s77.get1 (e_g_n3) hg_
    have hs := hs.fresh z_n3 s77
    have hn := Nat.le_trans hn hn2
    refine sq.c (v := .int .i64 (61)) rfl rfl rfl rfl ?_
    refine sq.e ?_
    refine AWp.ret ?_
    refine ⟨rfl, [.agg #[.string (⟨#[]⟩), .string (⟨#[]⟩), .int .i64 (0), .slice none (0) (0), .int .i64 (0), .bool false], .int .i64 (61)], (res_cellC (ldA (P := Tryd.prog) (t := 33) (p := 0) (k := 6) (xs := [.string (⟨#[]⟩), .string (⟨#[]⟩), .int .i64 (0), .slice none (0) (0), .int .i64 (0), .bool false]) (by kernel_rfl) (by kernel_rfl) hb74 rfl (Nat.le_of_ble_eq_true rfl)) rfl), .tuple #[.agg #[.string (⟨#[]⟩), .string (⟨#[]⟩), .int .i64 (0), .slice none (0) (0), .int .i64 (0), .bool false], .int .i64 (61)], rfl, hs, hn, ?_⟩
    rw [show takeR F kf S kg ⟨ten, clu, epo, ss⟩ = takeNo 61 F kf S kg by unfold takeR; rw [if_neg (by rw [c3_1]; simp)]; dsimp only; rw [if_neg c6_2, if_pos c8_8]]
    exact ⟨_, _, _, rfl, OwnRow.nil, FSers.nil _, hf_, hg_, okF, okG, hS⟩
   ·rw [decide_eq_false c8_8]
    refine AWp.condF rfl rfl ?_
    refine AWp.skip (AWp.seq ?_)
    refine AWp.anyK pok [0, 1, 2, 3, 4, 5, 6, 7, 8, 9, 10] (by kernel_rfl) (by kernel_rfl) rfl (fun x fr fr' h n hd _ q => ⟨hd ▸ q.1, q.2⟩) ?_
    refine dk.c (v := .pointer (some ⟨n, 2, none⟩)) rfl (by kernel_rfl) rfl rfl (by kernel_rfl) rfl ?_
    refine dk.gB (v := .int .i64 (epo)) n rfl (by kernel_rfl) rfl rfl (fun _ q_ => (ld1 (P := Tryd.prog) (t := 2) (p := 2) (v := .int .i64 (epo)) (by kernel_rfl) (by kernel_rfl) (q_ _ hb1) rfl)) rfl ?_
    refine dk.c (v := .pointer (some ⟨b, 0, none⟩)) rfl (by kernel_rfl) rfl rfl rfl rfl ?_
    refine dk.c (v := .pointer (some ⟨b, 0, none⟩)) rfl (by kernel_rfl) rfl rfl rfl rfl ?_
    refine dk.c (v := .pointer (some ⟨b, 0, none⟩)) rfl (by kernel_rfl) rfl rfl (by kernel_rfl) rfl ?_
    refine dk.gB (v := .map (some f)) b rfl (by kernel_rfl) rfl rfl (fun _ q_ => (ld1 (P := Tryd.prog) (t := 66) (p := 0) (v := .map (some f)) (by kernel_rfl) (by kernel_rfl) (q_ _ hb_) rfl)) rfl ?_
    refine dk.gB (v := .agg #[.string (ten), .string (clu)]) n16 rfl (by kernel_rfl) rfl rfl (fun _ q_ => (ldA (P := Tryd.prog) (t := 73) (p := 0) (k := 2) (xs := [.string (ten), .string (clu)]) (by kernel_rfl) (by kernel_rfl) (q_ _ hb70) rfl (Nat.le_of_ble_eq_true rfl))) rfl ?_
    refine dk.gB (v := .int .i64 (((mget F (ten, clu)).getD 0))) f rfl (by kernel_rfl) rfl rfl (fun _ q_ => (lk (P := Tryd.prog) (K := plV) (V := intV) (kt := 73) (el := 2) (t := 66) (k := (ten, clu)) (d := (0 : Int)) Tryd.underlying66 keyPl (by kernel_rfl) rfl (q_ _ hf_))) rfl ?_
    refine dk.c (v := .bool (decide ((((mget F (ten, clu)).getD 0)) < epo))) rfl (by kernel_rfl) rfl rfl rfl rfl ?_
    refine dk.c (v := .pointer (some ⟨n9, 5, none⟩)) rfl (by kernel_rfl) rfl rfl (by kernel_rfl) rfl ?_
    refine dk.op rfl (by kernel_rfl) rfl rfl (Does.store (k := 1) (xs := [.bool (decide ((((mget F (ten, clu)).getD 0)) < epo))]) (cs' := [.string (ten), .string (clu), .int .i64 (epo), .slice none (0) (0), .int .i64 (0), .bool (decide ((((mget F (ten, clu)).getD 0)) < epo))]) hf (by kernel_rfl) rfl rfl rfl hb14 rfl rfl (Nat.le_of_ble_eq_true rfl) rfl) (keepC (fun hm => e_f_n9 (List.mem_singleton.1 hm)) (keepC (fun hm => Ne.symm e_n9_n16 (List.mem_singleton.1 hm)) (keepC (fun hm => e_b_n9 (List.mem_singleton.1 hm)) (keepC (fun hm => e_n_n9 (List.mem_singleton.1 hm)) keepN)))) ?_
    rintro _ h79 n80 ⟨rfl, hb78⟩ s81 hn2 hf
    refine dk.w0 ?_
    have hS := hS.keep (.own s81 hb14 rfl)
    have hb_ := s81.get1 (e_b_n9) hb_
    have hf_ := s81.get1 (e_f_n9) hf_
    have hg_ := s81.get1 (e_g_n9) hg_
    have hb1 := s81.get1 (e_n_n9) hb1
    have hb5 := s81.get1 (e_n3_n9) hb5
    have hb70 := s81.get1 (Ne.symm e_n9_n16) hb70
    have hs := hs.fresh z_n9 s81
    have hn := Nat.le_trans hn hn2
    refine dk.e ?_
    refine AWp.anyK pok [0, 1, 2, 3, 4, 5, 6, 7] (by kernel_rfl) (by kernel_rfl) rfl (fun x fr fr' h n hd _ q => ⟨hd ▸ q.1, q.2⟩) ?_
    refine dk.c (v := .pointer (some ⟨b, 0, none⟩)) rfl (by kernel_rfl) rfl rfl rfl rfl ?_
    refine dk.c (v := .pointer (some ⟨b, 0, none⟩)) rfl (by kernel_rfl) rfl rfl rfl rfl ?_
    refine dk.c (v := .pointer (some ⟨b, 0, none⟩)) rfl (by kernel_rfl) rfl rfl (by kernel_rfl) rfl ?_
    refine dk.gB (v := .map (some f)) b rfl (by kernel_rfl) rfl rfl (fun _ q_ => (ld1 (P := Tryd.prog) (t := 66) (p := 0) (v := .map (some f)) (by kernel_rfl) (by kernel_rfl) (q_ _ hb_) rfl)) rfl ?_
    refine dk.gB (v := .agg #[.string (ten), .string (clu)]) n16 rfl (by kernel_rfl) rfl rfl (fun _ q_ => (ldA (P := Tryd.prog) (t := 73) (p := 0) (k := 2) (xs := [.string (ten), .string (clu)]) (by kernel_rfl) (by kernel_rfl) (q_ _ hb70) rfl (Nat.le_of_ble_eq_true rfl))) rfl ?_
    refine dk.c (v := .pointer (some ⟨n, 2, none⟩)) rfl (by kernel_rfl) rfl rfl (by kernel_rfl) rfl ?_
    refine dk.gB (v := .int .i64 (epo)) n rfl (by kernel_rfl) rfl rfl (fun _ q_ => (ld1 (P := Tryd.prog) (t := 2) (p := 2) (v := .int .i64 (epo)) (by kernel_rfl) (by kernel_rfl) (q_ _ hb1) rfl)) rfl ?_
    refine dk.op rfl (by kernel_rfl) rfl rfl (Does.mapSet (K := plV) (V := intV) (k := (ten, clu)) (v := epo) hf Tryd.underlying66 keyPl rfl rfl rfl rfl rfl hf_) (keepC (fun hm => Ne.symm e_f_n (List.mem_singleton.1 hm)) (keepC (fun hm => Ne.symm e_f_n16 (List.mem_singleton.1 hm)) (keepC (fun hm => ne_b_f (List.mem_singleton.1 hm)) keepN))) ?_
    rintro _ h84 n85 ⟨rfl, hb82⟩ s86 hn2 hf
    refine dk.w0 ?_
    have hS := hS.keep (.own s86 hf_ rfl)
    have hb_ := s86.get1 (ne_b_f) hb_
    have hg_ := s86.get1 (Ne.symm ne_f_g) hg_
    have hb1 := s86.get1 (Ne.symm e_f_n) hb1
    have hb5 := s86.get1 (Ne.symm e_f_n3) hb5
    have hb78 := s86.get1 (Ne.symm e_f_n9) hb78
    have hb70 := s86.get1 (Ne.symm e_f_n16) hb70
    have hs := hs.at (by simp) s86
    have hn := Nat.le_trans hn hn2
    have ok83 := (okF).set (ten, clu) epo
    refine dk.e (AWp.seq (AWp.seq (AWp.rowV (l := _) pok ?_)))
    refine sq.c (v := .pointer (some ⟨n, 3, none⟩)) rfl rfl (by kernel_rfl) rfl ?_
    refine sq.c (v := .slice a (rs.length) cp) rfl rfl (ld1 (P := Tryd.prog) (t := 29) (p := 3) (v := .slice a (rs.length) cp) (by kernel_rfl) (by kernel_rfl) hb1 rfl) rfl ?_
    refine sq.c (v := .int .i64 (((rs.length : Nat) : Int))) rfl rfl (by kernel_rfl) rfl ?_
    refine sq.c (v := .int .i64 (0)) rfl rfl rfl rfl ?_
    refine sq.e (AWp.block ?_)
    have hmb := mayBat_parts c3_1
    refine AWp.loopV (fun d vs h88 n89 => ∃ (i : Int) (R : TSt) (G' : SM) (os : List (Hdr × Hdr)) (a_o : Option Addr) (cp_o : Nat), d = ((rs.length : Nat) - i + 1).toNat ∧ SubBut h h88 ([f, g]) ∧ n ≤ n89 ∧ Free h88 n89 ∧ h88.get b = some (.cells [.map (some f), .map (some g)] true c) ∧ h88.get f = some (.map (mapE plV intV (mset F kf (ten, clu) epo)) (mck F kf (ten, clu))) ∧ h88.get g = some (.map (mapE plV ownV G') R.ck) ∧ SMIs h88 G' R.S ∧ h88.get n = some (.cells [.string (ten), .string (clu), .int .i64 (epo), .slice a (rs.length) cp] true ⟨31, 0, true⟩) ∧ h88.get n3 = some (.cells [.string (⟨#[]⟩), .string (⟨#[]⟩), .int .i64 (0), .slice none (0) (0), .int .i64 (0), .bool false] true ⟨33, 0, true⟩) ∧ h88.get n9 = some (.cells [.string (ten), .string (clu), .int .i64 (epo), .slice a_o (os.length) cp_o, .int .i64 (R.bad), .bool (decide ((((mget F (ten, clu)).getD 0)) < epo))] true ⟨33, 0, true⟩) ∧ h88.get n16 = some (.cells [.string (ten), .string (clu)] true ⟨73, 0, true⟩) ∧ FSers h88 (os.map serV) R.ks ∧ OwnRow encSerO 43 h h88 (.slice a_o (os).length cp_o) (os) ∧ (∀ c ∈ blkOf (.slice a_o (os).length cp_o), c ≠ b) ∧ (∀ c ∈ blkOf (.slice a_o (os).length cp_o), c ≠ f) ∧ (∀ c ∈ blkOf (.slice a_o (os).length cp_o), c ≠ g) ∧ (∀ c ∈ blkOf (.slice a_o (os).length cp_o), c ≠ n) ∧ (∀ c ∈ blkOf (.slice a_o (os).length cp_o), c ≠ n3) ∧ (∀ c ∈ blkOf (.slice a_o (os).length cp_o), c ≠ n9) ∧ (∀ c ∈ blkOf (.slice a_o (os).length cp_o), c ≠ n16) ∧ MOk G' R.ck ∧ (0 ≤ i) ∧ (i ≤ (rs.length : Nat)) ∧ (R = foldT ten ⟨S, kg, [], 0⟩ (ss.take i.toNat)) ∧ (InvS (N + 6000 * i.toNat) R.S) ∧ (0 ≤ R.bad) ∧ (R.bad ≤ 6000 * i) ∧ (os.length ≤ i.toNat) ∧ ∃ y87 : Nat → Value, vs = [.pointer (some ⟨b, 0, none⟩), .agg #[.string (ten), .string (clu), .int .i64 (epo), .slice a (rs.length) cp], undef, .pointer (some ⟨n, 0, none⟩), .pointer (some ⟨n3, 0, none⟩), .int .i64 (0), .pointer (some ⟨n9, 0, none⟩), .pointer (some ⟨n16, 0, none⟩), undef, (y87 9), (y87 10), (y87 11), .pointer (some ⟨b, 0, none⟩), .bool false, undef, .agg #[.string (ten), .string (clu), .int .i64 (epo), .slice a (rs.length) cp], .bool true, .bool false, undef, .pointer (some ⟨n, 0, none⟩), .string (ten), .pointer (some ⟨n, 1, none⟩), .string (clu), .pointer (some ⟨n, 2, none⟩), .int .i64 (epo), .agg #[.string (ten), .string (clu), .int .i64 (epo), .slice none (0) (0)], .agg #[.string (ten), .string (clu), .int .i64 (epo), .slice none (0) (0), .int .i64 (0), .bool false], .pointer (some ⟨n, 1, none⟩), .string (clu), .bool true, .pointer (some ⟨n, 0, none⟩), .string (ten), .pointer (some ⟨n, 1, none⟩), .string (clu), .agg #[.string (ten), .string (clu)], .pointer (some ⟨n, 2, none⟩), .int .i64 (epo), .pointer (some ⟨b, 0, none⟩), .pointer (some ⟨b, 0, none⟩), .pointer (some ⟨b, 0, none⟩), .map (some f), .agg #[.string (ten), .string (clu)], .int .i64 (((mget F (ten, clu)).getD 0)), .bool false, undef, .pointer (some ⟨n, 2, none⟩), .int .i64 (epo), .pointer (some ⟨b, 0, none⟩), .pointer (some ⟨b, 0, none⟩), .pointer (some ⟨b, 0, none⟩), .map (some f), .agg #[.string (ten), .string (clu)], .int .i64 (((mget F (ten, clu)).getD 0)), .bool (decide ((((mget F (ten, clu)).getD 0)) < epo)), .pointer (some ⟨n9, 5, none⟩), .pointer (some ⟨b, 0, none⟩), .pointer (some ⟨b, 0, none⟩), .pointer (some ⟨b, 0, none⟩), .map (some f), .agg #[.string (ten), .string (clu)], .pointer (some ⟨n, 2, none⟩), .int .i64 (epo), .pointer (some ⟨n, 3, none⟩), .slice a (rs.length) cp, .int .i64 (((rs.length : Nat) : Int)), .int .i64 (i), (y87 66), (y87 67), (y87 68), (y87 69), (y87 70), (y87 71), (y87 72), (y87 73), (y87 74), (y87 75), (y87 76), (y87 77), (y87 78), (y87 79), (y87 80), (y87 81), (y87 82), (y87 83), (y87 84), (y87 85), (y87 86), (y87 87), (y87 88), (y87 89), (y87 90), (y87 91), (y87 92), (y87 93), (y87 94), (y87 95), (y87 96), (y87 97), undef]) (((rs.length : Nat) - (0 : Int) + 1).toNat) ⟨0, ⟨S, kg, [], 0⟩, G, [], none, 0, rfl, hs, hn, hf, hb_, hb82, hg_, hS, hb1, hb5, hb78, hb70, (FSers.nil _), OwnRow.nil, (by simp [blkOf]), (by simp [blkOf]), (by simp [blkOf]), (by simp [blkOf]), (by simp [blkOf]), (by simp [blkOf]), (by simp [blkOf]), okG, (by omega), (by omega), (rfl), (hinv), (Int.le_refl 0), (Int.le_refl 0), (Nat.le_refl 0), getV [undef, undef, undef, undef, undef, undef, undef, undef, undef, undef, undef, undef, undef, undef, undef, undef, undef, undef, undef, undef, undef, undef, undef, undef, undef, undef, undef, undef, undef, undef, undef, undef, undef, undef, undef, undef, undef, undef, undef, undef, undef, undef, undef, undef, undef, undef, undef, undef, undef, undef, undef, undef, undef, undef, undef, undef, undef, undef, undef, undef, undef, undef, undef, undef, undef, undef, undef, undef, undef, undef, undef, undef, undef, undef, undef, undef, undef, undef, undef, undef, undef, undef, undef, undef, undef, undef, undef, undef, undef, undef, undef, undef, undef, undef, undef, undef, undef, undef], rfl⟩ ?_
    rintro d vs h88 n89 ⟨i, R, G', os, a_o, cp_o, rfl, hs, hn, hf, hb_, hb82, hg_, hS, hb1, hb5, hb78, hb70, D, R_o, d_o_b, d_o_f, d_o_g, d_o_n, d_o_n3, d_o_n9, d_o_n16, okg2, hi0, hi1, hR, hinv2, hbd0, hbd1, hol, y87, rfl⟩
    refine AWp.seq (AWp.rowV (l := _) pok ?_)
    refine sq.c (v := .bool (decide (i < (((rs.length : Nat) : Int))))) rfl rfl rfl rfl ?_
    refine sq.e (AWp.seq ?_)
    by_cases c13_0 : i < (((rs.length : Nat) : Int))
    ·rw [decide_eq_true c13_0]
     refine AWp.condT rfl rfl ?_
     refine AWp.skip (AWp.seq (AWp.block (AWp.seq (AWp.rowV (l := _) pok ?_))))
     have i96 : (0 : Int) ≤ (i : Int) := by omega
     obtain ⟨x97, hx_x97⟩ : ∃ x, (rs)[((i : Int)).toNat]? = some x := ⟨_, List.getElem?_eq_getElem (by omega)⟩
     obtain ⟨y_x97, hy_x97, L_x97, M_x97⟩ := hd.at hx_x97
     obtain ⟨v1_x97, v2_x97⟩ := x97
     obtain ⟨a1_x97, c1_x97, rfl⟩ := (show IsRow encLab _ v1_x97 y_x97.1 from L_x97).slice
     obtain ⟨a2_x97, c2_x97, rfl⟩ := (show IsRow encSmp _ v2_x97 y_x97.2 from M_x97).slice
     obtain ⟨b90, o91, cs_b90, ow_b90, ci_b90, ie95, hb92, hc93, hr94⟩ := IsRow.at (P := Tryd.prog) (t := 29) (e := 43) (k := .i64) (by kernel_rfl) (by kernel_rfl) (isRow_noc hr hs hNC) i96 hx_x97
     refine sq.c (v := .pointer (some ⟨b90, o91, none⟩)) rfl rfl ie95 rfl ?_
     refine sq.c (v := .agg #[.slice a1_x97 (y_x97.1.length) c1_x97, .slice a2_x97 (y_x97.2.length) c2_x97]) rfl rfl (ldR (P := Tryd.prog) (t := 43) (k := 2) (xs := [.slice a1_x97 (y_x97.1.length) c1_x97, .slice a2_x97 (y_x97.2.length) c2_x97]) (by kernel_rfl) (by kernel_rfl) hr94) rfl ?_
     have e_b_n89 : b ≠ n89 := hf.ne hb_
     have e_f_n89 : f ≠ n89 := hf.ne hb82
     have e_g_n89 : g ≠ n89 := hf.ne hg_
     have e_n_n89 : n ≠ n89 := hf.ne hb1
     have e_n3_n89 : n3 ≠ n89 := hf.ne hb5
     have e_n9_n89 : n9 ≠ n89 := hf.ne hb78
     have e_n16_n89 : n16 ≠ n89 := hf.ne hb70
     have d_o_n89 : ∀ c ∈ blkOf (.slice a_o (os).length cp_o), c ≠ n89 := fun c hc e => R_o.ne' (hf _ (Nat.le_refl _)) c hc (List.mem_singleton.2 e)
     have z_n89 : h.get n89 = none := hf0 _ hn
     refine sq.op rfl rfl (Does.alloc (cs := [.slice none (0) (0), .slice none (0) (0)]) hf (z := .agg #[.slice none (0) (0), .slice none (0) (0)]) (by kernel_rfl) rfl) ?_
     rintro _ h99 n100 ⟨rfl, hb98⟩ s101 hn2 hf
     refine sq.w ?_
     have hS := hS.keep (.of0 s101)
     have D := D.keep (.of0 s101)
     have R_o := R_o.keep s101
     have hb_ := s101.sub _ _ hb_
     have hb82 := s101.sub _ _ hb82
     have hg_ := s101.sub _ _ hg_
     have hb1 := s101.sub _ _ hb1
     have hb5 := s101.sub _ _ hb5
     have hb78 := s101.sub _ _ hb78
     have hb70 := s101.sub _ _ hb70
     have hs := hs.trans (s101.mono (by simp))
     have hn := Nat.le_trans hn hn2
     refine sq.op rfl rfl (Does.store (k := 2) (xs := [.slice a1_x97 (y_x97.1.length) c1_x97, .slice a2_x97 (y_x97.2.length) c2_x97]) (cs' := [.slice a1_x97 (y_x97.1.length) c1_x97, .slice a2_x97 (y_x97.2.length) c2_x97]) hf (by kernel_rfl) rfl rfl rfl hb98 rfl rfl (Nat.le_of_ble_eq_true rfl) rfl) ?_
     rintro _ h103 n104 ⟨rfl, hb102⟩ s105 hn2 hf
     refine sq.w0 ?_
     have hS := hS.keep (.own s105 hb98 rfl)
     have D := D.keep (.own s105 hb98 rfl)
     have R_o := R_o.but s105 (fun c hc hm => d_o_n89 c hc (List.mem_singleton.1 hm))
     have hb_ := s105.get1 (e_b_n89) hb_
     have hb82 := s105.get1 (e_f_n89) hb82
     have hg_ := s105.get1 (e_g_n89) hg_
     have hb1 := s105.get1 (e_n_n89) hb1
     have hb5 := s105.get1 (e_n3_n89) hb5
     have hb78 := s105.get1 (e_n9_n89) hb78
     have hb70 := s105.get1 (e_n16_n89) hb70
     have hs := hs.fresh z_n89 s105
     have hn := Nat.le_trans hn hn2
     refine sq.e (AWp.seq (AWp.rowV (l := _) pok ?_))
     refine sq.c (v := .pointer (some ⟨b, 0, none⟩)) rfl rfl rfl rfl ?_
     refine sq.c (v := .pointer (some ⟨n, 0, none⟩)) rfl rfl (by kernel_rfl) rfl ?_
     refine sq.c (v := .string (ten)) rfl rfl (ld1 (P := Tryd.prog) (t := 9) (p := 0) (v := .string (ten)) (by kernel_rfl) (by kernel_rfl) hb1 rfl) rfl ?_
     refine sq.c (v := .agg #[.slice a1_x97 (y_x97.1.length) c1_x97, .slice a2_x97 (y_x97.2.length) c2_x97]) rfl rfl (ldA (P := Tryd.prog) (t := 43) (p := 0) (k := 2) (xs := [.slice a1_x97 (y_x97.1.length) c1_x97, .slice a2_x97 (y_x97.2.length) c2_x97]) (by kernel_rfl) (by kernel_rfl) hb102 rfl (Nat.le_of_ble_eq_true rfl)) rfl ?_
     have hsx := hsm.2 _ (List.mem_of_getElem? hy_x97)
     refine sq.k rfl (CallsF.fn rfl (by kernel_rfl) rfl rfl) (putSt _ _ _ hb_ hb82 hg_ ok83 okg2 hS ne_f_g ten _ _ (isRow_noc L_x97 hs hNC) (isRow_noc M_x97 hs hNC) hsx hinv2 (by omega)) ?_
     rintro _ h106 n107 ⟨v_k, Gk, rfl, F_k, hgk, okk, sm_k⟩ s108 hn2 hf
     obtain ⟨a_k, c_k, rfl⟩ := F_k.slice
     refine sq.w ?_
     have D := D.keep (.own s108 hg_ rfl)
     have R_o := R_o.but s108 (fun c hc hm => d_o_g c hc (List.mem_singleton.1 hm))
     have hb_ := s108.get1 (ne_b_g) hb_
     have hb82 := s108.get1 (ne_f_g) hb82
     have hb1 := s108.get1 (Ne.symm e_g_n) hb1
     have hb5 := s108.get1 (Ne.symm e_g_n3) hb5
     have hb78 := s108.get1 (Ne.symm e_g_n9) hb78
     have hb70 := s108.get1 (Ne.symm e_g_n16) hb70
     have hb102 := s108.get1 (Ne.symm e_g_n89) hb102
     have hs := hs.at (by simp) s108
     have hn := Nat.le_trans hn hn2
     have hpb : 0 ≤ pBad R.S ten (y_x97.1, y_x97.2) ∧ pBad R.S ten (y_x97.1, y_x97.2) ≤ (y_x97.2.length : Nat) := pBad_le R.S ten (y_x97.1, y_x97.2)
     have hsx2 : y_x97.2.length < 6000 := hsx.2.1
     have hS := sm_k
     refine sq.c (v := .tuple #[.slice a_k (pKept R.S ten (y_x97.1, y_x97.2)).length c_k, .int .i64 (pBad R.S ten (y_x97.1, y_x97.2))]) rfl rfl rfl rfl ?_
     refine sq.c (v := .slice a_k (pKept R.S ten (y_x97.1, y_x97.2)).length c_k) rfl rfl rfl rfl ?_
     refine sq.c (v := .int .i64 (pBad R.S ten (y_x97.1, y_x97.2))) rfl rfl rfl rfl ?_
     refine sq.c (v := .slice a_k (pKept R.S ten (y_x97.1, y_x97.2)).length c_k) rfl rfl rfl rfl ?_
     refine sq.c (v := .int .i64 (pBad R.S ten (y_x97.1, y_x97.2))) rfl rfl rfl rfl ?_
     refine sq.e (AWp.seq (AWp.rowV (l := _) pok ?_))
     refine sq.c (v := .pointer (some ⟨n9, 4, none⟩)) rfl rfl (by kernel_rfl) rfl ?_
     refine sq.c (v := .int .i64 (R.bad)) rfl rfl (ld1 (P := Tryd.prog) (t := 3) (p := 4) (v := .int .i64 (R.bad)) (by kernel_rfl) (by kernel_rfl) hb78 rfl) rfl ?_
     refine sq.c (v := .int .i64 (pBad R.S ten (y_x97.1, y_x97.2))) rfl rfl rfl rfl ?_
     refine sq.c (v := .int .i64 (R.bad + (pBad R.S ten (y_x97.1, y_x97.2)))) rfl rfl (okI (wrap_i64 (by have := hpb.1; omega) (by have := hpb.2; omega))) rfl ?_
     refine sq.c (v := .pointer (some ⟨n9, 4, none⟩)) rfl rfl (by kernel_rfl) rfl ?_
     refine sq.op rfl rfl (Does.store (k := 1) (xs := [.int .i64 (R.bad + (pBad R.S ten (y_x97.1, y_x97.2)))]) (cs' := [.string (ten), .string (clu), .int .i64 (epo), .slice a_o (os.length) cp_o, .int .i64 (R.bad + (pBad R.S ten (y_x97.1, y_x97.2))), .bool (decide ((((mget F (ten, clu)).getD 0)) < epo))]) hf (by kernel_rfl) rfl rfl rfl hb78 rfl rfl (Nat.le_of_ble_eq_true rfl) rfl) ?_
     rintro _ h110 n111 ⟨rfl, hb109⟩ s112 hn2 hf
     refine sq.w0 ?_
     have D := D.keep (.own s112 hb78 rfl)
     have R_o := R_o.but s112 (fun c hc hm => d_o_n9 c hc (List.mem_singleton.1 hm))
     have hS := hS.keep (.own s112 hb78 rfl)
     have F_k := F_k.keep (.own s112 hb78 rfl)
     have hb_ := s112.get1 (e_b_n9) hb_
     have hb82 := s112.get1 (e_f_n9) hb82
     have hgk := s112.get1 (e_g_n9) hgk
     have hb1 := s112.get1 (e_n_n9) hb1
     have hb5 := s112.get1 (e_n3_n9) hb5
     have hb70 := s112.get1 (Ne.symm e_n9_n16) hb70
     have hb102 := s112.get1 (Ne.symm e_n9_n89) hb102
     have hs := hs.fresh z_n9 s112
     have hn := Nat.le_trans hn hn2
     refine sq.e (AWp.seq (AWp.rowV (l := _) pok ?_))
     refine sq.c (v := .slice a_k (pKept R.S ten (y_x97.1, y_x97.2)).length c_k) rfl rfl rfl rfl ?_
     refine sq.c (v := .int .i64 ((((pKept R.S ten (y_x97.1, y_x97.2)).length : Nat) : Int))) rfl rfl (by kernel_rfl) rfl ?_
     refine sq.c (v := .bool (decide ((0 : Int) < ((((pKept R.S ten (y_x97.1, y_x97.2)).length : Nat) : Int))))) rfl rfl rfl rfl ?_
     refine sq.e ?_
     by_cases c17_2 : (0 : Int) < ((((pKept R.S ten (y_x97.1, y_x97.2)).length : Nat) : Int))
     ·rw [decide_eq_true c17_2]
      refine AWp.condT rfl rfl ?_
      refine AWp.anyJ pok [0, 1, 2, 3, 4, 6, 5, 7, 8, 9, 10, 11, 12] (by kernel_rfl) (by kernel_rfl) rfl (fun x fr fr' h n hd _ q => ⟨hd ▸ q.1, q.2⟩) ?_
      refine dj.c (v := .pointer (some ⟨n9, 0, none⟩)) rfl (by kernel_rfl) rfl rfl (by kernel_rfl) rfl ?_
      refine dj.c (v := .pointer (some ⟨n9, 3, none⟩)) rfl (by kernel_rfl) rfl rfl (by kernel_rfl) rfl ?_
      refine dj.gB (v := .slice a_o (os.length) cp_o) n9 rfl (by kernel_rfl) rfl rfl (fun _ q_ => (ld1 (P := Tryd.prog) (t := 29) (p := 3) (v := .slice a_o (os.length) cp_o) (by kernel_rfl) (by kernel_rfl) (q_ _ hb109) rfl)) rfl ?_
      refine dj.c (v := .pointer (some ⟨n89, 0, none⟩)) rfl (by kernel_rfl) rfl rfl (by kernel_rfl) rfl ?_
      refine dj.gB (v := .slice a1_x97 (y_x97.1.length) c1_x97) n89 rfl (by kernel_rfl) rfl rfl (fun _ q_ => (ld1 (P := Tryd.prog) (t := 40) (p := 0) (v := .slice a1_x97 (y_x97.1.length) c1_x97) (by kernel_rfl) (by kernel_rfl) (q_ _ hb102) rfl)) rfl ?_
      refine dj.c (v := .slice a_k (pKept R.S ten (y_x97.1, y_x97.2)).length c_k) rfl (by kernel_rfl) rfl rfl rfl rfl ?_
      refine dj.k rfl (by kernel_rfl) rfl (CallsF.fn rfl (by kernel_rfl) rfl rfl) (cloneLFz _ (isRow_noc L_x97 hs hNC) (by have := hsx.1; omega)) (keepJD (by kernel_rfl) (keepJC (by simp) keepJN)) ?_
      rintro v_q112 h113 n114 R_q112 s115 hn2 hf
      obtain ⟨a_q112, c_q112, rfl⟩ := R_q112.slice
      refine dj.w ?_
      have D := D.keep (.of0 s115)
      have R_o := R_o.keep s115
      have hS := hS.keep (.of0 s115)
      have F_k := F_k.keep (.of0 s115)
      have hb_ := s115.sub _ _ hb_
      have hb82 := s115.sub _ _ hb82
      have hgk := s115.sub _ _ hgk
      have hb1 := s115.sub _ _ hb1
      have hb5 := s115.sub _ _ hb5
      have hb109 := s115.sub _ _ hb109
      have hb70 := s115.sub _ _ hb70
      have hb102 := s115.sub _ _ hb102
      have hs := hs.trans (s115.mono (by simp))
      have hn := Nat.le_trans hn hn2
      refine dj.c (v := .agg #[.slice a_q112 (y_x97.1).length c_q112, .slice a_k (pKept R.S ten (y_x97.1, y_x97.2)).length c_k]) rfl (by kernel_rfl) rfl rfl (by kernel_rfl) rfl ?_
      have d_o_n114 : ∀ c ∈ blkOf (.slice a_o (os).length cp_o), c ≠ n114 := fun c hc e => R_o.ne' (hf _ (Nat.le_refl _)) c hc (List.mem_singleton.2 e)
      refine dj.op rfl (by kernel_rfl) rfl rfl (Does.build (e := 43) (cs := [.slice a_q112 (y_x97.1).length c_q112, .slice a_k (pKept R.S ten (y_x97.1, y_x97.2)).length c_k]) hf (fun _ _ => by kernel_rfl)) (keepJC (by simp) (keepJC (by simp) keepJN)) ?_
      rintro _ h117 n118 ⟨rfl, hb116⟩ s119 hn2 hf
      refine dj.w ?_
      have D := D.keep (.of0 s119)
      have R_o := R_o.keep s119
      have hS := hS.keep (.of0 s119)
      have F_k := F_k.keep (.of0 s119)
      have R_q112 := R_q112.keep (.of0 s119)
      have hb_ := s119.sub _ _ hb_
      have hb82 := s119.sub _ _ hb82
      have hgk := s119.sub _ _ hgk
      have hb1 := s119.sub _ _ hb1
      have hb5 := s119.sub _ _ hb5
      have hb109 := s119.sub _ _ hb109
      have hb70 := s119.sub _ _ hb70
      have hb102 := s119.sub _ _ hb102
      have hs := hs.trans (s119.mono (by simp))
      have hn := Nat.le_trans hn hn2
      have hz0 : h.get n118 = none := hf0 _ hn
      have hfo := hf
      have hFo := R_o.ours
      refine dj.op rfl (by kernel_rfl) rfl rfl (Does.append (E := encSerO) (xs := os) (ys := [((a_q112, (y_x97.1).length, c_q112), (a_k, (pKept R.S ten (y_x97.1, y_x97.2)).length, c_k))]) appSerO ⟨.slice 43, by kernel_rfl, fun _ q => by cases q⟩ hf hs R_o (IsRow.of (E := encSerO) (xs := [((a_q112, (y_x97.1).length, c_q112), (a_k, (pKept R.S ten (y_x97.1, y_x97.2)).length, c_k))]) (cap := 1) hb116 (Nat.le_refl _)) rfl rfl (by have := hsx.1; simp only [List.length_cons, List.length_nil]; omega) (by have := hsx.1; simp only [List.length_cons, List.length_nil]; omega) hz0) (keepJC (fun hm => d_o_n89 _ hm rfl) (keepJD (by kernel_rfl) keepJN)) ?_
      rintro v123 h120 n121 ⟨R_o, hs, hB124⟩ s122 hn2 hf
      refine dj.w ?_
      have dn_o_b : ∀ c ∈ blkOf v123, c ≠ b := fun c hc => (hB124 c hc).elim (fun q => d_o_b c q) (fun q => by rw [q]; exact (hfo.ne hb_).symm)
      have dn_o_f : ∀ c ∈ blkOf v123, c ≠ f := fun c hc => (hB124 c hc).elim (fun q => d_o_f c q) (fun q => by rw [q]; exact (hfo.ne hb82).symm)
      have dn_o_g : ∀ c ∈ blkOf v123, c ≠ g := fun c hc => (hB124 c hc).elim (fun q => d_o_g c q) (fun q => by rw [q]; exact (hfo.ne hgk).symm)
      have dn_o_n : ∀ c ∈ blkOf v123, c ≠ n := fun c hc => (hB124 c hc).elim (fun q => d_o_n c q) (fun q => by rw [q]; exact (hfo.ne hb1).symm)
      have dn_o_n3 : ∀ c ∈ blkOf v123, c ≠ n3 := fun c hc => (hB124 c hc).elim (fun q => d_o_n3 c q) (fun q => by rw [q]; exact (hfo.ne hb5).symm)
      have dn_o_n9 : ∀ c ∈ blkOf v123, c ≠ n9 := fun c hc => (hB124 c hc).elim (fun q => d_o_n9 c q) (fun q => by rw [q]; exact (hfo.ne hb109).symm)
      have dn_o_n16 : ∀ c ∈ blkOf v123, c ≠ n16 := fun c hc => (hB124 c hc).elim (fun q => d_o_n16 c q) (fun q => by rw [q]; exact (hfo.ne hb70).symm)
      have dn_o_n89 : ∀ c ∈ blkOf v123, c ≠ n89 := fun c hc => (hB124 c hc).elim (fun q => d_o_n89 c q) (fun q => by rw [q]; exact (hfo.ne hb102).symm)
      have dn_o_n114 : ∀ c ∈ blkOf v123, c ≠ n114 := fun c hc => (hB124 c hc).elim (fun q => d_o_n114 c q) (fun q => by rw [q]; exact (hfo.ne hb116).symm)
      have ours_s122 := hFo
      have hb_ := s122 _ _ (fun hm => d_o_b _ hm rfl) hb_
      have hb82 := s122 _ _ (fun hm => d_o_f _ hm rfl) hb82
      have hgk := s122 _ _ (fun hm => d_o_g _ hm rfl) hgk
      have hb1 := s122 _ _ (fun hm => d_o_n _ hm rfl) hb1
      have hb5 := s122 _ _ (fun hm => d_o_n3 _ hm rfl) hb5
      have hb109 := s122 _ _ (fun hm => d_o_n9 _ hm rfl) hb109
      have hb70 := s122 _ _ (fun hm => d_o_n16 _ hm rfl) hb70
      have D := D.keep (.of s122 ours_s122)
      have hb102 := s122 _ _ (fun hm => d_o_n89 _ hm rfl) hb102
      have hS := hS.keep (.of s122 ours_s122)
      have F_k := F_k.keep (.of s122 ours_s122)
      have R_q112 := R_q112.keep (.of s122 ours_s122)
      have hb116 := s122 _ _ (fun hm => d_o_n114 _ hm rfl) hb116
      have d_o_b := dn_o_b
      have d_o_f := dn_o_f
      have d_o_g := dn_o_g
      have d_o_n := dn_o_n
      have d_o_n3 := dn_o_n3
      have d_o_n9 := dn_o_n9
      have d_o_n16 := dn_o_n16
      have d_o_n89 := dn_o_n89
      have d_o_n114 := dn_o_n114
      obtain ⟨a125, cp126, rfl⟩ := R_o.slice
      have hn := Nat.le_trans hn hn2
      refine dj.c (v := .pointer (some ⟨n9, 0, none⟩)) rfl (by kernel_rfl) rfl rfl (by kernel_rfl) rfl ?_
      refine dj.c (v := .pointer (some ⟨n9, 3, none⟩)) rfl (by kernel_rfl) rfl rfl (by kernel_rfl) rfl ?_
      refine dj.op rfl (by kernel_rfl) rfl rfl (Does.store (k := 1) (xs := [.slice a125 (os ++ [((a_q112, (y_x97.1).length, c_q112), (a_k, (pKept R.S ten (y_x97.1, y_x97.2)).length, c_k))]).length cp126]) (cs' := [.string (ten), .string (clu), .int .i64 (epo), .slice a125 (os ++ [((a_q112, (y_x97.1).length, c_q112), (a_k, (pKept R.S ten (y_x97.1, y_x97.2)).length, c_k))]).length cp126, .int .i64 (R.bad + (pBad R.S ten (y_x97.1, y_x97.2))), .bool (decide ((((mget F (ten, clu)).getD 0)) < epo))]) hf (by kernel_rfl) rfl rfl rfl hb109 rfl rfl (Nat.le_of_ble_eq_true rfl) rfl) (keepJD (by kernel_rfl) (keepJD (by kernel_rfl) keepJN)) ?_
      rintro _ h128 n129 ⟨rfl, hb127⟩ s130 hn2 hf
      refine dj.w0 ?_
      have D := D.keep (.own s130 hb109 rfl)
      have hS := hS.keep (.own s130 hb109 rfl)
      have F_k := F_k.keep (.own s130 hb109 rfl)
      have R_q112 := R_q112.keep (.own s130 hb109 rfl)
      have R_o := R_o.but s130 (fun c hc hm => d_o_n9 c hc (List.mem_singleton.1 hm))
      have hb_ := s130.get1 (e_b_n9) hb_
      have hb82 := s130.get1 (e_f_n9) hb82
      have hgk := s130.get1 (e_g_n9) hgk
      have hb1 := s130.get1 (e_n_n9) hb1
      have hb5 := s130.get1 (e_n3_n9) hb5
      have hb70 := s130.get1 (Ne.symm e_n9_n16) hb70
      have hs := hs.fresh z_n9 s130
      have hn := Nat.le_trans hn hn2
      refine dj.e ?_
      refine AWp.rowV (l := _) pok ?_
      refine sq.c (v := .int .i64 (i + 1)) rfl rfl (okI (wrap_i64 (by omega) (by omega))) rfl ?_
      refine sq.c (v := .int .i64 (i + 1)) rfl rfl rfl rfl ?_
      refine sq.e ?_
      have hne : ¬ pKept R.S ten y_x97 = [] := fun e => by rw [show pKept R.S ten (y_x97.1, y_x97.2) = [] from e] at c17_2; simp at c17_2
      refine ⟨_, _, rfl, by omega, i + 1, stepT ten R y_x97, Gk, os ++ [((a_q112, (y_x97.1).length, c_q112), (a_k, (pKept R.S ten (y_x97.1, y_x97.2)).length, c_k))], a125, cp126, rfl, hs, hn, hf, hb_, hb82, hgk, hS, hb1, hb5, hb127, hb70, (by rw [show (stepT ten R y_x97).ks = _ from if_neg hne]; exact FSers.snocO D ⟨R_q112, F_k⟩), R_o, d_o_b, d_o_f, d_o_g, d_o_n, d_o_n3, d_o_n9, d_o_n16, okk, (by omega), (by omega), (by rw [take_snoc hi0 hy_x97, foldT_snoc, ← hR]), (by rw [show N + 6000 * (i + 1).toNat = N + 6000 * i.toNat + 6000 by omega]; exact hinv2.put hmb.1 (hmb.2 _ (List.mem_of_getElem? hy_x97)).1 hsx), (Int.add_nonneg hbd0 hpb.1), (show R.bad + pBad R.S ten (y_x97.1, y_x97.2) ≤ _ by omega), (by simp only [List.length_append, List.length_cons, List.length_nil]; omega), getV [undef, undef, undef, undef, undef, undef, undef, undef, undef, .pointer (some ⟨n89, 0, none⟩), .slice a_k (pKept R.S ten (y_x97.1, y_x97.2)).length c_k, .int .i64 (pBad R.S ten (y_x97.1, y_x97.2)), undef, undef, undef, undef, undef, undef, undef, undef, undef, undef, undef, undef, undef, undef, undef, undef, undef, undef, undef, undef, undef, undef, undef, undef, undef, undef, undef, undef, undef, undef, undef, undef, undef, undef, undef, undef, undef, undef, undef, undef, undef, undef, undef, undef, undef, undef, undef, undef, undef, undef, undef, undef, undef, undef, .bool true, .pointer (some ⟨b90, o91, none⟩), .agg #[.slice a1_x97 (y_x97.1.length) c1_x97, .slice a2_x97 (y_x97.2.length) c2_x97], .tuple #[.slice a_k (pKept R.S ten (y_x97.1, y_x97.2)).length c_k, .int .i64 (pBad R.S ten (y_x97.1, y_x97.2))], .pointer (some ⟨b, 0, none⟩), .pointer (some ⟨n, 0, none⟩), .string (ten), .agg #[.slice a1_x97 (y_x97.1.length) c1_x97, .slice a2_x97 (y_x97.2.length) c2_x97], .tuple #[.slice a_k (pKept R.S ten (y_x97.1, y_x97.2)).length c_k, .int .i64 (pBad R.S ten (y_x97.1, y_x97.2))], .slice a_k (pKept R.S ten (y_x97.1, y_x97.2)).length c_k, .int .i64 (pBad R.S ten (y_x97.1, y_x97.2)), .pointer (some ⟨n9, 4, none⟩), .int .i64 (R.bad), .int .i64 (pBad R.S ten (y_x97.1, y_x97.2)), .int .i64 (R.bad + (pBad R.S ten (y_x97.1, y_x97.2))), .pointer (some ⟨n9, 4, none⟩), .slice a_k (pKept R.S ten (y_x97.1, y_x97.2)).length c_k, .int .i64 ((((pKept R.S ten (y_x97.1, y_x97.2)).length : Nat) : Int)), .bool true, .pointer (some ⟨n9, 0, none⟩), .pointer (some ⟨n9, 3, none⟩), .slice a_o (os.length) cp_o, .pointer (some ⟨n89, 0, none⟩), .slice a1_x97 (y_x97.1.length) c1_x97, .slice a_q112 (y_x97.1).length c_q112, .slice a_k (pKept R.S ten (y_x97.1, y_x97.2)).length c_k, .agg #[.slice a_q112 (y_x97.1).length c_q112, .slice a_k (pKept R.S ten (y_x97.1, y_x97.2)).length c_k], .slice (some ⟨n114, 0, none⟩) (1) (1), .slice a125 (os ++ [((a_q112, (y_x97.1).length, c_q112), (a_k, (pKept R.S ten (y_x97.1, y_x97.2)).length, c_k))]).length cp126, .pointer (some ⟨n9, 0, none⟩), .pointer (some ⟨n9, 3, none⟩), .int .i64 (i + 1)], rfl⟩
     ·rw [decide_eq_false c17_2]
      refine AWp.condF rfl rfl ?_
      refine AWp.skip (AWp.rowV (l := _) pok ?_)
      refine sq.c (v := .int .i64 (i + 1)) rfl rfl (okI (wrap_i64 (by omega) (by omega))) rfl ?_
      refine sq.c (v := .int .i64 (i + 1)) rfl rfl rfl rfl ?_
      refine sq.e ?_
      have he : pKept R.S ten y_x97 = [] := List.eq_nil_of_length_eq_zero (show (pKept R.S ten (y_x97.1, y_x97.2)).length = 0 by omega)
      refine ⟨_, _, rfl, by omega, i + 1, stepT ten R y_x97, Gk, os, a_o, cp_o, rfl, hs, hn, hf, hb_, hb82, hgk, hS, hb1, hb5, hb109, hb70, (by rw [show (stepT ten R y_x97).ks = _ from if_pos he]; exact D), R_o, d_o_b, d_o_f, d_o_g, d_o_n, d_o_n3, d_o_n9, d_o_n16, okk, (by omega), (by omega), (by rw [take_snoc hi0 hy_x97, foldT_snoc, ← hR]), (by rw [show N + 6000 * (i + 1).toNat = N + 6000 * i.toNat + 6000 by omega]; exact hinv2.put hmb.1 (hmb.2 _ (List.mem_of_getElem? hy_x97)).1 hsx), (Int.add_nonneg hbd0 hpb.1), (show R.bad + pBad R.S ten (y_x97.1, y_x97.2) ≤ _ by omega), (by omega), getV [undef, undef, undef, undef, undef, undef, undef, undef, undef, .pointer (some ⟨n89, 0, none⟩), .slice a_k (pKept R.S ten (y_x97.1, y_x97.2)).length c_k, .int .i64 (pBad R.S ten (y_x97.1, y_x97.2)), undef, undef, undef, undef, undef, undef, undef, undef, undef, undef, undef, undef, undef, undef, undef, undef, undef, undef, undef, undef, undef, undef, undef, undef, undef, undef, undef, undef, undef, undef, undef, undef, undef, undef, undef, undef, undef, undef, undef, undef, undef, undef, undef, undef, undef, undef, undef, undef, undef, undef, undef, undef, undef, undef, .bool true, .pointer (some ⟨b90, o91, none⟩), .agg #[.slice a1_x97 (y_x97.1.length) c1_x97, .slice a2_x97 (y_x97.2.length) c2_x97], .tuple #[.slice a_k (pKept R.S ten (y_x97.1, y_x97.2)).length c_k, .int .i64 (pBad R.S ten (y_x97.1, y_x97.2))], .pointer (some ⟨b, 0, none⟩), .pointer (some ⟨n, 0, none⟩), .string (ten), .agg #[.slice a1_x97 (y_x97.1.length) c1_x97, .slice a2_x97 (y_x97.2.length) c2_x97], .tuple #[.slice a_k (pKept R.S ten (y_x97.1, y_x97.2)).length c_k, .int .i64 (pBad R.S ten (y_x97.1, y_x97.2))], .slice a_k (pKept R.S ten (y_x97.1, y_x97.2)).length c_k, .int .i64 (pBad R.S ten (y_x97.1, y_x97.2)), .pointer (some ⟨n9, 4, none⟩), .int .i64 (R.bad), .int .i64 (pBad R.S ten (y_x97.1, y_x97.2)), .int .i64 (R.bad + (pBad R.S ten (y_x97.1, y_x97.2))), .pointer (some ⟨n9, 4, none⟩), .slice a_k (pKept R.S ten (y_x97.1, y_x97.2)).length c_k, .int .i64 ((((pKept R.S ten (y_x97.1, y_x97.2)).length : Nat) : Int)), .bool false, (y87 85), (y87 86), (y87 87), (y87 88), (y87 89), (y87 90), (y87 91), (y87 92), (y87 93), (y87 94), (y87 95), (y87 96), .int .i64 (i + 1)], rfl⟩
    ·rw [decide_eq_false c13_0]
     refine AWp.condF rfl rfl ?_
     refine AWp.exit ?_
     refine AWp.seq (AWp.rowV (l := _) pok ?_)
     refine sq.c (v := .agg #[.string (ten), .string (clu), .int .i64 (epo), .slice a_o (os.length) cp_o, .int .i64 (R.bad), .bool (decide ((((mget F (ten, clu)).getD 0)) < epo))]) rfl rfl (ldA (P := Tryd.prog) (t := 33) (p := 0) (k := 6) (xs := [.string (ten), .string (clu), .int .i64 (epo), .slice a_o (os.length) cp_o, .int .i64 (R.bad), .bool (decide ((((mget F (ten, clu)).getD 0)) < epo))]) (by kernel_rfl) (by kernel_rfl) hb78 rfl (Nat.le_of_ble_eq_true rfl)) rfl ?_
     refine sq.op rfl rfl (Does.store (k := 6) (xs := [.string (ten), .string (clu), .int .i64 (epo), .slice a_o (os.length) cp_o, .int .i64 (R.bad), .bool (decide ((((mget F (ten, clu)).getD 0)) < epo))]) (cs' := [.string (ten), .string (clu), .int .i64 (epo), .slice a_o (os.length) cp_o, .int .i64 (R.bad), .bool (decide ((((mget F (ten, clu)).getD 0)) < epo))]) hf (by kernel_rfl) rfl rfl rfl hb5 rfl rfl (Nat.le_of_ble_eq_true rfl) rfl) ?_
     rintro _ h132 n133 ⟨rfl, hb131⟩ s134 hn2 hf
     refine sq.w0 ?_
     have hS := hS.keep (.own s134 hb5 rfl)
     have D := D.keep (.own s134 hb5 rfl)
     have R_o := R_o.but s134 (fun c hc hm => d_o_n3 c hc (List.mem_singleton.1 hm))
     have hb82 := s134.get1 (e_f_n3) hb82
     have hg_ := s134.get1 (e_g_n3) hg_
     have hs := hs.fresh z_n3 s134
     have hn := Nat.le_trans hn hn2
     refine sq.c (v := .int .i64 (0)) rfl rfl rfl rfl ?_
     refine sq.e ?_
     refine AWp.ret ?_
     refine ⟨rfl, [.agg #[.string (ten), .string (clu), .int .i64 (epo), .slice a_o (os.length) cp_o, .int .i64 (R.bad), .bool (decide ((((mget F (ten, clu)).getD 0)) < epo))], .int .i64 (0)], (res_cellC (ldA (P := Tryd.prog) (t := 33) (p := 0) (k := 6) (xs := [.string (ten), .string (clu), .int .i64 (epo), .slice a_o (os.length) cp_o, .int .i64 (R.bad), .bool (decide ((((mget F (ten, clu)).getD 0)) < epo))]) (by kernel_rfl) (by kernel_rfl) hb131 rfl (Nat.le_of_ble_eq_true rfl)) rfl), .tuple #[.agg #[.string (ten), .string (clu), .int .i64 (epo), .slice a_o (os.length) cp_o, .int .i64 (R.bad), .bool (decide ((((mget F (ten, clu)).getD 0)) < epo))], .int .i64 (0)], rfl, hs, hn, ?_⟩
     rw [show i.toNat = ss.length by omega, List.take_length] at hR
     rw [show takeR F kf S kg ⟨ten, clu, epo, ss⟩ = takeOk (mset F kf (ten, clu) epo) (mck F kf (ten, clu)) ⟨ten, clu, epo, ss⟩ R (decide ((mget F (ten, clu)).getD 0 < epo)) by unfold takeR; rw [if_neg (by rw [c3_1]; simp)]; dsimp only; rw [if_neg c6_2, if_neg c8_8, ← hR]]
     exact ⟨_, _, _, rfl, R_o, D, hb82, hg_, ok83, okg2, hS⟩
 ·rw [c3_1]
  refine sq.c (v := .bool true) rfl rfl rfl rfl ?_
  refine sq.e ?_
  refine AWp.condT rfl rfl ?_
  refine AWp.seq (AWp.rowV (l := _) pok ?_)
  refine sq.c (v := .agg #[.string (⟨#[]⟩), .string (⟨#[]⟩), .int .i64 (0), .slice none (0) (0), .int .i64 (0), .bool false]) rfl rfl (by kernel_rfl) rfl ?_
  refine sq.op rfl rfl (Does.store (k := 6) (xs := [.string (⟨#[]⟩), .string (⟨#[]⟩), .int .i64 (0), .slice none (0) (0), .int .i64 (0), .bool false]) (cs' := [.string (⟨#[]⟩), .string (⟨#[]⟩), .int .i64 (0), .slice none (0) (0), .int .i64 (0), .bool false]) hf (by kernel_rfl) rfl rfl rfl hb5 rfl rfl (Nat.le_of_ble_eq_true rfl) rfl) ?_
  rintro _ h136 n137 ⟨rfl, hb135⟩ s138 hn2 hf
  refine sq.w0 ?_
  have hS := hS.keep (.own s138 hb5 rfl)
  have hf_ := s138.get1 (e_f_n3) hf_
  have hg_ := s138.get1 (e_g_n3) hg_
  have hs := hs.fresh z_n3 s138
  have hn := Nat.le_trans hn hn2
  refine sq.c (v := .int .i64 (4)) rfl rfl rfl rfl ?_
  refine sq.e ?_
  refine AWp.ret ?_
  refine ⟨rfl, [.agg #[.string (⟨#[]⟩), .string (⟨#[]⟩), .int .i64 (0), .slice none (0) (0), .int .i64 (0), .bool false], .int .i64 (4)], (res_cellC (ldA (P := Tryd.prog) (t := 33) (p := 0) (k := 6) (xs := [.string (⟨#[]⟩), .string (⟨#[]⟩), .int .i64 (0), .slice none (0) (0), .int .i64 (0), .bool false]) (by kernel_rfl) (by kernel_rfl) hb135 rfl (Nat.le_of_ble_eq_true rfl)) rfl), .tuple #[.agg #[.string (⟨#[]⟩), .string (⟨#[]⟩), .int .i64 (0), .slice none (0) (0), .int .i64 (0), .bool false], .int .i64 (4)], rfl, hs, hn, ?_⟩
  rw [show takeR F kf S kg ⟨ten, clu, epo, ss⟩ = takeNo 4 F kf S kg by unfold takeR; rw [if_pos c3_1]]
  exact ⟨_, _, _, rfl, OwnRow.nil, FSers.nil _, hf_, hg_, okF, okG, hS⟩
end Go.Proofs.YtkpaklofdkjinaaDoor
namespace Go.Proofs.YtkpaklofdkjinaaDoor
open Go Go.Abs Go.RowKit Go.Shelf
set_option maxRecDepth 100000
set_option maxHeartbeats 8000000
theorem takeSt {h : Heap} {n : Nat} {b f g kf kg : Nat} {c : CI} (F : FM) (G : SM) (S : SP) (hb_ : h.get b = some (.cells [.map (some f), .map (some g)] true c)) (hf_ : h.get f = some (.map (mapE plV intV F) kf)) (hg_ : h.get g = some (.map (mapE plV ownV G) kg)) (okF : MOk F kf) (okG : MOk G kg) (hS : SMIs h G S) (ne_f_g : f ≠ g) {a : Option Addr} {cp N : Nat} (ten clu : ByteArray) (epo : Int) (rs : List RSer) (ss : List Ser) (hr : IsRow encSer h (.slice a rs.length cp) rs) (hd : SersIs h rs ss) (hld : Laid0 h) (hsm : Smalls ss) (q1 : ten.data.toList.length < 9223372036854775808) (q2 : clu.data.toList.length < 9223372036854775808) (hinv : InvS N S) (hN : N + 7200000 < 1000000000000) {R : TkR} (hR : R = takeR F kf S kg ⟨ten, clu, epo, ss⟩) :
    Makes Tryd.prog 13 [.pointer (some ⟨b, 0, none⟩), .agg #[.string ten, .string clu, .int .i64 epo, .slice a rs.length cp]] h n [f, g] fun v h2 _ => ∃ w os G2, v = .tuple #[.agg #[.string R.kb.ten, .string R.kb.clu, .int .i64 R.kb.epo, w, .int .i64 R.bad, .bool R.rose], .int .i64 R.e] ∧ FRow encSer h2 w os ∧ FSers h2 os R.kb.ser ∧ h2.get f = some (.map (mapE plV intV R.F) R.kf) ∧ h2.get g = some (.map (mapE plV ownV G2) R.kg) ∧ MOk R.F R.kf ∧ MOk G2 R.kg ∧ SMIs h2 G2 R.S := by
  subst hR
  refine makes_weaken (takeX_spec F G S hb_ hf_ hg_ okF okG hS ne_f_g ten clu epo rs ss hr hd hld hsm q1 q2 hinv hN) ?_
  rintro v h2 n2 hs hn hf ⟨w, os, G2, rfl, q, d, hf2, hg2, ok1, ok2, sm⟩
  obtain ⟨h3, w3, fr, k3, s3⟩ := q.freeze
  exact ⟨h3, w3, q.fresh hs s3, w, os.map serV, G2, rfl, FRow.ser fr, d.keep k3, s3 _ _ (OwnRow.notmap q hf2) hf2, s3 _ _ (OwnRow.notmap q hg2) hg2, ok1, ok2, sm.keep k3⟩
theorem MOk.one {κ ν : Type} {L : List (κ × ν × Nat)} {ck : Nat} (o : MOk L ck) {x y : κ × ν × Nat} (hx : x ∈ L) (hy : y ∈ L) (e : x.2.2 = y.2.2) : x = y := by
  have h := o.stamps
  clear o
  induction L with
  | nil => cases hx
  | cons a L ih =>
    simp only [List.map_cons, List.nodup_cons, List.mem_map] at h
    rcases List.mem_cons.1 hx with e1 | hx1
    · rcases List.mem_cons.1 hy with e2 | hy2
      · rw [e1, e2]
      · exact absurd ⟨y, hy2, by rw [← e, e1]⟩ h.1
    · rcases List.mem_cons.1 hy with e2 | hy2
      · exact absurd ⟨x, hx1, by rw [e, e2]⟩ h.1
      · exact ih hx1 hy2 h.2
def left {κ ν : Type} (L : List (κ × ν × Nat)) (seen : List Nat) : Nat := (L.filter fun x => decide (x.2.2 ∉ seen)).length
theorem SMIs.some {h : Heap} {G : SM} {S : SP} (q : SMIs h G S) (k : Pl) : (mget G k).isSome = (mget S k).isSome := by
  rcases q.get k with ⟨a, b⟩ | ⟨v, s, a, b, _⟩ <;> rw [a, b] <;> rfl
end Go.Proofs.YtkpaklofdkjinaaDoor
namespace Go.Proofs.YtkpaklofdkjinaaDoor
open Go Go.Abs Go.RowKit Go.Shelf
set_option maxRecDepth 100000
set_option maxHeartbeats 8000000
def plO (x : POwn) : Pl := (x.1, keyA x.2.1)
end Go.Proofs.YtkpaklofdkjinaaDoor
namespace Go.Abs
open Go
theorem SubBut.get2 {h h' : Heap} {x y b : Nat} {o : AObj} (s : SubBut h h' [x, y]) (hx : b ≠ x) (hy : b ≠ y) (e : h.get b = some o) : h'.get b = some o := s b o (by simp [hx, hy]) e
theorem SubBut.fresh2 {h h1 h2 : Heap} {S : List Nat} {x y : Nat} (a : SubBut h h1 S) (hx : h.get x = none) (hy : h.get y = none) (c : SubBut h1 h2 [x, y]) : SubBut h h2 S := fun b o hb e => by
  refine c b o ?_ (a b o hb e)
  intro hm
  simp only [List.mem_cons, List.not_mem_nil, or_false] at hm
  rcases hm with rfl | rfl
  · rw [hx] at e; cases e
  · rw [hy] at e; cases e
end Go.Abs
namespace Go.Proofs.YtkpaklofdkjinaaDoor
open Go Go.Abs Go.RowKit Go.Shelf
set_option maxRecDepth 100000
set_option maxHeartbeats 8000000
structure PSt where
  F : FM
  kf : Nat
  S : SP
  kg : Nat
def st0 : PSt := ⟨[], 0, [], 0⟩
def TkR.st (R : TkR) : PSt := ⟨R.F, R.kf, R.S, R.kg⟩
def takeP (P : PSt) (b : Bat) : TkR := takeR P.F P.kf P.S P.kg b
def runP (P : PSt) (bs : List Bat) : PSt := bs.foldl (fun P b => (takeP P b).st) P
theorem runP_snoc (P : PSt) (bs : List Bat) (b : Bat) : runP P (bs ++ [b]) = (takeP (runP P bs) b).st := by unfold runP; rw [List.foldl_append]; rfl
def okFence (x : Pl × Int × Nat) : Prop := nameB x.1.1 = true ∧ nameB x.1.2 = true ∧ 1 ≤ x.2.1 ∧ x.2.1 ≤ 1099511627776
structure PInv (i : Nat) (P : PSt) : Prop where
  inv : InvS (7200000 * i) P.S
  lenF : P.F.length ≤ i
  lenS : P.S.length ≤ 1200 * i
  fen : ∀ x ∈ P.F, okFence x
  okF : MOk P.F P.kf
  okS : MOk P.S P.kg
theorem PInv.zero : PInv 0 st0 := ⟨(fun x hx => by cases hx), Nat.le_refl _, Nat.le_refl _, (fun x hx => by cases hx), .nil, .nil⟩
theorem mset_len {κ ν : Type} [DecidableEq κ] (L : List (κ × ν × Nat)) (ck : Nat) (k : κ) (v : ν) : (mset L ck k v).length ≤ L.length + 1 := by
  unfold mset
  split
  · rw [List.length_modify]; omega
  · rw [List.length_append]; exact Nat.le_refl _
structure TInv (N m : Nat) (R : TSt) : Prop where
  inv : InvS N R.S
  len : R.S.length ≤ m
  ok : MOk R.S R.ck
theorem foldT_inv {ten : ByteArray} (hn : nameB ten = true) : ∀ (ss : List Ser) (R : TSt) (N m : Nat), (∀ s ∈ ss, mayB s.1 = true ∧ Small s) → TInv N m R → TInv (N + 6000 * ss.length) (m + ss.length) (foldT ten R ss) := by
  intro ss
  induction ss with
  | nil => intro R N m _ q; exact q
  | cons s ss ih =>
    intro R N m hs q
    have h1 := hs s (List.mem_cons_self ..)
    have := ih (stepT ten R s) (N + 6000) (m + 1) (fun x hx => hs x (List.mem_cons_of_mem _ hx)) (by
      refine ⟨q.inv.put hn h1.1 h1.2, ?_, ?_⟩
      · show (pS R.S R.ck ten s).length ≤ _
        unfold pS
        split
        · have := q.len; omega
        · have := mset_len R.S R.ck (ten, keyA s.1) (s.1, (pPut R.S ten s).1); have := q.len; omega
      · show MOk (pS R.S R.ck ten s) (pCk R.S R.ck ten s)
        unfold pS pCk
        split
        · exact q.ok
        · exact q.ok.set _ _)
    rw [List.length_cons, show N + 6000 * (ss.length + 1) = N + 6000 + 6000 * ss.length by omega, show m + (ss.length + 1) = m + 1 + ss.length by omega]
    exact this
theorem InvS.up {N M : Nat} {S : SP} (q : InvS N S) (h : N ≤ M) : InvS M S := fun x hx => by
  obtain ⟨a, b, c⟩ := q x hx
  exact ⟨a, by omega, c⟩
theorem haB_parts {b : Bat} (h : mayBat b = true) (hc : ¬ b.clu = ⟨#[]⟩) : nameB b.clu = true ∧ 1 ≤ b.epo ∧ b.epo ≤ 1099511627776 := by
  unfold mayBat haB at h
  simp only [Bool.and_eq_true, Bool.or_eq_true, decide_eq_true_eq] at h
  rcases h.1.2 with q | q
  · exact ⟨q.1, q.2.1, q.2.2⟩
  · exact absurd q.1 hc
theorem PInv.step {i : Nat} {P : PSt} (q : PInv i P) {b : Bat} (hs : Smalls b.ser) : PInv (i + 1) (takeP P b).st := by
  have up : PInv (i + 1) P := ⟨q.inv.up (by omega), by have := q.lenF; omega, by have := q.lenS; omega, q.fen, q.okF, q.okS⟩
  unfold takeP takeR
  split
  · exact up
  · rename_i hm
    have hm : mayBat b = true := by simpa using hm
    have hp := mayBat_parts hm
    have ht := foldT_inv hp.1 b.ser ⟨P.S, P.kg, [], 0⟩ (7200000 * i) (1200 * i) (fun s hs2 => ⟨(hp.2 s hs2).1, hs.2 s hs2⟩) ⟨q.inv, q.lenS, q.okS⟩
    have hl := hs.1
    split
    · exact ⟨ht.inv.up (by omega), by have := q.lenF; show P.F.length ≤ _; omega, by have := ht.len; show (foldT _ _ _).S.length ≤ _; omega, q.fen, q.okF, ht.ok⟩
    · rename_i hc
      split
      · exact up
      · refine ⟨ht.inv.up (by omega), ?_, by have := ht.len; show (foldT _ _ _).S.length ≤ _; omega, ?_, q.okF.set _ _, ht.ok⟩
        · show (mset _ _ _ _).length ≤ _
          have := mset_len P.F P.kf (b.ten, b.clu) b.epo; have := q.lenF; omega
        · intro x hx
          rcases mset_mem hx with hx | ⟨e1, e2⟩
          · exact q.fen x hx
          · obtain ⟨a1, a2, a3⟩ := haB_parts hm hc
            exact ⟨by rw [e1]; exact hp.1, by rw [e1]; exact a1, by rw [e2]; exact a2, by rw [e2]; exact a3⟩
theorem SersIs.one {h : Heap} {r : RSer} {s : Ser} (q : SerIs h r s) : SersIs h [r] [s] := by
  refine ⟨rfl, fun i r' s' a b => ?_⟩
  cases i with
  | zero => simp at a b; subst a; subst b; exact q
  | succ i => simp at a
/-! The examples. -/
def bT : ByteArray := ⟨#[116]⟩
def bX : ByteArray := ⟨#[120]⟩
def labAB : List Lab := [(⟨#[97]⟩, ⟨#[98]⟩)]
def aB1 : Bat := ⟨bT, bX, 2, [(labAB, [(10, 1)])]⟩
def aB2 : Bat := ⟨bT, bX, 1, [(labAB, [(30, 1)])]⟩
def aB3 : Bat := ⟨bT, bX, 2, [(labAB, [(10, 1), (10, 2), (5, 1), (20, 1)])]⟩
def aB4 : Bat := ⟨bT, ⟨#[]⟩, 0, [(labAB, [(20, 1)])]⟩
def aS1 : SP := [((bT, keyA labAB), (labAB, [(10, 1)]), 0)]
def aS2 : SP := [((bT, keyA labAB), (labAB, [(10, 1), (20, 1)]), 0)]
def aF : FM := [((bT, bX), 2, 0)]
def aR1 : TkR := ⟨0, aF, 1, aS1, 1, aB1, 0, true⟩
def aR2 : TkR := ⟨61, aF, 1, aS1, 1, ⟨⟨#[]⟩, ⟨#[]⟩, 0, []⟩, 0, false⟩
def aR3 : TkR := ⟨0, aF, 1, aS2, 1, ⟨bT, bX, 2, [(labAB, [(20, 1)])]⟩, 2, false⟩
def aR4 : TkR := ⟨0, aF, 1, aS2, 1, ⟨bT, ⟨#[]⟩, 0, []⟩, 0, false⟩
theorem aw1 : aR1 = takeP st0 aB1 := by kernel_rfl
theorem aw2 : aR2 = takeP aR1.st aB2 := by kernel_rfl
theorem aw3 : aR3 = takeP aR2.st aB3 := by kernel_rfl
theorem aw4 : aR4 = takeP aR3.st aB4 := by kernel_rfl
theorem smalls1 {xs : List Samp} (h : xs.length < 6000) : Smalls [(labAB, xs)] := ⟨by simp, fun s hs => by
  rw [List.mem_singleton] at hs
  subst hs
  refine ⟨by simp [labAB], h, fun x hx => ?_⟩
  simp only [labAB, List.mem_singleton] at hx
  subst hx
  exact ⟨by decide, by decide⟩⟩
theorem pi1 : PInv 1 aR1.st := by rw [aw1]; exact PInv.zero.step (smalls1 (by decide))
theorem pi2 : PInv 2 aR2.st := by rw [aw2]; exact pi1.step (smalls1 (by decide))
theorem pi3 : PInv 3 aR3.st := by rw [aw3]; exact pi2.step (smalls1 (by decide))
theorem allFz {h : Heap} {n : Nat} {b f g kf kg : Nat} {c : CI} (F : FM) (G : SM) (S : SP) (hb_ : h.get b = some (.cells [.map (some f), .map (some g)] true c)) (hf_ : h.get f = some (.map (mapE plV intV F) kf)) (hg_ : h.get g = some (.map (mapE plV ownV G) kg)) (okF : MOk F kf) (okG : MOk G kg) (hS : SMIs h G S) (ne_f_g : f ≠ g) {N : Nat} (hlen : S.length ≤ 1000000000000) (hinv : InvS N S) (hN : N < 1000000000000) :
    Makes Tryd.prog 15 [.pointer (some ⟨b, 0, none⟩)] h n [] fun v h2 _ => ∃ os, FRow encOwn h2 v os ∧ FOwns h2 os (allV S) := by
  refine makes_weaken (allX_spec F G S hb_ hf_ hg_ okF okG hS ne_f_g (by rw [hS.1]; exact hlen) hinv hN) ?_
  rintro v h2 n2 hs hn hf ⟨os, q, d⟩
  obtain ⟨h3, w3, fr, k3, s3⟩ := q.freeze
  exact ⟨h3, w3, q.fresh hs s3, os, fr, d.keep k3⟩
theorem batch_spec {h : Heap} {n : Nat} {a : Option Addr} {cp : Nat} (clu : ByteArray) (epo : Int) (xs : List Samp) (hx : IsRow encSmp h (.slice a xs.length cp) xs) :
    Makes Tryd.prog 25 [.string (clu), .int .i64 (epo), .slice a (xs.length) cp] h n ([]) (fun v h2 _ => ∃ w r, v = .agg #[.string bT, .string clu, .int .i64 epo, w] ∧ IsRow encSer h2 w [r] ∧ SersIs h2 [r] [(labAB, xs)]) := by
 refine Makes.free fun hf => ?_
 have hs : SubBut h h ([]) := .refl _ _
 have hn : n ≤ n := Nat.le_refl _
 have hf0 := hf
 refine Makes.of_bodyV (args := [.string (clu), .int .i64 (epo), .slice a (xs.length) cp]) (vs := [.string (clu), .int .i64 (epo), .slice a (xs.length) cp, undef, undef, undef, undef, undef, undef, undef, undef, undef, undef, undef, undef]) Tryd.func25 rfl rfl ?_
 refine AWp.seq (AWp.rowV (l := _) pok ?_)
 have z_n : h.get n = none := hf0 _ hn
 refine sq.op rfl rfl (Does.alloc (cs := [.string (⟨#[]⟩), .string (⟨#[]⟩), .int .i64 (0), .slice none (0) (0)]) hf (z := .agg #[.string (⟨#[]⟩), .string (⟨#[]⟩), .int .i64 (0), .slice none (0) (0)]) (by kernel_rfl) rfl) ?_
 rintro _ h2 n3 ⟨rfl, hb1⟩ s4 hn2 hf
 refine sq.w ?_
 have hs := hs.trans s4
 have hn := Nat.le_trans hn hn2
 refine sq.e (AWp.seq (AWp.rowV (l := _) pok ?_))
 refine sq.c (v := .string (clu)) rfl rfl rfl rfl ?_
 refine sq.c (v := .int .i64 (epo)) rfl rfl rfl rfl ?_
 refine sq.c (v := .agg #[.string (⟨#[97]⟩), .string (⟨#[98]⟩)]) rfl rfl (by kernel_rfl) rfl ?_
 have e_n_n3 : n ≠ n3 := hf.ne hb1
 refine sq.op rfl rfl (Does.build (e := 61) (cs := [.string (⟨#[97]⟩), .string (⟨#[98]⟩)]) hf (fun _ _ => by kernel_rfl)) ?_
 rintro _ h6 n7 ⟨rfl, hb5⟩ s8 hn2 hf
 refine sq.w ?_
 have hb1 := s8.sub _ _ hb1
 have hs := hs.trans s8
 have hn := Nat.le_trans hn hn2
 refine sq.c (v := .slice a (xs.length) cp) rfl rfl rfl rfl ?_
 refine sq.c (v := .agg #[.slice (some ⟨n3, 0, none⟩) (1) (1), .slice a (xs.length) cp]) rfl rfl (by kernel_rfl) rfl ?_
 have e_n_n7 : n ≠ n7 := hf.ne hb1
 refine sq.op rfl rfl (Does.build (e := 43) (cs := [.slice (some ⟨n3, 0, none⟩) (1) (1), .slice a (xs.length) cp]) hf (fun _ _ => by kernel_rfl)) ?_
 rintro _ h10 n11 ⟨rfl, hb9⟩ s12 hn2 hf
 refine sq.w ?_
 have hb1 := s12.sub _ _ hb1
 have hb5 := s12.sub _ _ hb5
 have hs := hs.trans s12
 have hn := Nat.le_trans hn hn2
 refine sq.c (v := .agg #[.string (⟨#[116]⟩), .string (clu), .int .i64 (epo), .slice (some ⟨n7, 0, none⟩) (1) (1)]) rfl rfl (by kernel_rfl) rfl ?_
 refine sq.op rfl rfl (Does.store (k := 4) (xs := [.string (⟨#[116]⟩), .string (clu), .int .i64 (epo), .slice (some ⟨n7, 0, none⟩) (1) (1)]) (cs' := [.string (⟨#[116]⟩), .string (clu), .int .i64 (epo), .slice (some ⟨n7, 0, none⟩) (1) (1)]) hf (by kernel_rfl) rfl rfl rfl hb1 rfl rfl (Nat.le_of_ble_eq_true rfl) rfl) ?_
 rintro _ h14 n15 ⟨rfl, hb13⟩ s16 hn2 hf
 refine sq.w0 ?_
 have hb5 := s16.get1 (Ne.symm e_n_n3) hb5
 have hb9 := s16.get1 (Ne.symm e_n_n7) hb9
 have hs := hs.fresh z_n s16
 have hn := Nat.le_trans hn hn2
 refine sq.e ?_
 refine AWp.ret ?_
 refine ⟨rfl, [.agg #[.string (⟨#[116]⟩), .string (clu), .int .i64 (epo), .slice (some ⟨n7, 0, none⟩) (1) (1)]], (res_cell (ldA (P := Tryd.prog) (t := 31) (p := 0) (k := 4) (xs := [.string (⟨#[116]⟩), .string (clu), .int .i64 (epo), .slice (some ⟨n7, 0, none⟩) (1) (1)]) (by kernel_rfl) (by kernel_rfl) hb13 rfl (Nat.le_of_ble_eq_true rfl))), .agg #[.string (⟨#[116]⟩), .string (clu), .int .i64 (epo), .slice (some ⟨n7, 0, none⟩) (1) (1)], rfl, hs, hn, ?_⟩
 refine ⟨_, (.slice (some ⟨n3, 0, none⟩) (1) (1), .slice a (xs.length) cp), rfl, IsRow.of (E := encSer) (xs := [(.slice (some ⟨n3, 0, none⟩) (1) (1), .slice a (xs.length) cp)]) (cap := 1) hb9 (Nat.le_refl _), SersIs.one ⟨?_, (hx.keep hs)⟩⟩
 exact IsRow.of (E := encLab) (xs := labAB) (cap := 1) hb5 (Nat.le_refl _)
theorem awake_spec {h : Heap} {n : Nat} (hld : Laid0 h) :
    Tells Tryd.prog 10 [] h n (.bool true) := by
 refine Makes.tells (Makes.free fun hf => ?_)
 have hs : SubBut h h ([]) := .refl _ _
 have hn : n ≤ n := Nat.le_refl _
 have hf0 := hf
 refine Makes.of_bodyV (args := []) (vs := [undef, undef, undef, undef, undef, undef, undef, undef, undef, undef, undef, undef, undef, undef, undef, undef, undef, undef, undef, undef, undef, undef, undef, undef, undef, undef, undef, undef, undef, undef, undef, undef, undef, undef, undef, undef, undef, undef, undef, undef, undef, undef, undef, undef, undef, undef, undef, undef, undef, undef, undef, undef, undef, undef, undef, undef, undef, undef, undef, undef, undef, undef, undef, undef, undef, undef, undef, undef, undef, undef, undef, undef, undef, undef, undef, undef, undef, undef, undef, undef, undef, undef, undef, undef, undef, undef, undef, undef, undef, undef, undef, undef, undef, undef, undef, undef, undef, undef, undef, undef, undef, undef, undef, undef, undef, undef, undef, undef, undef, undef, undef, undef, undef, undef, undef, undef, undef, undef, undef, undef, undef, undef, undef]) Tryd.func10 rfl rfl ?_
 refine AWp.seq (AWp.rowV (l := _) pok ?_)
 refine sq.c (v := .bool false) rfl rfl rfl rfl ?_
 refine sq.e (AWp.seq (AWp.rowV (l := _) pok ?_))
 refine sq.k rfl (CallsF.fn rfl (by kernel_rfl) rfl rfl) (new_spec) ?_
 rintro _ h1 n2 ⟨b, f, g, rfl, hb_, hf_, hg_, y_b, y_f, y_g, ne_f_g⟩ s3 hn2 hf
 have z_f := sub_none hs y_f
 have z_g := sub_none hs y_g
 have ne_b_f : b ≠ f := by intro e; subst e; rw [hb_] at hf_; cases hf_
 have ne_b_g : b ≠ g := by intro e; subst e; rw [hb_] at hg_; cases hg_
 have okF : MOk ([] : FM) 0 := .nil
 have okG : MOk ([] : SM) 0 := .nil
 refine sq.w ?_
 have hs := hs.trans s3
 have hn := Nat.le_trans hn hn2
 have hS : SMIs h1 ([] : SM) ([] : SP) := SMIs.nil _
 refine sq.c (v := .pointer (some ⟨b, 0, none⟩)) rfl rfl rfl rfl ?_
 refine sq.e (AWp.seq (AWp.rowV (l := _) pok ?_))
 refine sq.c (v := .pointer (some ⟨b, 0, none⟩)) rfl rfl rfl rfl ?_
 refine sq.c (v := .agg #[.int .i64 (10), .int .u64 (1)]) rfl rfl (by kernel_rfl) rfl ?_
 refine sq.op rfl rfl (Does.build (e := 53) (cs := [.int .i64 (10), .int .u64 (1)]) hf (fun _ _ => by kernel_rfl)) ?_
 rintro _ h5 n6 ⟨rfl, hb4⟩ s7 hn2 hf
 refine sq.w ?_
 have hS := hS.keep (.of0 s7)
 have hb_ := s7.sub _ _ hb_
 have hf_ := s7.sub _ _ hf_
 have hg_ := s7.sub _ _ hg_
 have hs := hs.trans s7
 have hn := Nat.le_trans hn hn2
 refine sq.k rfl (CallsF.fn rfl (by kernel_rfl) rfl rfl) (batch_spec (⟨#[120]⟩ : ByteArray) 2 [(10, 1)] (IsRow.of (E := encSmp) (xs := [(10, 1)]) (cap := 1) hb4 (Nat.le_refl _))) ?_
 rintro _ h8 n9 ⟨w_b7, r_b7, rfl, R_b7, E_b7⟩ s10 hn2 hf
 obtain ⟨a_b7, c_b7, e_b7⟩ := R_b7.slice
 cases e_b7
 change IsRow encSer _ (.slice a_b7 1 c_b7) [r_b7] at R_b7
 refine sq.w ?_
 have hS := hS.keep (.of0 s10)
 have hb_ := s10.sub _ _ hb_
 have hf_ := s10.sub _ _ hf_
 have hg_ := s10.sub _ _ hg_
 have hs := hs.trans s10
 have hn := Nat.le_trans hn hn2
 refine sq.k rfl (CallsF.fn rfl (by kernel_rfl) rfl rfl) (takeSt (R := aR1) _ _ _ hb_ hf_ hg_ okF okG hS (ne_f_g) _ _ _ _ _ R_b7 E_b7 (hld.keep hs) (smalls1 (by decide)) (by decide) (by decide) (InvS.up PInv.zero.inv (Nat.le_refl 0)) (by omega) aw1) ?_
 rintro _ h11 n12 ⟨w_t1, os_t1, G_t1, rfl, W_t1, D_t1, hf_t1, hg_t1, okF_t1, okG_t1, hS_t1⟩ s13 hn2 hf
 obtain ⟨a_t1, c_t1, rfl⟩ := W_t1.slice
 refine sq.w ?_
 have nc_s13 : NoCells _ [f, g] := .cons hf_ (.cons hg_ (.nil _))
 have E_b7 := E_b7.noc s13 nc_s13
 have hb_ := s13.get2 (ne_b_f) (ne_b_g) hb_
 have hs := hs.fresh2 z_f z_g s13
 have hn := Nat.le_trans hn hn2
 have hS := hS_t1
 refine sq.c (v := .tuple #[.agg #[.string (bT), .string (bX), .int .i64 (2), .slice a_t1 (os_t1.length) c_t1, .int .i64 (0), .bool true], .int .i64 (0)]) rfl rfl rfl rfl ?_
 refine sq.c (v := .agg #[.string (bT), .string (bX), .int .i64 (2), .slice a_t1 (os_t1.length) c_t1, .int .i64 (0), .bool true]) rfl rfl rfl rfl ?_
 refine sq.c (v := .int .i64 (0)) rfl rfl rfl rfl ?_
 have e_b_n12 : b ≠ n12 := hf.ne hb_
 have e_f_n12 : f ≠ n12 := hf.ne hf_t1
 have e_g_n12 : g ≠ n12 := hf.ne hg_t1
 have z_n12 : h.get n12 = none := hf0 _ hn
 refine sq.op rfl rfl (Does.alloc (cs := [.string (⟨#[]⟩), .string (⟨#[]⟩), .int .i64 (0), .slice none (0) (0), .int .i64 (0), .bool false]) hf (z := .agg #[.string (⟨#[]⟩), .string (⟨#[]⟩), .int .i64 (0), .slice none (0) (0), .int .i64 (0), .bool false]) (by kernel_rfl) rfl) ?_
 rintro _ h15 n16 ⟨rfl, hb14⟩ s17 hn2 hf
 refine sq.w ?_
 have hS := hS.keep (.of0 s17)
 have W_t1 := W_t1.keep (.of0 s17)
 have D_t1 := D_t1.keep (.of0 s17)
 have hb_ := s17.sub _ _ hb_
 have hf_t1 := s17.sub _ _ hf_t1
 have hg_t1 := s17.sub _ _ hg_t1
 have hs := hs.trans s17
 have hn := Nat.le_trans hn hn2
 refine sq.op rfl rfl (Does.store (k := 6) (xs := [.string (bT), .string (bX), .int .i64 (2), .slice a_t1 (os_t1.length) c_t1, .int .i64 (0), .bool true]) (cs' := [.string (bT), .string (bX), .int .i64 (2), .slice a_t1 (os_t1.length) c_t1, .int .i64 (0), .bool true]) hf (by kernel_rfl) rfl rfl rfl hb14 rfl rfl (Nat.le_of_ble_eq_true rfl) rfl) ?_
 rintro _ h19 n20 ⟨rfl, hb18⟩ s21 hn2 hf
 refine sq.w0 ?_
 have hS := hS.keep (.own s21 hb14 rfl)
 have W_t1 := W_t1.keep (.own s21 hb14 rfl)
 have D_t1 := D_t1.keep (.own s21 hb14 rfl)
 have hb_ := s21.get1 (e_b_n12) hb_
 have hf_t1 := s21.get1 (e_f_n12) hf_t1
 have hg_t1 := s21.get1 (e_g_n12) hg_t1
 have hs := hs.fresh z_n12 s21
 have hn := Nat.le_trans hn hn2
 refine sq.c (v := .int .i64 (0)) rfl rfl rfl rfl ?_
 refine sq.e (AWp.seq (AWp.rowV (l := _) pok ?_))
 refine sq.c (v := .pointer (some ⟨b, 0, none⟩)) rfl rfl rfl rfl ?_
 refine sq.c (v := .agg #[.int .i64 (30), .int .u64 (1)]) rfl rfl (by kernel_rfl) rfl ?_
 refine sq.op rfl rfl (Does.build (e := 53) (cs := [.int .i64 (30), .int .u64 (1)]) hf (fun _ _ => by kernel_rfl)) ?_
 rintro _ h23 n24 ⟨rfl, hb22⟩ s25 hn2 hf
 refine sq.w ?_
 have hS := hS.keep (.of0 s25)
 have W_t1 := W_t1.keep (.of0 s25)
 have D_t1 := D_t1.keep (.of0 s25)
 have hb_ := s25.sub _ _ hb_
 have hf_t1 := s25.sub _ _ hf_t1
 have hg_t1 := s25.sub _ _ hg_t1
 have hb18 := s25.sub _ _ hb18
 have hs := hs.trans s25
 have hn := Nat.le_trans hn hn2
 refine sq.k rfl (CallsF.fn rfl (by kernel_rfl) rfl rfl) (batch_spec (⟨#[120]⟩ : ByteArray) 1 [(30, 1)] (IsRow.of (E := encSmp) (xs := [(30, 1)]) (cap := 1) hb22 (Nat.le_refl _))) ?_
 rintro _ h26 n27 ⟨w_b25, r_b25, rfl, R_b25, E_b25⟩ s28 hn2 hf
 obtain ⟨a_b25, c_b25, e_b25⟩ := R_b25.slice
 cases e_b25
 change IsRow encSer _ (.slice a_b25 1 c_b25) [r_b25] at R_b25
 refine sq.w ?_
 have hS := hS.keep (.of0 s28)
 have W_t1 := W_t1.keep (.of0 s28)
 have D_t1 := D_t1.keep (.of0 s28)
 have hb_ := s28.sub _ _ hb_
 have hf_t1 := s28.sub _ _ hf_t1
 have hg_t1 := s28.sub _ _ hg_t1
 have hb18 := s28.sub _ _ hb18
 have hs := hs.trans s28
 have hn := Nat.le_trans hn hn2
 refine sq.k rfl (CallsF.fn rfl (by kernel_rfl) rfl rfl) (takeSt (R := aR2) _ _ _ hb_ hf_t1 hg_t1 okF_t1 okG_t1 hS (ne_f_g) _ _ _ _ _ R_b25 E_b25 (hld.keep hs) (smalls1 (by decide)) (by decide) (by decide) pi1.inv (by omega) aw2) ?_
 rintro _ h29 n30 ⟨w_t2, os_t2, G_t2, rfl, W_t2, D_t2, hf_t2, hg_t2, okF_t2, okG_t2, hS_t2⟩ s31 hn2 hf
 obtain ⟨a_t2, c_t2, rfl⟩ := W_t2.slice
 refine sq.w ?_
 have ours_s31 : Ours _ [f, g] := .cons hf_t1 rfl (.cons hg_t1 rfl (.nil _))
 have nc_s31 : NoCells _ [f, g] := .cons hf_t1 (.cons hg_t1 (.nil _))
 have W_t1 := W_t1.keep (.of s31 ours_s31)
 have D_t1 := D_t1.keep (.of s31 ours_s31)
 have E_b25 := E_b25.noc s31 nc_s31
 have hb_ := s31.get2 (ne_b_f) (ne_b_g) hb_
 have hb18 := s31.get2 (Ne.symm e_f_n12) (Ne.symm e_g_n12) hb18
 have hs := hs.fresh2 z_f z_g s31
 have hn := Nat.le_trans hn hn2
 have hS := hS_t2
 refine sq.c (v := .tuple #[.agg #[.string (⟨#[]⟩), .string (⟨#[]⟩), .int .i64 (0), .slice a_t2 (os_t2.length) c_t2, .int .i64 (0), .bool false], .int .i64 (61)]) rfl rfl rfl rfl ?_
 refine sq.c (v := .agg #[.string (⟨#[]⟩), .string (⟨#[]⟩), .int .i64 (0), .slice a_t2 (os_t2.length) c_t2, .int .i64 (0), .bool false]) rfl rfl rfl rfl ?_
 refine sq.c (v := .int .i64 (61)) rfl rfl rfl rfl ?_
 have e_b_n30 : b ≠ n30 := hf.ne hb_
 have e_f_n30 : f ≠ n30 := hf.ne hf_t2
 have e_g_n30 : g ≠ n30 := hf.ne hg_t2
 have e_n12_n30 : n12 ≠ n30 := hf.ne hb18
 have z_n30 : h.get n30 = none := hf0 _ hn
 refine sq.op rfl rfl (Does.alloc (cs := [.string (⟨#[]⟩), .string (⟨#[]⟩), .int .i64 (0), .slice none (0) (0), .int .i64 (0), .bool false]) hf (z := .agg #[.string (⟨#[]⟩), .string (⟨#[]⟩), .int .i64 (0), .slice none (0) (0), .int .i64 (0), .bool false]) (by kernel_rfl) rfl) ?_
 rintro _ h33 n34 ⟨rfl, hb32⟩ s35 hn2 hf
 refine sq.w ?_
 have W_t1 := W_t1.keep (.of0 s35)
 have D_t1 := D_t1.keep (.of0 s35)
 have hS := hS.keep (.of0 s35)
 have hb_ := s35.sub _ _ hb_
 have hf_t2 := s35.sub _ _ hf_t2
 have hg_t2 := s35.sub _ _ hg_t2
 have hb18 := s35.sub _ _ hb18
 have hs := hs.trans s35
 have hn := Nat.le_trans hn hn2
 refine sq.op rfl rfl (Does.store (k := 6) (xs := [.string (⟨#[]⟩), .string (⟨#[]⟩), .int .i64 (0), .slice a_t2 (os_t2.length) c_t2, .int .i64 (0), .bool false]) (cs' := [.string (⟨#[]⟩), .string (⟨#[]⟩), .int .i64 (0), .slice a_t2 (os_t2.length) c_t2, .int .i64 (0), .bool false]) hf (by kernel_rfl) rfl rfl rfl hb32 rfl rfl (Nat.le_of_ble_eq_true rfl) rfl) ?_
 rintro _ h37 n38 ⟨rfl, hb36⟩ s39 hn2 hf
 refine sq.w0 ?_
 have W_t1 := W_t1.keep (.own s39 hb32 rfl)
 have D_t1 := D_t1.keep (.own s39 hb32 rfl)
 have hS := hS.keep (.own s39 hb32 rfl)
 have hb_ := s39.get1 (e_b_n30) hb_
 have hf_t2 := s39.get1 (e_f_n30) hf_t2
 have hg_t2 := s39.get1 (e_g_n30) hg_t2
 have hb18 := s39.get1 (e_n12_n30) hb18
 have hs := hs.fresh z_n30 s39
 have hn := Nat.le_trans hn hn2
 refine sq.c (v := .int .i64 (61)) rfl rfl rfl rfl ?_
 refine sq.e (AWp.seq (AWp.rowV (l := _) pok ?_))
 refine sq.c (v := .pointer (some ⟨b, 0, none⟩)) rfl rfl rfl rfl ?_
 refine sq.c (v := .agg #[.int .i64 (10), .int .u64 (1)]) rfl rfl (by kernel_rfl) rfl ?_
 refine sq.c (v := .agg #[.int .i64 (10), .int .u64 (2)]) rfl rfl (by kernel_rfl) rfl ?_
 refine sq.c (v := .agg #[.int .i64 (5), .int .u64 (1)]) rfl rfl (by kernel_rfl) rfl ?_
 refine sq.c (v := .agg #[.int .i64 (20), .int .u64 (1)]) rfl rfl (by kernel_rfl) rfl ?_
 refine sq.op rfl rfl (Does.build (e := 53) (cs := [.int .i64 (10), .int .u64 (1), .int .i64 (10), .int .u64 (2), .int .i64 (5), .int .u64 (1), .int .i64 (20), .int .u64 (1)]) hf (fun _ _ => by kernel_rfl)) ?_
 rintro _ h41 n42 ⟨rfl, hb40⟩ s43 hn2 hf
 refine sq.w ?_
 have W_t1 := W_t1.keep (.of0 s43)
 have D_t1 := D_t1.keep (.of0 s43)
 have hS := hS.keep (.of0 s43)
 have hb_ := s43.sub _ _ hb_
 have hf_t2 := s43.sub _ _ hf_t2
 have hg_t2 := s43.sub _ _ hg_t2
 have hb18 := s43.sub _ _ hb18
 have hs := hs.trans s43
 have hn := Nat.le_trans hn hn2
 refine sq.k rfl (CallsF.fn rfl (by kernel_rfl) rfl rfl) (batch_spec (⟨#[120]⟩ : ByteArray) 2 [(10, 1), (10, 2), (5, 1), (20, 1)] (IsRow.of (E := encSmp) (xs := [(10, 1), (10, 2), (5, 1), (20, 1)]) (cap := 4) hb40 (Nat.le_refl _))) ?_
 rintro _ h44 n45 ⟨w_b43, r_b43, rfl, R_b43, E_b43⟩ s46 hn2 hf
 obtain ⟨a_b43, c_b43, e_b43⟩ := R_b43.slice
 cases e_b43
 change IsRow encSer _ (.slice a_b43 1 c_b43) [r_b43] at R_b43
 refine sq.w ?_
 have W_t1 := W_t1.keep (.of0 s46)
 have D_t1 := D_t1.keep (.of0 s46)
 have hS := hS.keep (.of0 s46)
 have hb_ := s46.sub _ _ hb_
 have hf_t2 := s46.sub _ _ hf_t2
 have hg_t2 := s46.sub _ _ hg_t2
 have hb18 := s46.sub _ _ hb18
 have hs := hs.trans s46
 have hn := Nat.le_trans hn hn2
 refine sq.k rfl (CallsF.fn rfl (by kernel_rfl) rfl rfl) (takeSt (R := aR3) _ _ _ hb_ hf_t2 hg_t2 okF_t2 okG_t2 hS (ne_f_g) _ _ _ _ _ R_b43 E_b43 (hld.keep hs) (smalls1 (by decide)) (by decide) (by decide) pi2.inv (by omega) aw3) ?_
 rintro _ h47 n48 ⟨w_t3, os_t3, G_t3, rfl, W_t3, D_t3, hf_t3, hg_t3, okF_t3, okG_t3, hS_t3⟩ s49 hn2 hf
 obtain ⟨a_t3, c_t3, rfl⟩ := W_t3.slice
 refine sq.w ?_
 have ours_s49 : Ours _ [f, g] := .cons hf_t2 rfl (.cons hg_t2 rfl (.nil _))
 have nc_s49 : NoCells _ [f, g] := .cons hf_t2 (.cons hg_t2 (.nil _))
 have W_t1 := W_t1.keep (.of s49 ours_s49)
 have D_t1 := D_t1.keep (.of s49 ours_s49)
 have E_b43 := E_b43.noc s49 nc_s49
 have hb_ := s49.get2 (ne_b_f) (ne_b_g) hb_
 have hb18 := s49.get2 (Ne.symm e_f_n12) (Ne.symm e_g_n12) hb18
 have hs := hs.fresh2 z_f z_g s49
 have hn := Nat.le_trans hn hn2
 have hS := hS_t3
 refine sq.c (v := .tuple #[.agg #[.string (bT), .string (bX), .int .i64 (2), .slice a_t3 (os_t3.length) c_t3, .int .i64 (2), .bool false], .int .i64 (0)]) rfl rfl rfl rfl ?_
 refine sq.c (v := .agg #[.string (bT), .string (bX), .int .i64 (2), .slice a_t3 (os_t3.length) c_t3, .int .i64 (2), .bool false]) rfl rfl rfl rfl ?_
 refine sq.c (v := .int .i64 (0)) rfl rfl rfl rfl ?_
 have e_b_n48 : b ≠ n48 := hf.ne hb_
 have e_f_n48 : f ≠ n48 := hf.ne hf_t3
 have e_g_n48 : g ≠ n48 := hf.ne hg_t3
 have e_n12_n48 : n12 ≠ n48 := hf.ne hb18
 have z_n48 : h.get n48 = none := hf0 _ hn
 refine sq.op rfl rfl (Does.alloc (cs := [.string (⟨#[]⟩), .string (⟨#[]⟩), .int .i64 (0), .slice none (0) (0), .int .i64 (0), .bool false]) hf (z := .agg #[.string (⟨#[]⟩), .string (⟨#[]⟩), .int .i64 (0), .slice none (0) (0), .int .i64 (0), .bool false]) (by kernel_rfl) rfl) ?_
 rintro _ h51 n52 ⟨rfl, hb50⟩ s53 hn2 hf
 refine sq.w ?_
 have W_t1 := W_t1.keep (.of0 s53)
 have D_t1 := D_t1.keep (.of0 s53)
 have hS := hS.keep (.of0 s53)
 have W_t3 := W_t3.keep (.of0 s53)
 have D_t3 := D_t3.keep (.of0 s53)
 have hb_ := s53.sub _ _ hb_
 have hf_t3 := s53.sub _ _ hf_t3
 have hg_t3 := s53.sub _ _ hg_t3
 have hb18 := s53.sub _ _ hb18
 have hs := hs.trans s53
 have hn := Nat.le_trans hn hn2
 refine sq.op rfl rfl (Does.store (k := 6) (xs := [.string (bT), .string (bX), .int .i64 (2), .slice a_t3 (os_t3.length) c_t3, .int .i64 (2), .bool false]) (cs' := [.string (bT), .string (bX), .int .i64 (2), .slice a_t3 (os_t3.length) c_t3, .int .i64 (2), .bool false]) hf (by kernel_rfl) rfl rfl rfl hb50 rfl rfl (Nat.le_of_ble_eq_true rfl) rfl) ?_
 rintro _ h55 n56 ⟨rfl, hb54⟩ s57 hn2 hf
 refine sq.w0 ?_
 have W_t1 := W_t1.keep (.own s57 hb50 rfl)
 have D_t1 := D_t1.keep (.own s57 hb50 rfl)
 have hS := hS.keep (.own s57 hb50 rfl)
 have W_t3 := W_t3.keep (.own s57 hb50 rfl)
 have D_t3 := D_t3.keep (.own s57 hb50 rfl)
 have hb_ := s57.get1 (e_b_n48) hb_
 have hf_t3 := s57.get1 (e_f_n48) hf_t3
 have hg_t3 := s57.get1 (e_g_n48) hg_t3
 have hb18 := s57.get1 (e_n12_n48) hb18
 have hs := hs.fresh z_n48 s57
 have hn := Nat.le_trans hn hn2
 refine sq.c (v := .int .i64 (0)) rfl rfl rfl rfl ?_
 refine sq.e (AWp.seq (AWp.rowV (l := _) pok ?_))
 refine sq.c (v := .pointer (some ⟨b, 0, none⟩)) rfl rfl rfl rfl ?_
 refine sq.c (v := .agg #[.int .i64 (20), .int .u64 (1)]) rfl rfl (by kernel_rfl) rfl ?_
 refine sq.op rfl rfl (Does.build (e := 53) (cs := [.int .i64 (20), .int .u64 (1)]) hf (fun _ _ => by kernel_rfl)) ?_
 rintro _ h59 n60 ⟨rfl, hb58⟩ s61 hn2 hf
 refine sq.w ?_
 have W_t1 := W_t1.keep (.of0 s61)
 have D_t1 := D_t1.keep (.of0 s61)
 have hS := hS.keep (.of0 s61)
 have W_t3 := W_t3.keep (.of0 s61)
 have D_t3 := D_t3.keep (.of0 s61)
 have hb_ := s61.sub _ _ hb_
 have hf_t3 := s61.sub _ _ hf_t3
 have hg_t3 := s61.sub _ _ hg_t3
 have hb18 := s61.sub _ _ hb18
 have hb54 := s61.sub _ _ hb54
 have hs := hs.trans s61
 have hn := Nat.le_trans hn hn2
 refine sq.k rfl (CallsF.fn rfl (by kernel_rfl) rfl rfl) (batch_spec (⟨#[]⟩ : ByteArray) 0 [(20, 1)] (IsRow.of (E := encSmp) (xs := [(20, 1)]) (cap := 1) hb58 (Nat.le_refl _))) ?_
 rintro _ h62 n63 ⟨w_b61, r_b61, rfl, R_b61, E_b61⟩ s64 hn2 hf
 obtain ⟨a_b61, c_b61, e_b61⟩ := R_b61.slice
 cases e_b61
 change IsRow encSer _ (.slice a_b61 1 c_b61) [r_b61] at R_b61
 refine sq.w ?_
 have W_t1 := W_t1.keep (.of0 s64)
 have D_t1 := D_t1.keep (.of0 s64)
 have hS := hS.keep (.of0 s64)
 have W_t3 := W_t3.keep (.of0 s64)
 have D_t3 := D_t3.keep (.of0 s64)
 have hb_ := s64.sub _ _ hb_
 have hf_t3 := s64.sub _ _ hf_t3
 have hg_t3 := s64.sub _ _ hg_t3
 have hb18 := s64.sub _ _ hb18
 have hb54 := s64.sub _ _ hb54
 have hs := hs.trans s64
 have hn := Nat.le_trans hn hn2
 refine sq.k rfl (CallsF.fn rfl (by kernel_rfl) rfl rfl) (takeSt (R := aR4) _ _ _ hb_ hf_t3 hg_t3 okF_t3 okG_t3 hS (ne_f_g) _ _ _ _ _ R_b61 E_b61 (hld.keep hs) (smalls1 (by decide)) (by decide) (by decide) pi3.inv (by omega) aw4) ?_
 rintro _ h65 n66 ⟨w_t4, os_t4, G_t4, rfl, W_t4, D_t4, hf_t4, hg_t4, okF_t4, okG_t4, hS_t4⟩ s67 hn2 hf
 obtain ⟨a_t4, c_t4, rfl⟩ := W_t4.slice
 refine sq.w ?_
 have ours_s67 : Ours _ [f, g] := .cons hf_t3 rfl (.cons hg_t3 rfl (.nil _))
 have nc_s67 : NoCells _ [f, g] := .cons hf_t3 (.cons hg_t3 (.nil _))
 have W_t1 := W_t1.keep (.of s67 ours_s67)
 have D_t1 := D_t1.keep (.of s67 ours_s67)
 have W_t3 := W_t3.keep (.of s67 ours_s67)
 have D_t3 := D_t3.keep (.of s67 ours_s67)
 have E_b61 := E_b61.noc s67 nc_s67
 have hb_ := s67.get2 (ne_b_f) (ne_b_g) hb_
 have hb18 := s67.get2 (Ne.symm e_f_n12) (Ne.symm e_g_n12) hb18
 have hb54 := s67.get2 (Ne.symm e_f_n48) (Ne.symm e_g_n48) hb54
 have hs := hs.fresh2 z_f z_g s67
 have hn := Nat.le_trans hn hn2
 have hS := hS_t4
 refine sq.c (v := .tuple #[.agg #[.string (bT), .string (⟨#[]⟩), .int .i64 (0), .slice a_t4 (os_t4.length) c_t4, .int .i64 (0), .bool false], .int .i64 (0)]) rfl rfl rfl rfl ?_
 refine sq.c (v := .agg #[.string (bT), .string (⟨#[]⟩), .int .i64 (0), .slice a_t4 (os_t4.length) c_t4, .int .i64 (0), .bool false]) rfl rfl rfl rfl ?_
 refine sq.c (v := .int .i64 (0)) rfl rfl rfl rfl ?_
 have e_b_n66 : b ≠ n66 := hf.ne hb_
 have e_f_n66 : f ≠ n66 := hf.ne hf_t4
 have e_g_n66 : g ≠ n66 := hf.ne hg_t4
 have e_n12_n66 : n12 ≠ n66 := hf.ne hb18
 have e_n48_n66 : n48 ≠ n66 := hf.ne hb54
 have z_n66 : h.get n66 = none := hf0 _ hn
 refine sq.op rfl rfl (Does.alloc (cs := [.string (⟨#[]⟩), .string (⟨#[]⟩), .int .i64 (0), .slice none (0) (0), .int .i64 (0), .bool false]) hf (z := .agg #[.string (⟨#[]⟩), .string (⟨#[]⟩), .int .i64 (0), .slice none (0) (0), .int .i64 (0), .bool false]) (by kernel_rfl) rfl) ?_
 rintro _ h69 n70 ⟨rfl, hb68⟩ s71 hn2 hf
 refine sq.w ?_
 have W_t1 := W_t1.keep (.of0 s71)
 have D_t1 := D_t1.keep (.of0 s71)
 have W_t3 := W_t3.keep (.of0 s71)
 have D_t3 := D_t3.keep (.of0 s71)
 have hS := hS.keep (.of0 s71)
 have D_t4 := D_t4.keep (.of0 s71)
 have hb_ := s71.sub _ _ hb_
 have hf_t4 := s71.sub _ _ hf_t4
 have hg_t4 := s71.sub _ _ hg_t4
 have hb18 := s71.sub _ _ hb18
 have hb54 := s71.sub _ _ hb54
 have hs := hs.trans s71
 have hn := Nat.le_trans hn hn2
 refine sq.op rfl rfl (Does.store (k := 6) (xs := [.string (bT), .string (⟨#[]⟩), .int .i64 (0), .slice a_t4 (os_t4.length) c_t4, .int .i64 (0), .bool false]) (cs' := [.string (bT), .string (⟨#[]⟩), .int .i64 (0), .slice a_t4 (os_t4.length) c_t4, .int .i64 (0), .bool false]) hf (by kernel_rfl) rfl rfl rfl hb68 rfl rfl (Nat.le_of_ble_eq_true rfl) rfl) ?_
 rintro _ h73 n74 ⟨rfl, hb72⟩ s75 hn2 hf
 refine sq.w0 ?_
 have W_t1 := W_t1.keep (.own s75 hb68 rfl)
 have D_t1 := D_t1.keep (.own s75 hb68 rfl)
 have W_t3 := W_t3.keep (.own s75 hb68 rfl)
 have D_t3 := D_t3.keep (.own s75 hb68 rfl)
 have hS := hS.keep (.own s75 hb68 rfl)
 have D_t4 := D_t4.keep (.own s75 hb68 rfl)
 have hb_ := s75.get1 (e_b_n66) hb_
 have hf_t4 := s75.get1 (e_f_n66) hf_t4
 have hg_t4 := s75.get1 (e_g_n66) hg_t4
 have hb18 := s75.get1 (e_n12_n66) hb18
 have hb54 := s75.get1 (e_n48_n66) hb54
 have hs := hs.fresh z_n66 s75
 have hn := Nat.le_trans hn hn2
 refine sq.c (v := .int .i64 (0)) rfl rfl rfl rfl ?_
 refine sq.e (AWp.seq ?_)
 refine AWp.anyK pok [0, 1, 2, 3, 4, 5, 6, 7, 8, 9, 10, 11, 12, 13, 14, 15, 16, 17, 18, 19, 20, 21, 22, 23, 24, 25, 26, 27, 28, 29, 30, 31, 32, 33, 34, 35, 36, 37, 38, 39, 40, 41, 42, 43, 44, 45, 46, 47, 48, 49, 50, 51, 52, 53, 54, 55, 56, 57, 58, 59, 60, 61, 62, 63, 64, 65, 66, 67, 68, 69, 70, 71, 72, 73, 74, 75, 76, 77] (by kernel_rfl) (by kernel_rfl) rfl (fun x fr fr' h n hd _ q => ⟨hd ▸ q.1, q.2⟩) ?_
 refine dk.c (v := .int .i64 (0)) rfl (by kernel_rfl) rfl rfl rfl rfl ?_
 refine dk.c (v := .bool true) rfl (by kernel_rfl) rfl rfl rfl rfl ?_
 refine dk.c (v := .bool true) rfl (by kernel_rfl) rfl rfl rfl rfl ?_
 refine dk.c (v := .pointer (some ⟨n12, 5, none⟩)) rfl (by kernel_rfl) (wantT (g := 2) (d := 48) rfl rfl rfl) rfl (by kernel_rfl) rfl ?_
 refine dk.gB (v := .bool true) n12 rfl (by kernel_rfl) (wantT (g := 2) (d := 48) rfl rfl rfl) rfl (fun _ q_ => (ld1 (P := Tryd.prog) (t := 4) (p := 5) (v := .bool true) (by kernel_rfl) (by kernel_rfl) (q_ _ hb18) rfl)) rfl ?_
 refine dk.c (v := .bool true) rfl (by kernel_rfl) rfl rfl rfl rfl ?_
 refine dk.c (v := .bool true) rfl (by kernel_rfl) rfl rfl rfl rfl ?_
 refine dk.c (v := .pointer (some ⟨n12, 4, none⟩)) rfl (by kernel_rfl) (wantT (g := 6) (d := 52) rfl rfl rfl) rfl (by kernel_rfl) rfl ?_
 refine dk.gB (v := .int .i64 (0)) n12 rfl (by kernel_rfl) (wantT (g := 6) (d := 52) rfl rfl rfl) rfl (fun _ q_ => (ld1 (P := Tryd.prog) (t := 3) (p := 4) (v := .int .i64 (0)) (by kernel_rfl) (by kernel_rfl) (q_ _ hb18) rfl)) rfl ?_
 refine dk.c (v := .bool true) rfl (by kernel_rfl) (wantT (g := 6) (d := 52) rfl rfl rfl) rfl rfl rfl ?_
 refine dk.c (v := .bool true) rfl (by kernel_rfl) rfl rfl rfl rfl ?_
 refine dk.c (v := .bool true) rfl (by kernel_rfl) rfl rfl rfl rfl ?_
 refine dk.c (v := .pointer (some ⟨n12, 0, none⟩)) rfl (by kernel_rfl) (wantT (g := 11) (d := 57) rfl rfl rfl) rfl (by kernel_rfl) rfl ?_
 refine dk.gB (v := .agg #[.string (bT), .string (bX), .int .i64 (2), .slice a_t1 (os_t1.length) c_t1]) n12 rfl (by kernel_rfl) (wantT (g := 11) (d := 57) rfl rfl rfl) rfl (fun _ q_ => (ldA (P := Tryd.prog) (t := 31) (p := 0) (k := 4) (xs := [.string (bT), .string (bX), .int .i64 (2), .slice a_t1 (os_t1.length) c_t1]) (by kernel_rfl) (by kernel_rfl) (q_ _ hb18) rfl (Nat.le_of_ble_eq_true rfl))) rfl ?_
 refine dk.c (v := .agg #[.int .i64 (10), .int .u64 (1)]) rfl (by kernel_rfl) (wantT (g := 11) (d := 57) rfl rfl rfl) rfl (by kernel_rfl) rfl ?_
 refine dk.op rfl (by kernel_rfl) (wantT (g := 11) (d := 57) rfl rfl rfl) rfl (Does.build (e := 53) (cs := [.int .i64 (10), .int .u64 (1)]) hf (fun _ _ => by kernel_rfl)) (keepC (by simp) (keepC (by simp) (keepC (by simp) keepN))) ?_
 rintro _ h77 n78 ⟨rfl, hb76⟩ s79 hn2 hf
 refine dk.w ?_
 have W_t1 := W_t1.keep (.of0 s79)
 have D_t1 := D_t1.keep (.of0 s79)
 have W_t3 := W_t3.keep (.of0 s79)
 have D_t3 := D_t3.keep (.of0 s79)
 have hS := hS.keep (.of0 s79)
 have D_t4 := D_t4.keep (.of0 s79)
 have hb_ := s79.sub _ _ hb_
 have hf_t4 := s79.sub _ _ hf_t4
 have hg_t4 := s79.sub _ _ hg_t4
 have hb54 := s79.sub _ _ hb54
 have hb72 := s79.sub _ _ hb72
 have hs := hs.trans s79
 have hn := Nat.le_trans hn hn2
 refine dk.k rfl (by kernel_rfl) (wantT (g := 11) (d := 57) rfl rfl rfl) (CallsF.fn rfl (by kernel_rfl) rfl rfl) (batch_spec (⟨#[120]⟩ : ByteArray) 2 [(10, 1)] (IsRow.of (E := encSmp) (xs := [(10, 1)]) (cap := 1) hb76 (Nat.le_refl _))) (keepC (by simp) (keepC (by simp) (keepC (by simp) keepN))) ?_
 rintro _ h80 n81 ⟨w_b79, r_b79, rfl, R_b79, E_b79⟩ s82 hn2 hf
 obtain ⟨a_b79, c_b79, e_b79⟩ := R_b79.slice
 cases e_b79
 change IsRow encSer _ (.slice a_b79 1 c_b79) [r_b79] at R_b79
 refine dk.w ?_
 have W_t1 := W_t1.keep (.of0 s82)
 have D_t1 := D_t1.keep (.of0 s82)
 have W_t3 := W_t3.keep (.of0 s82)
 have D_t3 := D_t3.keep (.of0 s82)
 have hS := hS.keep (.of0 s82)
 have D_t4 := D_t4.keep (.of0 s82)
 have hb_ := s82.sub _ _ hb_
 have hf_t4 := s82.sub _ _ hf_t4
 have hg_t4 := s82.sub _ _ hg_t4
 have hb54 := s82.sub _ _ hb54
 have hb72 := s82.sub _ _ hb72
 have hs := hs.trans s82
 have hn := Nat.le_trans hn hn2
 refine dk.t (v := .bool (decide (bT = bT ∧ bX = ⟨#[120]⟩ ∧ (2 : Int) = 2 ∧ aR1.kb.ser = [(labAB, [(10, 1)])]))) rfl (by kernel_rfl) (wantT (g := 11) (d := 57) rfl rfl rfl) (CallsF.fn rfl (by kernel_rfl) rfl rfl) (fun hf => sameBat_spec bT bX bT ⟨#[120]⟩ 2 2 _ _ aR1.kb.ser [(labAB, [(10, 1)])] W_t1.is D_t1.is R_b79 E_b79 (by rw [D_t1.1]; decide) (by decide)) hf rfl ?_
 intro n83 hn2 hf
 have hn := Nat.le_trans hn hn2
 refine dk.c (v := .bool (decide (bT = bT ∧ bX = ⟨#[120]⟩ ∧ (2 : Int) = 2 ∧ aR1.kb.ser = [(labAB, [(10, 1)])]))) rfl (by kernel_rfl) rfl rfl rfl rfl ?_
 refine dk.c (v := .bool (decide (bT = bT ∧ bX = ⟨#[120]⟩ ∧ (2 : Int) = 2 ∧ aR1.kb.ser = [(labAB, [(10, 1)])]))) rfl (by kernel_rfl) rfl rfl rfl rfl ?_
 rcases Bool.eq_false_or_eq_true (decide (bT = bT ∧ bX = ⟨#[120]⟩ ∧ (2 : Int) = 2 ∧ aR1.kb.ser = [(labAB, [(10, 1)])])) with c6_17 | c6_17
 ·rw [c6_17]
  refine dk.c (v := .pointer (some ⟨b, 0, none⟩)) rfl (by kernel_rfl) (wantT (g := 19) (d := 65) rfl rfl rfl) rfl rfl rfl ?_
  refine dk.t (v := .int .i64 (((mget aR4.F (⟨#[116]⟩, ⟨#[120]⟩)).getD 0))) rfl (by kernel_rfl) (wantT (g := 19) (d := 65) rfl rfl rfl) (CallsF.fn rfl (by kernel_rfl) rfl rfl) (fun hf => fence_spec aR4.F G_t4 aR4.S hb_ hf_t4 hg_t4 okF_t4 okG_t4 hS (ne_f_g) (⟨#[116]⟩ : ByteArray) (⟨#[120]⟩ : ByteArray)) hf rfl ?_
  intro n84 hn2 hf
  have hn := Nat.le_trans hn hn2
  refine dk.c (v := .bool (decide ((((mget aR4.F (⟨#[116]⟩, ⟨#[120]⟩)).getD 0)) = (2 : Int)))) rfl (by kernel_rfl) (wantT (g := 19) (d := 65) rfl rfl rfl) rfl rfl rfl ?_
  refine dk.c (v := .bool (decide ((((mget aR4.F (⟨#[116]⟩, ⟨#[120]⟩)).getD 0)) = (2 : Int)))) rfl (by kernel_rfl) rfl rfl rfl rfl ?_
  refine dk.c (v := .bool (decide ((((mget aR4.F (⟨#[116]⟩, ⟨#[120]⟩)).getD 0)) = (2 : Int)))) rfl (by kernel_rfl) rfl rfl rfl rfl ?_
  by_cases c6_22 : (((mget aR4.F (⟨#[116]⟩, ⟨#[120]⟩)).getD 0)) = (2 : Int)
  ·rw [decide_eq_true c6_22]
   refine dk.c (v := .int .i64 (61)) rfl (by kernel_rfl) (wantT (g := 24) (d := 70) rfl rfl rfl) rfl rfl rfl ?_
   refine dk.c (v := .bool true) rfl (by kernel_rfl) (wantT (g := 24) (d := 70) rfl rfl rfl) rfl rfl rfl ?_
   refine dk.c (v := .bool true) rfl (by kernel_rfl) rfl rfl rfl rfl ?_
   refine dk.c (v := .bool true) rfl (by kernel_rfl) rfl rfl rfl rfl ?_
   refine dk.c (v := .int .i64 (0)) rfl (by kernel_rfl) (wantT (g := 28) (d := 74) rfl rfl rfl) rfl rfl rfl ?_
   refine dk.c (v := .bool true) rfl (by kernel_rfl) (wantT (g := 28) (d := 74) rfl rfl rfl) rfl rfl rfl ?_
   refine dk.c (v := .bool true) rfl (by kernel_rfl) rfl rfl rfl rfl ?_
   refine dk.c (v := .bool true) rfl (by kernel_rfl) rfl rfl rfl rfl ?_
   refine dk.c (v := .pointer (some ⟨n48, 5, none⟩)) rfl (by kernel_rfl) (wantT (g := 32) (d := 78) rfl rfl rfl) rfl (by kernel_rfl) rfl ?_
   refine dk.gB (v := .bool false) n48 rfl (by kernel_rfl) (wantT (g := 32) (d := 78) rfl rfl rfl) rfl (fun _ q_ => (ld1 (P := Tryd.prog) (t := 4) (p := 5) (v := .bool false) (by kernel_rfl) (by kernel_rfl) (q_ _ hb54) rfl)) rfl ?_
   refine dk.c (v := .bool true) rfl (by kernel_rfl) (wantT (g := 32) (d := 78) rfl rfl rfl) rfl rfl rfl ?_
   refine dk.c (v := .bool true) rfl (by kernel_rfl) rfl rfl rfl rfl ?_
   refine dk.c (v := .bool true) rfl (by kernel_rfl) rfl rfl rfl rfl ?_
   refine dk.c (v := .pointer (some ⟨n48, 4, none⟩)) rfl (by kernel_rfl) (wantT (g := 37) (d := 83) rfl rfl rfl) rfl (by kernel_rfl) rfl ?_
   refine dk.gB (v := .int .i64 (2)) n48 rfl (by kernel_rfl) (wantT (g := 37) (d := 83) rfl rfl rfl) rfl (fun _ q_ => (ld1 (P := Tryd.prog) (t := 3) (p := 4) (v := .int .i64 (2)) (by kernel_rfl) (by kernel_rfl) (q_ _ hb54) rfl)) rfl ?_
   refine dk.c (v := .bool true) rfl (by kernel_rfl) (wantT (g := 37) (d := 83) rfl rfl rfl) rfl rfl rfl ?_
   refine dk.c (v := .bool true) rfl (by kernel_rfl) rfl rfl rfl rfl ?_
   refine dk.c (v := .bool true) rfl (by kernel_rfl) rfl rfl rfl rfl ?_
   refine dk.c (v := .pointer (some ⟨n48, 0, none⟩)) rfl (by kernel_rfl) (wantT (g := 42) (d := 88) rfl rfl rfl) rfl (by kernel_rfl) rfl ?_
   refine dk.gB (v := .agg #[.string (bT), .string (bX), .int .i64 (2), .slice a_t3 (os_t3.length) c_t3]) n48 rfl (by kernel_rfl) (wantT (g := 42) (d := 88) rfl rfl rfl) rfl (fun _ q_ => (ldA (P := Tryd.prog) (t := 31) (p := 0) (k := 4) (xs := [.string (bT), .string (bX), .int .i64 (2), .slice a_t3 (os_t3.length) c_t3]) (by kernel_rfl) (by kernel_rfl) (q_ _ hb54) rfl (Nat.le_of_ble_eq_true rfl))) rfl ?_
   refine dk.c (v := .agg #[.int .i64 (20), .int .u64 (1)]) rfl (by kernel_rfl) (wantT (g := 42) (d := 88) rfl rfl rfl) rfl (by kernel_rfl) rfl ?_
   refine dk.op rfl (by kernel_rfl) (wantT (g := 42) (d := 88) rfl rfl rfl) rfl (Does.build (e := 53) (cs := [.int .i64 (20), .int .u64 (1)]) hf (fun _ _ => by kernel_rfl)) (keepC (by simp) (keepC (by simp) (keepC (by simp) (keepC (by simp) (keepC (by simp) (keepC (by simp) keepN)))))) ?_
   rintro _ h86 n87 ⟨rfl, hb85⟩ s88 hn2 hf
   refine dk.w ?_
   have W_t3 := W_t3.keep (.of0 s88)
   have D_t3 := D_t3.keep (.of0 s88)
   have hS := hS.keep (.of0 s88)
   have D_t4 := D_t4.keep (.of0 s88)
   have hb_ := s88.sub _ _ hb_
   have hf_t4 := s88.sub _ _ hf_t4
   have hg_t4 := s88.sub _ _ hg_t4
   have hb72 := s88.sub _ _ hb72
   have hs := hs.trans s88
   have hn := Nat.le_trans hn hn2
   refine dk.k rfl (by kernel_rfl) (wantT (g := 42) (d := 88) rfl rfl rfl) (CallsF.fn rfl (by kernel_rfl) rfl rfl) (batch_spec (⟨#[120]⟩ : ByteArray) 2 [(20, 1)] (IsRow.of (E := encSmp) (xs := [(20, 1)]) (cap := 1) hb85 (Nat.le_refl _))) (keepC (by simp) (keepC (by simp) (keepC (by simp) (keepC (by simp) (keepC (by simp) (keepC (by simp) keepN)))))) ?_
   rintro _ h89 n90 ⟨w_b88, r_b88, rfl, R_b88, E_b88⟩ s91 hn2 hf
   obtain ⟨a_b88, c_b88, e_b88⟩ := R_b88.slice
   cases e_b88
   change IsRow encSer _ (.slice a_b88 1 c_b88) [r_b88] at R_b88
   refine dk.w ?_
   have W_t3 := W_t3.keep (.of0 s91)
   have D_t3 := D_t3.keep (.of0 s91)
   have hS := hS.keep (.of0 s91)
   have D_t4 := D_t4.keep (.of0 s91)
   have hb_ := s91.sub _ _ hb_
   have hf_t4 := s91.sub _ _ hf_t4
   have hg_t4 := s91.sub _ _ hg_t4
   have hb72 := s91.sub _ _ hb72
   have hs := hs.trans s91
   have hn := Nat.le_trans hn hn2
   refine dk.t (v := .bool (decide (bT = bT ∧ bX = ⟨#[120]⟩ ∧ (2 : Int) = 2 ∧ aR3.kb.ser = [(labAB, [(20, 1)])]))) rfl (by kernel_rfl) (wantT (g := 42) (d := 88) rfl rfl rfl) (CallsF.fn rfl (by kernel_rfl) rfl rfl) (fun hf => sameBat_spec bT bX bT ⟨#[120]⟩ 2 2 _ _ aR3.kb.ser [(labAB, [(20, 1)])] W_t3.is D_t3.is R_b88 E_b88 (by rw [D_t3.1]; decide) (by decide)) hf rfl ?_
   intro n92 hn2 hf
   have hn := Nat.le_trans hn hn2
   refine dk.c (v := .bool (decide (bT = bT ∧ bX = ⟨#[120]⟩ ∧ (2 : Int) = 2 ∧ aR3.kb.ser = [(labAB, [(20, 1)])]))) rfl (by kernel_rfl) rfl rfl rfl rfl ?_
   refine dk.c (v := .bool (decide (bT = bT ∧ bX = ⟨#[120]⟩ ∧ (2 : Int) = 2 ∧ aR3.kb.ser = [(labAB, [(20, 1)])]))) rfl (by kernel_rfl) rfl rfl rfl rfl ?_
   rcases Bool.eq_false_or_eq_true (decide (bT = bT ∧ bX = ⟨#[120]⟩ ∧ (2 : Int) = 2 ∧ aR3.kb.ser = [(labAB, [(20, 1)])])) with c6_48 | c6_48
   ·rw [c6_48]
    refine dk.c (v := .int .i64 (0)) rfl (by kernel_rfl) (wantT (g := 50) (d := 96) rfl rfl rfl) rfl rfl rfl ?_
    refine dk.c (v := .bool true) rfl (by kernel_rfl) (wantT (g := 50) (d := 96) rfl rfl rfl) rfl rfl rfl ?_
    refine dk.c (v := .bool true) rfl (by kernel_rfl) rfl rfl rfl rfl ?_
    refine dk.c (v := .bool true) rfl (by kernel_rfl) rfl rfl rfl rfl ?_
    refine dk.c (v := .pointer (some ⟨n66, 5, none⟩)) rfl (by kernel_rfl) (wantT (g := 54) (d := 100) rfl rfl rfl) rfl (by kernel_rfl) rfl ?_
    refine dk.gB (v := .bool false) n66 rfl (by kernel_rfl) (wantT (g := 54) (d := 100) rfl rfl rfl) rfl (fun _ q_ => (ld1 (P := Tryd.prog) (t := 4) (p := 5) (v := .bool false) (by kernel_rfl) (by kernel_rfl) (q_ _ hb72) rfl)) rfl ?_
    refine dk.c (v := .bool true) rfl (by kernel_rfl) (wantT (g := 54) (d := 100) rfl rfl rfl) rfl rfl rfl ?_
    refine dk.c (v := .bool true) rfl (by kernel_rfl) rfl rfl rfl rfl ?_
    refine dk.c (v := .bool true) rfl (by kernel_rfl) rfl rfl rfl rfl ?_
    refine dk.c (v := .pointer (some ⟨n66, 4, none⟩)) rfl (by kernel_rfl) (wantT (g := 59) (d := 105) rfl rfl rfl) rfl (by kernel_rfl) rfl ?_
    refine dk.gB (v := .int .i64 (0)) n66 rfl (by kernel_rfl) (wantT (g := 59) (d := 105) rfl rfl rfl) rfl (fun _ q_ => (ld1 (P := Tryd.prog) (t := 3) (p := 4) (v := .int .i64 (0)) (by kernel_rfl) (by kernel_rfl) (q_ _ hb72) rfl)) rfl ?_
    refine dk.c (v := .bool true) rfl (by kernel_rfl) (wantT (g := 59) (d := 105) rfl rfl rfl) rfl rfl rfl ?_
    refine dk.c (v := .bool true) rfl (by kernel_rfl) rfl rfl rfl rfl ?_
    refine dk.c (v := .bool true) rfl (by kernel_rfl) rfl rfl rfl rfl ?_
    refine dk.c (v := .pointer (some ⟨n66, 0, none⟩)) rfl (by kernel_rfl) (wantT (g := 64) (d := 110) rfl rfl rfl) rfl (by kernel_rfl) rfl ?_
    refine dk.c (v := .pointer (some ⟨n66, 3, none⟩)) rfl (by kernel_rfl) (wantT (g := 64) (d := 110) rfl rfl rfl) rfl (by kernel_rfl) rfl ?_
    refine dk.gB (v := .slice a_t4 (os_t4.length) c_t4) n66 rfl (by kernel_rfl) (wantT (g := 64) (d := 110) rfl rfl rfl) rfl (fun _ q_ => (ld1 (P := Tryd.prog) (t := 29) (p := 3) (v := .slice a_t4 (os_t4.length) c_t4) (by kernel_rfl) (by kernel_rfl) (q_ _ hb72) rfl)) rfl ?_
    refine dk.c (v := .int .i64 (((os_t4.length : Nat) : Int))) rfl (by kernel_rfl) (wantT (g := 64) (d := 110) rfl rfl rfl) rfl (by kernel_rfl) rfl ?_
    refine dk.c (v := .bool (decide ((((os_t4.length : Nat) : Int)) = (0 : Int)))) rfl (by kernel_rfl) (wantT (g := 64) (d := 110) rfl rfl rfl) rfl rfl rfl ?_
    refine dk.c (v := .bool (decide ((((os_t4.length : Nat) : Int)) = (0 : Int)))) rfl (by kernel_rfl) rfl rfl rfl rfl ?_
    refine dk.c (v := .bool (decide ((((os_t4.length : Nat) : Int)) = (0 : Int)))) rfl (by kernel_rfl) rfl rfl rfl rfl ?_
    by_cases c6_69 : (((os_t4.length : Nat) : Int)) = (0 : Int)
    ·rw [decide_eq_true c6_69]
     refine dk.c (v := .pointer (some ⟨b, 0, none⟩)) rfl (by kernel_rfl) (wantT (g := 71) (d := 117) rfl rfl rfl) rfl rfl rfl ?_
     refine dk.k rfl (by kernel_rfl) (wantT (g := 71) (d := 117) rfl rfl rfl) (CallsF.fn rfl (by kernel_rfl) rfl rfl) (makes_fz (fencesX_spec aR4.F G_t4 aR4.S hb_ hf_t4 hg_t4 okF_t4 okG_t4 hS (ne_f_g) (by decide))) (keepC (by simp) (keepC (by simp) (keepC (by simp) (keepC (by simp) (keepC (by simp) (keepC (by simp) (keepC (by simp) (keepC (by simp) (keepC (by simp) keepN))))))))) ?_
     rintro v_e92 h93 n94 R_e92 s95 hn2 hf
     obtain ⟨a_e92, c_e92, rfl⟩ := R_e92.slice
     refine dk.w ?_
     have hs := hs.trans s95
     have hn := Nat.le_trans hn hn2
     refine dk.c (v := .int .i64 ((((fencesV aR4.F).length : Nat) : Int))) rfl (by kernel_rfl) (wantT (g := 71) (d := 117) rfl rfl rfl) rfl (by kernel_rfl) rfl ?_
     refine dk.c (v := .bool (decide (((((fencesV aR4.F).length : Nat) : Int)) = (1 : Int)))) rfl (by kernel_rfl) (wantT (g := 71) (d := 117) rfl rfl rfl) rfl rfl rfl ?_
     refine dk.c (v := .bool (decide (((((fencesV aR4.F).length : Nat) : Int)) = (1 : Int)))) rfl (by kernel_rfl) rfl rfl rfl rfl ?_
     refine dk.c (v := .bool (decide (((((fencesV aR4.F).length : Nat) : Int)) = (1 : Int)))) rfl (by kernel_rfl) rfl rfl rfl rfl ?_
     refine dk.e ?_
     refine AWp.ret ?_
     refine ⟨rfl, [.bool (decide (((((fencesV aR4.F).length : Nat) : Int)) = (1 : Int)))], rfl, .bool (decide (((((fencesV aR4.F).length : Nat) : Int)) = (1 : Int))), rfl, hs, hn, ?_⟩
     exact congrArg Value.bool (decide_eq_true (by unfold fencesV; rw [List.length_map, keysP_len]; rfl))
    ·exfalso
     exact c6_69 (by rw [D_t4.1]; rfl)
   ·exfalso
    exact absurd (c6_48.symm.trans (show _ = true by kernel_rfl)) Bool.false_ne_true
  ·exfalso
   exact c6_22 (by kernel_rfl)
 ·exfalso
  exact absurd (c6_17.symm.trans (show _ = true by kernel_rfl)) Bool.false_ne_true
end Go.Proofs.YtkpaklofdkjinaaDoor
namespace Go.Proofs.YtkpaklofdkjinaaDoor
open Go Go.Abs Go.RowKit Go.Shelf
set_option maxHeartbeats 4000000
theorem takeP_1 {P : PSt} {b : Bat} (hm : mayBat b = true) (hc : b.clu = ⟨#[]⟩) : takeP P b = takeOk P.F P.kf b (foldT b.ten ⟨P.S, P.kg, [], 0⟩ b.ser) false := by
  unfold takeP takeR
  rw [if_neg (by rw [hm]; simp), if_pos hc]
theorem takeP_2 {P : PSt} {b : Bat} (hm : mayBat b = true) (hc : ¬ b.clu = ⟨#[]⟩) (hl : b.epo < (mget P.F (b.ten, b.clu)).getD 0) : takeP P b = takeNo 61 P.F P.kf P.S P.kg := by
  unfold takeP takeR
  rw [if_neg (by rw [hm]; simp), if_neg hc, if_pos hl]
theorem takeP_3 {P : PSt} {b : Bat} (hm : mayBat b = true) (hc : ¬ b.clu = ⟨#[]⟩) (hl : ¬ b.epo < (mget P.F (b.ten, b.clu)).getD 0) : takeP P b = takeOk (mset P.F P.kf (b.ten, b.clu) b.epo) (mck P.F P.kf (b.ten, b.clu)) b (foldT b.ten ⟨P.S, P.kg, [], 0⟩ b.ser) (decide ((mget P.F (b.ten, b.clu)).getD 0 < b.epo)) := by
  unfold takeP takeR
  rw [if_neg (by rw [hm]; simp), if_neg hc, if_neg hl]
theorem takeP_0 {P : PSt} {b : Bat} (hm : mayBat b = false) : takeP P b = takeNo 4 P.F P.kf P.S P.kg := by
  unfold takeP takeR
  rw [if_pos hm]
/-! The same states. -/
theorem mget_of {κ ν : Type} [DecidableEq κ] {L : List (κ × ν × Nat)} (hn : (L.map fun x => x.1).Nodup) {x : κ × ν × Nat} (hx : x ∈ L) : mget L x.1 = some x.2.1 := by
  unfold mget
  induction L with
  | nil => cases hx
  | cons a L ih =>
    simp only [List.map_cons, List.nodup_cons] at hn
    rcases List.mem_cons.1 hx with rfl | hx
    · rw [List.find?_cons_of_pos (by simp)]; rfl
    · have : ¬ a.1 = x.1 := fun e => hn.1 (e ▸ List.mem_map.2 ⟨x, hx, rfl⟩)
      rw [List.find?_cons_of_neg (by simpa using this)]
      exact ih hn.2 hx
theorem keysP_mem {ν : Type} (L : List (Pl × ν × Nat)) (p : Pl) : p ∈ keysP L ↔ ∃ x ∈ L, x.1 = p := by
  unfold keysP
  rw [(sortP_perm _).mem_iff, List.mem_map]
theorem mget_some {κ ν : Type} [DecidableEq κ] {L : List (κ × ν × Nat)} {x : κ × ν × Nat} (hx : x ∈ L) : ∃ v, mget L x.1 = some v := by
  cases e : mget L x.1 with
  | none =>
    unfold mget at e
    simp only [Option.map_eq_none_iff, List.find?_eq_none] at e
    exact absurd (decide_eq_true rfl) (e x hx)
  | some v => exact ⟨v, rfl⟩
end Go.Proofs.YtkpaklofdkjinaaDoor
namespace Go.Abs
open Go
def Apt (a b : Nat) : Prop := a ≠ b
theorem got_apt {h : Heap} {a b : Nat} {o : AObj} (e : h.get a = some o) (z : h.get b = none) : Apt a b := fun q => by rw [q, z] at e; cases e
end Go.Abs
namespace Go.Proofs.YtkpaklofdkjinaaDoor
open Go Go.Abs Go.RowKit Go.Shelf
set_option maxRecDepth 100000
set_option maxHeartbeats 8000000
theorem name_len {s : ByteArray} (h : nameB s = true) : s.data.toList.length < 9223372036854775808 := by
  unfold nameB at h
  simp only [Bool.and_eq_true, decide_eq_true_eq] at h
  omega
theorem all_in {S : SP} {x : POwn} (hx : x ∈ allV S) : ∃ k s, (k, x.2, s) ∈ S ∧ x.1 = k.1 := by
  unfold allV at hx
  obtain ⟨p, hp, rfl⟩ := List.mem_map.1 hx
  obtain ⟨y, hy, rfl⟩ := (keysP_mem _ _).1 hp
  obtain ⟨v, e⟩ := mget_some hy
  obtain ⟨s, hs⟩ := mget_mem e
  refine ⟨y.1, s, ?_, rfl⟩
  unfold ownAt
  rw [e]
  exact hs
theorem all_one {N : Nat} {S : SP} (q : InvS N S) {x : POwn} (hx : x ∈ allV S) : OneS N (plO x) x.2 := by
  obtain ⟨k, s, h1, h2⟩ := all_in hx
  have := q _ h1
  have e : k = plO x := Prod.ext h2.symm this.2.2.2.2.2.1
  rw [← e]; exact this
theorem all_small {i : Nat} {P : PSt} (q : PInv i P) (hi : i ≤ 100) : ∀ x ∈ allV P.S, x.2.1.length ≤ 1200 ∧ (∀ y ∈ x.2.1, y.1.data.toList.length < 6000 ∧ y.2.data.toList.length < 6000) ∧ x.2.2.length < 1000000000000 ∧ x.1.data.toList.length < 9223372036854775808 := fun x hx => by
  obtain ⟨_, b, c, _, _, _, g⟩ := all_one q.inv hx
  exact ⟨c.1, c.2, by omega, name_len g⟩
theorem allV_len (S : SP) : (allV S).length = S.length := by unfold allV; rw [List.length_map, keysP_len]
theorem fencesV_len (F : FM) : (fencesV F).length = F.length := by unfold fencesV; rw [List.length_map, keysP_len]
structure At (h : Heap) (P : PSt) (b f g : Nat) (c : CI) (G : SM) : Prop where
  hb : h.get b = some (.cells [.map (some f), .map (some g)] true c)
  hf : h.get f = some (.map (mapE plV intV P.F) P.kf)
  hg : h.get g = some (.map (mapE plV ownV G) P.kg)
  okF : MOk P.F P.kf
  okG : MOk G P.kg
  hS : SMIs h G P.S
  ne : f ≠ g
section
variable {h : Heap} {n b f g i : Nat} {c : CI} {P : PSt} {G : SM}
theorem takeOn (s : At h P b f g c G) {a : Option Addr} {cp : Nat} (y : Bat) (rs : List RSer) (hr : IsRow encSer h (.slice a rs.length cp) rs) (hd : SersIs h rs y.ser) (hld : Laid0 h) (q : PInv i P) (hi : i ≤ 100) (hsb : SmallB y) {R : TkR} (hR : R = takeP P y) :
    Makes Tryd.prog 13 [.pointer (some ⟨b, 0, none⟩), .agg #[.string y.ten, .string y.clu, .int .i64 y.epo, .slice a rs.length cp]] h n [f, g] fun v h2 _ => ∃ w os G2, v = .tuple #[.agg #[.string R.kb.ten, .string R.kb.clu, .int .i64 R.kb.epo, w, .int .i64 R.bad, .bool R.rose], .int .i64 R.e] ∧ FRow encSer h2 w os ∧ FSers h2 os R.kb.ser ∧ h2.get f = some (.map (mapE plV intV R.F) R.kf) ∧ h2.get g = some (.map (mapE plV ownV G2) R.kg) ∧ MOk R.F R.kf ∧ MOk G2 R.kg ∧ SMIs h2 G2 R.S := by
  have h1 := hsb.1
  have h2 := hsb.2.1
  exact takeSt P.F G P.S s.hb s.hf s.hg s.okF s.okG s.hS s.ne y.ten y.clu y.epo rs y.ser hr hd hld hsb.2.2 (by omega) (by omega) q.inv (by omega) hR
theorem fencesOn (s : At h P b f g c G) (q : PInv i P) (hi : i ≤ 100) : Makes Tryd.prog 12 [.pointer (some ⟨b, 0, none⟩)] h n [] fun v h2 _ => FRow encFen h2 v (fencesV P.F) :=
  makes_fz (fencesX_spec P.F G P.S s.hb s.hf s.hg s.okF s.okG s.hS s.ne (by have := q.lenF; omega))
theorem allOn (s : At h P b f g c G) (q : PInv i P) (hi : i ≤ 100) : Makes Tryd.prog 15 [.pointer (some ⟨b, 0, none⟩)] h n [] fun v h2 _ => ∃ os, FRow encOwn h2 v os ∧ FOwns h2 os (allV P.S) :=
  allFz P.F G P.S s.hb s.hf s.hg s.okF s.okG s.hS s.ne (by have := q.lenS; omega) q.inv (by omega)
theorem fenceOn (s : At h P b f g c G) (ten clu : ByteArray) : Tells Tryd.prog 21 [.pointer (some ⟨b, 0, none⟩), .string ten, .string clu] h n (.int .i64 ((mget P.F (ten, clu)).getD 0)) :=
  fence_spec P.F G P.S s.hb s.hf s.hg s.okF s.okG s.hS s.ne ten clu
theorem copyOn (s : At h P b f g c G) : Makes Tryd.prog 20 [.pointer (some ⟨b, 0, none⟩)] h n [] fun v h2 _ => ∃ b2 f2 g2, v = .pointer (some ⟨b2, 0, none⟩) ∧ h2.get b2 = some (.cells [.map (some f2), .map (some g2)] true ⟨69, 0, true⟩) ∧ h2.get f2 = some (.map (mapE plV intV P.F) P.kf) ∧ h2.get g2 = some (.map (mapE plV ownV G) P.kg) ∧ h.get b2 = none ∧ h.get f2 = none ∧ h.get g2 = none ∧ f2 ≠ g2 :=
  copy_spec P.F G P.S s.hb s.hf s.hg s.okF s.okG s.hS s.ne
end
theorem PInv.up {i j : Nat} {P : PSt} (q : PInv i P) (h : i ≤ j) : PInv j P := ⟨q.inv.up (by omega), by have := q.lenF; omega, by have := q.lenS; omega, q.fen, q.okF, q.okS⟩
end Go.Proofs.YtkpaklofdkjinaaDoor
namespace Go.Proofs.YtkpaklofdkjinaaDoor
open Go Go.Abs Go.RowKit Go.Shelf
set_option maxHeartbeats 4000000
def Pre (S T : SP) : Prop := ∀ k, ∃ zs, wasOf T k = wasOf S k ++ zs
theorem Pre.refl (S : SP) : Pre S S := fun _ => ⟨[], by simp⟩
theorem Pre.trans {S T U : SP} (a : Pre S T) (b : Pre T U) : Pre S U := fun k => by
  obtain ⟨x, hx⟩ := a k
  obtain ⟨y, hy⟩ := b k
  exact ⟨x ++ y, by rw [hy, hx, List.append_assoc]⟩
theorem was_pS (S : SP) (ck : Nat) (ten : ByteArray) (s : Ser) (k : Pl) : wasOf (pS S ck ten s) k = if k = (ten, keyA s.1) then (pPut S ten s).1 else wasOf S k := by
  unfold pS
  by_cases hk : pKept S ten s = []
  · rw [if_pos hk]
    split
    · rename_i e
      rw [e]
      show _ = (putS _ _).1
      rw [putS_kept]
      have : keptV s.2 (putS (wasOf S (ten, keyA s.1)) s.2).2 = [] := hk
      rw [this, List.append_nil]
    · rfl
  · rw [if_neg hk]
    unfold wasOf
    rw [mget_mset]
    split
    · rename_i e; rfl
    · rfl
theorem Pre.put (S : SP) (ck : Nat) (ten : ByteArray) (s : Ser) : Pre S (pS S ck ten s) := fun k => by
  rw [was_pS]
  split
  · rename_i e
    rw [e]
    exact ⟨_, putS_kept s.2 _⟩
  · exact ⟨[], by simp⟩
theorem Pre.fold (ten : ByteArray) : ∀ (ss : List Ser) (R : TSt), Pre R.S (foldT ten R ss).S := by
  intro ss
  induction ss with
  | nil => intro R; exact .refl _
  | cons s ss ih => intro R; exact (Pre.put R.S R.ck ten s).trans (ih (stepT ten R s))
end Go.Proofs.YtkpaklofdkjinaaDoor
namespace Go.Proofs.YtkpaklofdkjinaaDoor
open Go Go.Abs Go.RowKit Go.Shelf
set_option maxHeartbeats 4000000
theorem fences_at {F : FM} {x : Fen} (hx : x ∈ fencesV F) : x.2.2 = (mget F (x.1, x.2.1)).getD 0 := by
  unfold fencesV at hx
  obtain ⟨p, _, rfl⟩ := List.mem_map.1 hx
  rfl
theorem fence_up (P : PSt) (b : Bat) (k : Pl) : (mget P.F k).getD 0 ≤ (mget (takeP P b).F k).getD 0 := by
  cases hm : mayBat b with
  | false => rw [takeP_0 hm]; exact Int.le_refl _
  | true =>
    by_cases hc : b.clu = ⟨#[]⟩
    · rw [takeP_1 hm hc]; exact Int.le_refl _
    · by_cases hl : b.epo < (mget P.F (b.ten, b.clu)).getD 0
      · rw [takeP_2 hm hc hl]; exact Int.le_refl _
      · rw [takeP_3 hm hc hl]
        show _ ≤ (mget (mset P.F P.kf (b.ten, b.clu) b.epo) k).getD 0
        rw [mget_mset]
        split
        · rename_i e; rw [e]; show _ ≤ b.epo; omega
        · exact Int.le_refl _
theorem take_e61 {P : PSt} {b : Bat} (hc : ¬ b.clu = ⟨#[]⟩) (h4 : ¬ (takeP P b).e = 4) : (takeP P b).e = 61 ↔ b.epo < (mget P.F (b.ten, b.clu)).getD 0 := by
  cases hm : mayBat b with
  | false => rw [takeP_0 hm] at h4; exact absurd rfl h4
  | true =>
    by_cases hl : b.epo < (mget P.F (b.ten, b.clu)).getD 0
    · rw [takeP_2 hm hc hl]; exact ⟨fun _ => hl, fun _ => rfl⟩
    · rw [takeP_3 hm hc hl]; exact ⟨(fun h => by cases h), fun h => absurd h hl⟩
theorem take_fence {P : PSt} {b : Bat} (hc : ¬ b.clu = ⟨#[]⟩) (h0 : (takeP P b).e = 0) : (mget (takeP P b).F (b.ten, b.clu)).getD 0 = b.epo := by
  cases hm : mayBat b with
  | false => rw [takeP_0 hm] at h0; cases h0
  | true =>
    by_cases hl : b.epo < (mget P.F (b.ten, b.clu)).getD 0
    · rw [takeP_2 hm hc hl] at h0; cases h0
    · rw [takeP_3 hm hc hl]
      show (mget (mset P.F P.kf (b.ten, b.clu) b.epo) (b.ten, b.clu)).getD 0 = _
      rw [mget_mset, if_pos rfl]; rfl
theorem take_pre (P : PSt) (b : Bat) : Pre P.S (takeP P b).S := by
  cases hm : mayBat b with
  | false => rw [takeP_0 hm]; exact .refl _
  | true =>
    by_cases hc : b.clu = ⟨#[]⟩
    · rw [takeP_1 hm hc]; exact Pre.fold b.ten b.ser ⟨P.S, P.kg, [], 0⟩
    · by_cases hl : b.epo < (mget P.F (b.ten, b.clu)).getD 0
      · rw [takeP_2 hm hc hl]; exact .refl _
      · rw [takeP_3 hm hc hl]; exact Pre.fold b.ten b.ser ⟨P.S, P.kg, [], 0⟩
theorem all_was {i : Nat} {P : PSt} (q : PInv i P) {x : POwn} (hx : x ∈ allV P.S) : wasOf P.S (x.1, keyA x.2.1) = x.2.2 := by
  obtain ⟨k, s, h1, h2⟩ := all_in hx
  have hk : k = (x.1, keyA x.2.1) := Prod.ext h2.symm (q.inv _ h1).2.2.2.2.2.1
  have := mget_of q.okS.keys h1
  unfold wasOf
  rw [← hk]
  show ((mget P.S k).getD ([], [])).2 = _
  rw [show mget P.S k = some x.2 from this]
  rfl
theorem all_keeps {i : Nat} {P : PSt} (q : PInv i P) (b : Bat) {x : POwn} (hx : x ∈ allV P.S) : ∃ zs, wasOf (takeP P b).S (x.1, keyA x.2.1) = x.2.2 ++ zs := by
  obtain ⟨zs, e⟩ := take_pre P b (x.1, keyA x.2.1)
  rw [all_was q hx] at e
  exact ⟨zs, e⟩
def SlOk {α : Type} (E : Enc α) (h : Heap) (a : Option Addr) (len cp : Nat) : Prop := (len ≤ cp ∧ cp < U) ∨ (cp = U ∧ len < U ∧ ∃ b o cs ci, a = some ⟨b, o, none⟩ ∧ h.get b = some (.cells cs false ci) ∧ ci.k = E.k)
theorem SlOk.keep {α : Type} {E : Enc α} {h h' : Heap} {a : Option Addr} {len cp : Nat} (q : SlOk E h a len cp) (k : Keeps h h') : SlOk E h' a len cp :=
  q.imp id fun ⟨e1, e2, b, o, cs, ci, e3, e4, e5⟩ => ⟨e1, e2, b, o, cs, ci, e3, k _ _ _ e4, e5⟩
def blkA (a : Option Addr) : Nat := match a with | some x => x.block | none => 0
theorem slice_take {α : Type} {E : Enc α} {P : Program} {t e : TypeId} {h h' : Heap} {a : Option Addr} {cp : Nat} {kd : IntKind} {xs : List α} {k : Nat} (hu : P.underlying t = some (.slice e)) (hi : (P.info? e).map (·.size) = some E.k)
    (q : FRow E h (.slice a xs.length cp) xs) (hc : SlOk E h a xs.length cp) (hk : k ≤ xs.length) (hb : ∀ o, h.get (blkA a) = some o → h'.get (blkA a) = some o) : sliceE P t (.slice a xs.length cp) none (some (.int kd (k : Nat))) none h' = some (.slice a k cp) := by
  have hinf : ∃ inf, P.info? e = some inf := by
    cases h40 : P.info? e with
    | none => rw [h40] at hi; cases hi
    | some inf => exact ⟨inf, rfl⟩
  obtain ⟨inf, h40⟩ := hinf
  have hsz : inf.size = E.k := by rw [h40] at hi; simpa using hi
  have hb2 : boundE none k 0 = some 0 := rfl
  cases a with
  | none =>
    have h0 : xs = [] ∧ cp = 0 := by
      rcases q with ⟨rfl, e | ⟨b', o, cap, e⟩⟩ | ⟨b', o, cap, cs, ci, e, _⟩
      · cases e; exact ⟨rfl, rfl⟩
      · cases e
      · cases e
    obtain ⟨rfl, rfl⟩ := h0
    obtain rfl : k = 0 := by simpa using hk
    unfold sliceE
    rw [hu]
    simp only [List.length_nil, h40, boundsE, boundE]
    rfl
  | some x =>
    obtain ⟨b, o, pth⟩ := x
    obtain rfl : pth = none := by
      rcases q with ⟨rfl, e | ⟨b', o, cap, e⟩⟩ | ⟨b', o, cap, cs, ci, e, _⟩
      · cases e
      · cases e; rfl
      · cases e; rfl
    have hU : U = 18446744073709551616 := rfl
    unfold sliceE
    rw [hu]
    simp only [h40]
    rcases hc with hc | ⟨rfl, hc, b1, o1, cs, ci, e1, e2, e3⟩
    · have hbl : boundE (some (.int kd (k : Nat))) cp xs.length = some k := by simp only [boundE]; rw [if_pos (by omega)]; simp
      rw [if_neg (by omega), if_neg (by omega), if_pos hc]
      simp only [boundsE, hbl, hb2, Option.getD_none]
      simp
    · cases e1
      have hbl : boundE (some (.int kd (k : Nat))) xs.length xs.length = some k := by simp only [boundE]; rw [if_pos (by omega)]; simp
      rw [if_neg (by omega), if_pos rfl]
      simp only [boundsE, hbl, hb2]
      have hb' : h'.get b = some (.cells cs false ci) := hb _ e2
      simp only [or_true, if_true, hb']
      rw [if_pos (.inl (by rw [e3, hsz]))]
      simp
theorem FRow.take {α : Type} {E : Enc α} {h : Heap} {a : Option Addr} {cp k : Nat} {xs : List α} (q : FRow E h (.slice a xs.length cp) xs) (hk : k ≤ xs.length) : FRow E h (.slice a (xs.take k).length cp) (xs.take k) := by
  have hl : (xs.take k).length = k := by rw [List.length_take]; omega
  have hm : E.k * k ≤ E.k * xs.length := Nat.mul_le_mul_left _ hk
  rcases q with ⟨rfl, e | ⟨b', o, cap, e⟩⟩ | ⟨b', o, cap, cs, ci, e, h1, h2, h3, h4⟩
  · cases e; rw [List.take_nil]; exact .nil
  · cases e; rw [List.take_nil]; exact .inl ⟨rfl, .inr ⟨b', o, _, rfl⟩⟩
  · cases e
    refine .inr ⟨b', o, cp, cs, ci, rfl, by omega, h2, ?_, by rw [hl]; omega⟩
    rw [hl, ← E.row_take, ← h3, List.take_take, Nat.min_eq_left hm]
theorem makes_fzc {α : Type} {E : Enc α} {P : Program} {f : FuncId} {args : List Value} {h : Heap} {n : Nat} {e : TypeId} {xs : List α} {S : List Nat} (hU : xs.length < U) (c : Makes P f args h n S fun v h2 _ => OwnRow E e h h2 v xs) :
    Makes P f args h n S fun v h2 _ => ∃ a cp, v = .slice a xs.length cp ∧ FRow E h2 (.slice a xs.length cp) xs ∧ SlOk E h2 a xs.length cp := by
  refine makes_weaken c fun v h2 n2 hs hn hf q => ?_
  obtain ⟨h3, w, fr, _, s3⟩ := q.freeze
  refine ⟨h3, w, q.fresh hs s3, ?_⟩
  obtain ⟨a, cp, rfl⟩ := q.slice
  refine ⟨a, cp, rfl, fr, ?_⟩
  rcases q with ⟨h0, e | ⟨b, o, e⟩⟩ | ⟨b, cap, ci, e, h1, _, _, ⟨_, hl⟩, hc⟩
  · subst h0; cases e; exact .inl ⟨by simp, by decide⟩
  · subst h0; cases e; exact .inl ⟨by simp, by decide⟩
  · cases e
    rcases hc with ⟨rfl, hk⟩ | rfl
    · rcases fr with ⟨h0, e | ⟨b', o', cap', e⟩⟩ | ⟨b', o', cap', cs', ci', e, g1, g2, _⟩
      · cases e
      · exact absurd h0 (fun h0 => by simp_all)
      · cases e
        rcases w b _ g2 with g | ⟨cs3, ci3, g, e4⟩
        · rw [h1] at g; cases g
        · rw [h1] at g
          cases g
          cases e4
          exact .inr ⟨rfl, hU, b, 0, _, _, rfl, g2, hk⟩
    · exact .inl ⟨Nat.le_refl _, hU⟩
end Go.Proofs.YtkpaklofdkjinaaDoor
