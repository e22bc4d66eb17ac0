/- texts of the claim, part 7: FenT4 FenT5 FenT7 FenP1 FenW FenP2 FenT9 FenOpn. -/
import Derived.Test.YtkpaklofdkjinaaDoorPt6
import Derived.SevenTiedAt
import Derived.ChangeSame
set_option linter.unusedVariables false
set_option linter.unusedSimpArgs false
set_option linter.unusedSectionVars false
namespace Go.Proofs.YtkpaklofdkjinaaDoor
open Go Go.Abs Go.RowKit Go.Shelf
set_option maxRecDepth 100000
set_option maxHeartbeats 8000000
theorem putS_kept : ∀ (ys xs : List Samp), (putS xs ys).1 = xs ++ keptV ys (putS xs ys).2
  | [], xs => by simp [putS, keptV]
  | y :: ys, xs => by
    simp only [putS]
    split
    · simp only [keptV, if_pos]
      rw [putS_kept ys (xs ++ [y]), List.append_assoc]; rfl
    · rename_i hj
      simp only [keptV, if_neg hj]
      exact putS_kept ys xs
theorem mset_mem {κ ν : Type} [DecidableEq κ] {L : List (κ × ν × Nat)} {ck : Nat} {k : κ} {v : ν} {x : κ × ν × Nat} (h : x ∈ mset L ck k v) : x ∈ L ∨ (x.1 = k ∧ x.2.1 = v) := by
  unfold mset at h
  split at h
  · rename_i i _
    obtain ⟨j, hj⟩ := List.getElem?_of_mem h
    rw [List.getElem?_modify] at hj
    cases hg : L[j]? with
    | none => rw [hg] at hj; cases hj
    | some y =>
      rw [hg] at hj
      by_cases e : i = j
      · simp [e] at hj; subst hj; exact .inr ⟨rfl, rfl⟩
      · simp [e] at hj; subst hj; exact .inl (List.mem_of_getElem? hg)
  · rcases List.mem_append.1 h with h | h
    · exact .inl h
    · rw [List.mem_singleton] at h; subst h; exact .inr ⟨rfl, rfl⟩
theorem InvS.put {N : Nat} {S : SP} (q : InvS N S) {ck : Nat} {ten : ByteArray} {s : Ser} (hn : nameB ten = true) (hb : mayB s.1 = true) (hs : Small s) : InvS (N + 6000) (pS S ck ten s) := by
  have up : InvS (N + 6000) S := fun x hx => by
    obtain ⟨a, b, c⟩ := q x hx
    exact ⟨a, by omega, c⟩
  unfold pS
  split
  · exact up
  · rename_i hk
    intro x hx
    rcases mset_mem hx with hx | ⟨e1, e2⟩
    · exact up x hx
    · rw [e1, e2]
      have hw := q.was (ten, keyA s.1)
      have hl := (putS_len s.2 (wasOf S (ten, keyA s.1))).2
      have h2 := hs.2.1
      refine ⟨putS_may _ _ hw.1, ?_, ⟨hs.1, hs.2.2⟩, ?_, hb, rfl, hn⟩
      · show (putS _ _).1.length ≤ _
        omega
      · show 0 < (putS _ _).1.length
        rw [putS_kept, List.length_append]
        have : 0 < (keptV s.2 (putS (wasOf S (ten, keyA s.1)) s.2).2).length := List.length_pos_iff.2 hk
        omega
theorem pBad_le (S : SP) (ten : ByteArray) (s : Ser) : 0 ≤ pBad S ten s ∧ pBad S ten s ≤ (s.2.length : Nat) := by
  have := badV_le (pPut S ten s).2
  unfold pBad
  have e : (pPut S ten s).2.length = s.2.length := (putS_len _ _).1
  rw [e] at this
  exact this
theorem mayBat_parts {b : Bat} (h : mayBat b = true) : nameB b.ten = true ∧ ∀ s ∈ b.ser, mayB s.1 = true ∧ ∀ x ∈ s.2, mayT x.1 = true := by
  unfold mayBat at h
  simp only [Bool.and_eq_true, List.all_eq_true] at h
  refine ⟨h.1.1, fun s hs => ?_⟩
  have := h.2 s hs
  unfold okSer at this
  simp only [Bool.and_eq_true, List.all_eq_true] at this
  exact this
structure TSt where
  S : SP
  ck : Nat
  ks : List Ser
  bad : Int
def stepT (ten : ByteArray) (R : TSt) (s : Ser) : TSt := ⟨pS R.S R.ck ten s, pCk R.S R.ck ten s, if pKept R.S ten s = [] then R.ks else R.ks ++ [(s.1, pKept R.S ten s)], R.bad + pBad R.S ten s⟩
def foldT (ten : ByteArray) (R : TSt) (ss : List Ser) : TSt := ss.foldl (stepT ten) R
theorem foldT_snoc (ten : ByteArray) (R : TSt) (ss : List Ser) (s : Ser) : foldT ten R (ss ++ [s]) = stepT ten (foldT ten R ss) s := by unfold foldT; rw [List.foldl_append]; rfl
structure TkR where
  e : Int
  F : FM
  kf : Nat
  S : SP
  kg : Nat
  kb : Bat
  bad : Int
  rose : Bool
def takeNo (e : Int) (F : FM) (kf : Nat) (S : SP) (kg : Nat) : TkR := ⟨e, F, kf, S, kg, ⟨⟨#[]⟩, ⟨#[]⟩, 0, []⟩, 0, false⟩
def takeOk (F : FM) (kf : Nat) (b : Bat) (R : TSt) (rose : Bool) : TkR := ⟨0, F, kf, R.S, R.ck, ⟨b.ten, b.clu, b.epo, R.ks⟩, R.bad, rose⟩
def takeR (F : FM) (kf : Nat) (S : SP) (kg : Nat) (b : Bat) : TkR :=
  if mayBat b = false then takeNo 4 F kf S kg
  else if b.clu = ⟨#[]⟩ then takeOk F kf b (foldT b.ten ⟨S, kg, [], 0⟩ b.ser) false
  else if b.epo < (mget F (b.ten, b.clu)).getD 0 then takeNo 61 F kf S kg
  else takeOk (mset F kf (b.ten, b.clu) b.epo) (mck F kf (b.ten, b.clu)) b (foldT b.ten ⟨S, kg, [], 0⟩ b.ser) (decide ((mget F (b.ten, b.clu)).getD 0 < b.epo))
theorem takeX_spec {h : Heap} {n : Nat} {b f g kf kg : Nat} {c : CI} (F : FM) (G : SM) (S : SP) (hb_ : h.get b = some (.cells [.map (some f), .map (some g)] true c)) (hf_ : h.get f = some (.map (mapE plV intV F) kf)) (hg_ : h.get g = some (.map (mapE plV ownV G) kg)) (okF : MOk F kf) (okG : MOk G kg) (hS : SMIs h G S) (ne_f_g : f ≠ g) {a : Option Addr} {cp N : Nat} (ten clu : ByteArray) (epo : Int) (rs : List RSer) (ss : List Ser) (hr : IsRow encSer h (.slice a rs.length cp) rs) (hd : SersIs h rs ss) (hld : Laid0 h) (hsm : Smalls ss) (q1 : ten.data.toList.length < 9223372036854775808) (q2 : clu.data.toList.length < 9223372036854775808) (hinv : InvS N S) (hN : N + 7200000 < 1000000000000) :
    Makes Tryd.prog 13 [.pointer (some ⟨b, 0, none⟩), .agg #[.string (ten), .string (clu), .int .i64 (epo), .slice a (rs.length) cp]] h n ([f, g]) (fun v h2 _ => ∃ w os G2, v = .tuple #[.agg #[.string (takeR F kf S kg ⟨ten, clu, epo, ss⟩).kb.ten, .string (takeR F kf S kg ⟨ten, clu, epo, ss⟩).kb.clu, .int .i64 (takeR F kf S kg ⟨ten, clu, epo, ss⟩).kb.epo, w, .int .i64 (takeR F kf S kg ⟨ten, clu, epo, ss⟩).bad, .bool (takeR F kf S kg ⟨ten, clu, epo, ss⟩).rose], .int .i64 (takeR F kf S kg ⟨ten, clu, epo, ss⟩).e] ∧ OwnRow encSerO 43 h h2 w os ∧ FSers h2 (os.map serV) (takeR F kf S kg ⟨ten, clu, epo, ss⟩).kb.ser ∧ h2.get f = some (.map (mapE plV intV (takeR F kf S kg ⟨ten, clu, epo, ss⟩).F) (takeR F kf S kg ⟨ten, clu, epo, ss⟩).kf) ∧ h2.get g = some (.map (mapE plV ownV G2) (takeR F kf S kg ⟨ten, clu, epo, ss⟩).kg) ∧ MOk (takeR F kf S kg ⟨ten, clu, epo, ss⟩).F (takeR F kf S kg ⟨ten, clu, epo, ss⟩).kf ∧ MOk G2 (takeR F kf S kg ⟨ten, clu, epo, ss⟩).kg ∧ SMIs h2 G2 (takeR F kf S kg ⟨ten, clu, epo, ss⟩).S) := by
 refine Makes.free fun hf => ?_
 have ne_b_f : b ≠ f := by intro e; subst e; rw [hb_] at hf_; cases hf_
 have ne_b_g : b ≠ g := by intro e; subst e; rw [hb_] at hg_; cases hg_
 have hNC : NoCells h [f, g] := .cons hf_ (.cons hg_ (.nil h))
 have hKS : Ours h [f, g] := .cons hf_ rfl (.cons hg_ rfl (.nil h))
 have hrl : rs.length = ss.length := hd.1
 have hs1 : ss.length ≤ 1200 := hsm.1
 have hs : SubBut h h ([f, g]) := .refl _ _
 have hn : n ≤ n := Nat.le_refl _
 have hf0 := hf
 refine Makes.of_bodyV (args := [.pointer (some ⟨b, 0, none⟩), .agg #[.string (ten), .string (clu), .int .i64 (epo), .slice a (rs.length) cp]]) (vs := [.pointer (some ⟨b, 0, none⟩), .agg #[.string (ten), .string (clu), .int .i64 (epo), .slice a (rs.length) cp], undef, undef, undef, undef, undef, undef, undef, undef, undef, undef, undef, undef, undef, undef, undef, undef, undef, undef, undef, undef, undef, undef, undef, undef, undef, undef, undef, undef, undef, undef, undef, undef, undef, undef, undef, undef, undef, undef, undef, undef, undef, undef, undef, undef, undef, undef, undef, undef, undef, undef, undef, undef, undef, undef, undef, undef, undef, undef, undef, undef, undef, undef, undef, undef, undef, undef, undef, undef, undef, undef, undef, undef, undef, undef, undef, undef, undef, undef, undef, undef, undef, undef, undef, undef, undef, undef, undef, undef, undef, undef, undef, undef, undef, undef, undef, undef, undef]) Tryd.func13 rfl rfl ?_
 refine AWp.seq (AWp.rowV (l := _) pok ?_)
 have e_f_n : f ≠ n := hf.ne hf_
 have e_g_n : g ≠ n := hf.ne hg_
 refine sq.op rfl rfl (Does.box (cs := [.string (ten), .string (clu), .int .i64 (epo), .slice a (rs.length) cp]) hf rfl rfl) ?_
 rintro _ h2 n3 ⟨rfl, hb1⟩ s4 hn2 hf
 refine sq.w ?_
 have hS := hS.keep (.of0 s4)
 have hld := hld.keep s4
 have hb_ := s4.sub _ _ hb_
 have hf_ := s4.sub _ _ hf_
 have hg_ := s4.sub _ _ hg_
 have hs := hs.trans (s4.mono (by simp))
 have hn := Nat.le_trans hn hn2
 have e_f_n3 : f ≠ n3 := hf.ne hf_
 have e_g_n3 : g ≠ n3 := hf.ne hg_
 have z_n3 : h.get n3 = none := hf0 _ hn
 refine sq.op rfl rfl (Does.alloc (cs := [.string (⟨#[]⟩), .string (⟨#[]⟩), .int .i64 (0), .slice none (0) (0), .int .i64 (0), .bool false]) hf (z := .agg #[.string (⟨#[]⟩), .string (⟨#[]⟩), .int .i64 (0), .slice none (0) (0), .int .i64 (0), .bool false]) (by kernel_rfl) rfl) ?_
 rintro _ h6 n7 ⟨rfl, hb5⟩ s8 hn2 hf
 refine sq.w ?_
 have hS := hS.keep (.of0 s8)
 have hld := hld.keep s8
 have hb_ := s8.sub _ _ hb_
 have hf_ := s8.sub _ _ hf_
 have hg_ := s8.sub _ _ hg_
 have hb1 := s8.sub _ _ hb1
 have hs := hs.trans (s8.mono (by simp))
 have hn := Nat.le_trans hn hn2
 refine sq.c (v := .int .i64 (0)) rfl rfl rfl rfl ?_
 refine sq.e (AWp.seq (AWp.seq (AWp.rowV (l := _) pok ?_)))
 refine sq.c (v := .pointer (some ⟨b, 0, none⟩)) rfl rfl rfl rfl ?_
 refine sq.c (v := .bool false) rfl rfl (by kernel_rfl) rfl ?_
 refine sq.e ?_
 refine AWp.condF rfl rfl ?_
 refine AWp.skip (AWp.seq (AWp.seq (AWp.rowV (l := _) pok ?_)))
 refine sq.c (v := .agg #[.string (ten), .string (clu), .int .i64 (epo), .slice a (rs.length) cp]) rfl rfl (ldA (P := Tryd.prog) (t := 31) (p := 0) (k := 4) (xs := [.string (ten), .string (clu), .int .i64 (epo), .slice a (rs.length) cp]) (by kernel_rfl) (by kernel_rfl) hb1 rfl (Nat.le_of_ble_eq_true rfl)) rfl ?_
 refine sq.t (v := .bool (mayBat ⟨ten, clu, epo, ss⟩)) rfl (CallsF.fn rfl (by kernel_rfl) rfl rfl) (fun hf => mayBat_spec _ _ _ _ _ (isRow_noc hr hs hNC) (hd.noc hs hNC) hld hsm q1 q2) hf rfl ?_
 intro n9 hn2 hf
 have hn := Nat.le_trans hn hn2
 rcases Bool.eq_false_or_eq_true (mayBat ⟨ten, clu, epo, ss⟩) with c3_1 | c3_1
 ·rw [c3_1]
  refine sq.c (v := .bool false) rfl rfl rfl rfl ?_
  refine sq.e ?_
  refine AWp.condF rfl rfl ?_
  refine AWp.skip (AWp.seq (AWp.rowV (l := _) pok ?_))
  refine sq.c (v := .pointer (some ⟨n, 0, none⟩)) rfl rfl (by kernel_rfl) rfl ?_
  refine sq.c (v := .string (ten)) rfl rfl (ld1 (P := Tryd.prog) (t := 9) (p := 0) (v := .string (ten)) (by kernel_rfl) (by kernel_rfl) hb1 rfl) rfl ?_
  refine sq.c (v := .pointer (some ⟨n, 1, none⟩)) rfl rfl (by kernel_rfl) rfl ?_
  refine sq.c (v := .string (clu)) rfl rfl (ld1 (P := Tryd.prog) (t := 9) (p := 1) (v := .string (clu)) (by kernel_rfl) (by kernel_rfl) hb1 rfl) rfl ?_
  refine sq.c (v := .pointer (some ⟨n, 2, none⟩)) rfl rfl (by kernel_rfl) rfl ?_
  refine sq.c (v := .int .i64 (epo)) rfl rfl (ld1 (P := Tryd.prog) (t := 2) (p := 2) (v := .int .i64 (epo)) (by kernel_rfl) (by kernel_rfl) hb1 rfl) rfl ?_
  refine sq.c (v := .agg #[.string (ten), .string (clu), .int .i64 (epo), .slice none (0) (0)]) rfl rfl (by kernel_rfl) rfl ?_
  refine sq.c (v := .agg #[.string (ten), .string (clu), .int .i64 (epo), .slice none (0) (0), .int .i64 (0), .bool false]) rfl rfl (by kernel_rfl) rfl ?_
  have e_b_n9 : b ≠ n9 := hf.ne hb_
  have e_f_n9 : f ≠ n9 := hf.ne hf_
  have e_g_n9 : g ≠ n9 := hf.ne hg_
  have e_n_n9 : n ≠ n9 := hf.ne hb1
  have e_n3_n9 : n3 ≠ n9 := hf.ne hb5
  have z_n9 : h.get n9 = none := hf0 _ hn
  refine sq.op rfl rfl (Does.alloc (cs := [.string (⟨#[]⟩), .string (⟨#[]⟩), .int .i64 (0), .slice none (0) (0), .int .i64 (0), .bool false]) hf (z := .agg #[.string (⟨#[]⟩), .string (⟨#[]⟩), .int .i64 (0), .slice none (0) (0), .int .i64 (0), .bool false]) (by kernel_rfl) rfl) ?_
  rintro _ h11 n12 ⟨rfl, hb10⟩ s13 hn2 hf
  refine sq.w ?_
  have hS := hS.keep (.of0 s13)
  have hb_ := s13.sub _ _ hb_
  have hf_ := s13.sub _ _ hf_
  have hg_ := s13.sub _ _ hg_
  have hb1 := s13.sub _ _ hb1
  have hb5 := s13.sub _ _ hb5
  have hs := hs.trans (s13.mono (by simp))
  have hn := Nat.le_trans hn hn2
  refine sq.op rfl rfl (Does.store (k := 6) (xs := [.string (ten), .string (clu), .int .i64 (epo), .slice none (0) (0), .int .i64 (0), .bool false]) (cs' := [.string (ten), .string (clu), .int .i64 (epo), .slice none (0) (0), .int .i64 (0), .bool false]) hf (by kernel_rfl) rfl rfl rfl hb10 rfl rfl (Nat.le_of_ble_eq_true rfl) rfl) ?_
  rintro _ h15 n16 ⟨rfl, hb14⟩ s17 hn2 hf
  refine sq.w0 ?_
  have hS := hS.keep (.own s17 hb10 rfl)
  have hb_ := s17.get1 (e_b_n9) hb_
  have hf_ := s17.get1 (e_f_n9) hf_
  have hg_ := s17.get1 (e_g_n9) hg_
  have hb1 := s17.get1 (e_n_n9) hb1
  have hb5 := s17.get1 (e_n3_n9) hb5
  have hs := hs.fresh z_n9 s17
  have hn := Nat.le_trans hn hn2
  refine sq.e (AWp.seq (AWp.seq (AWp.rowV (l := _) pok ?_)))
  refine sq.c (v := .pointer (some ⟨n, 1, none⟩)) rfl rfl (by kernel_rfl) rfl ?_
  refine sq.c (v := .string (clu)) rfl rfl (ld1 (P := Tryd.prog) (t := 9) (p := 1) (v := .string (clu)) (by kernel_rfl) (by kernel_rfl) hb1 rfl) rfl ?_
  refine sq.c (v := .bool (!decide (clu = (⟨#[]⟩ : ByteArray)))) rfl rfl (neD _ _) rfl ?_
  refine sq.e ?_
  by_cases c6_2 : clu = (⟨#[]⟩ : ByteArray)
  ·rw [decide_eq_true c6_2]
   refine AWp.condF rfl rfl ?_
   refine AWp.skip (AWp.seq (AWp.seq (AWp.rowV (l := _) pok ?_)))
   refine sq.c (v := .pointer (some ⟨n, 3, none⟩)) rfl rfl (by kernel_rfl) rfl ?_
   refine sq.c (v := .slice a (rs.length) cp) rfl rfl (ld1 (P := Tryd.prog) (t := 29) (p := 3) (v := .slice a (rs.length) cp) (by kernel_rfl) (by kernel_rfl) hb1 rfl) rfl ?_
   refine sq.c (v := .int .i64 (((rs.length : Nat) : Int))) rfl rfl (by kernel_rfl) rfl ?_
   refine sq.c (v := .int .i64 (0)) rfl rfl rfl rfl ?_
   refine sq.e (AWp.block ?_)
   have hmb := mayBat_parts c3_1
   refine AWp.loopV (fun d vs h19 n20 => ∃ (i : Int) (R : TSt) (G' : SM) (os : List (Hdr × Hdr)) (a_o : Option Addr) (cp_o : Nat), d = ((rs.length : Nat) - i + 1).toNat ∧ SubBut h h19 ([f, g]) ∧ n ≤ n20 ∧ Free h19 n20 ∧ h19.get b = some (.cells [.map (some f), .map (some g)] true c) ∧ h19.get f = some (.map (mapE plV intV F) kf) ∧ h19.get g = some (.map (mapE plV ownV G') R.ck) ∧ SMIs h19 G' R.S ∧ h19.get n = some (.cells [.string (ten), .string (clu), .int .i64 (epo), .slice a (rs.length) cp] true ⟨31, 0, true⟩) ∧ h19.get n3 = some (.cells [.string (⟨#[]⟩), .string (⟨#[]⟩), .int .i64 (0), .slice none (0) (0), .int .i64 (0), .bool false] true ⟨33, 0, true⟩) ∧ h19.get n9 = some (.cells [.string (ten), .string (clu), .int .i64 (epo), .slice a_o (os.length) cp_o, .int .i64 (R.bad), .bool false] true ⟨33, 0, true⟩) ∧ FSers h19 (os.map serV) R.ks ∧ OwnRow encSerO 43 h h19 (.slice a_o (os).length cp_o) (os) ∧ (∀ c ∈ blkOf (.slice a_o (os).length cp_o), c ≠ b) ∧ (∀ c ∈ blkOf (.slice a_o (os).length cp_o), c ≠ f) ∧ (∀ c ∈ blkOf (.slice a_o (os).length cp_o), c ≠ g) ∧ (∀ c ∈ blkOf (.slice a_o (os).length cp_o), c ≠ n) ∧ (∀ c ∈ blkOf (.slice a_o (os).length cp_o), c ≠ n3) ∧ (∀ c ∈ blkOf (.slice a_o (os).length cp_o), c ≠ n9) ∧ MOk G' R.ck ∧ (0 ≤ i) ∧ (i ≤ (rs.length : Nat)) ∧ (R = foldT ten ⟨S, kg, [], 0⟩ (ss.take i.toNat)) ∧ (InvS (N + 6000 * i.toNat) R.S) ∧ (0 ≤ R.bad) ∧ (R.bad ≤ 6000 * i) ∧ (os.length ≤ i.toNat) ∧ ∃ y18 : Nat → Value, vs = [.pointer (some ⟨b, 0, none⟩), .agg #[.string (ten), .string (clu), .int .i64 (epo), .slice a (rs.length) cp], undef, .pointer (some ⟨n, 0, none⟩), .pointer (some ⟨n3, 0, none⟩), .int .i64 (0), .pointer (some ⟨n9, 0, none⟩), undef, undef, (y18 9), (y18 10), (y18 11), .pointer (some ⟨b, 0, none⟩), .bool false, undef, .agg #[.string (ten), .string (clu), .int .i64 (epo), .slice a (rs.length) cp], .bool true, .bool false, undef, .pointer (some ⟨n, 0, none⟩), .string (ten), .pointer (some ⟨n, 1, none⟩), .string (clu), .pointer (some ⟨n, 2, none⟩), .int .i64 (epo), .agg #[.string (ten), .string (clu), .int .i64 (epo), .slice none (0) (0)], .agg #[.string (ten), .string (clu), .int .i64 (epo), .slice none (0) (0), .int .i64 (0), .bool false], .pointer (some ⟨n, 1, none⟩), .string (clu), .bool false, undef, undef, undef, undef, undef, undef, undef, undef, undef, undef, undef, undef, undef, undef, undef, undef, undef, undef, undef, undef, undef, undef, undef, undef, undef, undef, undef, undef, undef, undef, undef, undef, .pointer (some ⟨n, 3, none⟩), .slice a (rs.length) cp, .int .i64 (((rs.length : Nat) : Int)), .int .i64 (i), (y18 66), (y18 67), (y18 68), (y18 69), (y18 70), (y18 71), (y18 72), (y18 73), (y18 74), (y18 75), (y18 76), (y18 77), (y18 78), (y18 79), (y18 80), (y18 81), (y18 82), (y18 83), (y18 84), (y18 85), (y18 86), (y18 87), (y18 88), (y18 89), (y18 90), (y18 91), (y18 92), (y18 93), (y18 94), (y18 95), (y18 96), (y18 97), undef]) (((rs.length : Nat) - (0 : Int) + 1).toNat) ⟨0, ⟨S, kg, [], 0⟩, G, [], none, 0, rfl, hs, hn, hf, hb_, hf_, hg_, hS, hb1, hb5, hb14, (FSers.nil _), OwnRow.nil, (by simp [blkOf]), (by simp [blkOf]), (by simp [blkOf]), (by simp [blkOf]), (by simp [blkOf]), (by simp [blkOf]), okG, (by omega), (by omega), (rfl), (hinv), (Int.le_refl 0), (Int.le_refl 0), (Nat.le_refl 0), getV [undef, undef, undef, undef, undef, undef, undef, undef, undef, undef, undef, undef, undef, undef, undef, undef, undef, undef, undef, undef, undef, undef, undef, undef, undef, undef, undef, undef, undef, undef, undef, undef, undef, undef, undef, undef, undef, undef, undef, undef, undef, undef, undef, undef, undef, undef, undef, undef, undef, undef, undef, undef, undef, undef, undef, undef, undef, undef, undef, undef, undef, undef, undef, undef, undef, undef, undef, undef, undef, undef, undef, undef, undef, undef, undef, undef, undef, undef, undef, undef, undef, undef, undef, undef, undef, undef, undef, undef, undef, undef, undef, undef, undef, undef, undef, undef, undef, undef], rfl⟩ ?_
   rintro d vs h19 n20 ⟨i, R, G', os, a_o, cp_o, rfl, hs, hn, hf, hb_, hf_, hg_, hS, hb1, hb5, hb14, D, R_o, d_o_b, d_o_f, d_o_g, d_o_n, d_o_n3, d_o_n9, okg2, hi0, hi1, hR, hinv2, hbd0, hbd1, hol, y18, rfl⟩
   refine AWp.seq (AWp.rowV (l := _) pok ?_)
   refine sq.c (v := .bool (decide (i < (((rs.length : Nat) : Int))))) rfl rfl rfl rfl ?_
   refine sq.e (AWp.seq ?_)
   by_cases c13_0 : i < (((rs.length : Nat) : Int))
   ·rw [decide_eq_true c13_0]
    refine AWp.condT rfl rfl ?_
    refine AWp.skip (AWp.seq (AWp.block (AWp.seq (AWp.rowV (l := _) pok ?_))))
    have i27 : (0 : Int) ≤ (i : Int) := by omega
    obtain ⟨x28, hx_x28⟩ : ∃ x, (rs)[((i : Int)).toNat]? = some x := ⟨_, List.getElem?_eq_getElem (by omega)⟩
    obtain ⟨y_x28, hy_x28, L_x28, M_x28⟩ := hd.at hx_x28
    obtain ⟨v1_x28, v2_x28⟩ := x28
    obtain ⟨a1_x28, c1_x28, rfl⟩ := (show IsRow encLab _ v1_x28 y_x28.1 from L_x28).slice
    obtain ⟨a2_x28, c2_x28, rfl⟩ := (show IsRow encSmp _ v2_x28 y_x28.2 from M_x28).slice
    obtain ⟨b21, o22, cs_b21, ow_b21, ci_b21, ie26, hb23, hc24, hr25⟩ := IsRow.at (P := Tryd.prog) (t := 29) (e := 43) (k := .i64) (by kernel_rfl) (by kernel_rfl) (isRow_noc hr hs hNC) i27 hx_x28
    refine sq.c (v := .pointer (some ⟨b21, o22, none⟩)) rfl rfl ie26 rfl ?_
    refine sq.c (v := .agg #[.slice a1_x28 (y_x28.1.length) c1_x28, .slice a2_x28 (y_x28.2.length) c2_x28]) rfl rfl (ldR (P := Tryd.prog) (t := 43) (k := 2) (xs := [.slice a1_x28 (y_x28.1.length) c1_x28, .slice a2_x28 (y_x28.2.length) c2_x28]) (by kernel_rfl) (by kernel_rfl) hr25) rfl ?_
    have e_b_n20 : b ≠ n20 := hf.ne hb_
    have e_f_n20 : f ≠ n20 := hf.ne hf_
    have e_g_n20 : g ≠ n20 := hf.ne hg_
    have e_n_n20 : n ≠ n20 := hf.ne hb1
    have e_n3_n20 : n3 ≠ n20 := hf.ne hb5
    have e_n9_n20 : n9 ≠ n20 := hf.ne hb14
    have d_o_n20 : ∀ c ∈ blkOf (.slice a_o (os).length cp_o), c ≠ n20 := fun c hc e => R_o.ne' (hf _ (Nat.le_refl _)) c hc (List.mem_singleton.2 e)
    have z_n20 : h.get n20 = none := hf0 _ hn
    refine sq.op rfl rfl (Does.alloc (cs := [.slice none (0) (0), .slice none (0) (0)]) hf (z := .agg #[.slice none (0) (0), .slice none (0) (0)]) (by kernel_rfl) rfl) ?_
    rintro _ h30 n31 ⟨rfl, hb29⟩ s32 hn2 hf
    refine sq.w ?_
    have hS := hS.keep (.of0 s32)
    have D := D.keep (.of0 s32)
    have R_o := R_o.keep s32
    have hb_ := s32.sub _ _ hb_
    have hf_ := s32.sub _ _ hf_
    have hg_ := s32.sub _ _ hg_
    have hb1 := s32.sub _ _ hb1
    have hb5 := s32.sub _ _ hb5
    have hb14 := s32.sub _ _ hb14
    have hs := hs.trans (s32.mono (by simp))
    have hn := Nat.le_trans hn hn2
    refine sq.op rfl rfl (Does.store (k := 2) (xs := [.slice a1_x28 (y_x28.1.length) c1_x28, .slice a2_x28 (y_x28.2.length) c2_x28]) (cs' := [.slice a1_x28 (y_x28.1.length) c1_x28, .slice a2_x28 (y_x28.2.length) c2_x28]) hf (by kernel_rfl) rfl rfl rfl hb29 rfl rfl (Nat.le_of_ble_eq_true rfl) rfl) ?_
    rintro _ h34 n35 ⟨rfl, hb33⟩ s36 hn2 hf
    refine sq.w0 ?_
    have hS := hS.keep (.own s36 hb29 rfl)
    have D := D.keep (.own s36 hb29 rfl)
    have R_o := R_o.but s36 (fun c hc hm => d_o_n20 c hc (List.mem_singleton.1 hm))
    have hb_ := s36.get1 (e_b_n20) hb_
    have hf_ := s36.get1 (e_f_n20) hf_
    have hg_ := s36.get1 (e_g_n20) hg_
    have hb1 := s36.get1 (e_n_n20) hb1
    have hb5 := s36.get1 (e_n3_n20) hb5
    have hb14 := s36.get1 (e_n9_n20) hb14
    have hs := hs.fresh z_n20 s36
    have hn := Nat.le_trans hn hn2
    refine sq.e (AWp.seq (AWp.rowV (l := _) pok ?_))
    refine sq.c (v := .pointer (some ⟨b, 0, none⟩)) rfl rfl rfl rfl ?_
    refine sq.c (v := .pointer (some ⟨n, 0, none⟩)) rfl rfl (by kernel_rfl) rfl ?_
    refine sq.c (v := .string (ten)) rfl rfl (ld1 (P := Tryd.prog) (t := 9) (p := 0) (v := .string (ten)) (by kernel_rfl) (by kernel_rfl) hb1 rfl) rfl ?_
    refine sq.c (v := .agg #[.slice a1_x28 (y_x28.1.length) c1_x28, .slice a2_x28 (y_x28.2.length) c2_x28]) rfl rfl (ldA (P := Tryd.prog) (t := 43) (p := 0) (k := 2) (xs := [.slice a1_x28 (y_x28.1.length) c1_x28, .slice a2_x28 (y_x28.2.length) c2_x28]) (by kernel_rfl) (by kernel_rfl) hb33 rfl (Nat.le_of_ble_eq_true rfl)) rfl ?_
    have hsx := hsm.2 _ (List.mem_of_getElem? hy_x28)
    refine sq.k rfl (CallsF.fn rfl (by kernel_rfl) rfl rfl) (putSt _ _ _ hb_ hf_ hg_ okF okg2 hS ne_f_g ten _ _ (isRow_noc L_x28 hs hNC) (isRow_noc M_x28 hs hNC) hsx hinv2 (by omega)) ?_
    rintro _ h37 n38 ⟨v_k, Gk, rfl, F_k, hgk, okk, sm_k⟩ s39 hn2 hf
    obtain ⟨a_k, c_k, rfl⟩ := F_k.slice
    refine sq.w ?_
    have D := D.keep (.own s39 hg_ rfl)
    have R_o := R_o.but s39 (fun c hc hm => d_o_g c hc (List.mem_singleton.1 hm))
    have hb_ := s39.get1 (ne_b_g) hb_
    have hf_ := s39.get1 (ne_f_g) hf_
    have hb1 := s39.get1 (Ne.symm e_g_n) hb1
    have hb5 := s39.get1 (Ne.symm e_g_n3) hb5
    have hb14 := s39.get1 (Ne.symm e_g_n9) hb14
    have hb33 := s39.get1 (Ne.symm e_g_n20) hb33
    have hs := hs.at (by simp) s39
    have hn := Nat.le_trans hn hn2
    have hpb : 0 ≤ pBad R.S ten (y_x28.1, y_x28.2) ∧ pBad R.S ten (y_x28.1, y_x28.2) ≤ (y_x28.2.length : Nat) := pBad_le R.S ten (y_x28.1, y_x28.2)
    have hsx2 : y_x28.2.length < 6000 := hsx.2.1
    have hS := sm_k
    refine sq.c (v := .tuple #[.slice a_k (pKept R.S ten (y_x28.1, y_x28.2)).length c_k, .int .i64 (pBad R.S ten (y_x28.1, y_x28.2))]) rfl rfl rfl rfl ?_
    refine sq.c (v := .slice a_k (pKept R.S ten (y_x28.1, y_x28.2)).length c_k) rfl rfl rfl rfl ?_
    refine sq.c (v := .int .i64 (pBad R.S ten (y_x28.1, y_x28.2))) rfl rfl rfl rfl ?_
    refine sq.c (v := .slice a_k (pKept R.S ten (y_x28.1, y_x28.2)).length c_k) rfl rfl rfl rfl ?_
    refine sq.c (v := .int .i64 (pBad R.S ten (y_x28.1, y_x28.2))) rfl rfl rfl rfl ?_
    refine sq.e (AWp.seq (AWp.rowV (l := _) pok ?_))
    refine sq.c (v := .pointer (some ⟨n9, 4, none⟩)) rfl rfl (by kernel_rfl) rfl ?_
    refine sq.c (v := .int .i64 (R.bad)) rfl rfl (ld1 (P := Tryd.prog) (t := 3) (p := 4) (v := .int .i64 (R.bad)) (by kernel_rfl) (by kernel_rfl) hb14 rfl) rfl ?_
    refine sq.c (v := .int .i64 (pBad R.S ten (y_x28.1, y_x28.2))) rfl rfl rfl rfl ?_
    refine sq.c (v := .int .i64 (R.bad + (pBad R.S ten (y_x28.1, y_x28.2)))) rfl rfl (okI (wrap_i64 (by have := hpb.1; omega) (by have := hpb.2; omega))) rfl ?_
    refine sq.c (v := .pointer (some ⟨n9, 4, none⟩)) rfl rfl (by kernel_rfl) rfl ?_
    refine sq.op rfl rfl (Does.store (k := 1) (xs := [.int .i64 (R.bad + (pBad R.S ten (y_x28.1, y_x28.2)))]) (cs' := [.string (ten), .string (clu), .int .i64 (epo), .slice a_o (os.length) cp_o, .int .i64 (R.bad + (pBad R.S ten (y_x28.1, y_x28.2))), .bool false]) hf (by kernel_rfl) rfl rfl rfl hb14 rfl rfl (Nat.le_of_ble_eq_true rfl) rfl) ?_
    rintro _ h41 n42 ⟨rfl, hb40⟩ s43 hn2 hf
    refine sq.w0 ?_
    have D := D.keep (.own s43 hb14 rfl)
    have R_o := R_o.but s43 (fun c hc hm => d_o_n9 c hc (List.mem_singleton.1 hm))
    have hS := hS.keep (.own s43 hb14 rfl)
    have F_k := F_k.keep (.own s43 hb14 rfl)
    have hb_ := s43.get1 (e_b_n9) hb_
    have hf_ := s43.get1 (e_f_n9) hf_
    have hgk := s43.get1 (e_g_n9) hgk
    have hb1 := s43.get1 (e_n_n9) hb1
    have hb5 := s43.get1 (e_n3_n9) hb5
    have hb33 := s43.get1 (Ne.symm e_n9_n20) hb33
    have hs := hs.fresh z_n9 s43
    have hn := Nat.le_trans hn hn2
    refine sq.e (AWp.seq (AWp.rowV (l := _) pok ?_))
    refine sq.c (v := .slice a_k (pKept R.S ten (y_x28.1, y_x28.2)).length c_k) rfl rfl rfl rfl ?_
    refine sq.c (v := .int .i64 ((((pKept R.S ten (y_x28.1, y_x28.2)).length : Nat) : Int))) rfl rfl (by kernel_rfl) rfl ?_
    refine sq.c (v := .bool (decide ((0 : Int) < ((((pKept R.S ten (y_x28.1, y_x28.2)).length : Nat) : Int))))) rfl rfl rfl rfl ?_
    refine sq.e ?_
    by_cases c17_2 : (0 : Int) < ((((pKept R.S ten (y_x28.1, y_x28.2)).length : Nat) : Int))
    ·rw [decide_eq_true c17_2]
     refine AWp.condT rfl rfl ?_
     refine AWp.anyJ pok [0, 1, 2, 3, 4, 6, 5, 7, 8, 9, 10, 11, 12] (by kernel_rfl) (by kernel_rfl) rfl (fun x fr fr' h n hd _ q => ⟨hd ▸ q.1, q.2⟩) ?_
     refine dj.c (v := .pointer (some ⟨n9, 0, none⟩)) rfl (by kernel_rfl) rfl rfl (by kernel_rfl) rfl ?_
     refine dj.c (v := .pointer (some ⟨n9, 3, none⟩)) rfl (by kernel_rfl) rfl rfl (by kernel_rfl) rfl ?_
     refine dj.gB (v := .slice a_o (os.length) cp_o) n9 rfl (by kernel_rfl) rfl rfl (fun _ q_ => (ld1 (P := Tryd.prog) (t := 29) (p := 3) (v := .slice a_o (os.length) cp_o) (by kernel_rfl) (by kernel_rfl) (q_ _ hb40) rfl)) rfl ?_
     refine dj.c (v := .pointer (some ⟨n20, 0, none⟩)) rfl (by kernel_rfl) rfl rfl (by kernel_rfl) rfl ?_
     refine dj.gB (v := .slice a1_x28 (y_x28.1.length) c1_x28) n20 rfl (by kernel_rfl) rfl rfl (fun _ q_ => (ld1 (P := Tryd.prog) (t := 40) (p := 0) (v := .slice a1_x28 (y_x28.1.length) c1_x28) (by kernel_rfl) (by kernel_rfl) (q_ _ hb33) rfl)) rfl ?_
     refine dj.c (v := .slice a_k (pKept R.S ten (y_x28.1, y_x28.2)).length c_k) rfl (by kernel_rfl) rfl rfl rfl rfl ?_
     refine dj.k rfl (by kernel_rfl) rfl (CallsF.fn rfl (by kernel_rfl) rfl rfl) (cloneLFz _ (isRow_noc L_x28 hs hNC) (by have := hsx.1; omega)) (keepJD (by kernel_rfl) (keepJC (by simp) keepJN)) ?_
     rintro v_q43 h44 n45 R_q43 s46 hn2 hf
     obtain ⟨a_q43, c_q43, rfl⟩ := R_q43.slice
     refine dj.w ?_
     have D := D.keep (.of0 s46)
     have R_o := R_o.keep s46
     have hS := hS.keep (.of0 s46)
     have F_k := F_k.keep (.of0 s46)
     have hb_ := s46.sub _ _ hb_
     have hf_ := s46.sub _ _ hf_
     have hgk := s46.sub _ _ hgk
     have hb1 := s46.sub _ _ hb1
     have hb5 := s46.sub _ _ hb5
     have hb40 := s46.sub _ _ hb40
     have hb33 := s46.sub _ _ hb33
     have hs := hs.trans (s46.mono (by simp))
     have hn := Nat.le_trans hn hn2
     refine dj.c (v := .agg #[.slice a_q43 (y_x28.1).length c_q43, .slice a_k (pKept R.S ten (y_x28.1, y_x28.2)).length c_k]) rfl (by kernel_rfl) rfl rfl (by kernel_rfl) rfl ?_
     have d_o_n45 : ∀ c ∈ blkOf (.slice a_o (os).length cp_o), c ≠ n45 := fun c hc e => R_o.ne' (hf _ (Nat.le_refl _)) c hc (List.mem_singleton.2 e)
     refine dj.op rfl (by kernel_rfl) rfl rfl (Does.build (e := 43) (cs := [.slice a_q43 (y_x28.1).length c_q43, .slice a_k (pKept R.S ten (y_x28.1, y_x28.2)).length c_k]) hf (fun _ _ => by kernel_rfl)) (keepJC (by simp) (keepJC (by simp) keepJN)) ?_
     rintro _ h48 n49 ⟨rfl, hb47⟩ s50 hn2 hf
     refine dj.w ?_
     have D := D.keep (.of0 s50)
     have R_o := R_o.keep s50
     have hS := hS.keep (.of0 s50)
     have F_k := F_k.keep (.of0 s50)
     have R_q43 := R_q43.keep (.of0 s50)
     have hb_ := s50.sub _ _ hb_
     have hf_ := s50.sub _ _ hf_
     have hgk := s50.sub _ _ hgk
     have hb1 := s50.sub _ _ hb1
     have hb5 := s50.sub _ _ hb5
     have hb40 := s50.sub _ _ hb40
     have hb33 := s50.sub _ _ hb33
     have hs := hs.trans (s50.mono (by simp))
     have hn := Nat.le_trans hn hn2
     have hz0 : h.get n49 = none := hf0 _ hn
     have hfo := hf
     have hFo := R_o.ours
     refine dj.op rfl (by kernel_rfl) rfl rfl (Does.append (E := encSerO) (xs := os) (ys := [((a_q43, (y_x28.1).length, c_q43), (a_k, (pKept R.S ten (y_x28.1, y_x28.2)).length, c_k))]) appSerO ⟨.slice 43, by kernel_rfl, fun _ q => by cases q⟩ hf hs R_o (IsRow.of (E := encSerO) (xs := [((a_q43, (y_x28.1).length, c_q43), (a_k, (pKept R.S ten (y_x28.1, y_x28.2)).length, c_k))]) (cap := 1) hb47 (Nat.le_refl _)) rfl rfl (by have := hsx.1; simp only [List.length_cons, List.length_nil]; omega) (by have := hsx.1; simp only [List.length_cons, List.length_nil]; omega) hz0) (keepJC (fun hm => d_o_n20 _ hm rfl) (keepJD (by kernel_rfl) keepJN)) ?_
     rintro v54 h51 n52 ⟨R_o, hs, hB55⟩ s53 hn2 hf
     refine dj.w ?_
     have dn_o_b : ∀ c ∈ blkOf v54, c ≠ b := fun c hc => (hB55 c hc).elim (fun q => d_o_b c q) (fun q => by rw [q]; exact (hfo.ne hb_).symm)
     have dn_o_f : ∀ c ∈ blkOf v54, c ≠ f := fun c hc => (hB55 c hc).elim (fun q => d_o_f c q) (fun q => by rw [q]; exact (hfo.ne hf_).symm)
     have dn_o_g : ∀ c ∈ blkOf v54, c ≠ g := fun c hc => (hB55 c hc).elim (fun q => d_o_g c q) (fun q => by rw [q]; exact (hfo.ne hgk).symm)
     have dn_o_n : ∀ c ∈ blkOf v54, c ≠ n := fun c hc => (hB55 c hc).elim (fun q => d_o_n c q) (fun q => by rw [q]; exact (hfo.ne hb1).symm)
     have dn_o_n3 : ∀ c ∈ blkOf v54, c ≠ n3 := fun c hc => (hB55 c hc).elim (fun q => d_o_n3 c q) (fun q => by rw [q]; exact (hfo.ne hb5).symm)
     have dn_o_n9 : ∀ c ∈ blkOf v54, c ≠ n9 := fun c hc => (hB55 c hc).elim (fun q => d_o_n9 c q) (fun q => by rw [q]; exact (hfo.ne hb40).symm)
     have dn_o_n20 : ∀ c ∈ blkOf v54, c ≠ n20 := fun c hc => (hB55 c hc).elim (fun q => d_o_n20 c q) (fun q => by rw [q]; exact (hfo.ne hb33).symm)
     have dn_o_n45 : ∀ c ∈ blkOf v54, c ≠ n45 := fun c hc => (hB55 c hc).elim (fun q => d_o_n45 c q) (fun q => by rw [q]; exact (hfo.ne hb47).symm)
     have ours_s53 := hFo
     have hb_ := s53 _ _ (fun hm => d_o_b _ hm rfl) hb_
     have hf_ := s53 _ _ (fun hm => d_o_f _ hm rfl) hf_
     have hgk := s53 _ _ (fun hm => d_o_g _ hm rfl) hgk
     have hb1 := s53 _ _ (fun hm => d_o_n _ hm rfl) hb1
     have hb5 := s53 _ _ (fun hm => d_o_n3 _ hm rfl) hb5
     have hb40 := s53 _ _ (fun hm => d_o_n9 _ hm rfl) hb40
     have D := D.keep (.of s53 ours_s53)
     have hb33 := s53 _ _ (fun hm => d_o_n20 _ hm rfl) hb33
     have hS := hS.keep (.of s53 ours_s53)
     have F_k := F_k.keep (.of s53 ours_s53)
     have R_q43 := R_q43.keep (.of s53 ours_s53)
     have hb47 := s53 _ _ (fun hm => d_o_n45 _ hm rfl) hb47
     have d_o_b := dn_o_b
     have d_o_f := dn_o_f
     have d_o_g := dn_o_g
     have d_o_n := dn_o_n
     have d_o_n3 := dn_o_n3
     have d_o_n9 := dn_o_n9
     have d_o_n20 := dn_o_n20
     have d_o_n45 := dn_o_n45
     obtain ⟨a56, cp57, rfl⟩ := R_o.slice
     have hn := Nat.le_trans hn hn2
     refine dj.c (v := .pointer (some ⟨n9, 0, none⟩)) rfl (by kernel_rfl) rfl rfl (by kernel_rfl) rfl ?_
     refine dj.c (v := .pointer (some ⟨n9, 3, none⟩)) rfl (by kernel_rfl) rfl rfl (by kernel_rfl) rfl ?_
     refine dj.op rfl (by kernel_rfl) rfl rfl (Does.store (k := 1) (xs := [.slice a56 (os ++ [((a_q43, (y_x28.1).length, c_q43), (a_k, (pKept R.S ten (y_x28.1, y_x28.2)).length, c_k))]).length cp57]) (cs' := [.string (ten), .string (clu), .int .i64 (epo), .slice a56 (os ++ [((a_q43, (y_x28.1).length, c_q43), (a_k, (pKept R.S ten (y_x28.1, y_x28.2)).length, c_k))]).length cp57, .int .i64 (R.bad + (pBad R.S ten (y_x28.1, y_x28.2))), .bool false]) hf (by kernel_rfl) rfl rfl rfl hb40 rfl rfl (Nat.le_of_ble_eq_true rfl) rfl) (keepJD (by kernel_rfl) (keepJD (by kernel_rfl) keepJN)) ?_
     rintro _ h59 n60 ⟨rfl, hb58⟩ s61 hn2 hf
     refine dj.w0 ?_
     have D := D.keep (.own s61 hb40 rfl)
     have hS := hS.keep (.own s61 hb40 rfl)
     have F_k := F_k.keep (.own s61 hb40 rfl)
     have R_q43 := R_q43.keep (.own s61 hb40 rfl)
     have R_o := R_o.but s61 (fun c hc hm => d_o_n9 c hc (List.mem_singleton.1 hm))
     have hb_ := s61.get1 (e_b_n9) hb_
     have hf_ := s61.get1 (e_f_n9) hf_
     have hgk := s61.get1 (e_g_n9) hgk
     have hb1 := s61.get1 (e_n_n9) hb1
     have hb5 := s61.get1 (e_n3_n9) hb5
     have hs := hs.fresh z_n9 s61
     have hn := Nat.le_trans hn hn2
     refine dj.e ?_
     refine AWp.rowV (l := _) pok ?_
     refine sq.c (v := .int .i64 (i + 1)) rfl rfl (okI (wrap_i64 (by omega) (by omega))) rfl ?_
     refine sq.c (v := .int .i64 (i + 1)) rfl rfl rfl rfl ?_
     refine sq.e ?_
     have hne : ¬ pKept R.S ten y_x28 = [] := fun e => by rw [show pKept R.S ten (y_x28.1, y_x28.2) = [] from e] at c17_2; simp at c17_2
     refine ⟨_, _, rfl, by omega, i + 1, stepT ten R y_x28, Gk, os ++ [((a_q43, (y_x28.1).length, c_q43), (a_k, (pKept R.S ten (y_x28.1, y_x28.2)).length, c_k))], a56, cp57, rfl, hs, hn, hf, hb_, hf_, hgk, hS, hb1, hb5, hb58, (by rw [show (stepT ten R y_x28).ks = _ from if_neg hne]; exact FSers.snocO D ⟨R_q43, F_k⟩), R_o, d_o_b, d_o_f, d_o_g, d_o_n, d_o_n3, d_o_n9, okk, (by omega), (by omega), (by rw [take_snoc hi0 hy_x28, foldT_snoc, ← hR]), (by rw [show N + 6000 * (i + 1).toNat = N + 6000 * i.toNat + 6000 by omega]; exact hinv2.put hmb.1 (hmb.2 _ (List.mem_of_getElem? hy_x28)).1 hsx), (Int.add_nonneg hbd0 hpb.1), (show R.bad + pBad R.S ten (y_x28.1, y_x28.2) ≤ _ by omega), (by simp only [List.length_append, List.length_cons, List.length_nil]; omega), getV [undef, undef, undef, undef, undef, undef, undef, undef, undef, .pointer (some ⟨n20, 0, none⟩), .slice a_k (pKept R.S ten (y_x28.1, y_x28.2)).length c_k, .int .i64 (pBad R.S ten (y_x28.1, y_x28.2)), undef, undef, undef, undef, undef, undef, undef, undef, undef, undef, undef, undef, undef, undef, undef, undef, undef, undef, undef, undef, undef, undef, undef, undef, undef, undef, undef, undef, undef, undef, undef, undef, undef, undef, undef, undef, undef, undef, undef, undef, undef, undef, undef, undef, undef, undef, undef, undef, undef, undef, undef, undef, undef, undef, .bool true, .pointer (some ⟨b21, o22, none⟩), .agg #[.slice a1_x28 (y_x28.1.length) c1_x28, .slice a2_x28 (y_x28.2.length) c2_x28], .tuple #[.slice a_k (pKept R.S ten (y_x28.1, y_x28.2)).length c_k, .int .i64 (pBad R.S ten (y_x28.1, y_x28.2))], .pointer (some ⟨b, 0, none⟩), .pointer (some ⟨n, 0, none⟩), .string (ten), .agg #[.slice a1_x28 (y_x28.1.length) c1_x28, .slice a2_x28 (y_x28.2.length) c2_x28], .tuple #[.slice a_k (pKept R.S ten (y_x28.1, y_x28.2)).length c_k, .int .i64 (pBad R.S ten (y_x28.1, y_x28.2))], .slice a_k (pKept R.S ten (y_x28.1, y_x28.2)).length c_k, .int .i64 (pBad R.S ten (y_x28.1, y_x28.2)), .pointer (some ⟨n9, 4, none⟩), .int .i64 (R.bad), .int .i64 (pBad R.S ten (y_x28.1, y_x28.2)), .int .i64 (R.bad + (pBad R.S ten (y_x28.1, y_x28.2))), .pointer (some ⟨n9, 4, none⟩), .slice a_k (pKept R.S ten (y_x28.1, y_x28.2)).length c_k, .int .i64 ((((pKept R.S ten (y_x28.1, y_x28.2)).length : Nat) : Int)), .bool true, .pointer (some ⟨n9, 0, none⟩), .pointer (some ⟨n9, 3, none⟩), .slice a_o (os.length) cp_o, .pointer (some ⟨n20, 0, none⟩), .slice a1_x28 (y_x28.1.length) c1_x28, .slice a_q43 (y_x28.1).length c_q43, .slice a_k (pKept R.S ten (y_x28.1, y_x28.2)).length c_k, .agg #[.slice a_q43 (y_x28.1).length c_q43, .slice a_k (pKept R.S ten (y_x28.1, y_x28.2)).length c_k], .slice (some ⟨n45, 0, none⟩) (1) (1), .slice a56 (os ++ [((a_q43, (y_x28.1).length, c_q43), (a_k, (pKept R.S ten (y_x28.1, y_x28.2)).length, c_k))]).length cp57, .pointer (some ⟨n9, 0, none⟩), .pointer (some ⟨n9, 3, none⟩), .int .i64 (i + 1)], rfl⟩
    ·rw [decide_eq_false c17_2]
     refine AWp.condF rfl rfl ?_
     refine AWp.skip (AWp.rowV (l := _) pok ?_)
     refine sq.c (v := .int .i64 (i + 1)) rfl rfl (okI (wrap_i64 (by omega) (by omega))) rfl ?_
     refine sq.c (v := .int .i64 (i + 1)) rfl rfl rfl rfl ?_
     refine sq.e ?_
     have he : pKept R.S ten y_x28 = [] := List.eq_nil_of_length_eq_zero (show (pKept R.S ten (y_x28.1, y_x28.2)).length = 0 by omega)
     refine ⟨_, _, rfl, by omega, i + 1, stepT ten R y_x28, Gk, os, a_o, cp_o, rfl, hs, hn, hf, hb_, hf_, hgk, hS, hb1, hb5, hb40, (by rw [show (stepT ten R y_x28).ks = _ from if_pos he]; exact D), R_o, d_o_b, d_o_f, d_o_g, d_o_n, d_o_n3, d_o_n9, okk, (by omega), (by omega), (by rw [take_snoc hi0 hy_x28, foldT_snoc, ← hR]), (by rw [show N + 6000 * (i + 1).toNat = N + 6000 * i.toNat + 6000 by omega]; exact hinv2.put hmb.1 (hmb.2 _ (List.mem_of_getElem? hy_x28)).1 hsx), (Int.add_nonneg hbd0 hpb.1), (show R.bad + pBad R.S ten (y_x28.1, y_x28.2) ≤ _ by omega), (by omega), getV [undef, undef, undef, undef, undef, undef, undef, undef, undef, .pointer (some ⟨n20, 0, none⟩), .slice a_k (pKept R.S ten (y_x28.1, y_x28.2)).length c_k, .int .i64 (pBad R.S ten (y_x28.1, y_x28.2)), undef, undef, undef, undef, undef, undef, undef, undef, undef, undef, undef, undef, undef, undef, undef, undef, undef, undef, undef, undef, undef, undef, undef, undef, undef, undef, undef, undef, undef, undef, undef, undef, undef, undef, undef, undef, undef, undef, undef, undef, undef, undef, undef, undef, undef, undef, undef, undef, undef, undef, undef, undef, undef, undef, .bool true, .pointer (some ⟨b21, o22, none⟩), .agg #[.slice a1_x28 (y_x28.1.length) c1_x28, .slice a2_x28 (y_x28.2.length) c2_x28], .tuple #[.slice a_k (pKept R.S ten (y_x28.1, y_x28.2)).length c_k, .int .i64 (pBad R.S ten (y_x28.1, y_x28.2))], .pointer (some ⟨b, 0, none⟩), .pointer (some ⟨n, 0, none⟩), .string (ten), .agg #[.slice a1_x28 (y_x28.1.length) c1_x28, .slice a2_x28 (y_x28.2.length) c2_x28], .tuple #[.slice a_k (pKept R.S ten (y_x28.1, y_x28.2)).length c_k, .int .i64 (pBad R.S ten (y_x28.1, y_x28.2))], .slice a_k (pKept R.S ten (y_x28.1, y_x28.2)).length c_k, .int .i64 (pBad R.S ten (y_x28.1, y_x28.2)), .pointer (some ⟨n9, 4, none⟩), .int .i64 (R.bad), .int .i64 (pBad R.S ten (y_x28.1, y_x28.2)), .int .i64 (R.bad + (pBad R.S ten (y_x28.1, y_x28.2))), .pointer (some ⟨n9, 4, none⟩), .slice a_k (pKept R.S ten (y_x28.1, y_x28.2)).length c_k, .int .i64 ((((pKept R.S ten (y_x28.1, y_x28.2)).length : Nat) : Int)), .bool false, (y18 85), (y18 86), (y18 87), (y18 88), (y18 89), (y18 90), (y18 91), (y18 92), (y18 93), (y18 94), (y18 95), (y18 96), .int .i64 (i + 1)], rfl⟩
   ·rw [decide_eq_false c13_0]
    refine AWp.condF rfl rfl ?_
    refine AWp.exit ?_
    refine AWp.seq (AWp.rowV (l := _) pok ?_)
    refine sq.c (v := .agg #[.string (ten), .string (clu), .int .i64 (epo), .slice a_o (os.length) cp_o, .int .i64 (R.bad), .bool false]) rfl rfl (ldA (P := Tryd.prog) (t := 33) (p := 0) (k := 6) (xs := [.string (ten), .string (clu), .int .i64 (epo), .slice a_o (os.length) cp_o, .int .i64 (R.bad), .bool false]) (by kernel_rfl) (by kernel_rfl) hb14 rfl (Nat.le_of_ble_eq_true rfl)) rfl ?_
    refine sq.op rfl rfl (Does.store (k := 6) (xs := [.string (ten), .string (clu), .int .i64 (epo), .slice a_o (os.length) cp_o, .int .i64 (R.bad), .bool false]) (cs' := [.string (ten), .string (clu), .int .i64 (epo), .slice a_o (os.length) cp_o, .int .i64 (R.bad), .bool false]) hf (by kernel_rfl) rfl rfl rfl hb5 rfl rfl (Nat.le_of_ble_eq_true rfl) rfl) ?_
    rintro _ h63 n64 ⟨rfl, hb62⟩ s65 hn2 hf
    refine sq.w0 ?_
    have hS := hS.keep (.own s65 hb5 rfl)
    have D := D.keep (.own s65 hb5 rfl)
    have R_o := R_o.but s65 (fun c hc hm => d_o_n3 c hc (List.mem_singleton.1 hm))
    have hf_ := s65.get1 (e_f_n3) hf_
    have hg_ := s65.get1 (e_g_n3) hg_
    have hs := hs.fresh z_n3 s65
    have hn := Nat.le_trans hn hn2
    refine sq.c (v := .int .i64 (0)) rfl rfl rfl rfl ?_
    refine sq.e ?_
    refine AWp.ret ?_
    refine ⟨rfl, [.agg #[.string (ten), .string (clu), .int .i64 (epo), .slice a_o (os.length) cp_o, .int .i64 (R.bad), .bool false], .int .i64 (0)], (res_cellC (ldA (P := Tryd.prog) (t := 33) (p := 0) (k := 6) (xs := [.string (ten), .string (clu), .int .i64 (epo), .slice a_o (os.length) cp_o, .int .i64 (R.bad), .bool false]) (by kernel_rfl) (by kernel_rfl) hb62 rfl (Nat.le_of_ble_eq_true rfl)) rfl), .tuple #[.agg #[.string (ten), .string (clu), .int .i64 (epo), .slice a_o (os.length) cp_o, .int .i64 (R.bad), .bool false], .int .i64 (0)], rfl, hs, hn, ?_⟩
    rw [show i.toNat = ss.length by omega, List.take_length] at hR
    rw [show takeR F kf S kg ⟨ten, clu, epo, ss⟩ = takeOk F kf ⟨ten, clu, epo, ss⟩ R false by unfold takeR; rw [if_neg (by rw [c3_1]; simp)]; dsimp only; rw [if_pos c6_2, ← hR]]
    exact ⟨_, _, _, rfl, R_o, D, hf_, hg_, okF, okg2, hS⟩
  ·rw [decide_eq_false c6_2]
   refine AWp.condT rfl rfl ?_
   refine AWp.seq (AWp.rowV (l := _) pok ?_)
   refine sq.c (v := .pointer (some ⟨n, 0, none⟩)) rfl rfl (by kernel_rfl) rfl ?_
   refine sq.c (v := .string (ten)) rfl rfl (ld1 (P := Tryd.prog) (t := 9) (p := 0) (v := .string (ten)) (by kernel_rfl) (by kernel_rfl) hb1 rfl) rfl ?_
   refine sq.c (v := .pointer (some ⟨n, 1, none⟩)) rfl rfl (by kernel_rfl) rfl ?_
   refine sq.c (v := .string (clu)) rfl rfl (ld1 (P := Tryd.prog) (t := 9) (p := 1) (v := .string (clu)) (by kernel_rfl) (by kernel_rfl) hb1 rfl) rfl ?_
   refine sq.c (v := .agg #[.string (ten), .string (clu)]) rfl rfl (by kernel_rfl) rfl ?_
   have e_b_n16 : b ≠ n16 := hf.ne hb_
   have e_f_n16 : f ≠ n16 := hf.ne hf_
   have e_g_n16 : g ≠ n16 := hf.ne hg_
   have e_n_n16 : n ≠ n16 := hf.ne hb1
   have e_n3_n16 : n3 ≠ n16 := hf.ne hb5
   have e_n9_n16 : n9 ≠ n16 := hf.ne hb14
   have z_n16 : h.get n16 = none := hf0 _ hn
   refine sq.op rfl rfl (Does.alloc (cs := [.string (⟨#[]⟩), .string (⟨#[]⟩)]) hf (z := .agg #[.string (⟨#[]⟩), .string (⟨#[]⟩)]) (by kernel_rfl) rfl) ?_
   rintro _ h67 n68 ⟨rfl, hb66⟩ s69 hn2 hf
   refine sq.w ?_
   have hS := hS.keep (.of0 s69)
   have hb_ := s69.sub _ _ hb_
   have hf_ := s69.sub _ _ hf_
   have hg_ := s69.sub _ _ hg_
   have hb1 := s69.sub _ _ hb1
   have hb5 := s69.sub _ _ hb5
   have hb14 := s69.sub _ _ hb14
   have hs := hs.trans (s69.mono (by simp))
   have hn := Nat.le_trans hn hn2
   refine sq.op rfl rfl (Does.store (k := 2) (xs := [.string (ten), .string (clu)]) (cs' := [.string (ten), .string (clu)]) hf (by kernel_rfl) rfl rfl rfl hb66 rfl rfl (Nat.le_of_ble_eq_true rfl) rfl) ?_
   rintro _ h71 n72 ⟨rfl, hb70⟩ s73 hn2 hf
   refine sq.w0 ?_
   have hS := hS.keep (.own s73 hb66 rfl)
   have hb_ := s73.get1 (e_b_n16) hb_
   have hf_ := s73.get1 (e_f_n16) hf_
   have hg_ := s73.get1 (e_g_n16) hg_
   have hb1 := s73.get1 (e_n_n16) hb1
   have hb5 := s73.get1 (e_n3_n16) hb5
   have hb14 := s73.get1 (e_n9_n16) hb14
   have hs := hs.fresh z_n16 s73
   have hn := Nat.le_trans hn hn2
   refine sq.e (AWp.seq (AWp.seq ?_))
   refine AWp.anyK pok [0, 1, 2, 3, 4, 5, 6, 7, 8] (by kernel_rfl) (by kernel_rfl) rfl (fun x fr fr' h n hd _ q => ⟨hd ▸ q.1, q.2⟩) ?_
   refine dk.c (v := .pointer (some ⟨n, 2, none⟩)) rfl (by kernel_rfl) rfl rfl (by kernel_rfl) rfl ?_
   refine dk.gB (v := .int .i64 (epo)) n rfl (by kernel_rfl) rfl rfl (fun _ q_ => (ld1 (P := Tryd.prog) (t := 2) (p := 2) (v := .int .i64 (epo)) (by kernel_rfl) (by kernel_rfl) (q_ _ hb1) rfl)) rfl ?_
   refine dk.c (v := .pointer (some ⟨b, 0, none⟩)) rfl (by kernel_rfl) rfl rfl rfl rfl ?_
   refine dk.c (v := .pointer (some ⟨b, 0, none⟩)) rfl (by kernel_rfl) rfl rfl rfl rfl ?_
   refine dk.c (v := .pointer (some ⟨b, 0, none⟩)) rfl (by kernel_rfl) rfl rfl (by kernel_rfl) rfl ?_
   refine dk.gB (v := .map (some f)) b rfl (by kernel_rfl) rfl rfl (fun _ q_ => (ld1 (P := Tryd.prog) (t := 66) (p := 0) (v := .map (some f)) (by kernel_rfl) (by kernel_rfl) (q_ _ hb_) rfl)) rfl ?_
   refine dk.gB (v := .agg #[.string (ten), .string (clu)]) n16 rfl (by kernel_rfl) rfl rfl (fun _ q_ => (ldA (P := Tryd.prog) (t := 73) (p := 0) (k := 2) (xs := [.string (ten), .string (clu)]) (by kernel_rfl) (by kernel_rfl) (q_ _ hb70) rfl (Nat.le_of_ble_eq_true rfl))) rfl ?_
   refine dk.gB (v := .int .i64 (((mget F (ten, clu)).getD 0))) f rfl (by kernel_rfl) rfl rfl (fun _ q_ => (lk (P := Tryd.prog) (K := plV) (V := intV) (kt := 73) (el := 2) (t := 66) (k := (ten, clu)) (d := (0 : Int)) Tryd.underlying66 keyPl (by kernel_rfl) rfl (q_ _ hf_))) rfl ?_
   refine dk.c (v := .bool (decide (epo < (((mget F (ten, clu)).getD 0))))) rfl (by kernel_rfl) rfl rfl rfl rfl ?_
   refine dk.e ?_
   by_cases c8_8 : epo < (((mget F (ten, clu)).getD 0))
   ·rw [decide_eq_true c8_8]
    refine AWp.condT rfl rfl ?_
    refine AWp.seq (AWp.rowV (l := _) pok ?_)
    refine sq.c (v := .agg #[.string (⟨#[]⟩), .string (⟨#[]⟩), .int .i64 (0), .slice none (0) (0), .int .i64 (0), .bool false]) rfl rfl (by kernel_rfl) rfl ?_
    refine sq.op rfl rfl (Does.store (k := 6) (xs := [.string (⟨#[]⟩), .string (⟨#[]⟩), .int .i64 (0), .slice none (0) (0), .int .i64 (0), .bool false]) (cs' := [.string (⟨#[]⟩), .string (⟨#[]⟩), .int .i64 (0), .slice none (0) (0), .int .i64 (0), .bool false]) hf (by kernel_rfl) rfl rfl rfl hb5 rfl rfl (Nat.le_of_ble_eq_true rfl) rfl) ?_
    rintro _ h75 n76 ⟨rfl, hb74⟩ s77 hn2 hf
    refine sq.w0 ?_
    have hS := hS.keep (.own s77 hb5 rfl)
    have hf_ := s77.get1 (e_f_n3) hf_
    have hg_ := s77.get1 (e_g_n3) hg_
    have hs := hs.fresh z_n3 s77
    have hn := Nat.le_trans hn hn2
    refine sq.c (v := .int .i64 (61)) rfl rfl rfl rfl ?_
    refine sq.e ?_
    refine AWp.ret ?_
    refine ⟨rfl, [.agg #[.string (⟨#[]⟩), .string (⟨#[]⟩), .int .i64 (0), .slice none (0) (0), .int .i64 (0), .bool false], .int .i64 (61)], (res_cellC (ldA (P := Tryd.prog) (t := 33) (p := 0) (k := 6) (xs := [.string (⟨#[]⟩), .string (⟨#[]⟩), .int .i64 (0), .slice none (0) (0), .int .i64 (0), .bool false]) (by kernel_rfl) (by kernel_rfl) hb74 rfl (Nat.le_of_ble_eq_true rfl)) rfl), .tuple #[.agg #[.string (⟨#[]⟩), .string (⟨#[]⟩), .int .i64 (0), .slice none (0) (0), .int .i64 (0), .bool false], .int .i64 (61)], rfl, hs, hn, ?_⟩
    rw [show takeR F kf S kg ⟨ten, clu, epo, ss⟩ = takeNo 61 F kf S kg by unfold takeR; rw [if_neg (by rw [c3_1]; simp)]; dsimp only; rw [if_neg c6_2, if_pos c8_8]]
    exact ⟨_, _, _, rfl, OwnRow.nil, FSers.nil _, hf_, hg_, okF, okG, hS⟩
   ·rw [decide_eq_false c8_8]
    refine AWp.condF rfl rfl ?_
    refine AWp.skip (AWp.seq ?_)
    refine AWp.anyK pok [0, 1, 2, 3, 4, 5, 6, 7, 8, 9, 10] (by kernel_rfl) (by kernel_rfl) rfl (fun x fr fr' h n hd _ q => ⟨hd ▸ q.1, q.2⟩) ?_
    refine dk.c (v := .pointer (some ⟨n, 2, none⟩)) rfl (by kernel_rfl) rfl rfl (by kernel_rfl) rfl ?_
    refine dk.gB (v := .int .i64 (epo)) n rfl (by kernel_rfl) rfl rfl (fun _ q_ => (ld1 (P := Tryd.prog) (t := 2) (p := 2) (v := .int .i64 (epo)) (by kernel_rfl) (by kernel_rfl) (q_ _ hb1) rfl)) rfl ?_
    refine dk.c (v := .pointer (some ⟨b, 0, none⟩)) rfl (by kernel_rfl) rfl rfl rfl rfl ?_
    refine dk.c (v := .pointer (some ⟨b, 0, none⟩)) rfl (by kernel_rfl) rfl rfl rfl rfl ?_
    refine dk.c (v := .pointer (some ⟨b, 0, none⟩)) rfl (by kernel_rfl) rfl rfl (by kernel_rfl) rfl ?_
    refine dk.gB (v := .map (some f)) b rfl (by kernel_rfl) rfl rfl (fun _ q_ => (ld1 (P := Tryd.prog) (t := 66) (p := 0) (v := .map (some f)) (by kernel_rfl) (by kernel_rfl) (q_ _ hb_) rfl)) rfl ?_
    refine dk.gB (v := .agg #[.string (ten), .string (clu)]) n16 rfl (by kernel_rfl) rfl rfl (fun _ q_ => (ldA (P := Tryd.prog) (t := 73) (p := 0) (k := 2) (xs := [.string (ten), .string (clu)]) (by kernel_rfl) (by kernel_rfl) (q_ _ hb70) rfl (Nat.le_of_ble_eq_true rfl))) rfl ?_
    refine dk.gB (v := .int .i64 (((mget F (ten, clu)).getD 0))) f rfl (by kernel_rfl) rfl rfl (fun _ q_ => (lk (P := Tryd.prog) (K := plV) (V := intV) (kt := 73) (el := 2) (t := 66) (k := (ten, clu)) (d := (0 : Int)) Tryd.underlying66 keyPl (by kernel_rfl) rfl (q_ _ hf_))) rfl ?_
    refine dk.c (v := .bool (decide ((((mget F (ten, clu)).getD 0)) < epo))) rfl (by kernel_rfl) rfl rfl rfl rfl ?_
    refine dk.c (v := .pointer (some ⟨n9, 5, none⟩)) rfl (by kernel_rfl) rfl rfl (by kernel_rfl) rfl ?_
    refine dk.op rfl (by kernel_rfl) rfl rfl (Does.store (k := 1) (xs := [.bool (decide ((((mget F (ten, clu)).getD 0)) < epo))]) (cs' := [.string (ten), .string (clu), .int .i64 (epo), .slice none (0) (0), .int .i64 (0), .bool (decide ((((mget F (ten, clu)).getD 0)) < epo))]) hf (by kernel_rfl) rfl rfl rfl hb14 rfl rfl (Nat.le_of_ble_eq_true rfl) rfl) (keepC (fun hm => e_f_n9 (List.mem_singleton.1 hm)) (keepC (fun hm => Ne.symm e_n9_n16 (List.mem_singleton.1 hm)) (keepC (fun hm => e_b_n9 (List.mem_singleton.1 hm)) (keepC (fun hm => e_n_n9 (List.mem_singleton.1 hm)) keepN)))) ?_
    rintro _ h79 n80 ⟨rfl, hb78⟩ s81 hn2 hf
    refine dk.w0 ?_
    have hS := hS.keep (.own s81 hb14 rfl)
    have hb_ := s81.get1 (e_b_n9) hb_
    have hf_ := s81.get1 (e_f_n9) hf_
    have hg_ := s81.get1 (e_g_n9) hg_
    have hb1 := s81.get1 (e_n_n9) hb1
    have hb5 := s81.get1 (e_n3_n9) hb5
    have hb70 := s81.get1 (Ne.symm e_n9_n16) hb70
    have hs := hs.fresh z_n9 s81
    have hn := Nat.le_trans hn hn2
    refine dk.e ?_
    refine AWp.anyK pok [0, 1, 2, 3, 4, 5, 6, 7] (by kernel_rfl) (by kernel_rfl) rfl (fun x fr fr' h n hd _ q => ⟨hd ▸ q.1, q.2⟩) ?_
    refine dk.c (v := .pointer (some ⟨b, 0, none⟩)) rfl (by kernel_rfl) rfl rfl rfl rfl ?_
    refine dk.c (v := .pointer (some ⟨b, 0, none⟩)) rfl (by kernel_rfl) rfl rfl rfl rfl ?_
    refine dk.c (v := .pointer (some ⟨b, 0, none⟩)) rfl (by kernel_rfl) rfl rfl (by kernel_rfl) rfl ?_
    refine dk.gB (v := .map (some f)) b rfl (by kernel_rfl) rfl rfl (fun _ q_ => (ld1 (P := Tryd.prog) (t := 66) (p := 0) (v := .map (some f)) (by kernel_rfl) (by kernel_rfl) (q_ _ hb_) rfl)) rfl ?_
    refine dk.gB (v := .agg #[.string (ten), .string (clu)]) n16 rfl (by kernel_rfl) rfl rfl (fun _ q_ => (ldA (P := Tryd.prog) (t := 73) (p := 0) (k := 2) (xs := [.string (ten), .string (clu)]) (by kernel_rfl) (by kernel_rfl) (q_ _ hb70) rfl (Nat.le_of_ble_eq_true rfl))) rfl ?_
    refine dk.c (v := .pointer (some ⟨n, 2, none⟩)) rfl (by kernel_rfl) rfl rfl (by kernel_rfl) rfl ?_
    refine dk.gB (v := .int .i64 (epo)) n rfl (by kernel_rfl) rfl rfl (fun _ q_ => (ld1 (P := Tryd.prog) (t := 2) (p := 2) (v := .int .i64 (epo)) (by kernel_rfl) (by kernel_rfl) (q_ _ hb1) rfl)) rfl ?_
    refine dk.op rfl (by kernel_rfl) rfl rfl (Does.mapSet (K := plV) (V := intV) (k := (ten, clu)) (v := epo) hf Tryd.underlying66 keyPl rfl rfl rfl rfl rfl hf_) (keepC (fun hm => Ne.symm e_f_n (List.mem_singleton.1 hm)) (keepC (fun hm => Ne.symm e_f_n16 (List.mem_singleton.1 hm)) (keepC (fun hm => ne_b_f (List.mem_singleton.1 hm)) keepN))) ?_
    rintro _ h84 n85 ⟨rfl, hb82⟩ s86 hn2 hf
    refine dk.w0 ?_
    have hS := hS.keep (.own s86 hf_ rfl)
    have hb_ := s86.get1 (ne_b_f) hb_
    have hg_ := s86.get1 (Ne.symm ne_f_g) hg_
    have hb1 := s86.get1 (Ne.symm e_f_n) hb1
    have hb5 := s86.get1 (Ne.symm e_f_n3) hb5
    have hb78 := s86.get1 (Ne.symm e_f_n9) hb78
    have hb70 := s86.get1 (Ne.symm e_f_n16) hb70
    have hs := hs.at (by simp) s86
    have hn := Nat.le_trans hn hn2
    have ok83 := (okF).set (ten, clu) epo
    refine dk.e (AWp.seq (AWp.seq (AWp.rowV (l := _) pok ?_)))
    refine sq.c (v := .pointer (some ⟨n, 3, none⟩)) rfl rfl (by kernel_rfl) rfl ?_
    refine sq.c (v := .slice a (rs.length) cp) rfl rfl (ld1 (P := Tryd.prog) (t := 29) (p := 3) (v := .slice a (rs.length) cp) (by kernel_rfl) (by kernel_rfl) hb1 rfl) rfl ?_
    refine sq.c (v := .int .i64 (((rs.length : Nat) : Int))) rfl rfl (by kernel_rfl) rfl ?_
    refine sq.c (v := .int .i64 (0)) rfl rfl rfl rfl ?_
    refine sq.e (AWp.block ?_)
    have hmb := mayBat_parts c3_1
    refine AWp.loopV (fun d vs h88 n89 => ∃ (i : Int) (R : TSt) (G' : SM) (os : List (Hdr × Hdr)) (a_o : Option Addr) (cp_o : Nat), d = ((rs.length : Nat) - i + 1).toNat ∧ SubBut h h88 ([f, g]) ∧ n ≤ n89 ∧ Free h88 n89 ∧ h88.get b = some (.cells [.map (some f), .map (some g)] true c) ∧ h88.get f = some (.map (mapE plV intV (mset F kf (ten, clu) epo)) (mck F kf (ten, clu))) ∧ h88.get g = some (.map (mapE plV ownV G') R.ck) ∧ SMIs h88 G' R.S ∧ h88.get n = some (.cells [.string (ten), .string (clu), .int .i64 (epo), .slice a (rs.length) cp] true ⟨31, 0, true⟩) ∧ h88.get n3 = some (.cells [.string (⟨#[]⟩), .string (⟨#[]⟩), .int .i64 (0), .slice none (0) (0), .int .i64 (0), .bool false] true ⟨33, 0, true⟩) ∧ h88.get n9 = some (.cells [.string (ten), .string (clu), .int .i64 (epo), .slice a_o (os.length) cp_o, .int .i64 (R.bad), .bool (decide ((((mget F (ten, clu)).getD 0)) < epo))] true ⟨33, 0, true⟩) ∧ h88.get n16 = some (.cells [.string (ten), .string (clu)] true ⟨73, 0, true⟩) ∧ FSers h88 (os.map serV) R.ks ∧ OwnRow encSerO 43 h h88 (.slice a_o (os).length cp_o) (os) ∧ (∀ c ∈ blkOf (.slice a_o (os).length cp_o), c ≠ b) ∧ (∀ c ∈ blkOf (.slice a_o (os).length cp_o), c ≠ f) ∧ (∀ c ∈ blkOf (.slice a_o (os).length cp_o), c ≠ g) ∧ (∀ c ∈ blkOf (.slice a_o (os).length cp_o), c ≠ n) ∧ (∀ c ∈ blkOf (.slice a_o (os).length cp_o), c ≠ n3) ∧ (∀ c ∈ blkOf (.slice a_o (os).length cp_o), c ≠ n9) ∧ (∀ c ∈ blkOf (.slice a_o (os).length cp_o), c ≠ n16) ∧ MOk G' R.ck ∧ (0 ≤ i) ∧ (i ≤ (rs.length : Nat)) ∧ (R = foldT ten ⟨S, kg, [], 0⟩ (ss.take i.toNat)) ∧ (InvS (N + 6000 * i.toNat) R.S) ∧ (0 ≤ R.bad) ∧ (R.bad ≤ 6000 * i) ∧ (os.length ≤ i.toNat) ∧ ∃ y87 : Nat → Value, vs = [.pointer (some ⟨b, 0, none⟩), .agg #[.string (ten), .string (clu), .int .i64 (epo), .slice a (rs.length) cp], undef, .pointer (some ⟨n, 0, none⟩), .pointer (some ⟨n3, 0, none⟩), .int .i64 (0), .pointer (some ⟨n9, 0, none⟩), .pointer (some ⟨n16, 0, none⟩), undef, (y87 9), (y87 10), (y87 11), .pointer (some ⟨b, 0, none⟩), .bool false, undef, .agg #[.string (ten), .string (clu), .int .i64 (epo), .slice a (rs.length) cp], .bool true, .bool false, undef, .pointer (some ⟨n, 0, none⟩), .string (ten), .pointer (some ⟨n, 1, none⟩), .string (clu), .pointer (some ⟨n, 2, none⟩), .int .i64 (epo), .agg #[.string (ten), .string (clu), .int .i64 (epo), .slice none (0) (0)], .agg #[.string (ten), .string (clu), .int .i64 (epo), .slice none (0) (0), .int .i64 (0), .bool false], .pointer (some ⟨n, 1, none⟩), .string (clu), .bool true, .pointer (some ⟨n, 0, none⟩), .string (ten), .pointer (some ⟨n, 1, none⟩), .string (clu), .agg #[.string (ten), .string (clu)], .pointer (some ⟨n, 2, none⟩), .int .i64 (epo), .pointer (some ⟨b, 0, none⟩), .pointer (some ⟨b, 0, none⟩), .pointer (some ⟨b, 0, none⟩), .map (some f), .agg #[.string (ten), .string (clu)], .int .i64 (((mget F (ten, clu)).getD 0)), .bool false, undef, .pointer (some ⟨n, 2, none⟩), .int .i64 (epo), .pointer (some ⟨b, 0, none⟩), .pointer (some ⟨b, 0, none⟩), .pointer (some ⟨b, 0, none⟩), .map (some f), .agg #[.string (ten), .string (clu)], .int .i64 (((mget F (ten, clu)).getD 0)), .bool (decide ((((mget F (ten, clu)).getD 0)) < epo)), .pointer (some ⟨n9, 5, none⟩), .pointer (some ⟨b, 0, none⟩), .pointer (some ⟨b, 0, none⟩), .pointer (some ⟨b, 0, none⟩), .map (some f), .agg #[.string (ten), .string (clu)], .pointer (some ⟨n, 2, none⟩), .int .i64 (epo), .pointer (some ⟨n, 3, none⟩), .slice a (rs.length) cp, .int .i64 (((rs.length : Nat) : Int)), .int .i64 (i), (y87 66), (y87 67), (y87 68), (y87 69), (y87 70), (y87 71), (y87 72), (y87 73), (y87 74), (y87 75), (y87 76), (y87 77), (y87 78), (y87 79), (y87 80), (y87 81), (y87 82), (y87 83), (y87 84), (y87 85), (y87 86), (y87 87), (y87 88), (y87 89), (y87 90), (y87 91), (y87 92), (y87 93), (y87 94), (y87 95), (y87 96), (y87 97), undef]) (((rs.length : Nat) - (0 : Int) + 1).toNat) ⟨0, ⟨S, kg, [], 0⟩, G, [], none, 0, rfl, hs, hn, hf, hb_, hb82, hg_, hS, hb1, hb5, hb78, hb70, (FSers.nil _), OwnRow.nil, (by simp [blkOf]), (by simp [blkOf]), (by simp [blkOf]), (by simp [blkOf]), (by simp [blkOf]), (by simp [blkOf]), (by simp [blkOf]), okG, (by omega), (by omega), (rfl), (hinv), (Int.le_refl 0), (Int.le_refl 0), (Nat.le_refl 0), getV [undef, undef, undef, undef, undef, undef, undef, undef, undef, undef, undef, undef, undef, undef, undef, undef, undef, undef, undef, undef, undef, undef, undef, undef, undef, undef, undef, undef, undef, undef, undef, undef, undef, undef, undef, undef, undef, undef, undef, undef, undef, undef, undef, undef, undef, undef, undef, undef, undef, undef, undef, undef, undef, undef, undef, undef, undef, undef, undef, undef, undef, undef, undef, undef, undef, undef, undef, undef, undef, undef, undef, undef, undef, undef, undef, undef, undef, undef, undef, undef, undef, undef, undef, undef, undef, undef, undef, undef, undef, undef, undef, undef, undef, undef, undef, undef, undef, undef], rfl⟩ ?_
    rintro d vs h88 n89 ⟨i, R, G', os, a_o, cp_o, rfl, hs, hn, hf, hb_, hb82, hg_, hS, hb1, hb5, hb78, hb70, D, R_o, d_o_b, d_o_f, d_o_g, d_o_n, d_o_n3, d_o_n9, d_o_n16, okg2, hi0, hi1, hR, hinv2, hbd0, hbd1, hol, y87, rfl⟩
    refine AWp.seq (AWp.rowV (l := _) pok ?_)
    refine sq.c (v := .bool (decide (i < (((rs.length : Nat) : Int))))) rfl rfl rfl rfl ?_
    refine sq.e (AWp.seq ?_)
    by_cases c13_0 : i < (((rs.length : Nat) : Int))
    ·rw [decide_eq_true c13_0]
     refine AWp.condT rfl rfl ?_
     refine AWp.skip (AWp.seq (AWp.block (AWp.seq (AWp.rowV (l := _) pok ?_))))
     have i96 : (0 : Int) ≤ (i : Int) := by omega
     obtain ⟨x97, hx_x97⟩ : ∃ x, (rs)[((i : Int)).toNat]? = some x := ⟨_, List.getElem?_eq_getElem (by omega)⟩
     obtain ⟨y_x97, hy_x97, L_x97, M_x97⟩ := hd.at hx_x97
     obtain ⟨v1_x97, v2_x97⟩ := x97
     obtain ⟨a1_x97, c1_x97, rfl⟩ := (show IsRow encLab _ v1_x97 y_x97.1 from L_x97).slice
     obtain ⟨a2_x97, c2_x97, rfl⟩ := (show IsRow encSmp _ v2_x97 y_x97.2 from M_x97).slice
     obtain ⟨b90, o91, cs_b90, ow_b90, ci_b90, ie95, hb92, hc93, hr94⟩ := IsRow.at (P := Tryd.prog) (t := 29) (e := 43) (k := .i64) (by kernel_rfl) (by kernel_rfl) (isRow_noc hr hs hNC) i96 hx_x97
     refine sq.c (v := .pointer (some ⟨b90, o91, none⟩)) rfl rfl ie95 rfl ?_
     refine sq.c (v := .agg #[.slice a1_x97 (y_x97.1.length) c1_x97, .slice a2_x97 (y_x97.2.length) c2_x97]) rfl rfl (ldR (P := Tryd.prog) (t := 43) (k := 2) (xs := [.slice a1_x97 (y_x97.1.length) c1_x97, .slice a2_x97 (y_x97.2.length) c2_x97]) (by kernel_rfl) (by kernel_rfl) hr94) rfl ?_
     have e_b_n89 : b ≠ n89 := hf.ne hb_
     have e_f_n89 : f ≠ n89 := hf.ne hb82
     have e_g_n89 : g ≠ n89 := hf.ne hg_
     have e_n_n89 : n ≠ n89 := hf.ne hb1
     have e_n3_n89 : n3 ≠ n89 := hf.ne hb5
     have e_n9_n89 : n9 ≠ n89 := hf.ne hb78
     have e_n16_n89 : n16 ≠ n89 := hf.ne hb70
     have d_o_n89 : ∀ c ∈ blkOf (.slice a_o (os).length cp_o), c ≠ n89 := fun c hc e => R_o.ne' (hf _ (Nat.le_refl _)) c hc (List.mem_singleton.2 e)
     have z_n89 : h.get n89 = none := hf0 _ hn
     refine sq.op rfl rfl (Does.alloc (cs := [.slice none (0) (0), .slice none (0) (0)]) hf (z := .agg #[.slice none (0) (0), .slice none (0) (0)]) (by kernel_rfl) rfl) ?_
     rintro _ h99 n100 ⟨rfl, hb98⟩ s101 hn2 hf
     refine sq.w ?_
     have hS := hS.keep (.of0 s101)
     have D := D.keep (.of0 s101)
     have R_o := R_o.keep s101
     have hb_ := s101.sub _ _ hb_
     have hb82 := s101.sub _ _ hb82
     have hg_ := s101.sub _ _ hg_
     have hb1 := s101.sub _ _ hb1
     have hb5 := s101.sub _ _ hb5
     have hb78 := s101.sub _ _ hb78
     have hb70 := s101.sub _ _ hb70
     have hs := hs.trans (s101.mono (by simp))
     have hn := Nat.le_trans hn hn2
     refine sq.op rfl rfl (Does.store (k := 2) (xs := [.slice a1_x97 (y_x97.1.length) c1_x97, .slice a2_x97 (y_x97.2.length) c2_x97]) (cs' := [.slice a1_x97 (y_x97.1.length) c1_x97, .slice a2_x97 (y_x97.2.length) c2_x97]) hf (by kernel_rfl) rfl rfl rfl hb98 rfl rfl (Nat.le_of_ble_eq_true rfl) rfl) ?_
     rintro _ h103 n104 ⟨rfl, hb102⟩ s105 hn2 hf
     refine sq.w0 ?_
     have hS := hS.keep (.own s105 hb98 rfl)
     have D := D.keep (.own s105 hb98 rfl)
     have R_o := R_o.but s105 (fun c hc hm => d_o_n89 c hc (List.mem_singleton.1 hm))
     have hb_ := s105.get1 (e_b_n89) hb_
     have hb82 := s105.get1 (e_f_n89) hb82
     have hg_ := s105.get1 (e_g_n89) hg_
     have hb1 := s105.get1 (e_n_n89) hb1
     have hb5 := s105.get1 (e_n3_n89) hb5
     have hb78 := s105.get1 (e_n9_n89) hb78
     have hb70 := s105.get1 (e_n16_n89) hb70
     have hs := hs.fresh z_n89 s105
     have hn := Nat.le_trans hn hn2
     refine sq.e (AWp.seq (AWp.rowV (l := _) pok ?_))
     refine sq.c (v := .pointer (some ⟨b, 0, none⟩)) rfl rfl rfl rfl ?_
     refine sq.c (v := .pointer (some ⟨n, 0, none⟩)) rfl rfl (by kernel_rfl) rfl ?_
     refine sq.c (v := .string (ten)) rfl rfl (ld1 (P := Tryd.prog) (t := 9) (p := 0) (v := .string (ten)) (by kernel_rfl) (by kernel_rfl) hb1 rfl) rfl ?_
     refine sq.c (v := .agg #[.slice a1_x97 (y_x97.1.length) c1_x97, .slice a2_x97 (y_x97.2.length) c2_x97]) rfl rfl (ldA (P := Tryd.prog) (t := 43) (p := 0) (k := 2) (xs := [.slice a1_x97 (y_x97.1.length) c1_x97, .slice a2_x97 (y_x97.2.length) c2_x97]) (by kernel_rfl) (by kernel_rfl) hb102 rfl (Nat.le_of_ble_eq_true rfl)) rfl ?_
     have hsx := hsm.2 _ (List.mem_of_getElem? hy_x97)
     refine sq.k rfl (CallsF.fn rfl (by kernel_rfl) rfl rfl) (putSt _ _ _ hb_ hb82 hg_ ok83 okg2 hS ne_f_g ten _ _ (isRow_noc L_x97 hs hNC) (isRow_noc M_x97 hs hNC) hsx hinv2 (by omega)) ?_
     rintro _ h106 n107 ⟨v_k, Gk, rfl, F_k, hgk, okk, sm_k⟩ s108 hn2 hf
     obtain ⟨a_k, c_k, rfl⟩ := F_k.slice
     refine sq.w ?_
     have D := D.keep (.own s108 hg_ rfl)
     have R_o := R_o.but s108 (fun c hc hm => d_o_g c hc (List.mem_singleton.1 hm))
     have hb_ := s108.get1 (ne_b_g) hb_
     have hb82 := s108.get1 (ne_f_g) hb82
     have hb1 := s108.get1 (Ne.symm e_g_n) hb1
     have hb5 := s108.get1 (Ne.symm e_g_n3) hb5
     have hb78 := s108.get1 (Ne.symm e_g_n9) hb78
     have hb70 := s108.get1 (Ne.symm e_g_n16) hb70
     have hb102 := s108.get1 (Ne.symm e_g_n89) hb102
     have hs := hs.at (by simp) s108
     have hn := Nat.le_trans hn hn2
     have hpb : 0 ≤ pBad R.S ten (y_x97.1, y_x97.2) ∧ pBad R.S ten (y_x97.1, y_x97.2) ≤ (y_x97.2.length : Nat) := pBad_le R.S ten (y_x97.1, y_x97.2)
     have hsx2 : y_x97.2.length < 6000 := hsx.2.1
     have hS := sm_k
     refine sq.c (v := .tuple #[.slice a_k (pKept R.S ten (y_x97.1, y_x97.2)).length c_k, .int .i64 (pBad R.S ten (y_x97.1, y_x97.2))]) rfl rfl rfl rfl ?_
     refine sq.c (v := .slice a_k (pKept R.S ten (y_x97.1, y_x97.2)).length c_k) rfl rfl rfl rfl ?_
     refine sq.c (v := .int .i64 (pBad R.S ten (y_x97.1, y_x97.2))) rfl rfl rfl rfl ?_
     refine sq.c (v := .slice a_k (pKept R.S ten (y_x97.1, y_x97.2)).length c_k) rfl rfl rfl rfl ?_
     refine sq.c (v := .int .i64 (pBad R.S ten (y_x97.1, y_x97.2))) rfl rfl rfl rfl ?_
     refine sq.e (AWp.seq (AWp.rowV (l := _) pok ?_))
     refine sq.c (v := .pointer (some ⟨n9, 4, none⟩)) rfl rfl (by kernel_rfl) rfl ?_
     refine sq.c (v := .int .i64 (R.bad)) rfl rfl (ld1 (P := Tryd.prog) (t := 3) (p := 4) (v := .int .i64 (R.bad)) (by kernel_rfl) (by kernel_rfl) hb78 rfl) rfl ?_
     refine sq.c (v := .int .i64 (pBad R.S ten (y_x97.1, y_x97.2))) rfl rfl rfl rfl ?_
     refine sq.c (v := .int .i64 (R.bad + (pBad R.S ten (y_x97.1, y_x97.2)))) rfl rfl (okI (wrap_i64 (by have := hpb.1; omega) (by have := hpb.2; omega))) rfl ?_
     refine sq.c (v := .pointer (some ⟨n9, 4, none⟩)) rfl rfl (by kernel_rfl) rfl ?_
     refine sq.op rfl rfl (Does.store (k := 1) (xs := [.int .i64 (R.bad + (pBad R.S ten (y_x97.1, y_x97.2)))]) (cs' := [.string (ten), .string (clu), .int .i64 (epo), .slice a_o (os.length) cp_o, .int .i64 (R.bad + (pBad R.S ten (y_x97.1, y_x97.2))), .bool (decide ((((mget F (ten, clu)).getD 0)) < epo))]) hf (by kernel_rfl) rfl rfl rfl hb78 rfl rfl (Nat.le_of_ble_eq_true rfl) rfl) ?_
     rintro _ h110 n111 ⟨rfl, hb109⟩ s112 hn2 hf
     refine sq.w0 ?_
     have D := D.keep (.own s112 hb78 rfl)
     have R_o := R_o.but s112 (fun c hc hm => d_o_n9 c hc (List.mem_singleton.1 hm))
     have hS := hS.keep (.own s112 hb78 rfl)
     have F_k := F_k.keep (.own s112 hb78 rfl)
     have hb_ := s112.get1 (e_b_n9) hb_
     have hb82 := s112.get1 (e_f_n9) hb82
     have hgk := s112.get1 (e_g_n9) hgk
     have hb1 := s112.get1 (e_n_n9) hb1
     have hb5 := s112.get1 (e_n3_n9) hb5
     have hb70 := s112.get1 (Ne.symm e_n9_n16) hb70
     have hb102 := s112.get1 (Ne.symm e_n9_n89) hb102
     have hs := hs.fresh z_n9 s112
     have hn := Nat.le_trans hn hn2
     refine sq.e (AWp.seq (AWp.rowV (l := _) pok ?_))
     refine sq.c (v := .slice a_k (pKept R.S ten (y_x97.1, y_x97.2)).length c_k) rfl rfl rfl rfl ?_
     refine sq.c (v := .int .i64 ((((pKept R.S ten (y_x97.1, y_x97.2)).length : Nat) : Int))) rfl rfl (by kernel_rfl) rfl ?_
     refine sq.c (v := .bool (decide ((0 : Int) < ((((pKept R.S ten (y_x97.1, y_x97.2)).length : Nat) : Int))))) rfl rfl rfl rfl ?_
     refine sq.e ?_
     by_cases c17_2 : (0 : Int) < ((((pKept R.S ten (y_x97.1, y_x97.2)).length : Nat) : Int))
     ·rw [decide_eq_true c17_2]
      refine AWp.condT rfl rfl ?_
      refine AWp.anyJ pok [0, 1, 2, 3, 4, 6, 5, 7, 8, 9, 10, 11, 12] (by kernel_rfl) (by kernel_rfl) rfl (fun x fr fr' h n hd _ q => ⟨hd ▸ q.1, q.2⟩) ?_
      refine dj.c (v := .pointer (some ⟨n9, 0, none⟩)) rfl (by kernel_rfl) rfl rfl (by kernel_rfl) rfl ?_
      refine dj.c (v := .pointer (some ⟨n9, 3, none⟩)) rfl (by kernel_rfl) rfl rfl (by kernel_rfl) rfl ?_
      refine dj.gB (v := .slice a_o (os.length) cp_o) n9 rfl (by kernel_rfl) rfl rfl (fun _ q_ => (ld1 (P := Tryd.prog) (t := 29) (p := 3) (v := .slice a_o (os.length) cp_o) (by kernel_rfl) (by kernel_rfl) (q_ _ hb109) rfl)) rfl ?_
      refine dj.c (v := .pointer (some ⟨n89, 0, none⟩)) rfl (by kernel_rfl) rfl rfl (by kernel_rfl) rfl ?_
      refine dj.gB (v := .slice a1_x97 (y_x97.1.length) c1_x97) n89 rfl (by kernel_rfl) rfl rfl (fun _ q_ => (ld1 (P := Tryd.prog) (t := 40) (p := 0) (v := .slice a1_x97 (y_x97.1.length) c1_x97) (by kernel_rfl) (by kernel_rfl) (q_ _ hb102) rfl)) rfl ?_
      refine dj.c (v := .slice a_k (pKept R.S ten (y_x97.1, y_x97.2)).length c_k) rfl (by kernel_rfl) rfl rfl rfl rfl ?_
      refine dj.k rfl (by kernel_rfl) rfl (CallsF.fn rfl (by kernel_rfl) rfl rfl) (cloneLFz _ (isRow_noc L_x97 hs hNC) (by have := hsx.1; omega)) (keepJD (by kernel_rfl) (keepJC (by simp) keepJN)) ?_
      rintro v_q112 h113 n114 R_q112 s115 hn2 hf
      obtain ⟨a_q112, c_q112, rfl⟩ := R_q112.slice
      refine dj.w ?_
      have D := D.keep (.of0 s115)
      have R_o := R_o.keep s115
      have hS := hS.keep (.of0 s115)
      have F_k := F_k.keep (.of0 s115)
      have hb_ := s115.sub _ _ hb_
      have hb82 := s115.sub _ _ hb82
      have hgk := s115.sub _ _ hgk
      have hb1 := s115.sub _ _ hb1
      have hb5 := s115.sub _ _ hb5
      have hb109 := s115.sub _ _ hb109
      have hb70 := s115.sub _ _ hb70
      have hb102 := s115.sub _ _ hb102
      have hs := hs.trans (s115.mono (by simp))
      have hn := Nat.le_trans hn hn2
      refine dj.c (v := .agg #[.slice a_q112 (y_x97.1).length c_q112, .slice a_k (pKept R.S ten (y_x97.1, y_x97.2)).length c_k]) rfl (by kernel_rfl) rfl rfl (by kernel_rfl) rfl ?_
      have d_o_n114 : ∀ c ∈ blkOf (.slice a_o (os).length cp_o), c ≠ n114 := fun c hc e => R_o.ne' (hf _ (Nat.le_refl _)) c hc (List.mem_singleton.2 e)
      refine dj.op rfl (by kernel_rfl) rfl rfl (Does.build (e := 43) (cs := [.slice a_q112 (y_x97.1).length c_q112, .slice a_k (pKept R.S ten (y_x97.1, y_x97.2)).length c_k]) hf (fun _ _ => by kernel_rfl)) (keepJC (by simp) (keepJC (by simp) keepJN)) ?_
      rintro _ h117 n118 ⟨rfl, hb116⟩ s119 hn2 hf
      refine dj.w ?_
      have D := D.keep (.of0 s119)
      have R_o := R_o.keep s119
      have hS := hS.keep (.of0 s119)
      have F_k := F_k.keep (.of0 s119)
      have R_q112 := R_q112.keep (.of0 s119)
      have hb_ := s119.sub _ _ hb_
      have hb82 := s119.sub _ _ hb82
      have hgk := s119.sub _ _ hgk
      have hb1 := s119.sub _ _ hb1
      have hb5 := s119.sub _ _ hb5
      have hb109 := s119.sub _ _ hb109
      have hb70 := s119.sub _ _ hb70
      have hb102 := s119.sub _ _ hb102
      have hs := hs.trans (s119.mono (by simp))
      have hn := Nat.le_trans hn hn2
      have hz0 : h.get n118 = none := hf0 _ hn
      have hfo := hf
      have hFo := R_o.ours
      refine dj.op rfl (by kernel_rfl) rfl rfl (Does.append (E := encSerO) (xs := os) (ys := [((a_q112, (y_x97.1).length, c_q112), (a_k, (pKept R.S ten (y_x97.1, y_x97.2)).length, c_k))]) appSerO ⟨.slice 43, by kernel_rfl, fun _ q => by cases q⟩ hf hs R_o (IsRow.of (E := encSerO) (xs := [((a_q112, (y_x97.1).length, c_q112), (a_k, (pKept R.S ten (y_x97.1, y_x97.2)).length, c_k))]) (cap := 1) hb116 (Nat.le_refl _)) rfl rfl (by have := hsx.1; simp only [List.length_cons, List.length_nil]; omega) (by have := hsx.1; simp only [List.length_cons, List.length_nil]; omega) hz0) (keepJC (fun hm => d_o_n89 _ hm rfl) (keepJD (by kernel_rfl) keepJN)) ?_
      rintro v123 h120 n121 ⟨R_o, hs, hB124⟩ s122 hn2 hf
      refine dj.w ?_
      have dn_o_b : ∀ c ∈ blkOf v123, c ≠ b := fun c hc => (hB124 c hc).elim (fun q => d_o_b c q) (fun q => by rw [q]; exact (hfo.ne hb_).symm)
      have dn_o_f : ∀ c ∈ blkOf v123, c ≠ f := fun c hc => (hB124 c hc).elim (fun q => d_o_f c q) (fun q => by rw [q]; exact (hfo.ne hb82).symm)
      have dn_o_g : ∀ c ∈ blkOf v123, c ≠ g := fun c hc => (hB124 c hc).elim (fun q => d_o_g c q) (fun q => by rw [q]; exact (hfo.ne hgk).symm)
      have dn_o_n : ∀ c ∈ blkOf v123, c ≠ n := fun c hc => (hB124 c hc).elim (fun q => d_o_n c q) (fun q => by rw [q]; exact (hfo.ne hb1).symm)
      have dn_o_n3 : ∀ c ∈ blkOf v123, c ≠ n3 := fun c hc => (hB124 c hc).elim (fun q => d_o_n3 c q) (fun q => by rw [q]; exact (hfo.ne hb5).symm)
      have dn_o_n9 : ∀ c ∈ blkOf v123, c ≠ n9 := fun c hc => (hB124 c hc).elim (fun q => d_o_n9 c q) (fun q => by rw [q]; exact (hfo.ne hb109).symm)
      have dn_o_n16 : ∀ c ∈ blkOf v123, c ≠ n16 := fun c hc => (hB124 c hc).elim (fun q => d_o_n16 c q) (fun q => by rw [q]; exact (hfo.ne hb70).symm)
      have dn_o_n89 : ∀ c ∈ blkOf v123, c ≠ n89 := fun c hc => (hB124 c hc).elim (fun q => d_o_n89 c q) (fun q => by rw [q]; exact (hfo.ne hb102).symm)
      have dn_o_n114 : ∀ c ∈ blkOf v123, c ≠ n114 := fun c hc => (hB124 c hc).elim (fun q => d_o_n114 c q) (fun q => by rw [q]; exact (hfo.ne hb116).symm)
      have ours_s122 := hFo
      have hb_ := s122 _ _ (fun hm => d_o_b _ hm rfl) hb_
      have hb82 := s122 _ _ (fun hm => d_o_f _ hm rfl) hb82
      have hgk := s122 _ _ (fun hm => d_o_g _ hm rfl) hgk
      have hb1 := s122 _ _ (fun hm => d_o_n _ hm rfl) hb1
      have hb5 := s122 _ _ (fun hm => d_o_n3 _ hm rfl) hb5
      have hb109 := s122 _ _ (fun hm => d_o_n9 _ hm rfl) hb109
      have hb70 := s122 _ _ (fun hm => d_o_n16 _ hm rfl) hb70
      have D := D.keep (.of s122 ours_s122)
      have hb102 := s122 _ _ (fun hm => d_o_n89 _ hm rfl) hb102
      have hS := hS.keep (.of s122 ours_s122)
      have F_k := F_k.keep (.of s122 ours_s122)
      have R_q112 := R_q112.keep (.of s122 ours_s122)
      have hb116 := s122 _ _ (fun hm => d_o_n114 _ hm rfl) hb116
      have d_o_b := dn_o_b
      have d_o_f := dn_o_f
      have d_o_g := dn_o_g
      have d_o_n := dn_o_n
      have d_o_n3 := dn_o_n3
      have d_o_n9 := dn_o_n9
      have d_o_n16 := dn_o_n16
      have d_o_n89 := dn_o_n89
      have d_o_n114 := dn_o_n114
      obtain ⟨a125, cp126, rfl⟩ := R_o.slice
      have hn := Nat.le_trans hn hn2
      refine dj.c (v := .pointer (some ⟨n9, 0, none⟩)) rfl (by kernel_rfl) rfl rfl (by kernel_rfl) rfl ?_
      refine dj.c (v := .pointer (some ⟨n9, 3, none⟩)) rfl (by kernel_rfl) rfl rfl (by kernel_rfl) rfl ?_
      refine dj.op rfl (by kernel_rfl) rfl rfl (Does.store (k := 1) (xs := [.slice a125 (os ++ [((a_q112, (y_x97.1).length, c_q112), (a_k, (pKept R.S ten (y_x97.1, y_x97.2)).length, c_k))]).length cp126]) (cs' := [.string (ten), .string (clu), .int .i64 (epo), .slice a125 (os ++ [((a_q112, (y_x97.1).length, c_q112), (a_k, (pKept R.S ten (y_x97.1, y_x97.2)).length, c_k))]).length cp126, .int .i64 (R.bad + (pBad R.S ten (y_x97.1, y_x97.2))), .bool (decide ((((mget F (ten, clu)).getD 0)) < epo))]) hf (by kernel_rfl) rfl rfl rfl hb109 rfl rfl (Nat.le_of_ble_eq_true rfl) rfl) (keepJD (by kernel_rfl) (keepJD (by kernel_rfl) keepJN)) ?_
      rintro _ h128 n129 ⟨rfl, hb127⟩ s130 hn2 hf
      refine dj.w0 ?_
      have D := D.keep (.own s130 hb109 rfl)
      have hS := hS.keep (.own s130 hb109 rfl)
      have F_k := F_k.keep (.own s130 hb109 rfl)
      have R_q112 := R_q112.keep (.own s130 hb109 rfl)
      have R_o := R_o.but s130 (fun c hc hm => d_o_n9 c hc (List.mem_singleton.1 hm))
      have hb_ := s130.get1 (e_b_n9) hb_
      have hb82 := s130.get1 (e_f_n9) hb82
      have hgk := s130.get1 (e_g_n9) hgk
      have hb1 := s130.get1 (e_n_n9) hb1
      have hb5 := s130.get1 (e_n3_n9) hb5
      have hb70 := s130.get1 (Ne.symm e_n9_n16) hb70
      have hs := hs.fresh z_n9 s130
      have hn := Nat.le_trans hn hn2
      refine dj.e ?_
      refine AWp.rowV (l := _) pok ?_
      refine sq.c (v := .int .i64 (i + 1)) rfl rfl (okI (wrap_i64 (by omega) (by omega))) rfl ?_
      refine sq.c (v := .int .i64 (i + 1)) rfl rfl rfl rfl ?_
      refine sq.e ?_
      have hne : ¬ pKept R.S ten y_x97 = [] := fun e => by rw [show pKept R.S ten (y_x97.1, y_x97.2) = [] from e] at c17_2; simp at c17_2
      refine ⟨_, _, rfl, by omega, i + 1, stepT ten R y_x97, Gk, os ++ [((a_q112, (y_x97.1).length, c_q112), (a_k, (pKept R.S ten (y_x97.1, y_x97.2)).length, c_k))], a125, cp126, rfl, hs, hn, hf, hb_, hb82, hgk, hS, hb1, hb5, hb127, hb70, (by rw [show (stepT ten R y_x97).ks = _ from if_neg hne]; exact FSers.snocO D ⟨R_q112, F_k⟩), R_o, d_o_b, d_o_f, d_o_g, d_o_n, d_o_n3, d_o_n9, d_o_n16, okk, (by omega), (by omega), (by rw [take_snoc hi0 hy_x97, foldT_snoc, ← hR]), (by rw [show N + 6000 * (i + 1).toNat = N + 6000 * i.toNat + 6000 by omega]; exact hinv2.put hmb.1 (hmb.2 _ (List.mem_of_getElem? hy_x97)).1 hsx), (Int.add_nonneg hbd0 hpb.1), (show R.bad + pBad R.S ten (y_x97.1, y_x97.2) ≤ _ by omega), (by simp only [List.length_append, List.length_cons, List.length_nil]; omega), getV [undef, undef, undef, undef, undef, undef, undef, undef, undef, .pointer (some ⟨n89, 0, none⟩), .slice a_k (pKept R.S ten (y_x97.1, y_x97.2)).length c_k, .int .i64 (pBad R.S ten (y_x97.1, y_x97.2)), undef, undef, undef, undef, undef, undef, undef, undef, undef, undef, undef, undef, undef, undef, undef, undef, undef, undef, undef, undef, undef, undef, undef, undef, undef, undef, undef, undef, undef, undef, undef, undef, undef, undef, undef, undef, undef, undef, undef, undef, undef, undef, undef, undef, undef, undef, undef, undef, undef, undef, undef, undef, undef, undef, .bool true, .pointer (some ⟨b90, o91, none⟩), .agg #[.slice a1_x97 (y_x97.1.length) c1_x97, .slice a2_x97 (y_x97.2.length) c2_x97], .tuple #[.slice a_k (pKept R.S ten (y_x97.1, y_x97.2)).length c_k, .int .i64 (pBad R.S ten (y_x97.1, y_x97.2))], .pointer (some ⟨b, 0, none⟩), .pointer (some ⟨n, 0, none⟩), .string (ten), .agg #[.slice a1_x97 (y_x97.1.length) c1_x97, .slice a2_x97 (y_x97.2.length) c2_x97], .tuple #[.slice a_k (pKept R.S ten (y_x97.1, y_x97.2)).length c_k, .int .i64 (pBad R.S ten (y_x97.1, y_x97.2))], .slice a_k (pKept R.S ten (y_x97.1, y_x97.2)).length c_k, .int .i64 (pBad R.S ten (y_x97.1, y_x97.2)), .pointer (some ⟨n9, 4, none⟩), .int .i64 (R.bad), .int .i64 (pBad R.S ten (y_x97.1, y_x97.2)), .int .i64 (R.bad + (pBad R.S ten (y_x97.1, y_x97.2))), .pointer (some ⟨n9, 4, none⟩), .slice a_k (pKept R.S ten (y_x97.1, y_x97.2)).length c_k, .int .i64 ((((pKept R.S ten (y_x97.1, y_x97.2)).length : Nat) : Int)), .bool true, .pointer (some ⟨n9, 0, none⟩), .pointer (some ⟨n9, 3, none⟩), .slice a_o (os.length) cp_o, .pointer (some ⟨n89, 0, none⟩), .slice a1_x97 (y_x97.1.length) c1_x97, .slice a_q112 (y_x97.1).length c_q112, .slice a_k (pKept R.S ten (y_x97.1, y_x97.2)).length c_k, .agg #[.slice a_q112 (y_x97.1).length c_q112, .slice a_k (pKept R.S ten (y_x97.1, y_x97.2)).length c_k], .slice (some ⟨n114, 0, none⟩) (1) (1), .slice a125 (os ++ [((a_q112, (y_x97.1).length, c_q112), (a_k, (pKept R.S ten (y_x97.1, y_x97.2)).length, c_k))]).length cp126, .pointer (some ⟨n9, 0, none⟩), .pointer (some ⟨n9, 3, none⟩), .int .i64 (i + 1)], rfl⟩
     ·rw [decide_eq_false c17_2]
      refine AWp.condF rfl rfl ?_
      refine AWp.skip (AWp.rowV (l := _) pok ?_)
      refine sq.c (v := .int .i64 (i + 1)) rfl rfl (okI (wrap_i64 (by omega) (by omega))) rfl ?_
      refine sq.c (v := .int .i64 (i + 1)) rfl rfl rfl rfl ?_
      refine sq.e ?_
      have he : pKept R.S ten y_x97 = [] := List.eq_nil_of_length_eq_zero (show (pKept R.S ten (y_x97.1, y_x97.2)).length = 0 by omega)
      refine ⟨_, _, rfl, by omega, i + 1, stepT ten R y_x97, Gk, os, a_o, cp_o, rfl, hs, hn, hf, hb_, hb82, hgk, hS, hb1, hb5, hb109, hb70, (by rw [show (stepT ten R y_x97).ks = _ from if_pos he]; exact D), R_o, d_o_b, d_o_f, d_o_g, d_o_n, d_o_n3, d_o_n9, d_o_n16, okk, (by omega), (by omega), (by rw [take_snoc hi0 hy_x97, foldT_snoc, ← hR]), (by rw [show N + 6000 * (i + 1).toNat = N + 6000 * i.toNat + 6000 by omega]; exact hinv2.put hmb.1 (hmb.2 _ (List.mem_of_getElem? hy_x97)).1 hsx), (Int.add_nonneg hbd0 hpb.1), (show R.bad + pBad R.S ten (y_x97.1, y_x97.2) ≤ _ by omega), (by omega), getV [undef, undef, undef, undef, undef, undef, undef, undef, undef, .pointer (some ⟨n89, 0, none⟩), .slice a_k (pKept R.S ten (y_x97.1, y_x97.2)).length c_k, .int .i64 (pBad R.S ten (y_x97.1, y_x97.2)), undef, undef, undef, undef, undef, undef, undef, undef, undef, undef, undef, undef, undef, undef, undef, undef, undef, undef, undef, undef, undef, undef, undef, undef, undef, undef, undef, undef, undef, undef, undef, undef, undef, undef, undef, undef, undef, undef, undef, undef, undef, undef, undef, undef, undef, undef, undef, undef, undef, undef, undef, undef, undef, undef, .bool true, .pointer (some ⟨b90, o91, none⟩), .agg #[.slice a1_x97 (y_x97.1.length) c1_x97, .slice a2_x97 (y_x97.2.length) c2_x97], .tuple #[.slice a_k (pKept R.S ten (y_x97.1, y_x97.2)).length c_k, .int .i64 (pBad R.S ten (y_x97.1, y_x97.2))], .pointer (some ⟨b, 0, none⟩), .pointer (some ⟨n, 0, none⟩), .string (ten), .agg #[.slice a1_x97 (y_x97.1.length) c1_x97, .slice a2_x97 (y_x97.2.length) c2_x97], .tuple #[.slice a_k (pKept R.S ten (y_x97.1, y_x97.2)).length c_k, .int .i64 (pBad R.S ten (y_x97.1, y_x97.2))], .slice a_k (pKept R.S ten (y_x97.1, y_x97.2)).length c_k, .int .i64 (pBad R.S ten (y_x97.1, y_x97.2)), .pointer (some ⟨n9, 4, none⟩), .int .i64 (R.bad), .int .i64 (pBad R.S ten (y_x97.1, y_x97.2)), .int .i64 (R.bad + (pBad R.S ten (y_x97.1, y_x97.2))), .pointer (some ⟨n9, 4, none⟩), .slice a_k (pKept R.S ten (y_x97.1, y_x97.2)).length c_k, .int .i64 ((((pKept R.S ten (y_x97.1, y_x97.2)).length : Nat) : Int)), .bool false, (y87 85), (y87 86), (y87 87), (y87 88), (y87 89), (y87 90), (y87 91), (y87 92), (y87 93), (y87 94), (y87 95), (y87 96), .int .i64 (i + 1)], rfl⟩
    ·rw [decide_eq_false c13_0]
     refine AWp.condF rfl rfl ?_
     refine AWp.exit ?_
     refine AWp.seq (AWp.rowV (l := _) pok ?_)
     refine sq.c (v := .agg #[.string (ten), .string (clu), .int .i64 (epo), .slice a_o (os.length) cp_o, .int .i64 (R.bad), .bool (decide ((((mget F (ten, clu)).getD 0)) < epo))]) rfl rfl (ldA (P := Tryd.prog) (t := 33) (p := 0) (k := 6) (xs := [.string (ten), .string (clu), .int .i64 (epo), .slice a_o (os.length) cp_o, .int .i64 (R.bad), .bool (decide ((((mget F (ten, clu)).getD 0)) < epo))]) (by kernel_rfl) (by kernel_rfl) hb78 rfl (Nat.le_of_ble_eq_true rfl)) rfl ?_
     refine sq.op rfl rfl (Does.store (k := 6) (xs := [.string (ten), .string (clu), .int .i64 (epo), .slice a_o (os.length) cp_o, .int .i64 (R.bad), .bool (decide ((((mget F (ten, clu)).getD 0)) < epo))]) (cs' := [.string (ten), .string (clu), .int .i64 (epo), .slice a_o (os.length) cp_o, .int .i64 (R.bad), .bool (decide ((((mget F (ten, clu)).getD 0)) < epo))]) hf (by kernel_rfl) rfl rfl rfl hb5 rfl rfl (Nat.le_of_ble_eq_true rfl) rfl) ?_
     rintro _ h132 n133 ⟨rfl, hb131⟩ s134 hn2 hf
     refine sq.w0 ?_
     have hS := hS.keep (.own s134 hb5 rfl)
     have D := D.keep (.own s134 hb5 rfl)
     have R_o := R_o.but s134 (fun c hc hm => d_o_n3 c hc (List.mem_singleton.1 hm))
     have hb82 := s134.get1 (e_f_n3) hb82
     have hg_ := s134.get1 (e_g_n3) hg_
     have hs := hs.fresh z_n3 s134
     have hn := Nat.le_trans hn hn2
     refine sq.c (v := .int .i64 (0)) rfl rfl rfl rfl ?_
     refine sq.e ?_
     refine AWp.ret ?_
     refine ⟨rfl, [.agg #[.string (ten), .string (clu), .int .i64 (epo), .slice a_o (os.length) cp_o, .int .i64 (R.bad), .bool (decide ((((mget F (ten, clu)).getD 0)) < epo))], .int .i64 (0)], (res_cellC (ldA (P := Tryd.prog) (t := 33) (p := 0) (k := 6) (xs := [.string (ten), .string (clu), .int .i64 (epo), .slice a_o (os.length) cp_o, .int .i64 (R.bad), .bool (decide ((((mget F (ten, clu)).getD 0)) < epo))]) (by kernel_rfl) (by kernel_rfl) hb131 rfl (Nat.le_of_ble_eq_true rfl)) rfl), .tuple #[.agg #[.string (ten), .string (clu), .int .i64 (epo), .slice a_o (os.length) cp_o, .int .i64 (R.bad), .bool (decide ((((mget F (ten, clu)).getD 0)) < epo))], .int .i64 (0)], rfl, hs, hn, ?_⟩
     rw [show i.toNat = ss.length by omega, List.take_length] at hR
     rw [show takeR F kf S kg ⟨ten, clu, epo, ss⟩ = takeOk (mset F kf (ten, clu) epo) (mck F kf (ten, clu)) ⟨ten, clu, epo, ss⟩ R (decide ((mget F (ten, clu)).getD 0 < epo)) by unfold takeR; rw [if_neg (by rw [c3_1]; simp)]; dsimp only; rw [if_neg c6_2, if_neg c8_8, ← hR]]
     exact ⟨_, _, _, rfl, R_o, D, hb82, hg_, ok83, okg2, hS⟩
 ·rw [c3_1]
  refine sq.c (v := .bool true) rfl rfl rfl rfl ?_
  refine sq.e ?_
  refine AWp.condT rfl rfl ?_
  refine AWp.seq (AWp.rowV (l := _) pok ?_)
  refine sq.c (v := .agg #[.string (⟨#[]⟩), .string (⟨#[]⟩), .int .i64 (0), .slice none (0) (0), .int .i64 (0), .bool false]) rfl rfl (by kernel_rfl) rfl ?_
  refine sq.op rfl rfl (Does.store (k := 6) (xs := [.string (⟨#[]⟩), .string (⟨#[]⟩), .int .i64 (0), .slice none (0) (0), .int .i64 (0), .bool false]) (cs' := [.string (⟨#[]⟩), .string (⟨#[]⟩), .int .i64 (0), .slice none (0) (0), .int .i64 (0), .bool false]) hf (by kernel_rfl) rfl rfl rfl hb5 rfl rfl (Nat.le_of_ble_eq_true rfl) rfl) ?_
  rintro _ h136 n137 ⟨rfl, hb135⟩ s138 hn2 hf
  refine sq.w0 ?_
  have hS := hS.keep (.own s138 hb5 rfl)
  have hf_ := s138.get1 (e_f_n3) hf_
  have hg_ := s138.get1 (e_g_n3) hg_
  have hs := hs.fresh z_n3 s138
  have hn := Nat.le_trans hn hn2
  refine sq.c (v := .int .i64 (4)) rfl rfl rfl rfl ?_
  refine sq.e ?_
  refine AWp.ret ?_
  refine ⟨rfl, [.agg #[.string (⟨#[]⟩), .string (⟨#[]⟩), .int .i64 (0), .slice none (0) (0), .int .i64 (0), .bool false], .int .i64 (4)], (res_cellC (ldA (P := Tryd.prog) (t := 33) (p := 0) (k := 6) (xs := [.string (⟨#[]⟩), .string (⟨#[]⟩), .int .i64 (0), .slice none (0) (0), .int .i64 (0), .bool false]) (by kernel_rfl) (by kernel_rfl) hb135 rfl (Nat.le_of_ble_eq_true rfl)) rfl), .tuple #[.agg #[.string (⟨#[]⟩), .string (⟨#[]⟩), .int .i64 (0), .slice none (0) (0), .int .i64 (0), .bool false], .int .i64 (4)], rfl, hs, hn, ?_⟩
  rw [show takeR F kf S kg ⟨ten, clu, epo, ss⟩ = takeNo 4 F kf S kg by unfold takeR; rw [if_pos c3_1]]
  exact ⟨_, _, _, rfl, OwnRow.nil, FSers.nil _, hf_, hg_, okF, okG, hS⟩
end Go.Proofs.YtkpaklofdkjinaaDoor
namespace Go.Proofs.YtkpaklofdkjinaaDoor
open Go Go.Abs Go.RowKit Go.Shelf
set_option maxRecDepth 100000
set_option maxHeartbeats 8000000
theorem takeSt {h : Heap} {n : Nat} {b f g kf kg : Nat} {c : CI} (F : FM) (G : SM) (S : SP) (hb_ : h.get b = some (.cells [.map (some f), .map (some g)] true c)) (hf_ : h.get f = some (.map (mapE plV intV F) kf)) (hg_ : h.get g = some (.map (mapE plV ownV G) kg)) (okF : MOk F kf) (okG : MOk G kg) (hS : SMIs h G S) (ne_f_g : f ≠ g) {a : Option Addr} {cp N : Nat} (ten clu : ByteArray) (epo : Int) (rs : List RSer) (ss : List Ser) (hr : IsRow encSer h (.slice a rs.length cp) rs) (hd : SersIs h rs ss) (hld : Laid0 h) (hsm : Smalls ss) (q1 : ten.data.toList.length < 9223372036854775808) (q2 : clu.data.toList.length < 9223372036854775808) (hinv : InvS N S) (hN : N + 7200000 < 1000000000000) {R : TkR} (hR : R = takeR F kf S kg ⟨ten, clu, epo, ss⟩) :
    Makes Tryd.prog 13 [.pointer (some ⟨b, 0, none⟩), .agg #[.string ten, .string clu, .int .i64 epo, .slice a rs.length cp]] h n [f, g] fun v h2 _ => ∃ w os G2, v = .tuple #[.agg #[.string R.kb.ten, .string R.kb.clu, .int .i64 R.kb.epo, w, .int .i64 R.bad, .bool R.rose], .int .i64 R.e] ∧ FRow encSer h2 w os ∧ FSers h2 os R.kb.ser ∧ h2.get f = some (.map (mapE plV intV R.F) R.kf) ∧ h2.get g = some (.map (mapE plV ownV G2) R.kg) ∧ MOk R.F R.kf ∧ MOk G2 R.kg ∧ SMIs h2 G2 R.S := by
  subst hR
  refine makes_weaken (takeX_spec F G S hb_ hf_ hg_ okF okG hS ne_f_g ten clu epo rs ss hr hd hld hsm q1 q2 hinv hN) ?_
  rintro v h2 n2 hs hn hf ⟨w, os, G2, rfl, q, d, hf2, hg2, ok1, ok2, sm⟩
  obtain ⟨h3, w3, fr, k3, s3⟩ := q.freeze
  exact ⟨h3, w3, q.fresh hs s3, w, os.map serV, G2, rfl, FRow.ser fr, d.keep k3, s3 _ _ (OwnRow.notmap q hf2) hf2, s3 _ _ (OwnRow.notmap q hg2) hg2, ok1, ok2, sm.keep k3⟩
theorem MOk.one {κ ν : Type} {L : List (κ × ν × Nat)} {ck : Nat} (o : MOk L ck) {x y : κ × ν × Nat} (hx : x ∈ L) (hy : y ∈ L) (e : x.2.2 = y.2.2) : x = y := by
  have h := o.stamps
  clear o
  induction L with
  | nil => cases hx
  | cons a L ih =>
    simp only [List.map_cons, List.nodup_cons, List.mem_map] at h
    rcases List.mem_cons.1 hx with e1 | hx1
    · rcases List.mem_cons.1 hy with e2 | hy2
      · rw [e1, e2]
      · exact absurd ⟨y, hy2, by rw [← e, e1]⟩ h.1
    · rcases List.mem_cons.1 hy with e2 | hy2
      · exact absurd ⟨x, hx1, by rw [e, e2]⟩ h.1
      · exact ih hx1 hy2 h.2
theorem filter_lt {α : Type} {p q : α → Bool} (h : ∀ x, q x = true → p x = true) : ∀ {L : List α} {x : α}, x ∈ L → p x = true → q x = false → (L.filter q).length < (L.filter p).length := by
  have le : ∀ L : List α, (L.filter q).length ≤ (L.filter p).length := by
    intro L
    induction L with
    | nil => exact Nat.le_refl _
    | cons a L ih =>
      by_cases ha : q a = true
      · rw [List.filter_cons_of_pos ha, List.filter_cons_of_pos (h a ha)]; simpa using ih
      · rw [List.filter_cons_of_neg ha]
        by_cases hb : p a = true
        · rw [List.filter_cons_of_pos hb, List.length_cons]; omega
        · rw [List.filter_cons_of_neg hb]; exact ih
  intro L
  induction L with
  | nil => intro x hx; cases hx
  | cons a L ih =>
    intro x hx h1 h2
    rcases List.mem_cons.1 hx with rfl | hx
    · rw [List.filter_cons_of_neg (by rw [h2]; simp), List.filter_cons_of_pos h1, List.length_cons]
      have := le L; omega
    · have := ih hx h1 h2
      by_cases ha : q a = true
      · rw [List.filter_cons_of_pos ha, List.filter_cons_of_pos (h a ha)]; simpa using this
      · rw [List.filter_cons_of_neg ha]
        by_cases hb : p a = true
        · rw [List.filter_cons_of_pos hb, List.length_cons]; omega
        · rw [List.filter_cons_of_neg hb]; exact this
def left {κ ν : Type} (L : List (κ × ν × Nat)) (seen : List Nat) : Nat := (L.filter fun x => decide (x.2.2 ∉ seen)).length
theorem left_lt {κ ν : Type} {L : List (κ × ν × Nat)} {seen : List Nat} {x : κ × ν × Nat} (hx : x ∈ L) (hn : x.2.2 ∉ seen) : left L (seen ++ [x.2.2]) < left L seen :=
  filter_lt (fun y hy => by simp only [decide_eq_true_eq, List.mem_append, not_or] at hy ⊢; exact hy.1) hx (by simpa using hn) (by simp)
def eqM (F E : FM) : Bool := decide (F.length = E.length) && F.all fun x => decide (mget E x.1 = some x.2.1)
def eqSt (S T : SP) : Bool := decide (S.length = T.length) && S.all fun x => decide ((mget T x.1).map (fun s => s.2) = some x.2.1.2)
theorem SMIs.mem {h : Heap} {G : SM} {S : SP} (q : SMIs h G S) {x : Pl × OV × Nat} (hx : x ∈ G) : ∃ s, (x.1, s, x.2.2) ∈ S ∧ FSer h x.2.1 s := by
  obtain ⟨i, hi⟩ := List.getElem?_of_mem hx
  have hl : i < S.length := by rw [← q.1]; exact (List.getElem?_eq_some_iff.1 hi).1
  have hs : S[i]? = some S[i] := List.getElem?_eq_getElem hl
  obtain ⟨e1, e2, e3⟩ := q.2 i _ _ hi hs
  refine ⟨S[i].2.1, ?_, e3⟩
  rw [e1, e2]
  exact List.getElem_mem hl
theorem SMIs.mem' {h : Heap} {G : SM} {S : SP} (q : SMIs h G S) {x : Pl × Ser × Nat} (hx : x ∈ S) : ∃ g, (x.1, g, x.2.2) ∈ G ∧ FSer h g x.2.1 := by
  obtain ⟨i, hi⟩ := List.getElem?_of_mem hx
  have hl : i < G.length := by rw [q.1]; exact (List.getElem?_eq_some_iff.1 hi).1
  have hs : G[i]? = some G[i] := List.getElem?_eq_getElem hl
  obtain ⟨e1, e2, e3⟩ := q.2 i _ _ hs hi
  refine ⟨G[i].2.1, ?_, e3⟩
  rw [← e1, ← e2]
  exact List.getElem_mem hl
theorem SMIs.some {h : Heap} {G : SM} {S : SP} (q : SMIs h G S) (k : Pl) : (mget G k).isSome = (mget S k).isSome := by
  rcases q.get k with ⟨a, b⟩ | ⟨v, s, a, b, _⟩ <;> rw [a, b] <;> rfl
theorem eqF_spec {h : Heap} {n : Nat} {f e kf ke : Nat} (F E : FM) (hf_ : h.get f = some (.map (mapE plV intV F) kf)) (he_ : h.get e = some (.map (mapE plV intV E) ke)) (okF : MOk F kf) (okE : MOk E ke) (q1 : F.length ≤ 1000000000000) (q2 : E.length ≤ 1000000000000) :
    Tells Tryd.prog 38 [.map (some f), .map (some e)] h n (.bool (eqM F E)) := by
 refine Makes.tells (Makes.free fun hf => ?_)
 have hs : SubBut h h ([]) := .refl _ _
 have hn : n ≤ n := Nat.le_refl _
 have hf0 := hf
 refine Makes.of_bodyV (args := [.map (some f), .map (some e)]) (vs := [.map (some f), .map (some e), undef, undef, undef, undef, undef, undef, undef, undef, undef, undef, undef, undef, undef, undef, undef, undef, undef, undef, undef, undef, undef, undef, undef, undef, undef, undef, undef, undef, undef, undef, undef, undef]) Tryd.func38 rfl rfl ?_
 refine AWp.seq (AWp.rowV (l := _) pok ?_)
 refine sq.c (v := .bool false) rfl rfl rfl rfl ?_
 refine sq.e (AWp.seq (AWp.seq (AWp.rowV (l := _) pok ?_)))
 refine sq.c (v := .map (some f)) rfl rfl rfl rfl ?_
 refine sq.c (v := .int .i64 (((F.length : Nat) : Int))) rfl rfl (lenM (P := Tryd.prog) (K := plV) (V := intV) (t := 66) Tryd.underlying66 hf_) rfl ?_
 refine sq.c (v := .map (some e)) rfl rfl rfl rfl ?_
 refine sq.c (v := .int .i64 (((E.length : Nat) : Int))) rfl rfl (lenM (P := Tryd.prog) (K := plV) (V := intV) (t := 66) Tryd.underlying66 he_) rfl ?_
 refine sq.c (v := .bool (!decide ((((F.length : Nat) : Int)) = (((E.length : Nat) : Int))))) rfl rfl rfl rfl ?_
 refine sq.e ?_
 by_cases c1_4 : (((F.length : Nat) : Int)) = (((E.length : Nat) : Int))
 ·rw [decide_eq_true c1_4]
  refine AWp.condF rfl rfl ?_
  refine AWp.skip (AWp.seq (AWp.seq (AWp.rowV (l := _) pok ?_)))
  refine sq.c (v := .map (some f)) rfl rfl rfl rfl ?_
  have e_f_n : f ≠ n := hf.ne hf_
  have e_e_n : e ≠ n := hf.ne he_
  have z_n : h.get n = none := hf0 _ hn
  refine sq.op rfl rfl (Does.rangeM hf Tryd.underlying66 rfl hf_) ?_
  rintro _ h2 n3 ⟨rfl, hb1⟩ s4 hn2 hf
  refine sq.w ?_
  have hf_ := s4.sub _ _ hf_
  have he_ := s4.sub _ _ he_
  have hs := hs.trans s4
  have hn := Nat.le_trans hn hn2
  refine sq.e (AWp.block ?_)
  refine AWp.loopV (fun d vs h6 n7 => ∃ (seen : List Nat), d = (left F seen + 1) ∧ SubBut h h6 ([]) ∧ n ≤ n7 ∧ Free h6 n7 ∧ h6.get f = some (.map (mapE plV intV F) kf) ∧ h6.get e = some (.map (mapE plV intV E) ke) ∧ h6.get n = some (.miter (some f) kf seen kf) ∧ (∀ x ∈ F, x.2.2 ∈ seen → mget E x.1 = some x.2.1) ∧ ∃ y5 : Nat → Value, vs = [.map (some f), .map (some e), undef, undef, (y5 4), (y5 5), (y5 6), (y5 7), (y5 8), .map (some f), .int .i64 (((F.length : Nat) : Int)), .map (some e), .int .i64 (((E.length : Nat) : Int)), .bool false, .map (some f), .pointer (some ⟨n, 0, none⟩), (y5 16), (y5 17), (y5 18), (y5 19), (y5 20), (y5 21), (y5 22), (y5 23), (y5 24), (y5 25), (y5 26), (y5 27), (y5 28), (y5 29), (y5 30), (y5 31), (y5 32), (y5 33)]) ((left F [] + 1)) ⟨[], rfl, hs, hn, hf, hf_, he_, hb1, (fun x _ hm => by cases hm), getV [undef, undef, undef, undef, .bool false, undef, undef, undef, undef, undef, undef, undef, undef, undef, undef, undef, undef, undef, undef, undef, undef, undef, undef, undef, undef, undef, undef, undef, undef, undef, undef, undef, undef, undef], rfl⟩ ?_
  rintro d vs h6 n7 ⟨seen, rfl, hs, hn, hf, hf_, he_, hb1, hall, y5, rfl⟩
  refine AWp.seq (AWp.rowV (l := _) pok ?_)
  refine sq.nx (K := plV) (V := intV) hf rfl rfl rfl hb1 hf_ okF.lt (Nat.le_refl _) ?_ ?_
  ·intro hend_c4_0
   refine sq.c (v := .bool false) rfl rfl rfl rfl ?_
   refine sq.e (AWp.seq ?_)
   refine AWp.condF rfl rfl ?_
   refine AWp.exit ?_
   refine AWp.seq (AWp.rowV (l := _) pok ?_)
   refine sq.c (v := .bool true) rfl rfl rfl rfl ?_
   refine sq.e ?_
   refine AWp.ret ?_
   refine ⟨rfl, [.bool true], rfl, .bool true, rfl, hs, hn, ?_⟩
   show Value.bool true = .bool (eqM F E)
   refine congrArg Value.bool ?_
   unfold eqM
   rw [decide_eq_true (show F.length = E.length by omega), Bool.true_and]
   exact (List.all_eq_true.2 fun x hx => decide_eq_true (hall x hx (hend_c4_0 x hx))).symm
  ·intro x8 mem_x8 new_x8 h9 s10 hb11 hf
   have hn2 := Nat.le_refl n7
   refine sq.w ?_
   have hf_ := s10.get1 (e_f_n) hf_
   have he_ := s10.get1 (e_e_n) he_
   have hs := hs.fresh z_n s10
   refine sq.c (v := .bool true) rfl rfl rfl rfl ?_
   refine sq.e (AWp.seq ?_)
   refine AWp.condT rfl rfl ?_
   refine AWp.skip (AWp.block (AWp.seq (AWp.rowV (l := _) pok ?_)))
   refine sq.op rfl rfl (Does.entry (K := plV) (V := intV) (y := x8) hf okF rfl hb11 hf_ mem_x8) ?_
   rintro _ h12 n13 rfl s14 hn2 hf
   refine sq.w ?_
   have hf_ := s14.sub _ _ hf_
   have he_ := s14.sub _ _ he_
   have hb11 := s14.sub _ _ hb11
   have hs := hs.trans s14
   have hn := Nat.le_trans hn hn2
   refine sq.c (v := .agg #[.string (x8.1.1), .string (x8.1.2)]) rfl rfl rfl rfl ?_
   refine sq.c (v := .int .i64 (x8.2.1)) rfl rfl rfl rfl ?_
   have e_f_n13 : f ≠ n13 := hf.ne hf_
   have e_e_n13 : e ≠ n13 := hf.ne he_
   have e_n_n13 : n ≠ n13 := hf.ne hb11
   have z_n13 : h.get n13 = none := hf0 _ hn
   refine sq.op rfl rfl (Does.alloc (cs := [.string (⟨#[]⟩), .string (⟨#[]⟩)]) hf (z := .agg #[.string (⟨#[]⟩), .string (⟨#[]⟩)]) (by kernel_rfl) rfl) ?_
   rintro _ h16 n17 ⟨rfl, hb15⟩ s18 hn2 hf
   refine sq.w ?_
   have hf_ := s18.sub _ _ hf_
   have he_ := s18.sub _ _ he_
   have hb11 := s18.sub _ _ hb11
   have hs := hs.trans s18
   have hn := Nat.le_trans hn hn2
   refine sq.op rfl rfl (Does.store (k := 2) (xs := [.string (x8.1.1), .string (x8.1.2)]) (cs' := [.string (x8.1.1), .string (x8.1.2)]) hf (by kernel_rfl) rfl rfl rfl hb15 rfl rfl (Nat.le_of_ble_eq_true rfl) rfl) ?_
   rintro _ h20 n21 ⟨rfl, hb19⟩ s22 hn2 hf
   refine sq.w0 ?_
   have hf_ := s22.get1 (e_f_n13) hf_
   have he_ := s22.get1 (e_e_n13) he_
   have hb11 := s22.get1 (e_n_n13) hb11
   have hs := hs.fresh z_n13 s22
   have hn := Nat.le_trans hn hn2
   refine sq.c (v := .int .i64 (x8.2.1)) rfl rfl rfl rfl ?_
   refine sq.e (AWp.seq (AWp.rowV (l := _) pok ?_))
   refine sq.c (v := .map (some e)) rfl rfl rfl rfl ?_
   refine sq.c (v := .agg #[.string (x8.1.1), .string (x8.1.2)]) rfl rfl (ldA (P := Tryd.prog) (t := 73) (p := 0) (k := 2) (xs := [.string (x8.1.1), .string (x8.1.2)]) (by kernel_rfl) (by kernel_rfl) hb19 rfl (Nat.le_of_ble_eq_true rfl)) rfl ?_
   refine sq.c (v := .tuple #[.int .i64 (((mget E (x8.1.1, x8.1.2)).getD 0)), .bool ((mget E (x8.1.1, x8.1.2)).isSome)]) rfl rfl (lkOk (P := Tryd.prog) (K := plV) (V := intV) (kt := 73) (el := 2) (t := 66) (k := (x8.1.1, x8.1.2)) (d := (0 : Int)) Tryd.underlying66 keyPl (by kernel_rfl) rfl he_) rfl ?_
   refine sq.c (v := .tuple #[.int .i64 (((mget E (x8.1.1, x8.1.2)).getD 0)), .bool ((mget E (x8.1.1, x8.1.2)).isSome)]) rfl rfl rfl rfl ?_
   refine sq.c (v := .int .i64 (((mget E (x8.1.1, x8.1.2)).getD 0))) rfl rfl rfl rfl ?_
   refine sq.c (v := .bool ((mget E (x8.1.1, x8.1.2)).isSome)) rfl rfl rfl rfl ?_
   refine sq.c (v := .int .i64 (((mget E (x8.1.1, x8.1.2)).getD 0))) rfl rfl rfl rfl ?_
   refine sq.c (v := .bool ((mget E (x8.1.1, x8.1.2)).isSome)) rfl rfl rfl rfl ?_
   refine sq.e (AWp.seq (AWp.rowV (l := _) pok ?_))
   refine sq.c (v := .bool ((mget E (x8.1.1, x8.1.2)).isSome)) rfl rfl rfl rfl ?_
   rcases Bool.eq_false_or_eq_true ((mget E (x8.1.1, x8.1.2)).isSome) with c6_2 | c6_2
   ·rw [c6_2]
    refine sq.c (v := .bool false) rfl rfl rfl rfl ?_
    refine sq.c (v := .bool false) rfl rfl rfl rfl ?_
    refine sq.c (v := .int .i64 (x8.2.1)) (wantT (g := 2) (d := 29) rfl rfl rfl) rfl rfl rfl ?_
    refine sq.c (v := .int .i64 (((mget E (x8.1.1, x8.1.2)).getD 0))) (wantT (g := 2) (d := 29) rfl rfl rfl) rfl rfl rfl ?_
    refine sq.c (v := .bool (!decide (x8.2.1 = (((mget E (x8.1.1, x8.1.2)).getD 0))))) (wantT (g := 2) (d := 29) rfl rfl rfl) rfl rfl rfl ?_
    refine sq.c (v := .bool (!decide (x8.2.1 = (((mget E (x8.1.1, x8.1.2)).getD 0))))) rfl rfl rfl rfl ?_
    refine sq.e ?_
    by_cases c7_5 : x8.2.1 = (((mget E (x8.1.1, x8.1.2)).getD 0))
    ·rw [decide_eq_true c7_5]
     refine AWp.condF rfl rfl ?_
     refine AWp.skip ?_
     have hall2 : ∀ x ∈ F, x.2.2 ∈ seen ++ [x8.2.2] → mget E x.1 = some x.2.1 := by
      intro y hy hm
      rcases List.mem_append.1 hm with hm | hm
      ·exact hall y hy hm
      ·have ey := MOk.one okF hy mem_x8 (List.mem_singleton.1 hm)
       rw [ey]
       cases em : mget E x8.1 with
       | none => rw [show mget E (x8.1.1, x8.1.2) = none from em] at c6_2; cases c6_2
       | some v =>
        rw [show mget E (x8.1.1, x8.1.2) = some v from em] at c7_5
        have e9 : x8.2.1 = v := c7_5
        rw [e9]
     refine ⟨_, _, rfl, (by have := left_lt mem_x8 new_x8; omega), seen ++ [x8.2.2], rfl, hs, hn, hf, hf_, he_, hb11, (hall2), getV [undef, undef, undef, undef, (y5 4), .pointer (some ⟨n13, 0, none⟩), .int .i64 (x8.2.1), .int .i64 (((mget E (x8.1.1, x8.1.2)).getD 0)), .bool true, undef, undef, undef, undef, undef, undef, undef, .tuple #[.bool true, .agg #[.string (x8.1.1), .string (x8.1.2)], .int .i64 (x8.2.1)], .bool true, .tuple #[.agg #[.string (x8.1.1), .string (x8.1.2)], .int .i64 (x8.2.1)], .agg #[.string (x8.1.1), .string (x8.1.2)], .int .i64 (x8.2.1), .tuple #[.int .i64 (((mget E (x8.1.1, x8.1.2)).getD 0)), .bool true], .map (some e), .agg #[.string (x8.1.1), .string (x8.1.2)], .tuple #[.int .i64 (((mget E (x8.1.1, x8.1.2)).getD 0)), .bool true], .int .i64 (((mget E (x8.1.1, x8.1.2)).getD 0)), .bool true, .bool true, .bool false, .bool false, .int .i64 (x8.2.1), .int .i64 (((mget E (x8.1.1, x8.1.2)).getD 0)), .bool false, .bool false], rfl⟩
    ·rw [decide_eq_false c7_5]
     refine AWp.condT rfl rfl ?_
     refine AWp.seq (AWp.rowV (l := _) pok ?_)
     refine sq.c (v := .bool false) rfl rfl rfl rfl ?_
     refine sq.e ?_
     refine AWp.ret ?_
     refine ⟨rfl, [.bool false], rfl, .bool false, rfl, hs, hn, ?_⟩
     show Value.bool false = .bool (eqM F E)
     refine congrArg Value.bool ?_
     unfold eqM
     rw [decide_eq_true (show F.length = E.length by omega), Bool.true_and]
     refine (List.all_eq_false.2 ⟨x8, mem_x8, ?_⟩).symm
     intro e
     have e := of_decide_eq_true e
     rw [show mget E (x8.1.1, x8.1.2) = _ from e] at c7_5
     exact c7_5 rfl
   ·rw [c6_2]
    refine sq.c (v := .bool true) rfl rfl rfl rfl ?_
    refine sq.c (v := .bool true) rfl rfl rfl rfl ?_
    refine sq.s (wantF (g := 2) (d := 29) rfl rfl rfl) rfl ?_
    refine sq.s (wantF (g := 2) (d := 29) rfl rfl rfl) rfl ?_
    refine sq.s (wantF (g := 2) (d := 29) rfl rfl rfl) rfl ?_
    refine sq.c (v := .bool true) rfl rfl rfl rfl ?_
    refine sq.e ?_
    refine AWp.condT rfl rfl ?_
    refine AWp.seq (AWp.rowV (l := _) pok ?_)
    refine sq.c (v := .bool false) rfl rfl rfl rfl ?_
    refine sq.e ?_
    refine AWp.ret ?_
    refine ⟨rfl, [.bool false], rfl, .bool false, rfl, hs, hn, ?_⟩
    show Value.bool false = .bool (eqM F E)
    refine congrArg Value.bool ?_
    unfold eqM
    rw [decide_eq_true (show F.length = E.length by omega), Bool.true_and]
    refine (List.all_eq_false.2 ⟨x8, mem_x8, ?_⟩).symm
    intro e
    have e := of_decide_eq_true e
    rw [show mget E (x8.1.1, x8.1.2) = _ from e] at c6_2
    cases c6_2
 ·rw [decide_eq_false c1_4]
  refine AWp.condT rfl rfl ?_
  refine AWp.seq (AWp.rowV (l := _) pok ?_)
  refine sq.c (v := .bool false) rfl rfl rfl rfl ?_
  refine sq.e ?_
  refine AWp.ret ?_
  refine ⟨rfl, [.bool false], rfl, .bool false, rfl, hs, hn, ?_⟩
  show Value.bool false = .bool (eqM F E)
  refine congrArg Value.bool ?_
  unfold eqM
  rw [decide_eq_false (show ¬ F.length = E.length by omega)]; rfl
theorem f40_spec {h : Heap} {n : Nat} {a1 a2 a3 a4 : Option Addr} {m1 m3 p1 p2 p3 p4 : Nat} (xs ys : List Samp) (hx : IsRow encSmp h (.slice a2 xs.length p2) xs) (hy : IsRow encSmp h (.slice a4 ys.length p4) ys) (hlen : xs.length < 4000000000000000000) :
    Tells Tryd.prog 40 [.agg #[.slice a1 m1 p1, .slice a2 (xs.length) p2], .agg #[.slice a3 m3 p3, .slice a4 (ys.length) p4]] h n (.bool (decide (xs = ys))) := by
 refine Makes.tells (Makes.free fun hf => ?_)
 have hs : SubBut h h ([]) := .refl _ _
 have hn : n ≤ n := Nat.le_refl _
 have hf0 := hf
 refine Makes.of_bodyV (args := [.agg #[.slice a1 m1 p1, .slice a2 (xs.length) p2], .agg #[.slice a3 m3 p3, .slice a4 (ys.length) p4]]) (vs := [.agg #[.slice a1 m1 p1, .slice a2 (xs.length) p2], .agg #[.slice a3 m3 p3, .slice a4 (ys.length) p4], undef, undef, undef, undef, undef, undef, undef, undef]) Tryd.func40 rfl rfl ?_
 refine AWp.seq (AWp.rowV (l := _) pok ?_)
 refine sq.op rfl rfl (Does.box (cs := [.slice a1 m1 p1, .slice a2 (xs.length) p2]) hf rfl rfl) ?_
 rintro _ h2 n3 ⟨rfl, hb1⟩ s4 hn2 hf
 refine sq.w ?_
 have hs := hs.trans s4
 have hn := Nat.le_trans hn hn2
 refine sq.op rfl rfl (Does.box (cs := [.slice a3 m3 p3, .slice a4 (ys.length) p4]) hf rfl rfl) ?_
 rintro _ h6 n7 ⟨rfl, hb5⟩ s8 hn2 hf
 refine sq.w ?_
 have hb1 := s8.sub _ _ hb1
 have hs := hs.trans s8
 have hn := Nat.le_trans hn hn2
 refine sq.c (v := .bool false) rfl rfl rfl rfl ?_
 refine sq.e (AWp.seq (AWp.rowV (l := _) pok ?_))
 refine sq.c (v := .pointer (some ⟨n, 1, none⟩)) rfl rfl (by kernel_rfl) rfl ?_
 refine sq.c (v := .slice a2 (xs.length) p2) rfl rfl (ld1 (P := Tryd.prog) (t := 41) (p := 1) (v := .slice a2 (xs.length) p2) (by kernel_rfl) (by kernel_rfl) hb1 rfl) rfl ?_
 refine sq.c (v := .pointer (some ⟨n3, 1, none⟩)) rfl rfl (by kernel_rfl) rfl ?_
 refine sq.c (v := .slice a4 (ys.length) p4) rfl rfl (ld1 (P := Tryd.prog) (t := 41) (p := 1) (v := .slice a4 (ys.length) p4) (by kernel_rfl) (by kernel_rfl) hb5 rfl) rfl ?_
 refine sq.t (v := .bool (decide (xs = ys))) rfl (CallsF.fn rfl (by kernel_rfl) rfl rfl) (fun hf => eqS_spec _ _ (hx.keep hs) (hy.keep hs) hlen) hf rfl ?_
 intro n9 hn2 hf
 have hn := Nat.le_trans hn hn2
 refine sq.c (v := .bool (decide (xs = ys))) rfl rfl rfl rfl ?_
 refine sq.e ?_
 refine AWp.ret ?_
 refine ⟨rfl, [.bool (decide (xs = ys))], rfl, .bool (decide (xs = ys)), rfl, hs, hn, ?_⟩
 rfl
theorem eqG_spec {h : Heap} {n : Nat} {gx gy kgx kgy : Nat} (Gx Gy : SM) (Sx Sy : SP) (hx_ : h.get gx = some (.map (mapE plV ownV Gx) kgx)) (hy_ : h.get gy = some (.map (mapE plV ownV Gy) kgy)) (okGx : MOk Gx kgx) (okGy : MOk Gy kgy) (hSx : SMIs h Gx Sx) (hSy : SMIs h Gy Sy) (q1 : Gx.length ≤ 1000000000000) (q2 : Gy.length ≤ 1000000000000) (hlen : ∀ x ∈ Sx, x.2.1.2.length < 4000000000000000000) :
    Tells Tryd.prog 39 [.map (some gx), .map (some gy), .func (.func 40) #[] #[]] h n (.bool (eqSt Sx Sy)) := by
 refine Makes.tells (Makes.free fun hf => ?_)
 have hl1 := hSx.1
 have hl2 := hSy.1
 have hs : SubBut h h ([]) := .refl _ _
 have hn : n ≤ n := Nat.le_refl _
 have hf0 := hf
 refine Makes.of_bodyV (args := [.map (some gx), .map (some gy), .func (.func 40) #[] #[]]) (vs := [.map (some gx), .map (some gy), .func (.func 40) #[] #[], undef, undef, undef, undef, undef, undef, undef, undef, undef, undef, undef, undef, undef, undef, undef, undef, undef, undef, undef, undef, undef, undef, undef, undef, undef, undef, undef, undef, undef, undef, undef, undef, undef, undef, undef]) Tryd.func39 rfl rfl ?_
 refine AWp.seq (AWp.rowV (l := _) pok ?_)
 refine sq.c (v := .bool false) rfl rfl rfl rfl ?_
 refine sq.e (AWp.seq (AWp.seq (AWp.rowV (l := _) pok ?_)))
 refine sq.c (v := .map (some gx)) rfl rfl rfl rfl ?_
 refine sq.c (v := .int .i64 (((Gx.length : Nat) : Int))) rfl rfl (lenM (P := Tryd.prog) (K := plV) (V := ownV) (t := 67) Tryd.underlying67 hx_) rfl ?_
 refine sq.c (v := .map (some gy)) rfl rfl rfl rfl ?_
 refine sq.c (v := .int .i64 (((Gy.length : Nat) : Int))) rfl rfl (lenM (P := Tryd.prog) (K := plV) (V := ownV) (t := 67) Tryd.underlying67 hy_) rfl ?_
 refine sq.c (v := .bool (!decide ((((Gx.length : Nat) : Int)) = (((Gy.length : Nat) : Int))))) rfl rfl rfl rfl ?_
 refine sq.e ?_
 by_cases c1_4 : (((Gx.length : Nat) : Int)) = (((Gy.length : Nat) : Int))
 ·rw [decide_eq_true c1_4]
  refine AWp.condF rfl rfl ?_
  refine AWp.skip (AWp.seq (AWp.seq (AWp.rowV (l := _) pok ?_)))
  refine sq.c (v := .map (some gx)) rfl rfl rfl rfl ?_
  have e_gx_n : gx ≠ n := hf.ne hx_
  have e_gy_n : gy ≠ n := hf.ne hy_
  have z_n : h.get n = none := hf0 _ hn
  refine sq.op rfl rfl (Does.rangeM hf Tryd.underlying67 rfl hx_) ?_
  rintro _ h2 n3 ⟨rfl, hb1⟩ s4 hn2 hf
  refine sq.w ?_
  have hSx := hSx.keep (.of0 s4)
  have hSy := hSy.keep (.of0 s4)
  have hx_ := s4.sub _ _ hx_
  have hy_ := s4.sub _ _ hy_
  have hs := hs.trans s4
  have hn := Nat.le_trans hn hn2
  refine sq.e (AWp.block ?_)
  refine AWp.loopV (fun d vs h6 n7 => ∃ (seen : List Nat), d = (left Gx seen + 1) ∧ SubBut h h6 ([]) ∧ n ≤ n7 ∧ Free h6 n7 ∧ h6.get gx = some (.map (mapE plV ownV Gx) kgx) ∧ h6.get gy = some (.map (mapE plV ownV Gy) kgy) ∧ SMIs h6 Gx Sx ∧ SMIs h6 Gy Sy ∧ h6.get n = some (.miter (some gx) kgx seen kgx) ∧ (∀ x ∈ Gx, x.2.2 ∈ seen → ∀ s, (x.1, s, x.2.2) ∈ Sx → (mget Sy x.1).map (fun s => s.2) = some s.2) ∧ ∃ y5 : Nat → Value, vs = [.map (some gx), .map (some gy), .func (.func 40) #[] #[], undef, undef, undef, (y5 6), (y5 7), (y5 8), (y5 9), (y5 10), .map (some gx), .int .i64 (((Gx.length : Nat) : Int)), .map (some gy), .int .i64 (((Gy.length : Nat) : Int)), .bool false, .map (some gx), .pointer (some ⟨n, 0, none⟩), (y5 18), (y5 19), (y5 20), (y5 21), (y5 22), (y5 23), (y5 24), (y5 25), (y5 26), (y5 27), (y5 28), (y5 29), (y5 30), (y5 31), (y5 32), (y5 33), (y5 34), (y5 35), (y5 36), (y5 37)]) ((left Gx [] + 1)) ⟨[], rfl, hs, hn, hf, hx_, hy_, hSx, hSy, hb1, (fun x _ hm => by cases hm), getV [undef, undef, undef, undef, undef, undef, .bool false, undef, undef, undef, undef, undef, undef, undef, undef, undef, undef, undef, undef, undef, undef, undef, undef, undef, undef, undef, undef, undef, undef, undef, undef, undef, undef, undef, undef, undef, undef, undef], rfl⟩ ?_
  rintro d vs h6 n7 ⟨seen, rfl, hs, hn, hf, hx_, hy_, hSx, hSy, hb1, hall, y5, rfl⟩
  refine AWp.seq (AWp.rowV (l := _) pok ?_)
  refine sq.nx (K := plV) (V := ownV) hf rfl rfl rfl hb1 hx_ okGx.lt (Nat.le_refl _) ?_ ?_
  ·intro hend_c4_0
   refine sq.c (v := .bool false) rfl rfl rfl rfl ?_
   refine sq.e (AWp.seq ?_)
   refine AWp.condF rfl rfl ?_
   refine AWp.exit ?_
   refine AWp.seq (AWp.rowV (l := _) pok ?_)
   refine sq.c (v := .bool true) rfl rfl rfl rfl ?_
   refine sq.e ?_
   refine AWp.ret ?_
   refine ⟨rfl, [.bool true], rfl, .bool true, rfl, hs, hn, ?_⟩
   show Value.bool true = .bool (eqSt Sx Sy)
   refine congrArg Value.bool ?_
   unfold eqSt
   rw [decide_eq_true (show Sx.length = Sy.length by omega), Bool.true_and]
   refine (List.all_eq_true.2 fun x hx => decide_eq_true ?_).symm
   obtain ⟨g_, hg2_, _⟩ := hSx.mem' hx
   exact hall _ hg2_ (hend_c4_0 _ hg2_) x.2.1 hx
  ·intro x8 mem_x8 new_x8 h9 s10 hb11 hf
   have hn2 := Nat.le_refl n7
   obtain ⟨s_x8, ms_x8, fs_x8⟩ := hSx.mem mem_x8
   obtain ⟨a1_x8, c1_x8, e1_x8⟩ := (show FRow encLab _ x8.2.1.1 s_x8.1 from fs_x8.1).slice
   obtain ⟨a2_x8, c2_x8, e2_x8⟩ := (show FRow encSmp _ x8.2.1.2 s_x8.2 from fs_x8.2).slice
   have L_x8 : FRow encLab _ (.slice a1_x8 s_x8.1.length c1_x8) s_x8.1 := e1_x8 ▸ fs_x8.1
   have M_x8 : FRow encSmp _ (.slice a2_x8 s_x8.2.length c2_x8) s_x8.2 := e2_x8 ▸ fs_x8.2
   have ev_x8 : ownV x8.2.1 = .agg #[.slice a1_x8 s_x8.1.length c1_x8, .slice a2_x8 s_x8.2.length c2_x8] := by unfold ownV; rw [e1_x8, e2_x8]
   refine sq.w ?_
   rw [ev_x8]
   have hSx := hSx.keep (.own s10 hb1 rfl)
   have hSy := hSy.keep (.own s10 hb1 rfl)
   have M_x8 := M_x8.keep (.own s10 hb1 rfl)
   have hx_ := s10.get1 (e_gx_n) hx_
   have hy_ := s10.get1 (e_gy_n) hy_
   have hs := hs.fresh z_n s10
   refine sq.c (v := .bool true) rfl rfl rfl rfl ?_
   refine sq.e (AWp.seq ?_)
   refine AWp.condT rfl rfl ?_
   refine AWp.skip (AWp.block (AWp.seq (AWp.rowV (l := _) pok ?_)))
   refine sq.op rfl rfl (Does.entry (K := plV) (V := ownV) (y := x8) hf okGx rfl hb11 hx_ mem_x8) ?_
   rintro _ h12 n13 rfl s14 hn2 hf
   refine sq.w ?_
   rw [ev_x8]
   have hSx := hSx.keep (.of0 s14)
   have hSy := hSy.keep (.of0 s14)
   have M_x8 := M_x8.keep (.of0 s14)
   have hx_ := s14.sub _ _ hx_
   have hy_ := s14.sub _ _ hy_
   have hb11 := s14.sub _ _ hb11
   have hs := hs.trans s14
   have hn := Nat.le_trans hn hn2
   refine sq.c (v := .agg #[.string (x8.1.1), .string (x8.1.2)]) rfl rfl rfl rfl ?_
   refine sq.c (v := .agg #[.slice a1_x8 (s_x8.1.length) c1_x8, .slice a2_x8 (s_x8.2.length) c2_x8]) rfl rfl rfl rfl ?_
   have e_gx_n13 : gx ≠ n13 := hf.ne hx_
   have e_gy_n13 : gy ≠ n13 := hf.ne hy_
   have e_n_n13 : n ≠ n13 := hf.ne hb11
   have z_n13 : h.get n13 = none := hf0 _ hn
   refine sq.op rfl rfl (Does.alloc (cs := [.string (⟨#[]⟩), .string (⟨#[]⟩)]) hf (z := .agg #[.string (⟨#[]⟩), .string (⟨#[]⟩)]) (by kernel_rfl) rfl) ?_
   rintro _ h16 n17 ⟨rfl, hb15⟩ s18 hn2 hf
   refine sq.w ?_
   have hSx := hSx.keep (.of0 s18)
   have hSy := hSy.keep (.of0 s18)
   have M_x8 := M_x8.keep (.of0 s18)
   have hx_ := s18.sub _ _ hx_
   have hy_ := s18.sub _ _ hy_
   have hb11 := s18.sub _ _ hb11
   have hs := hs.trans s18
   have hn := Nat.le_trans hn hn2
   have e_gx_n17 : gx ≠ n17 := hf.ne hx_
   have e_gy_n17 : gy ≠ n17 := hf.ne hy_
   have e_n_n17 : n ≠ n17 := hf.ne hb11
   have e_n13_n17 : n13 ≠ n17 := hf.ne hb15
   have z_n17 : h.get n17 = none := hf0 _ hn
   refine sq.op rfl rfl (Does.alloc (cs := [.slice none (0) (0), .slice none (0) (0)]) hf (z := .agg #[.slice none (0) (0), .slice none (0) (0)]) (by kernel_rfl) rfl) ?_
   rintro _ h20 n21 ⟨rfl, hb19⟩ s22 hn2 hf
   refine sq.w ?_
   have hSx := hSx.keep (.of0 s22)
   have hSy := hSy.keep (.of0 s22)
   have M_x8 := M_x8.keep (.of0 s22)
   have hx_ := s22.sub _ _ hx_
   have hy_ := s22.sub _ _ hy_
   have hb11 := s22.sub _ _ hb11
   have hb15 := s22.sub _ _ hb15
   have hs := hs.trans s22
   have hn := Nat.le_trans hn hn2
   refine sq.op rfl rfl (Does.store (k := 2) (xs := [.string (x8.1.1), .string (x8.1.2)]) (cs' := [.string (x8.1.1), .string (x8.1.2)]) hf (by kernel_rfl) rfl rfl rfl hb15 rfl rfl (Nat.le_of_ble_eq_true rfl) rfl) ?_
   rintro _ h24 n25 ⟨rfl, hb23⟩ s26 hn2 hf
   refine sq.w0 ?_
   have hSx := hSx.keep (.own s26 hb15 rfl)
   have hSy := hSy.keep (.own s26 hb15 rfl)
   have M_x8 := M_x8.keep (.own s26 hb15 rfl)
   have hx_ := s26.get1 (e_gx_n13) hx_
   have hy_ := s26.get1 (e_gy_n13) hy_
   have hb11 := s26.get1 (e_n_n13) hb11
   have hb19 := s26.get1 (Ne.symm e_n13_n17) hb19
   have hs := hs.fresh z_n13 s26
   have hn := Nat.le_trans hn hn2
   refine sq.op rfl rfl (Does.store (k := 2) (xs := [.slice a1_x8 (s_x8.1.length) c1_x8, .slice a2_x8 (s_x8.2.length) c2_x8]) (cs' := [.slice a1_x8 (s_x8.1.length) c1_x8, .slice a2_x8 (s_x8.2.length) c2_x8]) hf (by kernel_rfl) rfl rfl rfl hb19 rfl rfl (Nat.le_of_ble_eq_true rfl) rfl) ?_
   rintro _ h28 n29 ⟨rfl, hb27⟩ s30 hn2 hf
   refine sq.w0 ?_
   have hSx := hSx.keep (.own s30 hb19 rfl)
   have hSy := hSy.keep (.own s30 hb19 rfl)
   have M_x8 := M_x8.keep (.own s30 hb19 rfl)
   have hx_ := s30.get1 (e_gx_n17) hx_
   have hy_ := s30.get1 (e_gy_n17) hy_
   have hb11 := s30.get1 (e_n_n17) hb11
   have hb23 := s30.get1 (e_n13_n17) hb23
   have hs := hs.fresh z_n17 s30
   have hn := Nat.le_trans hn hn2
   refine sq.e (AWp.seq (AWp.rowV (l := _) pok ?_))
   refine sq.c (v := .map (some gy)) rfl rfl rfl rfl ?_
   refine sq.c (v := .agg #[.string (x8.1.1), .string (x8.1.2)]) rfl rfl (ldA (P := Tryd.prog) (t := 73) (p := 0) (k := 2) (xs := [.string (x8.1.1), .string (x8.1.2)]) (by kernel_rfl) (by kernel_rfl) hb23 rfl (Nat.le_of_ble_eq_true rfl)) rfl ?_
   obtain ⟨a1_g6_2, c1_g6_2, a2_g6_2, c2_g6_2, e_g6_2, L_g6_2, M_g6_2⟩ := hSy.look (x8.1.1, x8.1.2)
   refine sq.c (v := .tuple #[.agg #[.slice a1_g6_2 ((mget Sy (x8.1.1, x8.1.2)).getD ([], [])).1.length c1_g6_2, .slice a2_g6_2 ((mget Sy (x8.1.1, x8.1.2)).getD ([], [])).2.length c2_g6_2], .bool ((mget Gy (x8.1.1, x8.1.2)).isSome)]) rfl rfl ((lkOk (P := Tryd.prog) (K := plV) (V := ownV) (kt := 73) (el := 86) (t := 67) (k := (x8.1.1, x8.1.2)) (d := dOV) Tryd.underlying67 keyPl (by kernel_rfl) rfl hy_).trans (congrArg (fun z => some (Value.tuple #[ownV z, .bool (mget Gy (x8.1.1, x8.1.2)).isSome])) e_g6_2)) rfl ?_
   refine sq.c (v := .tuple #[.agg #[.slice a1_g6_2 ((mget Sy (x8.1.1, x8.1.2)).getD ([], [])).1.length c1_g6_2, .slice a2_g6_2 ((mget Sy (x8.1.1, x8.1.2)).getD ([], [])).2.length c2_g6_2], .bool ((mget Gy (x8.1.1, x8.1.2)).isSome)]) rfl rfl rfl rfl ?_
   refine sq.c (v := .agg #[.slice a1_g6_2 ((mget Sy (x8.1.1, x8.1.2)).getD ([], [])).1.length c1_g6_2, .slice a2_g6_2 ((mget Sy (x8.1.1, x8.1.2)).getD ([], [])).2.length c2_g6_2]) rfl rfl rfl rfl ?_
   refine sq.c (v := .bool ((mget Gy (x8.1.1, x8.1.2)).isSome)) rfl rfl rfl rfl ?_
   have e_gx_n29 : gx ≠ n29 := hf.ne hx_
   have e_gy_n29 : gy ≠ n29 := hf.ne hy_
   have e_n_n29 : n ≠ n29 := hf.ne hb11
   have e_n17_n29 : n17 ≠ n29 := hf.ne hb27
   have z_n29 : h.get n29 = none := hf0 _ hn
   refine sq.op rfl rfl (Does.alloc (cs := [.slice none (0) (0), .slice none (0) (0)]) hf (z := .agg #[.slice none (0) (0), .slice none (0) (0)]) (by kernel_rfl) rfl) ?_
   rintro _ h32 n33 ⟨rfl, hb31⟩ s34 hn2 hf
   refine sq.w ?_
   have hSx := hSx.keep (.of0 s34)
   have hSy := hSy.keep (.of0 s34)
   have M_x8 := M_x8.keep (.of0 s34)
   have M_g6_2 := M_g6_2.keep (.of0 s34)
   have hx_ := s34.sub _ _ hx_
   have hy_ := s34.sub _ _ hy_
   have hb11 := s34.sub _ _ hb11
   have hb27 := s34.sub _ _ hb27
   have hs := hs.trans s34
   have hn := Nat.le_trans hn hn2
   refine sq.op rfl rfl (Does.store (k := 2) (xs := [.slice a1_g6_2 ((mget Sy (x8.1.1, x8.1.2)).getD ([], [])).1.length c1_g6_2, .slice a2_g6_2 ((mget Sy (x8.1.1, x8.1.2)).getD ([], [])).2.length c2_g6_2]) (cs' := [.slice a1_g6_2 ((mget Sy (x8.1.1, x8.1.2)).getD ([], [])).1.length c1_g6_2, .slice a2_g6_2 ((mget Sy (x8.1.1, x8.1.2)).getD ([], [])).2.length c2_g6_2]) hf (by kernel_rfl) rfl rfl rfl hb31 rfl rfl (Nat.le_of_ble_eq_true rfl) rfl) ?_
   rintro _ h36 n37 ⟨rfl, hb35⟩ s38 hn2 hf
   refine sq.w0 ?_
   have hSx := hSx.keep (.own s38 hb31 rfl)
   have hSy := hSy.keep (.own s38 hb31 rfl)
   have M_x8 := M_x8.keep (.own s38 hb31 rfl)
   have M_g6_2 := M_g6_2.keep (.own s38 hb31 rfl)
   have hx_ := s38.get1 (e_gx_n29) hx_
   have hy_ := s38.get1 (e_gy_n29) hy_
   have hb11 := s38.get1 (e_n_n29) hb11
   have hb27 := s38.get1 (e_n17_n29) hb27
   have hs := hs.fresh z_n29 s38
   have hn := Nat.le_trans hn hn2
   refine sq.c (v := .bool ((mget Gy (x8.1.1, x8.1.2)).isSome)) rfl rfl rfl rfl ?_
   refine sq.e (AWp.seq (AWp.rowV (l := _) pok ?_))
   refine sq.c (v := .bool ((mget Gy (x8.1.1, x8.1.2)).isSome)) rfl rfl rfl rfl ?_
   rcases Bool.eq_false_or_eq_true ((mget Gy (x8.1.1, x8.1.2)).isSome) with c6_2 | c6_2
   ·rw [c6_2]
    refine sq.c (v := .bool false) rfl rfl rfl rfl ?_
    refine sq.c (v := .bool false) rfl rfl rfl rfl ?_
    refine sq.c (v := .func (.func 40) #[] #[]) (wantT (g := 2) (d := 31) rfl rfl rfl) rfl rfl rfl ?_
    refine sq.c (v := .agg #[.slice a1_x8 (s_x8.1.length) c1_x8, .slice a2_x8 (s_x8.2.length) c2_x8]) (wantT (g := 2) (d := 31) rfl rfl rfl) rfl (ldA (P := Tryd.prog) (t := 86) (p := 0) (k := 2) (xs := [.slice a1_x8 (s_x8.1.length) c1_x8, .slice a2_x8 (s_x8.2.length) c2_x8]) (by kernel_rfl) (by kernel_rfl) hb27 rfl (Nat.le_of_ble_eq_true rfl)) rfl ?_
    refine sq.c (v := .agg #[.slice a1_g6_2 ((mget Sy (x8.1.1, x8.1.2)).getD ([], [])).1.length c1_g6_2, .slice a2_g6_2 ((mget Sy (x8.1.1, x8.1.2)).getD ([], [])).2.length c2_g6_2]) (wantT (g := 2) (d := 31) rfl rfl rfl) rfl (ldA (P := Tryd.prog) (t := 86) (p := 0) (k := 2) (xs := [.slice a1_g6_2 ((mget Sy (x8.1.1, x8.1.2)).getD ([], [])).1.length c1_g6_2, .slice a2_g6_2 ((mget Sy (x8.1.1, x8.1.2)).getD ([], [])).2.length c2_g6_2]) (by kernel_rfl) (by kernel_rfl) hb35 rfl (Nat.le_of_ble_eq_true rfl)) rfl ?_
    refine sq.t (v := .bool (decide (s_x8.2 = ((mget Sy (x8.1.1, x8.1.2)).getD ([], [])).2))) (wantT (g := 2) (d := 31) rfl rfl rfl) (CallsF.val rfl rfl (by kernel_rfl) rfl rfl) (fun hf => f40_spec _ _ M_x8.is M_g6_2.is (hlen _ ms_x8)) hf rfl ?_
    intro n39 hn2 hf
    have hn := Nat.le_trans hn hn2
    rcases Bool.eq_false_or_eq_true (decide (s_x8.2 = ((mget Sy (x8.1.1, x8.1.2)).getD ([], [])).2)) with c7_6 | c7_6
    ·rw [c7_6]
     refine sq.c (v := .bool false) (wantT (g := 2) (d := 31) rfl rfl rfl) rfl rfl rfl ?_
     refine sq.c (v := .bool false) rfl rfl rfl rfl ?_
     refine sq.e ?_
     refine AWp.condF rfl rfl ?_
     refine AWp.skip ?_
     have hall2 : ∀ x ∈ Gx, x.2.2 ∈ seen ++ [x8.2.2] → ∀ s, (x.1, s, x.2.2) ∈ Sx → (mget Sy x.1).map (fun s => s.2) = some s.2 := by
      intro y hy hm s hs9
      rcases List.mem_append.1 hm with hm | hm
      ·exact hall y hy hm s hs9
      ·have ey := MOk.one okGx hy mem_x8 (List.mem_singleton.1 hm)
       rw [ey] at hs9 ⊢
       have e8 := MOk.one (hSx.ok okGx) hs9 ms_x8 rfl
       have e9 : s = s_x8 := congrArg (fun z => z.2.1) e8
       have c9 := of_decide_eq_true c7_6
       rw [hSy.some] at c6_2
       cases em : mget Sy (x8.1.1, x8.1.2) with
       | none => rw [em] at c6_2; cases c6_2
       | some v =>
        rw [em] at c9
        show some v.2 = some s.2
        rw [e9]
        exact congrArg some c9.symm
     refine ⟨_, _, rfl, (by have := left_lt mem_x8 new_x8; omega), seen ++ [x8.2.2], rfl, hs, hn, hf, hx_, hy_, hSx, hSy, hb11, (hall2), getV [undef, undef, undef, undef, undef, undef, (y5 6), .pointer (some ⟨n13, 0, none⟩), .pointer (some ⟨n17, 0, none⟩), .pointer (some ⟨n29, 0, none⟩), .bool true, undef, undef, undef, undef, undef, undef, undef, .tuple #[.bool true, .agg #[.string (x8.1.1), .string (x8.1.2)], .agg #[.slice a1_x8 (s_x8.1.length) c1_x8, .slice a2_x8 (s_x8.2.length) c2_x8]], .bool true, .tuple #[.agg #[.string (x8.1.1), .string (x8.1.2)], .agg #[.slice a1_x8 (s_x8.1.length) c1_x8, .slice a2_x8 (s_x8.2.length) c2_x8]], .agg #[.string (x8.1.1), .string (x8.1.2)], .agg #[.slice a1_x8 (s_x8.1.length) c1_x8, .slice a2_x8 (s_x8.2.length) c2_x8], .tuple #[.agg #[.slice a1_g6_2 ((mget Sy (x8.1.1, x8.1.2)).getD ([], [])).1.length c1_g6_2, .slice a2_g6_2 ((mget Sy (x8.1.1, x8.1.2)).getD ([], [])).2.length c2_g6_2], .bool true], .map (some gy), .agg #[.string (x8.1.1), .string (x8.1.2)], .tuple #[.agg #[.slice a1_g6_2 ((mget Sy (x8.1.1, x8.1.2)).getD ([], [])).1.length c1_g6_2, .slice a2_g6_2 ((mget Sy (x8.1.1, x8.1.2)).getD ([], [])).2.length c2_g6_2], .bool true], .agg #[.slice a1_g6_2 ((mget Sy (x8.1.1, x8.1.2)).getD ([], [])).1.length c1_g6_2, .slice a2_g6_2 ((mget Sy (x8.1.1, x8.1.2)).getD ([], [])).2.length c2_g6_2], .bool true, .bool true, .bool false, .bool false, .func (.func 40) #[] #[], .agg #[.slice a1_x8 (s_x8.1.length) c1_x8, .slice a2_x8 (s_x8.2.length) c2_x8], .agg #[.slice a1_g6_2 ((mget Sy (x8.1.1, x8.1.2)).getD ([], [])).1.length c1_g6_2, .slice a2_g6_2 ((mget Sy (x8.1.1, x8.1.2)).getD ([], [])).2.length c2_g6_2], .bool true, .bool false, .bool false], rfl⟩
    ·rw [c7_6]
     refine sq.c (v := .bool true) rfl rfl rfl rfl ?_
     refine sq.c (v := .bool true) rfl rfl rfl rfl ?_
     refine sq.e ?_
     refine AWp.condT rfl rfl ?_
     refine AWp.seq (AWp.rowV (l := _) pok ?_)
     refine sq.c (v := .bool false) rfl rfl rfl rfl ?_
     refine sq.e ?_
     refine AWp.ret ?_
     refine ⟨rfl, [.bool false], rfl, .bool false, rfl, hs, hn, ?_⟩
     show Value.bool false = .bool (eqSt Sx Sy)
     refine congrArg Value.bool ?_
     unfold eqSt
     rw [decide_eq_true (show Sx.length = Sy.length by omega), Bool.true_and]
     refine (List.all_eq_false.2 ⟨_, ms_x8, ?_⟩).symm
     intro e
     have e := of_decide_eq_true e
     have c9 := of_decide_eq_false c7_6
     cases em : mget Sy (x8.1.1, x8.1.2) with
     | none => rw [show mget Sy x8.1 = none from em] at e; cases e
     | some v =>
      rw [em] at c9
      rw [show mget Sy x8.1 = some v from em] at e
      exact c9 (Option.some.inj e).symm
   ·rw [c6_2]
    refine sq.c (v := .bool true) rfl rfl rfl rfl ?_
    refine sq.c (v := .bool true) rfl rfl rfl rfl ?_
    refine sq.s (wantF (g := 2) (d := 31) rfl rfl rfl) rfl ?_
    refine sq.s (wantF (g := 2) (d := 31) rfl rfl rfl) rfl ?_
    refine sq.s (wantF (g := 2) (d := 31) rfl rfl rfl) rfl ?_
    refine sq.s (wantF (g := 2) (d := 31) rfl rfl rfl) rfl ?_
    refine sq.s (wantF (g := 2) (d := 31) rfl rfl rfl) rfl ?_
    refine sq.c (v := .bool true) rfl rfl rfl rfl ?_
    refine sq.e ?_
    refine AWp.condT rfl rfl ?_
    refine AWp.seq (AWp.rowV (l := _) pok ?_)
    refine sq.c (v := .bool false) rfl rfl rfl rfl ?_
    refine sq.e ?_
    refine AWp.ret ?_
    refine ⟨rfl, [.bool false], rfl, .bool false, rfl, hs, hn, ?_⟩
    show Value.bool false = .bool (eqSt Sx Sy)
    refine congrArg Value.bool ?_
    unfold eqSt
    rw [decide_eq_true (show Sx.length = Sy.length by omega), Bool.true_and]
    obtain ⟨s_, ms_, _⟩ := hSx.mem mem_x8
    refine (List.all_eq_false.2 ⟨_, ms_, ?_⟩).symm
    intro e
    have e := of_decide_eq_true e
    rw [hSy.some] at c6_2
    rw [show mget Sy (x8.1.1, x8.1.2) = none by cases em : mget Sy (x8.1.1, x8.1.2) with | none => rfl | some v => rw [em] at c6_2; cases c6_2] at e
    cases e
 ·rw [decide_eq_false c1_4]
  refine AWp.condT rfl rfl ?_
  refine AWp.seq (AWp.rowV (l := _) pok ?_)
  refine sq.c (v := .bool false) rfl rfl rfl rfl ?_
  refine sq.e ?_
  refine AWp.ret ?_
  refine ⟨rfl, [.bool false], rfl, .bool false, rfl, hs, hn, ?_⟩
  show Value.bool false = .bool (eqSt Sx Sy)
  refine congrArg Value.bool ?_
  unfold eqSt
  rw [decide_eq_false (show ¬ Sx.length = Sy.length by omega)]; rfl
theorem same_spec {h : Heap} {n : Nat} {bu fu gu kfu kgu : Nat} {cu : CI} (Fu : FM) (Gu : SM) (Su : SP) (hb_u : h.get bu = some (.cells [.map (some fu), .map (some gu)] true cu)) (hf_u : h.get fu = some (.map (mapE plV intV Fu) kfu)) (hg_u : h.get gu = some (.map (mapE plV ownV Gu) kgu)) (okFu : MOk Fu kfu) (okGu : MOk Gu kgu) (hSu : SMIs h Gu Su) (ne_fu_gu : fu ≠ gu) {bv fv gv kfv kgv : Nat} {cv : CI} (Fv : FM) (Gv : SM) (Sv : SP) (hb_v : h.get bv = some (.cells [.map (some fv), .map (some gv)] true cv)) (hf_v : h.get fv = some (.map (mapE plV intV Fv) kfv)) (hg_v : h.get gv = some (.map (mapE plV ownV Gv) kgv)) (okFv : MOk Fv kfv) (okGv : MOk Gv kgv) (hSv : SMIs h Gv Sv) (ne_fv_gv : fv ≠ gv) (q1 : Fu.length ≤ 1000000000000) (q2 : Fv.length ≤ 1000000000000) (q3 : Gu.length ≤ 1000000000000) (q4 : Gv.length ≤ 1000000000000) (hlen : ∀ x ∈ Su, x.2.1.2.length < 4000000000000000000) :
    Tells Tryd.prog 22 [.pointer (some ⟨bu, 0, none⟩), .pointer (some ⟨bv, 0, none⟩)] h n (.bool (eqM Fu Fv && eqSt Su Sv)) := by
 refine Makes.tells (Makes.free fun hf => ?_)
 have ne_bu_fu : bu ≠ fu := by intro e; subst e; rw [hb_u] at hf_u; cases hf_u
 have ne_bu_gu : bu ≠ gu := by intro e; subst e; rw [hb_u] at hg_u; cases hg_u
 have ne_bv_fv : bv ≠ fv := by intro e; subst e; rw [hb_v] at hf_v; cases hf_v
 have ne_bv_gv : bv ≠ gv := by intro e; subst e; rw [hb_v] at hg_v; cases hg_v
 have hs : SubBut h h ([]) := .refl _ _
 have hn : n ≤ n := Nat.le_refl _
 have hf0 := hf
 refine Makes.of_bodyV (args := [.pointer (some ⟨bu, 0, none⟩), .pointer (some ⟨bv, 0, none⟩)]) (vs := [.pointer (some ⟨bu, 0, none⟩), .pointer (some ⟨bv, 0, none⟩), undef, undef, undef, undef, undef, undef, undef, undef, undef, undef, undef, undef, undef, undef, undef, undef, undef, undef, undef, undef, undef, undef, undef, undef, undef, undef, undef, undef, undef, undef, undef, undef, undef, undef, undef]) Tryd.func22 rfl rfl ?_
 refine AWp.seq (AWp.rowV (l := _) pok ?_)
 refine sq.c (v := .bool false) rfl rfl rfl rfl ?_
 refine sq.e (AWp.seq (AWp.seq (AWp.rowV (l := _) pok ?_)))
 refine sq.c (v := .pointer (some ⟨bu, 0, none⟩)) rfl rfl rfl rfl ?_
 refine sq.c (v := .bool false) rfl rfl (by kernel_rfl) rfl ?_
 refine sq.c (v := .bool false) rfl rfl rfl rfl ?_
 refine sq.c (v := .pointer (some ⟨bv, 0, none⟩)) (wantT (g := 2) (d := 7) rfl rfl rfl) rfl rfl rfl ?_
 refine sq.c (v := .bool false) (wantT (g := 2) (d := 7) rfl rfl rfl) rfl (by kernel_rfl) rfl ?_
 refine sq.c (v := .bool false) rfl rfl rfl rfl ?_
 refine sq.e ?_
 refine AWp.condF rfl rfl ?_
 refine AWp.skip (AWp.seq ?_)
 refine AWp.anyK pok [0, 1, 2, 3, 4, 5, 6, 7, 8, 9, 10, 11, 12, 13, 14, 15, 16, 17, 18, 19, 20] (by kernel_rfl) (by kernel_rfl) rfl (fun x fr fr' h n hd _ q => ⟨hd ▸ q.1, q.2⟩) ?_
 refine dk.c (v := .pointer (some ⟨bu, 0, none⟩)) rfl (by kernel_rfl) rfl rfl rfl rfl ?_
 refine dk.c (v := .pointer (some ⟨bu, 0, none⟩)) rfl (by kernel_rfl) rfl rfl rfl rfl ?_
 refine dk.c (v := .pointer (some ⟨bu, 0, none⟩)) rfl (by kernel_rfl) rfl rfl (by kernel_rfl) rfl ?_
 refine dk.gB (v := .map (some fu)) bu rfl (by kernel_rfl) rfl rfl (fun _ q_ => (ld1 (P := Tryd.prog) (t := 66) (p := 0) (v := .map (some fu)) (by kernel_rfl) (by kernel_rfl) (q_ _ hb_u) rfl)) rfl ?_
 refine dk.c (v := .pointer (some ⟨bv, 0, none⟩)) rfl (by kernel_rfl) rfl rfl rfl rfl ?_
 refine dk.c (v := .pointer (some ⟨bv, 0, none⟩)) rfl (by kernel_rfl) rfl rfl rfl rfl ?_
 refine dk.c (v := .pointer (some ⟨bv, 0, none⟩)) rfl (by kernel_rfl) rfl rfl (by kernel_rfl) rfl ?_
 refine dk.gB (v := .map (some fv)) bv rfl (by kernel_rfl) rfl rfl (fun _ q_ => (ld1 (P := Tryd.prog) (t := 66) (p := 0) (v := .map (some fv)) (by kernel_rfl) (by kernel_rfl) (q_ _ hb_v) rfl)) rfl ?_
 refine dk.t (v := .bool (eqM Fu Fv)) rfl (by kernel_rfl) rfl (CallsF.fn rfl (by kernel_rfl) rfl rfl) (fun hf => eqF_spec _ _ hf_u hf_v okFu okFv q1 q2) hf rfl ?_
 intro n1 hn2 hf
 have hn := Nat.le_trans hn hn2
 refine dk.c (v := .bool (eqM Fu Fv)) rfl (by kernel_rfl) rfl rfl rfl rfl ?_
 rcases Bool.eq_false_or_eq_true (eqM Fu Fv) with cM | cM
 ·rw [cM]
  refine dk.c (v := .pointer (some ⟨bu, 0, none⟩)) rfl (by kernel_rfl) (wantT (g := 9) (d := 26) rfl rfl rfl) rfl rfl rfl ?_
  refine dk.c (v := .pointer (some ⟨bu, 0, none⟩)) rfl (by kernel_rfl) (wantT (g := 9) (d := 26) rfl rfl rfl) rfl rfl rfl ?_
  refine dk.c (v := .pointer (some ⟨bu, 1, none⟩)) rfl (by kernel_rfl) (wantT (g := 9) (d := 26) rfl rfl rfl) rfl (by kernel_rfl) rfl ?_
  refine dk.gB (v := .map (some gu)) bu rfl (by kernel_rfl) (wantT (g := 9) (d := 26) rfl rfl rfl) rfl (fun _ q_ => (ld1 (P := Tryd.prog) (t := 67) (p := 1) (v := .map (some gu)) (by kernel_rfl) (by kernel_rfl) (q_ _ hb_u) rfl)) rfl ?_
  refine dk.c (v := .pointer (some ⟨bv, 0, none⟩)) rfl (by kernel_rfl) (wantT (g := 9) (d := 26) rfl rfl rfl) rfl rfl rfl ?_
  refine dk.c (v := .pointer (some ⟨bv, 0, none⟩)) rfl (by kernel_rfl) (wantT (g := 9) (d := 26) rfl rfl rfl) rfl rfl rfl ?_
  refine dk.c (v := .pointer (some ⟨bv, 1, none⟩)) rfl (by kernel_rfl) (wantT (g := 9) (d := 26) rfl rfl rfl) rfl (by kernel_rfl) rfl ?_
  refine dk.gB (v := .map (some gv)) bv rfl (by kernel_rfl) (wantT (g := 9) (d := 26) rfl rfl rfl) rfl (fun _ q_ => (ld1 (P := Tryd.prog) (t := 67) (p := 1) (v := .map (some gv)) (by kernel_rfl) (by kernel_rfl) (q_ _ hb_v) rfl)) rfl ?_
  refine dk.t (v := .bool (eqSt Su Sv)) rfl (by kernel_rfl) (wantT (g := 9) (d := 26) rfl rfl rfl) (CallsF.fn rfl (by kernel_rfl) rfl rfl) (fun hf => eqG_spec _ _ _ _ hg_u hg_v okGu okGv hSu hSv q3 q4 hlen) hf rfl ?_
  intro n2 hn2 hf
  have hn := Nat.le_trans hn hn2
  refine dk.c (v := .bool (eqSt Su Sv)) rfl (by kernel_rfl) rfl rfl rfl rfl ?_
  refine dk.c (v := .bool (eqSt Su Sv)) rfl (by kernel_rfl) rfl rfl rfl rfl ?_
  refine dk.e ?_
  refine AWp.ret ?_
  refine ⟨rfl, [.bool (eqSt Su Sv)], rfl, .bool (eqSt Su Sv), rfl, hs, hn, ?_⟩
  rfl
 ·rw [cM]
  refine dk.s rfl (wantF (g := 9) (d := 26) rfl rfl rfl) rfl ?_
  refine dk.s rfl (wantF (g := 9) (d := 26) rfl rfl rfl) rfl ?_
  refine dk.s rfl (wantF (g := 9) (d := 26) rfl rfl rfl) rfl ?_
  refine dk.s rfl (wantF (g := 9) (d := 26) rfl rfl rfl) rfl ?_
  refine dk.s rfl (wantF (g := 9) (d := 26) rfl rfl rfl) rfl ?_
  refine dk.s rfl (wantF (g := 9) (d := 26) rfl rfl rfl) rfl ?_
  refine dk.s rfl (wantF (g := 9) (d := 26) rfl rfl rfl) rfl ?_
  refine dk.s rfl (wantF (g := 9) (d := 26) rfl rfl rfl) rfl ?_
  refine dk.s rfl (wantF (g := 9) (d := 26) rfl rfl rfl) rfl ?_
  refine dk.c (v := .bool false) rfl (by kernel_rfl) rfl rfl rfl rfl ?_
  refine dk.c (v := .bool false) rfl (by kernel_rfl) rfl rfl rfl rfl ?_
  refine dk.e ?_
  refine AWp.ret ?_
  refine ⟨rfl, [.bool false], rfl, .bool false, rfl, hs, hn, ?_⟩
  rfl
end Go.Proofs.YtkpaklofdkjinaaDoor
namespace Go.Abs
open Go
theorem SubBut.get2 {h h' : Heap} {x y b : Nat} {o : AObj} (s : SubBut h h' [x, y]) (hx : b ≠ x) (hy : b ≠ y) (e : h.get b = some o) : h'.get b = some o := s b o (by simp [hx, hy]) e
theorem SubBut.fresh2 {h h1 h2 : Heap} {S : List Nat} {x y : Nat} (a : SubBut h h1 S) (hx : h.get x = none) (hy : h.get y = none) (c : SubBut h1 h2 [x, y]) : SubBut h h2 S := fun b o hb e => by
  refine c b o ?_ (a b o hb e)
  intro hm
  simp only [List.mem_cons, List.not_mem_nil, or_false] at hm
  rcases hm with rfl | rfl
  · rw [hx] at e; cases e
  · rw [hy] at e; cases e
end Go.Abs
namespace Go.Proofs.YtkpaklofdkjinaaDoor
open Go Go.Abs Go.RowKit Go.Shelf
set_option maxRecDepth 100000
set_option maxHeartbeats 8000000
structure PSt where
  F : FM
  kf : Nat
  S : SP
  kg : Nat
def st0 : PSt := ⟨[], 0, [], 0⟩
def TkR.st (R : TkR) : PSt := ⟨R.F, R.kf, R.S, R.kg⟩
def takeP (P : PSt) (b : Bat) : TkR := takeR P.F P.kf P.S P.kg b
def runP (P : PSt) (bs : List Bat) : PSt := bs.foldl (fun P b => (takeP P b).st) P
theorem runP_snoc (P : PSt) (bs : List Bat) (b : Bat) : runP P (bs ++ [b]) = (takeP (runP P bs) b).st := by unfold runP; rw [List.foldl_append]; rfl
def okFence (x : Pl × Int × Nat) : Prop := nameB x.1.1 = true ∧ nameB x.1.2 = true ∧ 1 ≤ x.2.1 ∧ x.2.1 ≤ 1099511627776
structure PInv (i : Nat) (P : PSt) : Prop where
  inv : InvS (7200000 * i) P.S
  lenF : P.F.length ≤ i
  lenS : P.S.length ≤ 1200 * i
  fen : ∀ x ∈ P.F, okFence x
  okF : MOk P.F P.kf
  okS : MOk P.S P.kg
theorem PInv.zero : PInv 0 st0 := ⟨(fun x hx => by cases hx), Nat.le_refl _, Nat.le_refl _, (fun x hx => by cases hx), .nil, .nil⟩
theorem mset_len {κ ν : Type} [DecidableEq κ] (L : List (κ × ν × Nat)) (ck : Nat) (k : κ) (v : ν) : (mset L ck k v).length ≤ L.length + 1 := by
  unfold mset
  split
  · rw [List.length_modify]; omega
  · rw [List.length_append]; exact Nat.le_refl _
structure TInv (N m : Nat) (R : TSt) : Prop where
  inv : InvS N R.S
  len : R.S.length ≤ m
  ok : MOk R.S R.ck
theorem foldT_inv {ten : ByteArray} (hn : nameB ten = true) : ∀ (ss : List Ser) (R : TSt) (N m : Nat), (∀ s ∈ ss, mayB s.1 = true ∧ Small s) → TInv N m R → TInv (N + 6000 * ss.length) (m + ss.length) (foldT ten R ss) := by
  intro ss
  induction ss with
  | nil => intro R N m _ q; exact q
  | cons s ss ih =>
    intro R N m hs q
    have h1 := hs s (List.mem_cons_self ..)
    have := ih (stepT ten R s) (N + 6000) (m + 1) (fun x hx => hs x (List.mem_cons_of_mem _ hx)) (by
      refine ⟨q.inv.put hn h1.1 h1.2, ?_, ?_⟩
      · show (pS R.S R.ck ten s).length ≤ _
        unfold pS
        split
        · have := q.len; omega
        · have := mset_len R.S R.ck (ten, keyA s.1) (s.1, (pPut R.S ten s).1); have := q.len; omega
      · show MOk (pS R.S R.ck ten s) (pCk R.S R.ck ten s)
        unfold pS pCk
        split
        · exact q.ok
        · exact q.ok.set _ _)
    rw [List.length_cons, show N + 6000 * (ss.length + 1) = N + 6000 + 6000 * ss.length by omega, show m + (ss.length + 1) = m + 1 + ss.length by omega]
    exact this
theorem InvS.up {N M : Nat} {S : SP} (q : InvS N S) (h : N ≤ M) : InvS M S := fun x hx => by
  obtain ⟨a, b, c⟩ := q x hx
  exact ⟨a, by omega, c⟩
theorem haB_parts {b : Bat} (h : mayBat b = true) (hc : ¬ b.clu = ⟨#[]⟩) : nameB b.clu = true ∧ 1 ≤ b.epo ∧ b.epo ≤ 1099511627776 := by
  unfold mayBat haB at h
  simp only [Bool.and_eq_true, Bool.or_eq_true, decide_eq_true_eq] at h
  rcases h.1.2 with q | q
  · exact ⟨q.1, q.2.1, q.2.2⟩
  · exact absurd q.1 hc
theorem PInv.step {i : Nat} {P : PSt} (q : PInv i P) {b : Bat} (hs : Smalls b.ser) : PInv (i + 1) (takeP P b).st := by
  have up : PInv (i + 1) P := ⟨q.inv.up (by omega), by have := q.lenF; omega, by have := q.lenS; omega, q.fen, q.okF, q.okS⟩
  unfold takeP takeR
  split
  · exact up
  · rename_i hm
    have hm : mayBat b = true := by simpa using hm
    have hp := mayBat_parts hm
    have ht := foldT_inv hp.1 b.ser ⟨P.S, P.kg, [], 0⟩ (7200000 * i) (1200 * i) (fun s hs2 => ⟨(hp.2 s hs2).1, hs.2 s hs2⟩) ⟨q.inv, q.lenS, q.okS⟩
    have hl := hs.1
    split
    · exact ⟨ht.inv.up (by omega), by have := q.lenF; show P.F.length ≤ _; omega, by have := ht.len; show (foldT _ _ _).S.length ≤ _; omega, q.fen, q.okF, ht.ok⟩
    · rename_i hc
      split
      · exact up
      · refine ⟨ht.inv.up (by omega), ?_, by have := ht.len; show (foldT _ _ _).S.length ≤ _; omega, ?_, q.okF.set _ _, ht.ok⟩
        · show (mset _ _ _ _).length ≤ _
          have := mset_len P.F P.kf (b.ten, b.clu) b.epo; have := q.lenF; omega
        · intro x hx
          rcases mset_mem hx with hx | ⟨e1, e2⟩
          · exact q.fen x hx
          · obtain ⟨a1, a2, a3⟩ := haB_parts hm hc
            exact ⟨by rw [e1]; exact hp.1, by rw [e1]; exact a1, by rw [e2]; exact a2, by rw [e2]; exact a3⟩
theorem SersIs.one {h : Heap} {r : RSer} {s : Ser} (q : SerIs h r s) : SersIs h [r] [s] := by
  refine ⟨rfl, fun i r' s' a b => ?_⟩
  cases i with
  | zero => simp at a b; subst a; subst b; exact q
  | succ i => simp at a
/-! The examples. -/
def bT : ByteArray := ⟨#[116]⟩
def bX : ByteArray := ⟨#[120]⟩
def labAB : List Lab := [(⟨#[97]⟩, ⟨#[98]⟩)]
def aB1 : Bat := ⟨bT, bX, 2, [(labAB, [(10, 1)])]⟩
def aB2 : Bat := ⟨bT, bX, 1, [(labAB, [(30, 1)])]⟩
def aB3 : Bat := ⟨bT, bX, 2, [(labAB, [(10, 1), (10, 2), (5, 1), (20, 1)])]⟩
def aB4 : Bat := ⟨bT, ⟨#[]⟩, 0, [(labAB, [(20, 1)])]⟩
def aS1 : SP := [((bT, keyA labAB), (labAB, [(10, 1)]), 0)]
def aS2 : SP := [((bT, keyA labAB), (labAB, [(10, 1), (20, 1)]), 0)]
def aF : FM := [((bT, bX), 2, 0)]
def aR1 : TkR := ⟨0, aF, 1, aS1, 1, aB1, 0, true⟩
def aR2 : TkR := ⟨61, aF, 1, aS1, 1, ⟨⟨#[]⟩, ⟨#[]⟩, 0, []⟩, 0, false⟩
def aR3 : TkR := ⟨0, aF, 1, aS2, 1, ⟨bT, bX, 2, [(labAB, [(20, 1)])]⟩, 2, false⟩
def aR4 : TkR := ⟨0, aF, 1, aS2, 1, ⟨bT, ⟨#[]⟩, 0, []⟩, 0, false⟩
theorem aw1 : aR1 = takeP st0 aB1 := by kernel_rfl
theorem aw2 : aR2 = takeP aR1.st aB2 := by kernel_rfl
theorem aw3 : aR3 = takeP aR2.st aB3 := by kernel_rfl
theorem aw4 : aR4 = takeP aR3.st aB4 := by kernel_rfl
theorem smalls1 {xs : List Samp} (h : xs.length < 6000) : Smalls [(labAB, xs)] := ⟨by simp, fun s hs => by
  rw [List.mem_singleton] at hs
  subst hs
  refine ⟨by simp [labAB], h, fun x hx => ?_⟩
  simp only [labAB, List.mem_singleton] at hx
  subst hx
  exact ⟨by decide, by decide⟩⟩
theorem pi1 : PInv 1 aR1.st := by rw [aw1]; exact PInv.zero.step (smalls1 (by decide))
theorem pi2 : PInv 2 aR2.st := by rw [aw2]; exact pi1.step (smalls1 (by decide))
theorem pi3 : PInv 3 aR3.st := by rw [aw3]; exact pi2.step (smalls1 (by decide))
theorem batch_spec {h : Heap} {n : Nat} {a : Option Addr} {cp : Nat} (clu : ByteArray) (epo : Int) (xs : List Samp) (hx : IsRow encSmp h (.slice a xs.length cp) xs) :
    Makes Tryd.prog 25 [.string (clu), .int .i64 (epo), .slice a (xs.length) cp] h n ([]) (fun v h2 _ => ∃ w r, v = .agg #[.string bT, .string clu, .int .i64 epo, w] ∧ IsRow encSer h2 w [r] ∧ SersIs h2 [r] [(labAB, xs)]) := by
 refine Makes.free fun hf => ?_
 have hs : SubBut h h ([]) := .refl _ _
 have hn : n ≤ n := Nat.le_refl _
 have hf0 := hf
 refine Makes.of_bodyV (args := [.string (clu), .int .i64 (epo), .slice a (xs.length) cp]) (vs := [.string (clu), .int .i64 (epo), .slice a (xs.length) cp, undef, undef, undef, undef, undef, undef, undef, undef, undef, undef, undef, undef]) Tryd.func25 rfl rfl ?_
 refine AWp.seq (AWp.rowV (l := _) pok ?_)
 have z_n : h.get n = none := hf0 _ hn
 refine sq.op rfl rfl (Does.alloc (cs := [.string (⟨#[]⟩), .string (⟨#[]⟩), .int .i64 (0), .slice none (0) (0)]) hf (z := .agg #[.string (⟨#[]⟩), .string (⟨#[]⟩), .int .i64 (0), .slice none (0) (0)]) (by kernel_rfl) rfl) ?_
 rintro _ h2 n3 ⟨rfl, hb1⟩ s4 hn2 hf
 refine sq.w ?_
 have hs := hs.trans s4
 have hn := Nat.le_trans hn hn2
 refine sq.e (AWp.seq (AWp.rowV (l := _) pok ?_))
 refine sq.c (v := .string (clu)) rfl rfl rfl rfl ?_
 refine sq.c (v := .int .i64 (epo)) rfl rfl rfl rfl ?_
 refine sq.c (v := .agg #[.string (⟨#[97]⟩), .string (⟨#[98]⟩)]) rfl rfl (by kernel_rfl) rfl ?_
 have e_n_n3 : n ≠ n3 := hf.ne hb1
 refine sq.op rfl rfl (Does.build (e := 61) (cs := [.string (⟨#[97]⟩), .string (⟨#[98]⟩)]) hf (fun _ _ => by kernel_rfl)) ?_
 rintro _ h6 n7 ⟨rfl, hb5⟩ s8 hn2 hf
 refine sq.w ?_
 have hb1 := s8.sub _ _ hb1
 have hs := hs.trans s8
 have hn := Nat.le_trans hn hn2
 refine sq.c (v := .slice a (xs.length) cp) rfl rfl rfl rfl ?_
 refine sq.c (v := .agg #[.slice (some ⟨n3, 0, none⟩) (1) (1), .slice a (xs.length) cp]) rfl rfl (by kernel_rfl) rfl ?_
 have e_n_n7 : n ≠ n7 := hf.ne hb1
 refine sq.op rfl rfl (Does.build (e := 43) (cs := [.slice (some ⟨n3, 0, none⟩) (1) (1), .slice a (xs.length) cp]) hf (fun _ _ => by kernel_rfl)) ?_
 rintro _ h10 n11 ⟨rfl, hb9⟩ s12 hn2 hf
 refine sq.w ?_
 have hb1 := s12.sub _ _ hb1
 have hb5 := s12.sub _ _ hb5
 have hs := hs.trans s12
 have hn := Nat.le_trans hn hn2
 refine sq.c (v := .agg #[.string (⟨#[116]⟩), .string (clu), .int .i64 (epo), .slice (some ⟨n7, 0, none⟩) (1) (1)]) rfl rfl (by kernel_rfl) rfl ?_
 refine sq.op rfl rfl (Does.store (k := 4) (xs := [.string (⟨#[116]⟩), .string (clu), .int .i64 (epo), .slice (some ⟨n7, 0, none⟩) (1) (1)]) (cs' := [.string (⟨#[116]⟩), .string (clu), .int .i64 (epo), .slice (some ⟨n7, 0, none⟩) (1) (1)]) hf (by kernel_rfl) rfl rfl rfl hb1 rfl rfl (Nat.le_of_ble_eq_true rfl) rfl) ?_
 rintro _ h14 n15 ⟨rfl, hb13⟩ s16 hn2 hf
 refine sq.w0 ?_
 have hb5 := s16.get1 (Ne.symm e_n_n3) hb5
 have hb9 := s16.get1 (Ne.symm e_n_n7) hb9
 have hs := hs.fresh z_n s16
 have hn := Nat.le_trans hn hn2
 refine sq.e ?_
 refine AWp.ret ?_
 refine ⟨rfl, [.agg #[.string (⟨#[116]⟩), .string (clu), .int .i64 (epo), .slice (some ⟨n7, 0, none⟩) (1) (1)]], (res_cell (ldA (P := Tryd.prog) (t := 31) (p := 0) (k := 4) (xs := [.string (⟨#[116]⟩), .string (clu), .int .i64 (epo), .slice (some ⟨n7, 0, none⟩) (1) (1)]) (by kernel_rfl) (by kernel_rfl) hb13 rfl (Nat.le_of_ble_eq_true rfl))), .agg #[.string (⟨#[116]⟩), .string (clu), .int .i64 (epo), .slice (some ⟨n7, 0, none⟩) (1) (1)], rfl, hs, hn, ?_⟩
 refine ⟨_, (.slice (some ⟨n3, 0, none⟩) (1) (1), .slice a (xs.length) cp), rfl, IsRow.of (E := encSer) (xs := [(.slice (some ⟨n3, 0, none⟩) (1) (1), .slice a (xs.length) cp)]) (cap := 1) hb9 (Nat.le_refl _), SersIs.one ⟨?_, (hx.keep hs)⟩⟩
 exact IsRow.of (E := encLab) (xs := labAB) (cap := 1) hb5 (Nat.le_refl _)
theorem awake_spec {h : Heap} {n : Nat} (hld : Laid0 h) :
    Tells Tryd.prog 10 [] h n (.bool true) := by
 refine Makes.tells (Makes.free fun hf => ?_)
 have hs : SubBut h h ([]) := .refl _ _
 have hn : n ≤ n := Nat.le_refl _
 have hf0 := hf
 refine Makes.of_bodyV (args := []) (vs := [undef, undef, undef, undef, undef, undef, undef, undef, undef, undef, undef, undef, undef, undef, undef, undef, undef, undef, undef, undef, undef, undef, undef, undef, undef, undef, undef, undef, undef, undef, undef, undef, undef, undef, undef, undef, undef, undef, undef, undef, undef, undef, undef, undef, undef, undef, undef, undef, undef, undef, undef, undef, undef, undef, undef, undef, undef, undef, undef, undef, undef, undef, undef, undef, undef, undef, undef, undef, undef, undef, undef, undef, undef, undef, undef, undef, undef, undef, undef, undef, undef, undef, undef, undef, undef, undef, undef, undef, undef, undef, undef, undef, undef, undef, undef, undef, undef, undef, undef, undef, undef, undef, undef, undef, undef, undef, undef, undef, undef, undef, undef, undef, undef, undef, undef, undef, undef, undef, undef, undef, undef, undef, undef]) Tryd.func10 rfl rfl ?_
 refine AWp.seq (AWp.rowV (l := _) pok ?_)
 refine sq.c (v := .bool false) rfl rfl rfl rfl ?_
 refine sq.e (AWp.seq (AWp.rowV (l := _) pok ?_))
 refine sq.k rfl (CallsF.fn rfl (by kernel_rfl) rfl rfl) (new_spec) ?_
 rintro _ h1 n2 ⟨b, f, g, rfl, hb_, hf_, hg_, y_b, y_f, y_g, ne_f_g⟩ s3 hn2 hf
 have z_f := sub_none hs y_f
 have z_g := sub_none hs y_g
 have ne_b_f : b ≠ f := by intro e; subst e; rw [hb_] at hf_; cases hf_
 have ne_b_g : b ≠ g := by intro e; subst e; rw [hb_] at hg_; cases hg_
 have okF : MOk ([] : FM) 0 := .nil
 have okG : MOk ([] : SM) 0 := .nil
 refine sq.w ?_
 have hs := hs.trans s3
 have hn := Nat.le_trans hn hn2
 have hS : SMIs h1 ([] : SM) ([] : SP) := SMIs.nil _
 refine sq.c (v := .pointer (some ⟨b, 0, none⟩)) rfl rfl rfl rfl ?_
 refine sq.e (AWp.seq (AWp.rowV (l := _) pok ?_))
 refine sq.c (v := .pointer (some ⟨b, 0, none⟩)) rfl rfl rfl rfl ?_
 refine sq.c (v := .agg #[.int .i64 (10), .int .u64 (1)]) rfl rfl (by kernel_rfl) rfl ?_
 refine sq.op rfl rfl (Does.build (e := 53) (cs := [.int .i64 (10), .int .u64 (1)]) hf (fun _ _ => by kernel_rfl)) ?_
 rintro _ h5 n6 ⟨rfl, hb4⟩ s7 hn2 hf
 refine sq.w ?_
 have hS := hS.keep (.of0 s7)
 have hb_ := s7.sub _ _ hb_
 have hf_ := s7.sub _ _ hf_
 have hg_ := s7.sub _ _ hg_
 have hs := hs.trans s7
 have hn := Nat.le_trans hn hn2
 refine sq.k rfl (CallsF.fn rfl (by kernel_rfl) rfl rfl) (batch_spec (⟨#[120]⟩ : ByteArray) 2 [(10, 1)] (IsRow.of (E := encSmp) (xs := [(10, 1)]) (cap := 1) hb4 (Nat.le_refl _))) ?_
 rintro _ h8 n9 ⟨w_b7, r_b7, rfl, R_b7, E_b7⟩ s10 hn2 hf
 obtain ⟨a_b7, c_b7, e_b7⟩ := R_b7.slice
 cases e_b7
 change IsRow encSer _ (.slice a_b7 1 c_b7) [r_b7] at R_b7
 refine sq.w ?_
 have hS := hS.keep (.of0 s10)
 have hb_ := s10.sub _ _ hb_
 have hf_ := s10.sub _ _ hf_
 have hg_ := s10.sub _ _ hg_
 have hs := hs.trans s10
 have hn := Nat.le_trans hn hn2
 refine sq.k rfl (CallsF.fn rfl (by kernel_rfl) rfl rfl) (takeSt (R := aR1) _ _ _ hb_ hf_ hg_ okF okG hS (ne_f_g) _ _ _ _ _ R_b7 E_b7 (hld.keep hs) (smalls1 (by decide)) (by decide) (by decide) (InvS.up PInv.zero.inv (Nat.le_refl 0)) (by omega) aw1) ?_
 rintro _ h11 n12 ⟨w_t1, os_t1, G_t1, rfl, W_t1, D_t1, hf_t1, hg_t1, okF_t1, okG_t1, hS_t1⟩ s13 hn2 hf
 obtain ⟨a_t1, c_t1, rfl⟩ := W_t1.slice
 refine sq.w ?_
 have nc_s13 : NoCells _ [f, g] := .cons hf_ (.cons hg_ (.nil _))
 have E_b7 := E_b7.noc s13 nc_s13
 have hb_ := s13.get2 (ne_b_f) (ne_b_g) hb_
 have hs := hs.fresh2 z_f z_g s13
 have hn := Nat.le_trans hn hn2
 have hS := hS_t1
 refine sq.c (v := .tuple #[.agg #[.string (bT), .string (bX), .int .i64 (2), .slice a_t1 (os_t1.length) c_t1, .int .i64 (0), .bool true], .int .i64 (0)]) rfl rfl rfl rfl ?_
 refine sq.c (v := .agg #[.string (bT), .string (bX), .int .i64 (2), .slice a_t1 (os_t1.length) c_t1, .int .i64 (0), .bool true]) rfl rfl rfl rfl ?_
 refine sq.c (v := .int .i64 (0)) rfl rfl rfl rfl ?_
 have e_b_n12 : b ≠ n12 := hf.ne hb_
 have e_f_n12 : f ≠ n12 := hf.ne hf_t1
 have e_g_n12 : g ≠ n12 := hf.ne hg_t1
 have z_n12 : h.get n12 = none := hf0 _ hn
 refine sq.op rfl rfl (Does.alloc (cs := [.string (⟨#[]⟩), .string (⟨#[]⟩), .int .i64 (0), .slice none (0) (0), .int .i64 (0), .bool false]) hf (z := .agg #[.string (⟨#[]⟩), .string (⟨#[]⟩), .int .i64 (0), .slice none (0) (0), .int .i64 (0), .bool false]) (by kernel_rfl) rfl) ?_
 rintro _ h15 n16 ⟨rfl, hb14⟩ s17 hn2 hf
 refine sq.w ?_
 have hS := hS.keep (.of0 s17)
 have W_t1 := W_t1.keep (.of0 s17)
 have D_t1 := D_t1.keep (.of0 s17)
 have hb_ := s17.sub _ _ hb_
 have hf_t1 := s17.sub _ _ hf_t1
 have hg_t1 := s17.sub _ _ hg_t1
 have hs := hs.trans s17
 have hn := Nat.le_trans hn hn2
 refine sq.op rfl rfl (Does.store (k := 6) (xs := [.string (bT), .string (bX), .int .i64 (2), .slice a_t1 (os_t1.length) c_t1, .int .i64 (0), .bool true]) (cs' := [.string (bT), .string (bX), .int .i64 (2), .slice a_t1 (os_t1.length) c_t1, .int .i64 (0), .bool true]) hf (by kernel_rfl) rfl rfl rfl hb14 rfl rfl (Nat.le_of_ble_eq_true rfl) rfl) ?_
 rintro _ h19 n20 ⟨rfl, hb18⟩ s21 hn2 hf
 refine sq.w0 ?_
 have hS := hS.keep (.own s21 hb14 rfl)
 have W_t1 := W_t1.keep (.own s21 hb14 rfl)
 have D_t1 := D_t1.keep (.own s21 hb14 rfl)
 have hb_ := s21.get1 (e_b_n12) hb_
 have hf_t1 := s21.get1 (e_f_n12) hf_t1
 have hg_t1 := s21.get1 (e_g_n12) hg_t1
 have hs := hs.fresh z_n12 s21
 have hn := Nat.le_trans hn hn2
 refine sq.c (v := .int .i64 (0)) rfl rfl rfl rfl ?_
 refine sq.e (AWp.seq (AWp.rowV (l := _) pok ?_))
 refine sq.c (v := .pointer (some ⟨b, 0, none⟩)) rfl rfl rfl rfl ?_
 refine sq.c (v := .agg #[.int .i64 (30), .int .u64 (1)]) rfl rfl (by kernel_rfl) rfl ?_
 refine sq.op rfl rfl (Does.build (e := 53) (cs := [.int .i64 (30), .int .u64 (1)]) hf (fun _ _ => by kernel_rfl)) ?_
 rintro _ h23 n24 ⟨rfl, hb22⟩ s25 hn2 hf
 refine sq.w ?_
 have hS := hS.keep (.of0 s25)
 have W_t1 := W_t1.keep (.of0 s25)
 have D_t1 := D_t1.keep (.of0 s25)
 have hb_ := s25.sub _ _ hb_
 have hf_t1 := s25.sub _ _ hf_t1
 have hg_t1 := s25.sub _ _ hg_t1
 have hb18 := s25.sub _ _ hb18
 have hs := hs.trans s25
 have hn := Nat.le_trans hn hn2
 refine sq.k rfl (CallsF.fn rfl (by kernel_rfl) rfl rfl) (batch_spec (⟨#[120]⟩ : ByteArray) 1 [(30, 1)] (IsRow.of (E := encSmp) (xs := [(30, 1)]) (cap := 1) hb22 (Nat.le_refl _))) ?_
 rintro _ h26 n27 ⟨w_b25, r_b25, rfl, R_b25, E_b25⟩ s28 hn2 hf
 obtain ⟨a_b25, c_b25, e_b25⟩ := R_b25.slice
 cases e_b25
 change IsRow encSer _ (.slice a_b25 1 c_b25) [r_b25] at R_b25
 refine sq.w ?_
 have hS := hS.keep (.of0 s28)
 have W_t1 := W_t1.keep (.of0 s28)
 have D_t1 := D_t1.keep (.of0 s28)
 have hb_ := s28.sub _ _ hb_
 have hf_t1 := s28.sub _ _ hf_t1
 have hg_t1 := s28.sub _ _ hg_t1
 have hb18 := s28.sub _ _ hb18
 have hs := hs.trans s28
 have hn := Nat.le_trans hn hn2
 refine sq.k rfl (CallsF.fn rfl (by kernel_rfl) rfl rfl) (takeSt (R := aR2) _ _ _ hb_ hf_t1 hg_t1 okF_t1 okG_t1 hS (ne_f_g) _ _ _ _ _ R_b25 E_b25 (hld.keep hs) (smalls1 (by decide)) (by decide) (by decide) pi1.inv (by omega) aw2) ?_
 rintro _ h29 n30 ⟨w_t2, os_t2, G_t2, rfl, W_t2, D_t2, hf_t2, hg_t2, okF_t2, okG_t2, hS_t2⟩ s31 hn2 hf
 obtain ⟨a_t2, c_t2, rfl⟩ := W_t2.slice
 refine sq.w ?_
 have ours_s31 : Ours _ [f, g] := .cons hf_t1 rfl (.cons hg_t1 rfl (.nil _))
 have nc_s31 : NoCells _ [f, g] := .cons hf_t1 (.cons hg_t1 (.nil _))
 have W_t1 := W_t1.keep (.of s31 ours_s31)
 have D_t1 := D_t1.keep (.of s31 ours_s31)
 have E_b25 := E_b25.noc s31 nc_s31
 have hb_ := s31.get2 (ne_b_f) (ne_b_g) hb_
 have hb18 := s31.get2 (Ne.symm e_f_n12) (Ne.symm e_g_n12) hb18
 have hs := hs.fresh2 z_f z_g s31
 have hn := Nat.le_trans hn hn2
 have hS := hS_t2
 refine sq.c (v := .tuple #[.agg #[.string (⟨#[]⟩), .string (⟨#[]⟩), .int .i64 (0), .slice a_t2 (os_t2.length) c_t2, .int .i64 (0), .bool false], .int .i64 (61)]) rfl rfl rfl rfl ?_
 refine sq.c (v := .agg #[.string (⟨#[]⟩), .string (⟨#[]⟩), .int .i64 (0), .slice a_t2 (os_t2.length) c_t2, .int .i64 (0), .bool false]) rfl rfl rfl rfl ?_
 refine sq.c (v := .int .i64 (61)) rfl rfl rfl rfl ?_
 have e_b_n30 : b ≠ n30 := hf.ne hb_
 have e_f_n30 : f ≠ n30 := hf.ne hf_t2
 have e_g_n30 : g ≠ n30 := hf.ne hg_t2
 have e_n12_n30 : n12 ≠ n30 := hf.ne hb18
 have z_n30 : h.get n30 = none := hf0 _ hn
 refine sq.op rfl rfl (Does.alloc (cs := [.string (⟨#[]⟩), .string (⟨#[]⟩), .int .i64 (0), .slice none (0) (0), .int .i64 (0), .bool false]) hf (z := .agg #[.string (⟨#[]⟩), .string (⟨#[]⟩), .int .i64 (0), .slice none (0) (0), .int .i64 (0), .bool false]) (by kernel_rfl) rfl) ?_
 rintro _ h33 n34 ⟨rfl, hb32⟩ s35 hn2 hf
 refine sq.w ?_
 have W_t1 := W_t1.keep (.of0 s35)
 have D_t1 := D_t1.keep (.of0 s35)
 have hS := hS.keep (.of0 s35)
 have hb_ := s35.sub _ _ hb_
 have hf_t2 := s35.sub _ _ hf_t2
 have hg_t2 := s35.sub _ _ hg_t2
 have hb18 := s35.sub _ _ hb18
 have hs := hs.trans s35
 have hn := Nat.le_trans hn hn2
 refine sq.op rfl rfl (Does.store (k := 6) (xs := [.string (⟨#[]⟩), .string (⟨#[]⟩), .int .i64 (0), .slice a_t2 (os_t2.length) c_t2, .int .i64 (0), .bool false]) (cs' := [.string (⟨#[]⟩), .string (⟨#[]⟩), .int .i64 (0), .slice a_t2 (os_t2.length) c_t2, .int .i64 (0), .bool false]) hf (by kernel_rfl) rfl rfl rfl hb32 rfl rfl (Nat.le_of_ble_eq_true rfl) rfl) ?_
 rintro _ h37 n38 ⟨rfl, hb36⟩ s39 hn2 hf
 refine sq.w0 ?_
 have W_t1 := W_t1.keep (.own s39 hb32 rfl)
 have D_t1 := D_t1.keep (.own s39 hb32 rfl)
 have hS := hS.keep (.own s39 hb32 rfl)
 have hb_ := s39.get1 (e_b_n30) hb_
 have hf_t2 := s39.get1 (e_f_n30) hf_t2
 have hg_t2 := s39.get1 (e_g_n30) hg_t2
 have hb18 := s39.get1 (e_n12_n30) hb18
 have hs := hs.fresh z_n30 s39
 have hn := Nat.le_trans hn hn2
 refine sq.c (v := .int .i64 (61)) rfl rfl rfl rfl ?_
 refine sq.e (AWp.seq (AWp.rowV (l := _) pok ?_))
 refine sq.c (v := .pointer (some ⟨b, 0, none⟩)) rfl rfl rfl rfl ?_
 refine sq.c (v := .agg #[.int .i64 (10), .int .u64 (1)]) rfl rfl (by kernel_rfl) rfl ?_
 refine sq.c (v := .agg #[.int .i64 (10), .int .u64 (2)]) rfl rfl (by kernel_rfl) rfl ?_
 refine sq.c (v := .agg #[.int .i64 (5), .int .u64 (1)]) rfl rfl (by kernel_rfl) rfl ?_
 refine sq.c (v := .agg #[.int .i64 (20), .int .u64 (1)]) rfl rfl (by kernel_rfl) rfl ?_
 refine sq.op rfl rfl (Does.build (e := 53) (cs := [.int .i64 (10), .int .u64 (1), .int .i64 (10), .int .u64 (2), .int .i64 (5), .int .u64 (1), .int .i64 (20), .int .u64 (1)]) hf (fun _ _ => by kernel_rfl)) ?_
 rintro _ h41 n42 ⟨rfl, hb40⟩ s43 hn2 hf
 refine sq.w ?_
 have W_t1 := W_t1.keep (.of0 s43)
 have D_t1 := D_t1.keep (.of0 s43)
 have hS := hS.keep (.of0 s43)
 have hb_ := s43.sub _ _ hb_
 have hf_t2 := s43.sub _ _ hf_t2
 have hg_t2 := s43.sub _ _ hg_t2
 have hb18 := s43.sub _ _ hb18
 have hs := hs.trans s43
 have hn := Nat.le_trans hn hn2
 refine sq.k rfl (CallsF.fn rfl (by kernel_rfl) rfl rfl) (batch_spec (⟨#[120]⟩ : ByteArray) 2 [(10, 1), (10, 2), (5, 1), (20, 1)] (IsRow.of (E := encSmp) (xs := [(10, 1), (10, 2), (5, 1), (20, 1)]) (cap := 4) hb40 (Nat.le_refl _))) ?_
 rintro _ h44 n45 ⟨w_b43, r_b43, rfl, R_b43, E_b43⟩ s46 hn2 hf
 obtain ⟨a_b43, c_b43, e_b43⟩ := R_b43.slice
 cases e_b43
 change IsRow encSer _ (.slice a_b43 1 c_b43) [r_b43] at R_b43
 refine sq.w ?_
 have W_t1 := W_t1.keep (.of0 s46)
 have D_t1 := D_t1.keep (.of0 s46)
 have hS := hS.keep (.of0 s46)
 have hb_ := s46.sub _ _ hb_
 have hf_t2 := s46.sub _ _ hf_t2
 have hg_t2 := s46.sub _ _ hg_t2
 have hb18 := s46.sub _ _ hb18
 have hs := hs.trans s46
 have hn := Nat.le_trans hn hn2
 refine sq.k rfl (CallsF.fn rfl (by kernel_rfl) rfl rfl) (takeSt (R := aR3) _ _ _ hb_ hf_t2 hg_t2 okF_t2 okG_t2 hS (ne_f_g) _ _ _ _ _ R_b43 E_b43 (hld.keep hs) (smalls1 (by decide)) (by decide) (by decide) pi2.inv (by omega) aw3) ?_
 rintro _ h47 n48 ⟨w_t3, os_t3, G_t3, rfl, W_t3, D_t3, hf_t3, hg_t3, okF_t3, okG_t3, hS_t3⟩ s49 hn2 hf
 obtain ⟨a_t3, c_t3, rfl⟩ := W_t3.slice
 refine sq.w ?_
 have ours_s49 : Ours _ [f, g] := .cons hf_t2 rfl (.cons hg_t2 rfl (.nil _))
 have nc_s49 : NoCells _ [f, g] := .cons hf_t2 (.cons hg_t2 (.nil _))
 have W_t1 := W_t1.keep (.of s49 ours_s49)
 have D_t1 := D_t1.keep (.of s49 ours_s49)
 have E_b43 := E_b43.noc s49 nc_s49
 have hb_ := s49.get2 (ne_b_f) (ne_b_g) hb_
 have hb18 := s49.get2 (Ne.symm e_f_n12) (Ne.symm e_g_n12) hb18
 have hs := hs.fresh2 z_f z_g s49
 have hn := Nat.le_trans hn hn2
 have hS := hS_t3
 refine sq.c (v := .tuple #[.agg #[.string (bT), .string (bX), .int .i64 (2), .slice a_t3 (os_t3.length) c_t3, .int .i64 (2), .bool false], .int .i64 (0)]) rfl rfl rfl rfl ?_
 refine sq.c (v := .agg #[.string (bT), .string (bX), .int .i64 (2), .slice a_t3 (os_t3.length) c_t3, .int .i64 (2), .bool false]) rfl rfl rfl rfl ?_
 refine sq.c (v := .int .i64 (0)) rfl rfl rfl rfl ?_
 have e_b_n48 : b ≠ n48 := hf.ne hb_
 have e_f_n48 : f ≠ n48 := hf.ne hf_t3
 have e_g_n48 : g ≠ n48 := hf.ne hg_t3
 have e_n12_n48 : n12 ≠ n48 := hf.ne hb18
 have z_n48 : h.get n48 = none := hf0 _ hn
 refine sq.op rfl rfl (Does.alloc (cs := [.string (⟨#[]⟩), .string (⟨#[]⟩), .int .i64 (0), .slice none (0) (0), .int .i64 (0), .bool false]) hf (z := .agg #[.string (⟨#[]⟩), .string (⟨#[]⟩), .int .i64 (0), .slice none (0) (0), .int .i64 (0), .bool false]) (by kernel_rfl) rfl) ?_
 rintro _ h51 n52 ⟨rfl, hb50⟩ s53 hn2 hf
 refine sq.w ?_
 have W_t1 := W_t1.keep (.of0 s53)
 have D_t1 := D_t1.keep (.of0 s53)
 have hS := hS.keep (.of0 s53)
 have W_t3 := W_t3.keep (.of0 s53)
 have D_t3 := D_t3.keep (.of0 s53)
 have hb_ := s53.sub _ _ hb_
 have hf_t3 := s53.sub _ _ hf_t3
 have hg_t3 := s53.sub _ _ hg_t3
 have hb18 := s53.sub _ _ hb18
 have hs := hs.trans s53
 have hn := Nat.le_trans hn hn2
 refine sq.op rfl rfl (Does.store (k := 6) (xs := [.string (bT), .string (bX), .int .i64 (2), .slice a_t3 (os_t3.length) c_t3, .int .i64 (2), .bool false]) (cs' := [.string (bT), .string (bX), .int .i64 (2), .slice a_t3 (os_t3.length) c_t3, .int .i64 (2), .bool false]) hf (by kernel_rfl) rfl rfl rfl hb50 rfl rfl (Nat.le_of_ble_eq_true rfl) rfl) ?_
 rintro _ h55 n56 ⟨rfl, hb54⟩ s57 hn2 hf
 refine sq.w0 ?_
 have W_t1 := W_t1.keep (.own s57 hb50 rfl)
 have D_t1 := D_t1.keep (.own s57 hb50 rfl)
 have hS := hS.keep (.own s57 hb50 rfl)
 have W_t3 := W_t3.keep (.own s57 hb50 rfl)
 have D_t3 := D_t3.keep (.own s57 hb50 rfl)
 have hb_ := s57.get1 (e_b_n48) hb_
 have hf_t3 := s57.get1 (e_f_n48) hf_t3
 have hg_t3 := s57.get1 (e_g_n48) hg_t3
 have hb18 := s57.get1 (e_n12_n48) hb18
 have hs := hs.fresh z_n48 s57
 have hn := Nat.le_trans hn hn2
 refine sq.c (v := .int .i64 (0)) rfl rfl rfl rfl ?_
 refine sq.e (AWp.seq (AWp.rowV (l := _) pok ?_))
 refine sq.c (v := .pointer (some ⟨b, 0, none⟩)) rfl rfl rfl rfl ?_
 refine sq.c (v := .agg #[.int .i64 (20), .int .u64 (1)]) rfl rfl (by kernel_rfl) rfl ?_
 refine sq.op rfl rfl (Does.build (e := 53) (cs := [.int .i64 (20), .int .u64 (1)]) hf (fun _ _ => by kernel_rfl)) ?_
 rintro _ h59 n60 ⟨rfl, hb58⟩ s61 hn2 hf
 refine sq.w ?_
 have W_t1 := W_t1.keep (.of0 s61)
 have D_t1 := D_t1.keep (.of0 s61)
 have hS := hS.keep (.of0 s61)
 have W_t3 := W_t3.keep (.of0 s61)
 have D_t3 := D_t3.keep (.of0 s61)
 have hb_ := s61.sub _ _ hb_
 have hf_t3 := s61.sub _ _ hf_t3
 have hg_t3 := s61.sub _ _ hg_t3
 have hb18 := s61.sub _ _ hb18
 have hb54 := s61.sub _ _ hb54
 have hs := hs.trans s61
 have hn := Nat.le_trans hn hn2
 refine sq.k rfl (CallsF.fn rfl (by kernel_rfl) rfl rfl) (batch_spec (⟨#[]⟩ : ByteArray) 0 [(20, 1)] (IsRow.of (E := encSmp) (xs := [(20, 1)]) (cap := 1) hb58 (Nat.le_refl _))) ?_
 rintro _ h62 n63 ⟨w_b61, r_b61, rfl, R_b61, E_b61⟩ s64 hn2 hf
 obtain ⟨a_b61, c_b61, e_b61⟩ := R_b61.slice
 cases e_b61
 change IsRow encSer _ (.slice a_b61 1 c_b61) [r_b61] at R_b61
 refine sq.w ?_
 have W_t1 := W_t1.keep (.of0 s64)
 have D_t1 := D_t1.keep (.of0 s64)
 have hS := hS.keep (.of0 s64)
 have W_t3 := W_t3.keep (.of0 s64)
 have D_t3 := D_t3.keep (.of0 s64)
 have hb_ := s64.sub _ _ hb_
 have hf_t3 := s64.sub _ _ hf_t3
 have hg_t3 := s64.sub _ _ hg_t3
 have hb18 := s64.sub _ _ hb18
 have hb54 := s64.sub _ _ hb54
 have hs := hs.trans s64
 have hn := Nat.le_trans hn hn2
 refine sq.k rfl (CallsF.fn rfl (by kernel_rfl) rfl rfl) (takeSt (R := aR4) _ _ _ hb_ hf_t3 hg_t3 okF_t3 okG_t3 hS (ne_f_g) _ _ _ _ _ R_b61 E_b61 (hld.keep hs) (smalls1 (by decide)) (by decide) (by decide) pi3.inv (by omega) aw4) ?_
 rintro _ h65 n66 ⟨w_t4, os_t4, G_t4, rfl, W_t4, D_t4, hf_t4, hg_t4, okF_t4, okG_t4, hS_t4⟩ s67 hn2 hf
 obtain ⟨a_t4, c_t4, rfl⟩ := W_t4.slice
 refine sq.w ?_
 have ours_s67 : Ours _ [f, g] := .cons hf_t3 rfl (.cons hg_t3 rfl (.nil _))
 have nc_s67 : NoCells _ [f, g] := .cons hf_t3 (.cons hg_t3 (.nil _))
 have W_t1 := W_t1.keep (.of s67 ours_s67)
 have D_t1 := D_t1.keep (.of s67 ours_s67)
 have W_t3 := W_t3.keep (.of s67 ours_s67)
 have D_t3 := D_t3.keep (.of s67 ours_s67)
 have E_b61 := E_b61.noc s67 nc_s67
 have hb_ := s67.get2 (ne_b_f) (ne_b_g) hb_
 have hb18 := s67.get2 (Ne.symm e_f_n12) (Ne.symm e_g_n12) hb18
 have hb54 := s67.get2 (Ne.symm e_f_n48) (Ne.symm e_g_n48) hb54
 have hs := hs.fresh2 z_f z_g s67
 have hn := Nat.le_trans hn hn2
 have hS := hS_t4
 refine sq.c (v := .tuple #[.agg #[.string (bT), .string (⟨#[]⟩), .int .i64 (0), .slice a_t4 (os_t4.length) c_t4, .int .i64 (0), .bool false], .int .i64 (0)]) rfl rfl rfl rfl ?_
 refine sq.c (v := .agg #[.string (bT), .string (⟨#[]⟩), .int .i64 (0), .slice a_t4 (os_t4.length) c_t4, .int .i64 (0), .bool false]) rfl rfl rfl rfl ?_
 refine sq.c (v := .int .i64 (0)) rfl rfl rfl rfl ?_
 have e_b_n66 : b ≠ n66 := hf.ne hb_
 have e_f_n66 : f ≠ n66 := hf.ne hf_t4
 have e_g_n66 : g ≠ n66 := hf.ne hg_t4
 have e_n12_n66 : n12 ≠ n66 := hf.ne hb18
 have e_n48_n66 : n48 ≠ n66 := hf.ne hb54
 have z_n66 : h.get n66 = none := hf0 _ hn
 refine sq.op rfl rfl (Does.alloc (cs := [.string (⟨#[]⟩), .string (⟨#[]⟩), .int .i64 (0), .slice none (0) (0), .int .i64 (0), .bool false]) hf (z := .agg #[.string (⟨#[]⟩), .string (⟨#[]⟩), .int .i64 (0), .slice none (0) (0), .int .i64 (0), .bool false]) (by kernel_rfl) rfl) ?_
 rintro _ h69 n70 ⟨rfl, hb68⟩ s71 hn2 hf
 refine sq.w ?_
 have W_t1 := W_t1.keep (.of0 s71)
 have D_t1 := D_t1.keep (.of0 s71)
 have W_t3 := W_t3.keep (.of0 s71)
 have D_t3 := D_t3.keep (.of0 s71)
 have hS := hS.keep (.of0 s71)
 have D_t4 := D_t4.keep (.of0 s71)
 have hb_ := s71.sub _ _ hb_
 have hf_t4 := s71.sub _ _ hf_t4
 have hg_t4 := s71.sub _ _ hg_t4
 have hb18 := s71.sub _ _ hb18
 have hb54 := s71.sub _ _ hb54
 have hs := hs.trans s71
 have hn := Nat.le_trans hn hn2
 refine sq.op rfl rfl (Does.store (k := 6) (xs := [.string (bT), .string (⟨#[]⟩), .int .i64 (0), .slice a_t4 (os_t4.length) c_t4, .int .i64 (0), .bool false]) (cs' := [.string (bT), .string (⟨#[]⟩), .int .i64 (0), .slice a_t4 (os_t4.length) c_t4, .int .i64 (0), .bool false]) hf (by kernel_rfl) rfl rfl rfl hb68 rfl rfl (Nat.le_of_ble_eq_true rfl) rfl) ?_
 rintro _ h73 n74 ⟨rfl, hb72⟩ s75 hn2 hf
 refine sq.w0 ?_
 have W_t1 := W_t1.keep (.own s75 hb68 rfl)
 have D_t1 := D_t1.keep (.own s75 hb68 rfl)
 have W_t3 := W_t3.keep (.own s75 hb68 rfl)
 have D_t3 := D_t3.keep (.own s75 hb68 rfl)
 have hS := hS.keep (.own s75 hb68 rfl)
 have D_t4 := D_t4.keep (.own s75 hb68 rfl)
 have hb_ := s75.get1 (e_b_n66) hb_
 have hf_t4 := s75.get1 (e_f_n66) hf_t4
 have hg_t4 := s75.get1 (e_g_n66) hg_t4
 have hb18 := s75.get1 (e_n12_n66) hb18
 have hb54 := s75.get1 (e_n48_n66) hb54
 have hs := hs.fresh z_n66 s75
 have hn := Nat.le_trans hn hn2
 refine sq.c (v := .int .i64 (0)) rfl rfl rfl rfl ?_
 refine sq.e (AWp.seq ?_)
 refine AWp.anyK pok [0, 1, 2, 3, 4, 5, 6, 7, 8, 9, 10, 11, 12, 13, 14, 15, 16, 17, 18, 19, 20, 21, 22, 23, 24, 25, 26, 27, 28, 29, 30, 31, 32, 33, 34, 35, 36, 37, 38, 39, 40, 41, 42, 43, 44, 45, 46, 47, 48, 49, 50, 51, 52, 53, 54, 55, 56, 57, 58, 59, 60, 61, 62, 63, 64, 65, 66, 67, 68, 69, 70, 71, 72, 73, 74, 75, 76, 77] (by kernel_rfl) (by kernel_rfl) rfl (fun x fr fr' h n hd _ q => ⟨hd ▸ q.1, q.2⟩) ?_
 refine dk.c (v := .int .i64 (0)) rfl (by kernel_rfl) rfl rfl rfl rfl ?_
 refine dk.c (v := .bool true) rfl (by kernel_rfl) rfl rfl rfl rfl ?_
 refine dk.c (v := .bool true) rfl (by kernel_rfl) rfl rfl rfl rfl ?_
 refine dk.c (v := .pointer (some ⟨n12, 5, none⟩)) rfl (by kernel_rfl) (wantT (g := 2) (d := 48) rfl rfl rfl) rfl (by kernel_rfl) rfl ?_
 refine dk.gB (v := .bool true) n12 rfl (by kernel_rfl) (wantT (g := 2) (d := 48) rfl rfl rfl) rfl (fun _ q_ => (ld1 (P := Tryd.prog) (t := 4) (p := 5) (v := .bool true) (by kernel_rfl) (by kernel_rfl) (q_ _ hb18) rfl)) rfl ?_
 refine dk.c (v := .bool true) rfl (by kernel_rfl) rfl rfl rfl rfl ?_
 refine dk.c (v := .bool true) rfl (by kernel_rfl) rfl rfl rfl rfl ?_
 refine dk.c (v := .pointer (some ⟨n12, 4, none⟩)) rfl (by kernel_rfl) (wantT (g := 6) (d := 52) rfl rfl rfl) rfl (by kernel_rfl) rfl ?_
 refine dk.gB (v := .int .i64 (0)) n12 rfl (by kernel_rfl) (wantT (g := 6) (d := 52) rfl rfl rfl) rfl (fun _ q_ => (ld1 (P := Tryd.prog) (t := 3) (p := 4) (v := .int .i64 (0)) (by kernel_rfl) (by kernel_rfl) (q_ _ hb18) rfl)) rfl ?_
 refine dk.c (v := .bool true) rfl (by kernel_rfl) (wantT (g := 6) (d := 52) rfl rfl rfl) rfl rfl rfl ?_
 refine dk.c (v := .bool true) rfl (by kernel_rfl) rfl rfl rfl rfl ?_
 refine dk.c (v := .bool true) rfl (by kernel_rfl) rfl rfl rfl rfl ?_
 refine dk.c (v := .pointer (some ⟨n12, 0, none⟩)) rfl (by kernel_rfl) (wantT (g := 11) (d := 57) rfl rfl rfl) rfl (by kernel_rfl) rfl ?_
 refine dk.gB (v := .agg #[.string (bT), .string (bX), .int .i64 (2), .slice a_t1 (os_t1.length) c_t1]) n12 rfl (by kernel_rfl) (wantT (g := 11) (d := 57) rfl rfl rfl) rfl (fun _ q_ => (ldA (P := Tryd.prog) (t := 31) (p := 0) (k := 4) (xs := [.string (bT), .string (bX), .int .i64 (2), .slice a_t1 (os_t1.length) c_t1]) (by kernel_rfl) (by kernel_rfl) (q_ _ hb18) rfl (Nat.le_of_ble_eq_true rfl))) rfl ?_
 refine dk.c (v := .agg #[.int .i64 (10), .int .u64 (1)]) rfl (by kernel_rfl) (wantT (g := 11) (d := 57) rfl rfl rfl) rfl (by kernel_rfl) rfl ?_
 refine dk.op rfl (by kernel_rfl) (wantT (g := 11) (d := 57) rfl rfl rfl) rfl (Does.build (e := 53) (cs := [.int .i64 (10), .int .u64 (1)]) hf (fun _ _ => by kernel_rfl)) (keepC (by simp) (keepC (by simp) (keepC (by simp) keepN))) ?_
 rintro _ h77 n78 ⟨rfl, hb76⟩ s79 hn2 hf
 refine dk.w ?_
 have W_t1 := W_t1.keep (.of0 s79)
 have D_t1 := D_t1.keep (.of0 s79)
 have W_t3 := W_t3.keep (.of0 s79)
 have D_t3 := D_t3.keep (.of0 s79)
 have hS := hS.keep (.of0 s79)
 have D_t4 := D_t4.keep (.of0 s79)
 have hb_ := s79.sub _ _ hb_
 have hf_t4 := s79.sub _ _ hf_t4
 have hg_t4 := s79.sub _ _ hg_t4
 have hb54 := s79.sub _ _ hb54
 have hb72 := s79.sub _ _ hb72
 have hs := hs.trans s79
 have hn := Nat.le_trans hn hn2
 refine dk.k rfl (by kernel_rfl) (wantT (g := 11) (d := 57) rfl rfl rfl) (CallsF.fn rfl (by kernel_rfl) rfl rfl) (batch_spec (⟨#[120]⟩ : ByteArray) 2 [(10, 1)] (IsRow.of (E := encSmp) (xs := [(10, 1)]) (cap := 1) hb76 (Nat.le_refl _))) (keepC (by simp) (keepC (by simp) (keepC (by simp) keepN))) ?_
 rintro _ h80 n81 ⟨w_b79, r_b79, rfl, R_b79, E_b79⟩ s82 hn2 hf
 obtain ⟨a_b79, c_b79, e_b79⟩ := R_b79.slice
 cases e_b79
 change IsRow encSer _ (.slice a_b79 1 c_b79) [r_b79] at R_b79
 refine dk.w ?_
 have W_t1 := W_t1.keep (.of0 s82)
 have D_t1 := D_t1.keep (.of0 s82)
 have W_t3 := W_t3.keep (.of0 s82)
 have D_t3 := D_t3.keep (.of0 s82)
 have hS := hS.keep (.of0 s82)
 have D_t4 := D_t4.keep (.of0 s82)
 have hb_ := s82.sub _ _ hb_
 have hf_t4 := s82.sub _ _ hf_t4
 have hg_t4 := s82.sub _ _ hg_t4
 have hb54 := s82.sub _ _ hb54
 have hb72 := s82.sub _ _ hb72
 have hs := hs.trans s82
 have hn := Nat.le_trans hn hn2
 refine dk.t (v := .bool (decide (bT = bT ∧ bX = ⟨#[120]⟩ ∧ (2 : Int) = 2 ∧ aR1.kb.ser = [(labAB, [(10, 1)])]))) rfl (by kernel_rfl) (wantT (g := 11) (d := 57) rfl rfl rfl) (CallsF.fn rfl (by kernel_rfl) rfl rfl) (fun hf => sameBat_spec bT bX bT ⟨#[120]⟩ 2 2 _ _ aR1.kb.ser [(labAB, [(10, 1)])] W_t1.is D_t1.is R_b79 E_b79 (by rw [D_t1.1]; decide) (by decide)) hf rfl ?_
 intro n83 hn2 hf
 have hn := Nat.le_trans hn hn2
 refine dk.c (v := .bool (decide (bT = bT ∧ bX = ⟨#[120]⟩ ∧ (2 : Int) = 2 ∧ aR1.kb.ser = [(labAB, [(10, 1)])]))) rfl (by kernel_rfl) rfl rfl rfl rfl ?_
 refine dk.c (v := .bool (decide (bT = bT ∧ bX = ⟨#[120]⟩ ∧ (2 : Int) = 2 ∧ aR1.kb.ser = [(labAB, [(10, 1)])]))) rfl (by kernel_rfl) rfl rfl rfl rfl ?_
 rcases Bool.eq_false_or_eq_true (decide (bT = bT ∧ bX = ⟨#[120]⟩ ∧ (2 : Int) = 2 ∧ aR1.kb.ser = [(labAB, [(10, 1)])])) with c6_17 | c6_17
 ·rw [c6_17]
  refine dk.c (v := .pointer (some ⟨b, 0, none⟩)) rfl (by kernel_rfl) (wantT (g := 19) (d := 65) rfl rfl rfl) rfl rfl rfl ?_
  refine dk.t (v := .int .i64 (((mget aR4.F (⟨#[116]⟩, ⟨#[120]⟩)).getD 0))) rfl (by kernel_rfl) (wantT (g := 19) (d := 65) rfl rfl rfl) (CallsF.fn rfl (by kernel_rfl) rfl rfl) (fun hf => fence_spec aR4.F G_t4 aR4.S hb_ hf_t4 hg_t4 okF_t4 okG_t4 hS (ne_f_g) (⟨#[116]⟩ : ByteArray) (⟨#[120]⟩ : ByteArray)) hf rfl ?_
  intro n84 hn2 hf
  have hn := Nat.le_trans hn hn2
  refine dk.c (v := .bool (decide ((((mget aR4.F (⟨#[116]⟩, ⟨#[120]⟩)).getD 0)) = (2 : Int)))) rfl (by kernel_rfl) (wantT (g := 19) (d := 65) rfl rfl rfl) rfl rfl rfl ?_
  refine dk.c (v := .bool (decide ((((mget aR4.F (⟨#[116]⟩, ⟨#[120]⟩)).getD 0)) = (2 : Int)))) rfl (by kernel_rfl) rfl rfl rfl rfl ?_
  refine dk.c (v := .bool (decide ((((mget aR4.F (⟨#[116]⟩, ⟨#[120]⟩)).getD 0)) = (2 : Int)))) rfl (by kernel_rfl) rfl rfl rfl rfl ?_
  by_cases c6_22 : (((mget aR4.F (⟨#[116]⟩, ⟨#[120]⟩)).getD 0)) = (2 : Int)
  ·rw [decide_eq_true c6_22]
   refine dk.c (v := .int .i64 (61)) rfl (by kernel_rfl) (wantT (g := 24) (d := 70) rfl rfl rfl) rfl rfl rfl ?_
   refine dk.c (v := .bool true) rfl (by kernel_rfl) (wantT (g := 24) (d := 70) rfl rfl rfl) rfl rfl rfl ?_
   refine dk.c (v := .bool true) rfl (by kernel_rfl) rfl rfl rfl rfl ?_
   refine dk.c (v := .bool true) rfl (by kernel_rfl) rfl rfl rfl rfl ?_
   refine dk.c (v := .int .i64 (0)) rfl (by kernel_rfl) (wantT (g := 28) (d := 74) rfl rfl rfl) rfl rfl rfl ?_
   refine dk.c (v := .bool true) rfl (by kernel_rfl) (wantT (g := 28) (d := 74) rfl rfl rfl) rfl rfl rfl ?_
   refine dk.c (v := .bool true) rfl (by kernel_rfl) rfl rfl rfl rfl ?_
   refine dk.c (v := .bool true) rfl (by kernel_rfl) rfl rfl rfl rfl ?_
   refine dk.c (v := .pointer (some ⟨n48, 5, none⟩)) rfl (by kernel_rfl) (wantT (g := 32) (d := 78) rfl rfl rfl) rfl (by kernel_rfl) rfl ?_
   refine dk.gB (v := .bool false) n48 rfl (by kernel_rfl) (wantT (g := 32) (d := 78) rfl rfl rfl) rfl (fun _ q_ => (ld1 (P := Tryd.prog) (t := 4) (p := 5) (v := .bool false) (by kernel_rfl) (by kernel_rfl) (q_ _ hb54) rfl)) rfl ?_
   refine dk.c (v := .bool true) rfl (by kernel_rfl) (wantT (g := 32) (d := 78) rfl rfl rfl) rfl rfl rfl ?_
   refine dk.c (v := .bool true) rfl (by kernel_rfl) rfl rfl rfl rfl ?_
   refine dk.c (v := .bool true) rfl (by kernel_rfl) rfl rfl rfl rfl ?_
   refine dk.c (v := .pointer (some ⟨n48, 4, none⟩)) rfl (by kernel_rfl) (wantT (g := 37) (d := 83) rfl rfl rfl) rfl (by kernel_rfl) rfl ?_
   refine dk.gB (v := .int .i64 (2)) n48 rfl (by kernel_rfl) (wantT (g := 37) (d := 83) rfl rfl rfl) rfl (fun _ q_ => (ld1 (P := Tryd.prog) (t := 3) (p := 4) (v := .int .i64 (2)) (by kernel_rfl) (by kernel_rfl) (q_ _ hb54) rfl)) rfl ?_
   refine dk.c (v := .bool true) rfl (by kernel_rfl) (wantT (g := 37) (d := 83) rfl rfl rfl) rfl rfl rfl ?_
   refine dk.c (v := .bool true) rfl (by kernel_rfl) rfl rfl rfl rfl ?_
   refine dk.c (v := .bool true) rfl (by kernel_rfl) rfl rfl rfl rfl ?_
   refine dk.c (v := .pointer (some ⟨n48, 0, none⟩)) rfl (by kernel_rfl) (wantT (g := 42) (d := 88) rfl rfl rfl) rfl (by kernel_rfl) rfl ?_
   refine dk.gB (v := .agg #[.string (bT), .string (bX), .int .i64 (2), .slice a_t3 (os_t3.length) c_t3]) n48 rfl (by kernel_rfl) (wantT (g := 42) (d := 88) rfl rfl rfl) rfl (fun _ q_ => (ldA (P := Tryd.prog) (t := 31) (p := 0) (k := 4) (xs := [.string (bT), .string (bX), .int .i64 (2), .slice a_t3 (os_t3.length) c_t3]) (by kernel_rfl) (by kernel_rfl) (q_ _ hb54) rfl (Nat.le_of_ble_eq_true rfl))) rfl ?_
   refine dk.c (v := .agg #[.int .i64 (20), .int .u64 (1)]) rfl (by kernel_rfl) (wantT (g := 42) (d := 88) rfl rfl rfl) rfl (by kernel_rfl) rfl ?_
   refine dk.op rfl (by kernel_rfl) (wantT (g := 42) (d := 88) rfl rfl rfl) rfl (Does.build (e := 53) (cs := [.int .i64 (20), .int .u64 (1)]) hf (fun _ _ => by kernel_rfl)) (keepC (by simp) (keepC (by simp) (keepC (by simp) (keepC (by simp) (keepC (by simp) (keepC (by simp) keepN)))))) ?_
   rintro _ h86 n87 ⟨rfl, hb85⟩ s88 hn2 hf
   refine dk.w ?_
   have W_t3 := W_t3.keep (.of0 s88)
   have D_t3 := D_t3.keep (.of0 s88)
   have hS := hS.keep (.of0 s88)
   have D_t4 := D_t4.keep (.of0 s88)
   have hb_ := s88.sub _ _ hb_
   have hf_t4 := s88.sub _ _ hf_t4
   have hg_t4 := s88.sub _ _ hg_t4
   have hb72 := s88.sub _ _ hb72
   have hs := hs.trans s88
   have hn := Nat.le_trans hn hn2
   refine dk.k rfl (by kernel_rfl) (wantT (g := 42) (d := 88) rfl rfl rfl) (CallsF.fn rfl (by kernel_rfl) rfl rfl) (batch_spec (⟨#[120]⟩ : ByteArray) 2 [(20, 1)] (IsRow.of (E := encSmp) (xs := [(20, 1)]) (cap := 1) hb85 (Nat.le_refl _))) (keepC (by simp) (keepC (by simp) (keepC (by simp) (keepC (by simp) (keepC (by simp) (keepC (by simp) keepN)))))) ?_
   rintro _ h89 n90 ⟨w_b88, r_b88, rfl, R_b88, E_b88⟩ s91 hn2 hf
   obtain ⟨a_b88, c_b88, e_b88⟩ := R_b88.slice
   cases e_b88
   change IsRow encSer _ (.slice a_b88 1 c_b88) [r_b88] at R_b88
   refine dk.w ?_
   have W_t3 := W_t3.keep (.of0 s91)
   have D_t3 := D_t3.keep (.of0 s91)
   have hS := hS.keep (.of0 s91)
   have D_t4 := D_t4.keep (.of0 s91)
   have hb_ := s91.sub _ _ hb_
   have hf_t4 := s91.sub _ _ hf_t4
   have hg_t4 := s91.sub _ _ hg_t4
   have hb72 := s91.sub _ _ hb72
   have hs := hs.trans s91
   have hn := Nat.le_trans hn hn2
   refine dk.t (v := .bool (decide (bT = bT ∧ bX = ⟨#[120]⟩ ∧ (2 : Int) = 2 ∧ aR3.kb.ser = [(labAB, [(20, 1)])]))) rfl (by kernel_rfl) (wantT (g := 42) (d := 88) rfl rfl rfl) (CallsF.fn rfl (by kernel_rfl) rfl rfl) (fun hf => sameBat_spec bT bX bT ⟨#[120]⟩ 2 2 _ _ aR3.kb.ser [(labAB, [(20, 1)])] W_t3.is D_t3.is R_b88 E_b88 (by rw [D_t3.1]; decide) (by decide)) hf rfl ?_
   intro n92 hn2 hf
   have hn := Nat.le_trans hn hn2
   refine dk.c (v := .bool (decide (bT = bT ∧ bX = ⟨#[120]⟩ ∧ (2 : Int) = 2 ∧ aR3.kb.ser = [(labAB, [(20, 1)])]))) rfl (by kernel_rfl) rfl rfl rfl rfl ?_
   refine dk.c (v := .bool (decide (bT = bT ∧ bX = ⟨#[120]⟩ ∧ (2 : Int) = 2 ∧ aR3.kb.ser = [(labAB, [(20, 1)])]))) rfl (by kernel_rfl) rfl rfl rfl rfl ?_
   rcases Bool.eq_false_or_eq_true (decide (bT = bT ∧ bX = ⟨#[120]⟩ ∧ (2 : Int) = 2 ∧ aR3.kb.ser = [(labAB, [(20, 1)])])) with c6_48 | c6_48
   ·rw [c6_48]
    refine dk.c (v := .int .i64 (0)) rfl (by kernel_rfl) (wantT (g := 50) (d := 96) rfl rfl rfl) rfl rfl rfl ?_
    refine dk.c (v := .bool true) rfl (by kernel_rfl) (wantT (g := 50) (d := 96) rfl rfl rfl) rfl rfl rfl ?_
    refine dk.c (v := .bool true) rfl (by kernel_rfl) rfl rfl rfl rfl ?_
    refine dk.c (v := .bool true) rfl (by kernel_rfl) rfl rfl rfl rfl ?_
    refine dk.c (v := .pointer (some ⟨n66, 5, none⟩)) rfl (by kernel_rfl) (wantT (g := 54) (d := 100) rfl rfl rfl) rfl (by kernel_rfl) rfl ?_
    refine dk.gB (v := .bool false) n66 rfl (by kernel_rfl) (wantT (g := 54) (d := 100) rfl rfl rfl) rfl (fun _ q_ => (ld1 (P := Tryd.prog) (t := 4) (p := 5) (v := .bool false) (by kernel_rfl) (by kernel_rfl) (q_ _ hb72) rfl)) rfl ?_
    refine dk.c (v := .bool true) rfl (by kernel_rfl) (wantT (g := 54) (d := 100) rfl rfl rfl) rfl rfl rfl ?_
    refine dk.c (v := .bool true) rfl (by kernel_rfl) rfl rfl rfl rfl ?_
    refine dk.c (v := .bool true) rfl (by kernel_rfl) rfl rfl rfl rfl ?_
    refine dk.c (v := .pointer (some ⟨n66, 4, none⟩)) rfl (by kernel_rfl) (wantT (g := 59) (d := 105) rfl rfl rfl) rfl (by kernel_rfl) rfl ?_
    refine dk.gB (v := .int .i64 (0)) n66 rfl (by kernel_rfl) (wantT (g := 59) (d := 105) rfl rfl rfl) rfl (fun _ q_ => (ld1 (P := Tryd.prog) (t := 3) (p := 4) (v := .int .i64 (0)) (by kernel_rfl) (by kernel_rfl) (q_ _ hb72) rfl)) rfl ?_
    refine dk.c (v := .bool true) rfl (by kernel_rfl) (wantT (g := 59) (d := 105) rfl rfl rfl) rfl rfl rfl ?_
    refine dk.c (v := .bool true) rfl (by kernel_rfl) rfl rfl rfl rfl ?_
    refine dk.c (v := .bool true) rfl (by kernel_rfl) rfl rfl rfl rfl ?_
    refine dk.c (v := .pointer (some ⟨n66, 0, none⟩)) rfl (by kernel_rfl) (wantT (g := 64) (d := 110) rfl rfl rfl) rfl (by kernel_rfl) rfl ?_
    refine dk.c (v := .pointer (some ⟨n66, 3, none⟩)) rfl (by kernel_rfl) (wantT (g := 64) (d := 110) rfl rfl rfl) rfl (by kernel_rfl) rfl ?_
    refine dk.gB (v := .slice a_t4 (os_t4.length) c_t4) n66 rfl (by kernel_rfl) (wantT (g := 64) (d := 110) rfl rfl rfl) rfl (fun _ q_ => (ld1 (P := Tryd.prog) (t := 29) (p := 3) (v := .slice a_t4 (os_t4.length) c_t4) (by kernel_rfl) (by kernel_rfl) (q_ _ hb72) rfl)) rfl ?_
    refine dk.c (v := .int .i64 (((os_t4.length : Nat) : Int))) rfl (by kernel_rfl) (wantT (g := 64) (d := 110) rfl rfl rfl) rfl (by kernel_rfl) rfl ?_
    refine dk.c (v := .bool (decide ((((os_t4.length : Nat) : Int)) = (0 : Int)))) rfl (by kernel_rfl) (wantT (g := 64) (d := 110) rfl rfl rfl) rfl rfl rfl ?_
    refine dk.c (v := .bool (decide ((((os_t4.length : Nat) : Int)) = (0 : Int)))) rfl (by kernel_rfl) rfl rfl rfl rfl ?_
    refine dk.c (v := .bool (decide ((((os_t4.length : Nat) : Int)) = (0 : Int)))) rfl (by kernel_rfl) rfl rfl rfl rfl ?_
    by_cases c6_69 : (((os_t4.length : Nat) : Int)) = (0 : Int)
    ·rw [decide_eq_true c6_69]
     refine dk.c (v := .pointer (some ⟨b, 0, none⟩)) rfl (by kernel_rfl) (wantT (g := 71) (d := 117) rfl rfl rfl) rfl rfl rfl ?_
     refine dk.k rfl (by kernel_rfl) (wantT (g := 71) (d := 117) rfl rfl rfl) (CallsF.fn rfl (by kernel_rfl) rfl rfl) (makes_fz (fencesX_spec aR4.F G_t4 aR4.S hb_ hf_t4 hg_t4 okF_t4 okG_t4 hS (ne_f_g) (by decide))) (keepC (by simp) (keepC (by simp) (keepC (by simp) (keepC (by simp) (keepC (by simp) (keepC (by simp) (keepC (by simp) (keepC (by simp) (keepC (by simp) keepN))))))))) ?_
     rintro v_e92 h93 n94 R_e92 s95 hn2 hf
     obtain ⟨a_e92, c_e92, rfl⟩ := R_e92.slice
     refine dk.w ?_
     have hs := hs.trans s95
     have hn := Nat.le_trans hn hn2
     refine dk.c (v := .int .i64 ((((fencesV aR4.F).length : Nat) : Int))) rfl (by kernel_rfl) (wantT (g := 71) (d := 117) rfl rfl rfl) rfl (by kernel_rfl) rfl ?_
     refine dk.c (v := .bool (decide (((((fencesV aR4.F).length : Nat) : Int)) = (1 : Int)))) rfl (by kernel_rfl) (wantT (g := 71) (d := 117) rfl rfl rfl) rfl rfl rfl ?_
     refine dk.c (v := .bool (decide (((((fencesV aR4.F).length : Nat) : Int)) = (1 : Int)))) rfl (by kernel_rfl) rfl rfl rfl rfl ?_
     refine dk.c (v := .bool (decide (((((fencesV aR4.F).length : Nat) : Int)) = (1 : Int)))) rfl (by kernel_rfl) rfl rfl rfl rfl ?_
     refine dk.e ?_
     refine AWp.ret ?_
     refine ⟨rfl, [.bool (decide (((((fencesV aR4.F).length : Nat) : Int)) = (1 : Int)))], rfl, .bool (decide (((((fencesV aR4.F).length : Nat) : Int)) = (1 : Int))), rfl, hs, hn, ?_⟩
     exact congrArg Value.bool (decide_eq_true (by unfold fencesV; rw [List.length_map, keysP_len]; rfl))
    ·exfalso
     exact c6_69 (by rw [D_t4.1]; rfl)
   ·exfalso
    exact absurd (c6_48.symm.trans (show _ = true by kernel_rfl)) Bool.false_ne_true
  ·exfalso
   exact c6_22 (by kernel_rfl)
 ·exfalso
  exact absurd (c6_17.symm.trans (show _ = true by kernel_rfl)) Bool.false_ne_true
end Go.Proofs.YtkpaklofdkjinaaDoor
namespace Go.Proofs.YtkpaklofdkjinaaDoor
open Go Go.Abs Go.RowKit Go.Shelf
set_option maxHeartbeats 4000000
theorem takeP_no {P : PSt} {b : Bat} (h : ¬ (takeP P b).e = 0) : (takeP P b).bad = 0 ∧ (takeP P b).rose = false ∧ (takeP P b).kb.ser = [] ∧ (takeP P b).st = P := by
  unfold takeP takeR at *
  split
  · exact ⟨rfl, rfl, rfl, rfl⟩
  · rename_i hm
    rw [if_neg hm] at h
    split
    · rename_i hc
      rw [if_pos hc] at h
      exact absurd rfl h
    · rename_i hc
      rw [if_neg hc] at h
      split
      · exact ⟨rfl, rfl, rfl, rfl⟩
      · rename_i hl
        rw [if_neg hl] at h
        exact absurd rfl h
theorem takeP_1 {P : PSt} {b : Bat} (hm : mayBat b = true) (hc : b.clu = ⟨#[]⟩) : takeP P b = takeOk P.F P.kf b (foldT b.ten ⟨P.S, P.kg, [], 0⟩ b.ser) false := by
  unfold takeP takeR
  rw [if_neg (by rw [hm]; simp), if_pos hc]
theorem takeP_2 {P : PSt} {b : Bat} (hm : mayBat b = true) (hc : ¬ b.clu = ⟨#[]⟩) (hl : b.epo < (mget P.F (b.ten, b.clu)).getD 0) : takeP P b = takeNo 61 P.F P.kf P.S P.kg := by
  unfold takeP takeR
  rw [if_neg (by rw [hm]; simp), if_neg hc, if_pos hl]
theorem takeP_3 {P : PSt} {b : Bat} (hm : mayBat b = true) (hc : ¬ b.clu = ⟨#[]⟩) (hl : ¬ b.epo < (mget P.F (b.ten, b.clu)).getD 0) : takeP P b = takeOk (mset P.F P.kf (b.ten, b.clu) b.epo) (mck P.F P.kf (b.ten, b.clu)) b (foldT b.ten ⟨P.S, P.kg, [], 0⟩ b.ser) (decide ((mget P.F (b.ten, b.clu)).getD 0 < b.epo)) := by
  unfold takeP takeR
  rw [if_neg (by rw [hm]; simp), if_neg hc, if_neg hl]
theorem takeP_0 {P : PSt} {b : Bat} (hm : mayBat b = false) : takeP P b = takeNo 4 P.F P.kf P.S P.kg := by
  unfold takeP takeR
  rw [if_pos hm]
/-! The same states. -/
theorem mget_of {κ ν : Type} [DecidableEq κ] {L : List (κ × ν × Nat)} (hn : (L.map fun x => x.1).Nodup) {x : κ × ν × Nat} (hx : x ∈ L) : mget L x.1 = some x.2.1 := by
  unfold mget
  induction L with
  | nil => cases hx
  | cons a L ih =>
    simp only [List.map_cons, List.nodup_cons] at hn
    rcases List.mem_cons.1 hx with rfl | hx
    · rw [List.find?_cons_of_pos (by simp)]; rfl
    · have : ¬ a.1 = x.1 := fun e => hn.1 (e ▸ List.mem_map.2 ⟨x, hx, rfl⟩)
      rw [List.find?_cons_of_neg (by simpa using this)]
      exact ih hn.2 hx
theorem eqM_of {A B : FM} (hn : (A.map fun x => x.1).Nodup) (hl : A.length = B.length) (h : ∀ k, mget A k = mget B k) : eqM A B = true := by
  unfold eqM
  rw [decide_eq_true hl, Bool.true_and, List.all_eq_true]
  intro x hx
  rw [← h, mget_of hn hx]
  simp
theorem eqSt_of {A B : SP} (hn : (A.map fun x => x.1).Nodup) (hl : A.length = B.length) (h : ∀ k, mget A k = mget B k) : eqSt A B = true := by
  unfold eqSt
  rw [decide_eq_true hl, Bool.true_and, List.all_eq_true]
  intro x hx
  rw [← h, mget_of hn hx]
  simp
theorem same_refl {i : Nat} {P : PSt} (q : PInv i P) : (eqM P.F P.F && eqSt P.S P.S) = true := by
  rw [eqM_of q.okF.keys rfl fun _ => rfl, eqSt_of q.okS.keys rfl fun _ => rfl]; rfl
end Go.Proofs.YtkpaklofdkjinaaDoor
namespace Go.Abs
open Go
def Apt (a b : Nat) : Prop := a ≠ b
theorem got_apt {h : Heap} {a b : Nat} {o : AObj} (e : h.get a = some o) (z : h.get b = none) : Apt a b := fun q => by rw [q, z] at e; cases e
end Go.Abs
namespace Go.Proofs.YtkpaklofdkjinaaDoor
open Go Go.Abs Go.RowKit Go.Shelf
set_option maxRecDepth 100000
set_option maxHeartbeats 8000000
structure At (h : Heap) (P : PSt) (b f g : Nat) (c : CI) (G : SM) : Prop where
  hb : h.get b = some (.cells [.map (some f), .map (some g)] true c)
  hf : h.get f = some (.map (mapE plV intV P.F) P.kf)
  hg : h.get g = some (.map (mapE plV ownV G) P.kg)
  okF : MOk P.F P.kf
  okG : MOk G P.kg
  hS : SMIs h G P.S
  ne : f ≠ g
section
variable {h : Heap} {n b f g i : Nat} {c : CI} {P : PSt} {G : SM}
theorem takeOn (s : At h P b f g c G) {a : Option Addr} {cp : Nat} (y : Bat) (rs : List RSer) (hr : IsRow encSer h (.slice a rs.length cp) rs) (hd : SersIs h rs y.ser) (hld : Laid0 h) (q : PInv i P) (hi : i ≤ 100) (hsb : SmallB y) {R : TkR} (hR : R = takeP P y) :
    Makes Tryd.prog 13 [.pointer (some ⟨b, 0, none⟩), .agg #[.string y.ten, .string y.clu, .int .i64 y.epo, .slice a rs.length cp]] h n [f, g] fun v h2 _ => ∃ w os G2, v = .tuple #[.agg #[.string R.kb.ten, .string R.kb.clu, .int .i64 R.kb.epo, w, .int .i64 R.bad, .bool R.rose], .int .i64 R.e] ∧ FRow encSer h2 w os ∧ FSers h2 os R.kb.ser ∧ h2.get f = some (.map (mapE plV intV R.F) R.kf) ∧ h2.get g = some (.map (mapE plV ownV G2) R.kg) ∧ MOk R.F R.kf ∧ MOk G2 R.kg ∧ SMIs h2 G2 R.S := by
  have h1 := hsb.1
  have h2 := hsb.2.1
  exact takeSt P.F G P.S s.hb s.hf s.hg s.okF s.okG s.hS s.ne y.ten y.clu y.epo rs y.ser hr hd hld hsb.2.2 (by omega) (by omega) q.inv (by omega) hR
theorem copyOn (s : At h P b f g c G) : Makes Tryd.prog 20 [.pointer (some ⟨b, 0, none⟩)] h n [] fun v h2 _ => ∃ b2 f2 g2, v = .pointer (some ⟨b2, 0, none⟩) ∧ h2.get b2 = some (.cells [.map (some f2), .map (some g2)] true ⟨69, 0, true⟩) ∧ h2.get f2 = some (.map (mapE plV intV P.F) P.kf) ∧ h2.get g2 = some (.map (mapE plV ownV G) P.kg) ∧ h.get b2 = none ∧ h.get f2 = none ∧ h.get g2 = none ∧ f2 ≠ g2 :=
  copy_spec P.F G P.S s.hb s.hf s.hg s.okF s.okG s.hS s.ne
theorem sameOn {b' f' g' j : Nat} {c' : CI} {P' : PSt} {G' : SM} (s : At h P b f g c G) (s' : At h P' b' f' g' c' G') (q : PInv i P) (hi : i ≤ 100) (q' : PInv j P') (hj : j ≤ 100) :
    Tells Tryd.prog 22 [.pointer (some ⟨b, 0, none⟩), .pointer (some ⟨b', 0, none⟩)] h n (.bool (eqM P.F P'.F && eqSt P.S P'.S)) := by
  have h1 := q.lenF
  have h2 := q'.lenF
  have h3 := q.lenS
  have h4 := q'.lenS
  exact same_spec P.F G P.S s.hb s.hf s.hg s.okF s.okG s.hS s.ne P'.F G' P'.S s'.hb s'.hf s'.hg s'.okF s'.okG s'.hS s'.ne (by omega) (by omega) (by rw [s.hS.1]; omega) (by rw [s'.hS.1]; omega) (fun x hx => by have := (q.inv x hx).2.1; omega)
end
theorem PInv.up {i j : Nat} {P : PSt} (q : PInv i P) (h : i ≤ j) : PInv j P := ⟨q.inv.up (by omega), by have := q.lenF; omega, by have := q.lenS; omega, q.fen, q.okF, q.okS⟩
end Go.Proofs.YtkpaklofdkjinaaDoor
namespace Go.Proofs.YtkpaklofdkjinaaDoor
open Go Go.Abs Go.RowKit Go.Shelf
set_option maxHeartbeats 4000000
theorem low_app {xs : List Samp} {t : Int} (h : low xs t < xs.length) (zs : List Samp) : low (xs ++ zs) t = low xs t := by
  unfold low at *
  induction xs with
  | nil => simp at h
  | cons a xs ih =>
    rw [List.cons_append, List.takeWhile_cons, List.takeWhile_cons]
    rw [List.takeWhile_cons] at h
    split
    · rename_i ha
      rw [if_pos ha] at h
      simp only [List.length_cons] at h ⊢
      rw [ih (by omega)]
    · rfl
theorem low_end {xs : List Samp} {t : Int} (h : low xs t = xs.length) {y : Samp} (hy : y.1 = t) (zs : List Samp) : low (xs ++ y :: zs) t = xs.length := by
  unfold low at *
  induction xs with
  | nil => rw [List.nil_append, List.takeWhile_cons, if_neg (by simp; omega)]
  | cons a xs ih =>
    rw [List.takeWhile_cons] at h
    rw [List.cons_append, List.takeWhile_cons]
    split
    · rename_i ha
      rw [if_pos ha] at h
      simp only [List.length_cons] at h ⊢
      rw [ih (by omega)]
    · rename_i ha
      rw [if_neg ha] at h
      simp at h
theorem judge_app {xs : List Samp} {y : Samp} (h : judge xs y ≠ 1) (zs : List Samp) : judge (xs ++ zs) y = judge xs y := by
  unfold judge at *
  split
  · rfl
  · rename_i hm
    rw [if_neg hm] at h
    have hl : low xs y.1 < xs.length := by
      rcases Nat.lt_or_ge (low xs y.1) xs.length with q | q
      · exact q
      · rw [List.getElem?_eq_none q] at h; exact absurd rfl h
    rw [low_app hl, List.getElem?_append_left hl]
theorem judge_new {xs : List Samp} {y : Samp} (h : judge xs y = 1) (zs : List Samp) : judge (xs ++ y :: zs) y = 2 := by
  unfold judge at *
  split
  · rename_i hm
    rw [if_pos hm] at h
    omega
  · rename_i hm
    rw [if_neg hm] at h
    have hl : low xs y.1 = xs.length := by
      rcases Nat.lt_or_ge (low xs y.1) xs.length with q | q
      · rw [List.getElem?_eq_getElem q] at h
        simp only at h
        split at h
        · split at h <;> omega
        · omega
      · have := low_le xs y.1; omega
    rw [low_end hl rfl, List.getElem?_append_right (Nat.le_refl _), Nat.sub_self]
    simp
theorem putS_twice : ∀ (ys xs zs : List Samp), keptV ys (putS ((putS xs ys).1 ++ zs) ys).2 = [] ∧ badV (putS ((putS xs ys).1 ++ zs) ys).2 = badV (putS xs ys).2 ∧ (putS ((putS xs ys).1 ++ zs) ys).1 = (putS xs ys).1 ++ zs
  | [], xs, zs => by simp [putS, keptV]
  | y :: ys, xs, zs => by
    have bcons : ∀ (v : Int) (vs : List Int), badV (v :: vs) = (if v = 3 ∨ v = 4 then 1 else 0) + badV vs := fun v vs => by
      unfold badV
      rw [List.filter_cons]
      by_cases h : v = 3 ∨ v = 4
      · rw [if_pos h, if_pos (by simpa using h), List.length_cons]; omega
      · rw [if_neg h, if_neg (by simpa using h)]; omega
    by_cases h : judge xs y = 1
    · have e : putS xs (y :: ys) = ((putS (xs ++ [y]) ys).1, 1 :: (putS (xs ++ [y]) ys).2) := by simp [putS, h]
      rw [e]
      simp only
      obtain ⟨i1, i2, i3⟩ := putS_twice ys (xs ++ [y]) zs
      have hz : judge ((putS (xs ++ [y]) ys).1 ++ zs) y = 2 := by
        rw [putS_kept ys (xs ++ [y]), List.append_assoc, List.append_assoc]
        exact judge_new h _
      have e2 : putS ((putS (xs ++ [y]) ys).1 ++ zs) (y :: ys) = ((putS ((putS (xs ++ [y]) ys).1 ++ zs) ys).1, 2 :: (putS ((putS (xs ++ [y]) ys).1 ++ zs) ys).2) := by
        rw [putS, hz]; simp
      rw [e2]
      refine ⟨by simpa [keptV] using i1, ?_, i3⟩
      rw [bcons, bcons, i2]; simp
    · have e : putS xs (y :: ys) = ((putS xs ys).1, judge xs y :: (putS xs ys).2) := by simp [putS, h]
      rw [e]
      simp only
      obtain ⟨i1, i2, i3⟩ := putS_twice ys xs zs
      have hz : judge ((putS xs ys).1 ++ zs) y = judge xs y := by
        rw [putS_kept ys xs, List.append_assoc]
        exact judge_app h _
      have e2 : putS ((putS xs ys).1 ++ zs) (y :: ys) = ((putS ((putS xs ys).1 ++ zs) ys).1, judge xs y :: (putS ((putS xs ys).1 ++ zs) ys).2) := by
        rw [putS, hz, if_neg h]
      rw [e2]
      refine ⟨by simpa [keptV, h] using i1, ?_, i3⟩
      rw [bcons, bcons, i2]
def Pre (S T : SP) : Prop := ∀ k, ∃ zs, wasOf T k = wasOf S k ++ zs
theorem Pre.refl (S : SP) : Pre S S := fun _ => ⟨[], by simp⟩
theorem Pre.trans {S T U : SP} (a : Pre S T) (b : Pre T U) : Pre S U := fun k => by
  obtain ⟨x, hx⟩ := a k
  obtain ⟨y, hy⟩ := b k
  exact ⟨x ++ y, by rw [hy, hx, List.append_assoc]⟩
theorem was_pS (S : SP) (ck : Nat) (ten : ByteArray) (s : Ser) (k : Pl) : wasOf (pS S ck ten s) k = if k = (ten, keyA s.1) then (pPut S ten s).1 else wasOf S k := by
  unfold pS
  by_cases hk : pKept S ten s = []
  · rw [if_pos hk]
    split
    · rename_i e
      rw [e]
      show _ = (putS _ _).1
      rw [putS_kept]
      have : keptV s.2 (putS (wasOf S (ten, keyA s.1)) s.2).2 = [] := hk
      rw [this, List.append_nil]
    · rfl
  · rw [if_neg hk]
    unfold wasOf
    rw [mget_mset]
    split
    · rename_i e; rfl
    · rfl
theorem Pre.put (S : SP) (ck : Nat) (ten : ByteArray) (s : Ser) : Pre S (pS S ck ten s) := fun k => by
  rw [was_pS]
  split
  · rename_i e
    rw [e]
    exact ⟨_, putS_kept s.2 _⟩
  · exact ⟨[], by simp⟩
theorem Pre.fold (ten : ByteArray) : ∀ (ss : List Ser) (R : TSt), Pre R.S (foldT ten R ss).S := by
  intro ss
  induction ss with
  | nil => intro R; exact .refl _
  | cons s ss ih => intro R; exact (Pre.put R.S R.ck ten s).trans (ih (stepT ten R s))
theorem foldT_twice (ten : ByteArray) : ∀ (ss : List Ser) (R : TSt) (Z : SP) (ck : Nat) (ks : List Ser) (bad : Int), Pre (foldT ten R ss).S Z → foldT ten ⟨Z, ck, ks, bad⟩ ss = ⟨Z, ck, ks, bad + ((foldT ten R ss).bad - R.bad)⟩ := by
  intro ss
  induction ss with
  | nil => intro R Z ck ks bad _; show _ = _; simp [foldT]
  | cons s ss ih =>
    intro R Z ck ks bad hp
    have hp2 : Pre (stepT ten R s).S Z := (Pre.fold ten ss (stepT ten R s)).trans hp
    obtain ⟨zs, hz⟩ := hp2 (ten, keyA s.1)
    rw [show (stepT ten R s).S = pS R.S R.ck ten s from rfl, was_pS, if_pos rfl] at hz
    obtain ⟨i1, i2, i3⟩ := putS_twice s.2 (wasOf R.S (ten, keyA s.1)) zs
    have hk : pKept Z ten s = [] := by
      show keptV s.2 (putS (wasOf Z (ten, keyA s.1)) s.2).2 = []
      rw [hz]; exact i1
    have hb : pBad Z ten s = pBad R.S ten s := by
      show badV (putS (wasOf Z (ten, keyA s.1)) s.2).2 = badV (putS _ s.2).2
      rw [hz]; exact i2
    have e : foldT ten ⟨Z, ck, ks, bad⟩ (s :: ss) = foldT ten (stepT ten ⟨Z, ck, ks, bad⟩ s) ss := rfl
    have e1 : stepT ten ⟨Z, ck, ks, bad⟩ s = ⟨Z, ck, ks, bad + pBad R.S ten s⟩ := by
      unfold stepT pS pCk
      simp [hk, hb]
    rw [e, e1, ih (stepT ten R s) Z ck ks _ hp]
    have e2 : foldT ten R (s :: ss) = foldT ten (stepT ten R s) ss := rfl
    rw [e2]
    congr 1
    show bad + pBad R.S ten s + (_ - (R.bad + pBad R.S ten s)) = _
    omega
theorem mset_same {κ ν : Type} [DecidableEq κ] (L : List (κ × ν × Nat)) (ck ck2 : Nat) (k : κ) (v : ν) : mset (mset L ck k v) ck2 k v = mset L ck k v ∧ mck (mset L ck k v) ck2 k = ck2 := by
  have hi : ∃ i, midx (mset L ck k v) k = some i := by
    cases e : midx (mset L ck k v) k with
    | none =>
      have := (midx_none e).1
      rw [mget_mset, if_pos rfl] at this
      cases this
    | some i => exact ⟨i, rfl⟩
  obtain ⟨i, hi⟩ := hi
  have hmm := mset_mset L ck ck2 k v v
  refine ⟨?_, ?_⟩
  · obtain ⟨v', s, h1, h2⟩ := midx_get hi
    rw [mget_mset, if_pos rfl] at h2
    cases h2
    have e1 : mset (mset L ck k v) ck2 k v = (mset L ck k v).modify i fun x => (k, v, x.2.2) := by
      show (match midx (mset L ck k v) k with | some j => _ | none => _) = _
      rw [hi]
    rw [e1]
    apply List.ext_getElem?
    intro j
    rw [List.getElem?_modify]
    by_cases hj : i = j
    · subst hj
      rw [h1]; simp
    · cases (mset L ck k v)[j]? <;> simp [hj]
  · unfold mck
    rw [hi]
theorem take_twice (P : PSt) (b : Bat) : (takeP (takeP P b).st b).e = (takeP P b).e ∧ (takeP (takeP P b).st b).bad = (takeP P b).bad ∧ (takeP (takeP P b).st b).rose = false ∧ (takeP (takeP P b).st b).kb.ser = [] ∧ (takeP (takeP P b).st b).st = (takeP P b).st := by
  by_cases h : (takeP P b).e = 0
  · cases hm : mayBat b with
    | false => rw [takeP_0 hm] at h; cases h
    | true =>
      have ft : ∀ ck, foldT b.ten ⟨(foldT b.ten ⟨P.S, P.kg, [], 0⟩ b.ser).S, ck, [], 0⟩ b.ser = ⟨(foldT b.ten ⟨P.S, P.kg, [], 0⟩ b.ser).S, ck, [], (foldT b.ten ⟨P.S, P.kg, [], 0⟩ b.ser).bad⟩ := fun ck => by
        rw [foldT_twice b.ten b.ser ⟨P.S, P.kg, [], 0⟩ _ ck [] 0 (.refl _)]
        congr 1
        show 0 + (_ - 0) = _
        omega
      by_cases hc : b.clu = ⟨#[]⟩
      · rw [takeP_1 hm hc, takeP_1 hm hc]
        exact ⟨rfl, (congrArg TSt.bad (ft (foldT b.ten ⟨P.S, P.kg, [], 0⟩ b.ser).ck)).trans rfl, rfl, (congrArg TSt.ks (ft (foldT b.ten ⟨P.S, P.kg, [], 0⟩ b.ser).ck)).trans rfl, (congrArg (fun T : TSt => PSt.mk P.F P.kf T.S T.ck) (ft (foldT b.ten ⟨P.S, P.kg, [], 0⟩ b.ser).ck)).trans rfl⟩
      · by_cases hl : b.epo < (mget P.F (b.ten, b.clu)).getD 0
        · rw [takeP_2 hm hc hl] at h; cases h
        · rw [takeP_3 hm hc hl]
          have hg : (mget (mset P.F P.kf (b.ten, b.clu) b.epo) (b.ten, b.clu)).getD 0 = b.epo := by rw [mget_mset, if_pos rfl]; rfl
          have hl2 : ¬ b.epo < (mget (takeOk (mset P.F P.kf (b.ten, b.clu) b.epo) (mck P.F P.kf (b.ten, b.clu)) b (foldT b.ten ⟨P.S, P.kg, [], 0⟩ b.ser) (decide ((mget P.F (b.ten, b.clu)).getD 0 < b.epo))).st.F (b.ten, b.clu)).getD 0 := by
            show ¬ b.epo < (mget (mset P.F P.kf (b.ten, b.clu) b.epo) (b.ten, b.clu)).getD 0
            rw [hg]; omega
          rw [takeP_3 hm hc hl2]
          refine ⟨rfl, (congrArg TSt.bad (ft (foldT b.ten ⟨P.S, P.kg, [], 0⟩ b.ser).ck)).trans rfl, decide_eq_false ?_, (congrArg TSt.ks (ft (foldT b.ten ⟨P.S, P.kg, [], 0⟩ b.ser).ck)).trans rfl, ?_⟩
          · show ¬ (mget (mset P.F P.kf (b.ten, b.clu) b.epo) (b.ten, b.clu)).getD 0 < b.epo
            rw [hg]; omega
          · obtain ⟨e1, e2⟩ := mset_same P.F P.kf (mck P.F P.kf (b.ten, b.clu)) (b.ten, b.clu) b.epo
            have e3 := congrArg (fun T : TSt => PSt.mk (mset P.F P.kf (b.ten, b.clu) b.epo) (mck P.F P.kf (b.ten, b.clu)) T.S T.ck) (ft (foldT b.ten ⟨P.S, P.kg, [], 0⟩ b.ser).ck)
            refine Eq.trans ?_ (e3.trans rfl)
            show PSt.mk (mset (mset P.F P.kf (b.ten, b.clu) b.epo) (mck P.F P.kf (b.ten, b.clu)) (b.ten, b.clu) b.epo) (mck (mset P.F P.kf (b.ten, b.clu) b.epo) (mck P.F P.kf (b.ten, b.clu)) (b.ten, b.clu)) _ _ = _
            rw [e1, e2]; rfl
  · obtain ⟨h1, h2, h3, h4⟩ := takeP_no h
    rw [h4]
    exact ⟨rfl, rfl, h2, h3, h4⟩
end Go.Proofs.YtkpaklofdkjinaaDoor
namespace Go.Proofs.YtkpaklofdkjinaaDoor
open Go Go.Abs Go.RowKit Go.Shelf
set_option maxRecDepth 100000
set_option maxHeartbeats 8000000
theorem twice_spec {h : Heap} {n : Nat} {a : Option Addr} {cp : Nat} (rs : List RBat) (bs : List Bat) (hr : FRow encBat h (.slice a rs.length cp) rs) (hd : FBats h rs bs) (hld : Laid0 h) (hlen : rs.length < 9223372036854775808) :
    Tells Tryd.prog 6 [.slice a (rs.length) cp] h n (.bool true) := by
 refine Makes.tells (Makes.free fun hf => ?_)
 have hs : SubBut h h ([]) := .refl _ _
 have hn : n ≤ n := Nat.le_refl _
 have hf0 := hf
 refine Makes.of_bodyV (args := [.slice a (rs.length) cp]) (vs := [.slice a (rs.length) cp, undef, undef, undef, undef, undef, undef, undef, undef, undef, undef, undef, undef, undef, undef, undef, undef, undef, undef, undef, undef, undef, undef, undef, undef, undef, undef, undef, undef, undef, undef, undef, undef, undef, undef, undef, undef, undef, undef, undef, undef, undef, undef, undef, undef, undef, undef, undef, undef, undef, undef, undef, undef, undef, undef, undef, undef, undef, undef, undef, undef, undef, undef, undef, undef, undef, undef, undef, undef, undef, undef, undef, undef, undef, undef, undef, undef, undef, undef, undef, undef, undef]) Tryd.func6 rfl rfl ?_
 refine AWp.seq (AWp.rowV (l := _) pok ?_)
 refine sq.c (v := .bool false) rfl rfl rfl rfl ?_
 refine sq.e (AWp.seq (AWp.seq (AWp.rowV (l := _) pok ?_)))
 refine sq.c (v := .slice a (rs.length) cp) rfl rfl rfl rfl ?_
 refine sq.k rfl (CallsF.fn rfl (by kernel_rfl) rfl rfl) (long_spec _ _ (hr.keep (.of0 hs)).is (hd.keep (.of0 hs)).is hlen) ?_
 rintro _ h1 n2 ⟨z_lo, rfl, hz_lo⟩ s3 hn2 hf
 refine sq.w ?_
 have hs := hs.trans s3
 have hn := Nat.le_trans hn hn2
 refine sq.c (v := .bool (z_lo)) rfl rfl rfl rfl ?_
 rcases Bool.eq_false_or_eq_true (z_lo) with c_lo | c_lo
 ·rw [c_lo]
  refine sq.s (wantF (g := 2) (d := 13) rfl rfl rfl) rfl ?_
  refine sq.s (wantF (g := 2) (d := 13) rfl rfl rfl) rfl ?_
  refine sq.c (v := .bool true) rfl rfl rfl rfl ?_
  refine sq.e ?_
  refine AWp.condT rfl rfl ?_
  refine AWp.seq (AWp.rowV (l := _) pok ?_)
  refine sq.t (v := .bool true) rfl (CallsF.fn rfl (by kernel_rfl) rfl rfl) (fun hf => awake_spec (hld.keep hs)) hf rfl ?_
  intro n4 hn2 hf
  have hn := Nat.le_trans hn hn2
  refine sq.c (v := .bool true) rfl rfl rfl rfl ?_
  refine sq.e ?_
  refine AWp.ret ?_
  refine ⟨rfl, [.bool true], rfl, .bool true, rfl, hs, hn, ?_⟩
  rfl
 ·rw [c_lo]
  refine sq.t (v := .bool true) (wantT (g := 2) (d := 13) rfl rfl rfl) (CallsF.fn rfl (by kernel_rfl) rfl rfl) (fun hf => awake_spec (hld.keep hs)) hf rfl ?_
  intro n5 hn2 hf
  have hn := Nat.le_trans hn hn2
  refine sq.c (v := .bool false) (wantT (g := 2) (d := 13) rfl rfl rfl) rfl rfl rfl ?_
  refine sq.c (v := .bool false) rfl rfl rfl rfl ?_
  refine sq.e ?_
  refine AWp.condF rfl rfl ?_
  refine AWp.skip (AWp.seq (AWp.rowV (l := _) pok ?_))
  refine sq.k rfl (CallsF.fn rfl (by kernel_rfl) rfl rfl) (new_spec) ?_
  rintro _ h6 n7 ⟨bp, fp, gp, rfl, hb_bp, hb_fp, hb_gp, y_bp, y_fp, y_gp, ne_fp_gp⟩ s8 hn2 hf
  have z_fp := sub_none hs y_fp
  have z_gp := sub_none hs y_gp
  change Apt fp gp at ne_fp_gp
  have ne_bp_fp : Apt bp fp := by intro e; rw [e] at hb_bp; rw [hb_bp] at hb_fp; cases hb_fp
  have ne_bp_gp : Apt bp gp := by intro e; rw [e] at hb_bp; rw [hb_bp] at hb_gp; cases hb_gp
  have ok_fp : MOk ([] : FM) 0 := .nil
  have ok_gp : MOk ([] : SM) 0 := .nil
  refine sq.w ?_
  have hs := hs.trans s8
  have hn := Nat.le_trans hn hn2
  have hSp : SMIs h6 ([] : SM) ([] : SP) := SMIs.nil _
  refine sq.c (v := .pointer (some ⟨bp, 0, none⟩)) rfl rfl rfl rfl ?_
  refine sq.e (AWp.seq (AWp.seq (AWp.rowV (l := _) pok ?_)))
  refine sq.c (v := .int .i64 (0)) rfl rfl rfl rfl ?_
  refine sq.e (AWp.block ?_)
  have hlo := hz_lo c_lo
  have hb60 := hlo.1
  have hrl : rs.length = bs.length := hd.1
  refine AWp.loopV (fun d vs h10 n11 => ∃ (i : Int) (P : PSt) (Gp : SM), d = ((rs.length : Nat) - i + 1).toNat ∧ SubBut h h10 ([]) ∧ n ≤ n11 ∧ Free h10 n11 ∧ h10.get bp = some (.cells [.map (some fp), .map (some gp)] true ⟨69, 0, true⟩) ∧ h10.get fp = some (.map (mapE plV intV P.F) P.kf) ∧ h10.get gp = some (.map (mapE plV ownV Gp) P.kg) ∧ SMIs h10 Gp P.S ∧ MOk P.F P.kf ∧ MOk Gp P.kg ∧ (0 ≤ i) ∧ (i ≤ (rs.length : Nat)) ∧ (PInv i.toNat P) ∧ (P = runP st0 (bs.take i.toNat)) ∧ ∃ y9 : Nat → Value, vs = [.slice a (rs.length) cp, undef, (y9 2), .pointer (some ⟨bp, 0, none⟩), .int .i64 (i), (y9 5), (y9 6), (y9 7), (y9 8), (y9 9), (y9 10), .slice a (rs.length) cp, .bool false, .bool false, .bool true, .bool false, .bool false, undef, .pointer (some ⟨bp, 0, none⟩), (y9 19), (y9 20), (y9 21), (y9 22), (y9 23), (y9 24), (y9 25), (y9 26), (y9 27), (y9 28), (y9 29), (y9 30), (y9 31), (y9 32), (y9 33), (y9 34), (y9 35), (y9 36), (y9 37), (y9 38), (y9 39), (y9 40), (y9 41), (y9 42), (y9 43), (y9 44), (y9 45), (y9 46), (y9 47), (y9 48), (y9 49), (y9 50), (y9 51), (y9 52), (y9 53), (y9 54), (y9 55), (y9 56), (y9 57), (y9 58), (y9 59), (y9 60), (y9 61), (y9 62), (y9 63), (y9 64), (y9 65), (y9 66), (y9 67), (y9 68), (y9 69), (y9 70), (y9 71), (y9 72), (y9 73), (y9 74), (y9 75), (y9 76), (y9 77), (y9 78), (y9 79), (y9 80), (y9 81)]) (((rs.length : Nat) - (0 : Int) + 1).toNat) ⟨0, st0, [], rfl, hs, hn, hf, hb_bp, hb_fp, hb_gp, hSp, ok_fp, ok_gp, (by omega), (by omega), (PInv.zero), (rfl), getV [undef, undef, .bool false, undef, undef, undef, undef, undef, undef, undef, undef, undef, undef, undef, undef, undef, undef, undef, undef, undef, undef, undef, undef, undef, undef, undef, undef, undef, undef, undef, undef, undef, undef, undef, undef, undef, undef, undef, undef, undef, undef, undef, undef, undef, undef, undef, undef, undef, undef, undef, undef, undef, undef, undef, undef, undef, undef, undef, undef, undef, undef, undef, undef, undef, undef, undef, undef, undef, undef, undef, undef, undef, undef, undef, undef, undef, undef, undef, undef, undef, undef, undef], rfl⟩ ?_
  rintro d vs h10 n11 ⟨i, P, Gp, rfl, hs, hn, hf, hb_bp, hb_fp, hb_gp, hSp, okfp, okgp, hi0, hi1, hPi, hP, y9, rfl⟩
  have hi60 : i.toNat ≤ 100 := by omega
  refine AWp.seq (AWp.seq (AWp.rowV (l := _) pok ?_))
  refine sq.c (v := .int .i64 (i)) rfl rfl rfl rfl ?_
  refine sq.c (v := .slice a (rs.length) cp) rfl rfl rfl rfl ?_
  refine sq.c (v := .int .i64 (((rs.length : Nat) : Int))) rfl rfl (by kernel_rfl) rfl ?_
  refine sq.c (v := .bool (decide (i < (((rs.length : Nat) : Int))))) rfl rfl rfl rfl ?_
  refine sq.e ?_
  by_cases c5_3 : i < (((rs.length : Nat) : Int))
  ·rw [decide_eq_true c5_3]
   refine AWp.condT rfl rfl ?_
   refine AWp.skip (AWp.seq (AWp.block (AWp.seq (AWp.rowV (l := _) pok ?_))))
   refine sq.c (v := .pointer (some ⟨bp, 0, none⟩)) rfl rfl rfl rfl ?_
   refine sq.k rfl (CallsF.fn rfl (by kernel_rfl) rfl rfl) (copyOn (⟨hb_bp, hb_fp, hb_gp, okfp, okgp, hSp, ne_fp_gp⟩ : At _ P _ _ _ _ Gp)) ?_
   rintro _ h12 n13 ⟨bw, fw, gw, rfl, hb_bw, hb_fw, hb_gw, y_bw, y_fw, y_gw, ne_fw_gw⟩ s14 hn2 hf
   have e_fp_bw : Apt fp bw := got_apt hb_fp y_bw
   have e_gp_bw : Apt gp bw := got_apt hb_gp y_bw
   have e_fp_fw : Apt fp fw := got_apt hb_fp y_fw
   have e_gp_fw : Apt gp fw := got_apt hb_gp y_fw
   have e_fp_gw : Apt fp gw := got_apt hb_fp y_gw
   have e_gp_gw : Apt gp gw := got_apt hb_gp y_gw
   change Apt fw gw at ne_fw_gw
   have ne_bw_fw : Apt bw fw := by intro e; rw [e] at hb_bw; rw [hb_bw] at hb_fw; cases hb_fw
   have ne_bw_gw : Apt bw gw := by intro e; rw [e] at hb_bw; rw [hb_bw] at hb_gw; cases hb_gw
   refine sq.w ?_
   have hSp := hSp.keep (.of0 s14)
   have hb_bp := s14.sub _ _ hb_bp
   have hb_fp := s14.sub _ _ hb_fp
   have hb_gp := s14.sub _ _ hb_gp
   have hs := hs.trans s14
   have hn := Nat.le_trans hn hn2
   have hSw := hSp
   refine sq.c (v := .pointer (some ⟨bw, 0, none⟩)) rfl rfl rfl rfl ?_
   refine sq.e (AWp.seq (AWp.rowV (l := _) pok ?_))
   refine sq.c (v := .pointer (some ⟨bp, 0, none⟩)) rfl rfl rfl rfl ?_
   refine sq.c (v := .slice a (rs.length) cp) rfl rfl rfl rfl ?_
   refine sq.c (v := .int .i64 (i)) rfl rfl rfl rfl ?_
   have i21 : (0 : Int) ≤ (i : Int) := by omega
   obtain ⟨x22, hx_x22⟩ : ∃ x, (rs)[((i : Int)).toNat]? = some x := ⟨_, List.getElem?_eq_getElem (by omega)⟩
   obtain ⟨y_x22, hy_x22, hb_x22⟩ := hd.at hx_x22
   obtain ⟨t_x22, c_x22, e_x22, v_x22⟩ := x22
   obtain ⟨rfl, rfl, rfl, rs_x22, R_x22, D_x22⟩ := hb_x22
   obtain ⟨a_x22, c_x22, rfl⟩ := (show FRow encSer _ v_x22 rs_x22 from R_x22).slice
   obtain ⟨b15, o16, cs_b15, ow_b15, ci_b15, ie20, hb17, hc18, hr19⟩ := IsRow.at (P := Tryd.prog) (t := 22) (e := 31) (k := .i64) (by kernel_rfl) (by kernel_rfl) (hr.keep (.of0 hs)).is i21 hx_x22
   refine sq.c (v := .pointer (some ⟨b15, o16, none⟩)) rfl rfl ie20 rfl ?_
   refine sq.c (v := .agg #[.string (y_x22.ten), .string (y_x22.clu), .int .i64 (y_x22.epo), .slice a_x22 (rs_x22.length) c_x22]) rfl rfl (ldR (P := Tryd.prog) (t := 31) (k := 4) (xs := [.string (y_x22.ten), .string (y_x22.clu), .int .i64 (y_x22.epo), .slice a_x22 (rs_x22.length) c_x22]) (by kernel_rfl) (by kernel_rfl) hr19) rfl ?_
   have hsb := hlo.2 _ (List.mem_of_getElem? hy_x22)
   obtain ⟨R, hR⟩ : ∃ R, R = takeP P y_x22 := ⟨_, rfl⟩
   have hPi2 : PInv (i.toNat + 1) R.st := by rw [hR]; exact hPi.step hsb.2.2
   have hi61 : i.toNat + 1 ≤ 100 := by omega
   refine sq.k rfl (CallsF.fn rfl (by kernel_rfl) rfl rfl) (takeOn (⟨hb_bp, hb_fp, hb_gp, okfp, okgp, hSp, ne_fp_gp⟩ : At _ P _ _ _ _ Gp) y_x22 _ (R_x22.keep (.of0 hs)).is (D_x22.keep (.of0 hs)).is (hld.keep hs) hPi hi60 hsb hR) ?_
   rintro _ h23 n24 ⟨w_x, os_x, G_x, rfl, W_x, D_x, hf_x, hg_x, okF_x, okG_x, hS_x⟩ s25 hn2 hf
   obtain ⟨a_x, c_x, rfl⟩ := W_x.slice
   refine sq.w ?_
   have ours_s25 : Ours _ [fp, gp] := .cons hb_fp rfl (.cons hb_gp rfl (.nil _))
   have hSw := hSw.keep (.of s25 ours_s25)
   have hb_bp := s25.get2 (ne_bp_fp) (ne_bp_gp) hb_bp
   have hb_bw := s25.get2 (Ne.symm e_fp_bw) (Ne.symm e_gp_bw) hb_bw
   have hb_fw := s25.get2 (Ne.symm e_fp_fw) (Ne.symm e_gp_fw) hb_fw
   have hb_gw := s25.get2 (Ne.symm e_fp_gw) (Ne.symm e_gp_gw) hb_gw
   have hs := hs.fresh2 z_fp z_gp s25
   have hn := Nat.le_trans hn hn2
   have hSp := hS_x
   refine sq.c (v := .tuple #[.agg #[.string (R.kb.ten), .string (R.kb.clu), .int .i64 (R.kb.epo), .slice a_x (os_x.length) c_x, .int .i64 (R.bad), .bool (R.rose)], .int .i64 (R.e)]) rfl rfl rfl rfl ?_
   refine sq.c (v := .agg #[.string (R.kb.ten), .string (R.kb.clu), .int .i64 (R.kb.epo), .slice a_x (os_x.length) c_x, .int .i64 (R.bad), .bool (R.rose)]) rfl rfl rfl rfl ?_
   refine sq.c (v := .int .i64 (R.e)) rfl rfl rfl rfl ?_
   have e_bp_n24 : Apt bp n24 := hf.ne hb_bp
   have e_fp_n24 : Apt fp n24 := hf.ne hf_x
   have e_gp_n24 : Apt gp n24 := hf.ne hg_x
   have e_bw_n24 : Apt bw n24 := hf.ne hb_bw
   have e_fw_n24 : Apt fw n24 := hf.ne hb_fw
   have e_gw_n24 : Apt gw n24 := hf.ne hb_gw
   have z_n24 : h.get n24 = none := hf0 _ hn
   refine sq.op rfl rfl (Does.alloc (cs := [.string (⟨#[]⟩), .string (⟨#[]⟩), .int .i64 (0), .slice none (0) (0), .int .i64 (0), .bool false]) hf (z := .agg #[.string (⟨#[]⟩), .string (⟨#[]⟩), .int .i64 (0), .slice none (0) (0), .int .i64 (0), .bool false]) (by kernel_rfl) rfl) ?_
   rintro _ h27 n28 ⟨rfl, hb26⟩ s29 hn2 hf
   refine sq.w ?_
   have hSw := hSw.keep (.of0 s29)
   have hSp := hSp.keep (.of0 s29)
   have hb_bp := s29.sub _ _ hb_bp
   have hf_x := s29.sub _ _ hf_x
   have hg_x := s29.sub _ _ hg_x
   have hb_bw := s29.sub _ _ hb_bw
   have hb_fw := s29.sub _ _ hb_fw
   have hb_gw := s29.sub _ _ hb_gw
   have hs := hs.trans s29
   have hn := Nat.le_trans hn hn2
   refine sq.op rfl rfl (Does.store (k := 6) (xs := [.string (R.kb.ten), .string (R.kb.clu), .int .i64 (R.kb.epo), .slice a_x (os_x.length) c_x, .int .i64 (R.bad), .bool (R.rose)]) (cs' := [.string (R.kb.ten), .string (R.kb.clu), .int .i64 (R.kb.epo), .slice a_x (os_x.length) c_x, .int .i64 (R.bad), .bool (R.rose)]) hf (by kernel_rfl) rfl rfl rfl hb26 rfl rfl (Nat.le_of_ble_eq_true rfl) rfl) ?_
   rintro _ h31 n32 ⟨rfl, hb30⟩ s33 hn2 hf
   refine sq.w0 ?_
   have hSw := hSw.keep (.own s33 hb26 rfl)
   have hSp := hSp.keep (.own s33 hb26 rfl)
   have hb_bp := s33.get1 (e_bp_n24) hb_bp
   have hf_x := s33.get1 (e_fp_n24) hf_x
   have hg_x := s33.get1 (e_gp_n24) hg_x
   have hb_bw := s33.get1 (e_bw_n24) hb_bw
   have hb_fw := s33.get1 (e_fw_n24) hb_fw
   have hb_gw := s33.get1 (e_gw_n24) hb_gw
   have hs := hs.fresh z_n24 s33
   have hn := Nat.le_trans hn hn2
   refine sq.c (v := .int .i64 (R.e)) rfl rfl rfl rfl ?_
   refine sq.e (AWp.seq (AWp.seq (AWp.rowV (l := _) pok ?_)))
   refine sq.c (v := .int .i64 (R.e)) rfl rfl rfl rfl ?_
   refine sq.c (v := .bool (!decide (R.e = (0 : Int)))) rfl rfl rfl rfl ?_
   refine sq.c (v := .bool (!decide (R.e = (0 : Int)))) rfl rfl rfl rfl ?_
   by_cases c9_1 : R.e = (0 : Int)
   ·rw [decide_eq_true c9_1]
    refine sq.s (wantF (g := 2) (d := 38) rfl rfl rfl) rfl ?_
    refine sq.s (wantF (g := 2) (d := 38) rfl rfl rfl) rfl ?_
    refine sq.s (wantF (g := 2) (d := 38) rfl rfl rfl) rfl ?_
    refine sq.s (wantF (g := 2) (d := 38) rfl rfl rfl) rfl ?_
    refine sq.c (v := .bool false) rfl rfl rfl rfl ?_
    refine sq.e ?_
    refine AWp.condF rfl rfl ?_
    refine AWp.skip (AWp.seq (AWp.rowV (l := _) pok ?_))
    refine sq.c (v := .pointer (some ⟨bp, 0, none⟩)) rfl rfl rfl rfl ?_
    refine sq.k rfl (CallsF.fn rfl (by kernel_rfl) rfl rfl) (copyOn (⟨hb_bp, hf_x, hg_x, okF_x, okG_x, hSp, ne_fp_gp⟩ : At _ R.st _ _ _ _ G_x)) ?_
    rintro _ h34 n35 ⟨bv, fv, gv, rfl, hb_bv, hb_fv, hb_gv, y_bv, y_fv, y_gv, ne_fv_gv⟩ s36 hn2 hf
    have e_fp_bv : Apt fp bv := got_apt hf_x y_bv
    have e_gp_bv : Apt gp bv := got_apt hg_x y_bv
    have e_fp_fv : Apt fp fv := got_apt hf_x y_fv
    have e_gp_fv : Apt gp fv := got_apt hg_x y_fv
    have e_fp_gv : Apt fp gv := got_apt hf_x y_gv
    have e_gp_gv : Apt gp gv := got_apt hg_x y_gv
    change Apt fv gv at ne_fv_gv
    have ne_bv_fv : Apt bv fv := by intro e; rw [e] at hb_bv; rw [hb_bv] at hb_fv; cases hb_fv
    have ne_bv_gv : Apt bv gv := by intro e; rw [e] at hb_bv; rw [hb_bv] at hb_gv; cases hb_gv
    refine sq.w ?_
    have hSp := hSp.keep (.of0 s36)
    have hb_bp := s36.sub _ _ hb_bp
    have hf_x := s36.sub _ _ hf_x
    have hg_x := s36.sub _ _ hg_x
    have hb30 := s36.sub _ _ hb30
    have hs := hs.trans s36
    have hn := Nat.le_trans hn hn2
    have hSv := hSp
    refine sq.c (v := .pointer (some ⟨bv, 0, none⟩)) rfl rfl rfl rfl ?_
    refine sq.e (AWp.seq (AWp.rowV (l := _) pok ?_))
    refine sq.c (v := .pointer (some ⟨bp, 0, none⟩)) rfl rfl rfl rfl ?_
    refine sq.c (v := .slice a (rs.length) cp) rfl rfl rfl rfl ?_
    refine sq.c (v := .int .i64 (i)) rfl rfl rfl rfl ?_
    have i43 : (0 : Int) ≤ (i : Int) := by omega
    obtain ⟨b37, o38, cs_b37, ow_b37, ci_b37, ie42, hb39, hc40, hr41⟩ := IsRow.at (P := Tryd.prog) (t := 22) (e := 31) (k := .i64) (by kernel_rfl) (by kernel_rfl) (hr.keep (.of0 hs)).is i43 hx_x22
    refine sq.c (v := .pointer (some ⟨b37, o38, none⟩)) rfl rfl ie42 rfl ?_
    refine sq.c (v := .agg #[.string (y_x22.ten), .string (y_x22.clu), .int .i64 (y_x22.epo), .slice a_x22 (rs_x22.length) c_x22]) rfl rfl (ldR (P := Tryd.prog) (t := 31) (k := 4) (xs := [.string (y_x22.ten), .string (y_x22.clu), .int .i64 (y_x22.epo), .slice a_x22 (rs_x22.length) c_x22]) (by kernel_rfl) (by kernel_rfl) hr41) rfl ?_
    obtain ⟨R2, hR2⟩ : ∃ Q, Q = takeP R.st y_x22 := ⟨_, rfl⟩
    obtain ⟨t_e, t_bad, t_rose, t_ser, t_st⟩ : R2.e = R.e ∧ R2.bad = R.bad ∧ R2.rose = false ∧ R2.kb.ser = [] ∧ R2.st = R.st := by rw [hR2, hR]; exact take_twice P y_x22
    have t_F : R2.F = R.F := congrArg PSt.F t_st
    have t_S : R2.S = R.S := congrArg PSt.S t_st
    have hPi3 : PInv (i.toNat + 1) R2.st := by rw [t_st]; exact hPi2
    refine sq.k rfl (CallsF.fn rfl (by kernel_rfl) rfl rfl) (takeOn (⟨hb_bp, hf_x, hg_x, okF_x, okG_x, hSp, ne_fp_gp⟩ : At _ R.st _ _ _ _ G_x) y_x22 _ (R_x22.keep (.of0 hs)).is (D_x22.keep (.of0 hs)).is (hld.keep hs) hPi2 hi61 hsb hR2) ?_
    rintro _ h44 n45 ⟨w_y, os_y, G_y, rfl, W_y, D_y, hf_y, hg_y, okF_y, okG_y, hS_y⟩ s46 hn2 hf
    obtain ⟨a_y, c_y, rfl⟩ := W_y.slice
    refine sq.w ?_
    have ours_s46 : Ours _ [fp, gp] := .cons hf_x rfl (.cons hg_x rfl (.nil _))
    have hSv := hSv.keep (.of s46 ours_s46)
    have hb_bp := s46.get2 (ne_bp_fp) (ne_bp_gp) hb_bp
    have hb30 := s46.get2 (Ne.symm e_fp_n24) (Ne.symm e_gp_n24) hb30
    have hb_bv := s46.get2 (Ne.symm e_fp_bv) (Ne.symm e_gp_bv) hb_bv
    have hb_fv := s46.get2 (Ne.symm e_fp_fv) (Ne.symm e_gp_fv) hb_fv
    have hb_gv := s46.get2 (Ne.symm e_fp_gv) (Ne.symm e_gp_gv) hb_gv
    have hs := hs.fresh2 z_fp z_gp s46
    have hn := Nat.le_trans hn hn2
    have hSp := hS_y
    refine sq.c (v := .tuple #[.agg #[.string (R2.kb.ten), .string (R2.kb.clu), .int .i64 (R2.kb.epo), .slice a_y (os_y.length) c_y, .int .i64 (R2.bad), .bool (R2.rose)], .int .i64 (R2.e)]) rfl rfl rfl rfl ?_
    refine sq.c (v := .agg #[.string (R2.kb.ten), .string (R2.kb.clu), .int .i64 (R2.kb.epo), .slice a_y (os_y.length) c_y, .int .i64 (R2.bad), .bool (R2.rose)]) rfl rfl rfl rfl ?_
    refine sq.c (v := .int .i64 (R2.e)) rfl rfl rfl rfl ?_
    have e_bp_n45 : Apt bp n45 := hf.ne hb_bp
    have e_fp_n45 : Apt fp n45 := hf.ne hf_y
    have e_gp_n45 : Apt gp n45 := hf.ne hg_y
    have e_n24_n45 : Apt n24 n45 := hf.ne hb30
    have e_bv_n45 : Apt bv n45 := hf.ne hb_bv
    have e_fv_n45 : Apt fv n45 := hf.ne hb_fv
    have e_gv_n45 : Apt gv n45 := hf.ne hb_gv
    have z_n45 : h.get n45 = none := hf0 _ hn
    refine sq.op rfl rfl (Does.alloc (cs := [.string (⟨#[]⟩), .string (⟨#[]⟩), .int .i64 (0), .slice none (0) (0), .int .i64 (0), .bool false]) hf (z := .agg #[.string (⟨#[]⟩), .string (⟨#[]⟩), .int .i64 (0), .slice none (0) (0), .int .i64 (0), .bool false]) (by kernel_rfl) rfl) ?_
    rintro _ h48 n49 ⟨rfl, hb47⟩ s50 hn2 hf
    refine sq.w ?_
    have hSv := hSv.keep (.of0 s50)
    have hSp := hSp.keep (.of0 s50)
    have D_y := D_y.keep (.of0 s50)
    have hb_bp := s50.sub _ _ hb_bp
    have hf_y := s50.sub _ _ hf_y
    have hg_y := s50.sub _ _ hg_y
    have hb30 := s50.sub _ _ hb30
    have hb_bv := s50.sub _ _ hb_bv
    have hb_fv := s50.sub _ _ hb_fv
    have hb_gv := s50.sub _ _ hb_gv
    have hs := hs.trans s50
    have hn := Nat.le_trans hn hn2
    refine sq.op rfl rfl (Does.store (k := 6) (xs := [.string (R2.kb.ten), .string (R2.kb.clu), .int .i64 (R2.kb.epo), .slice a_y (os_y.length) c_y, .int .i64 (R2.bad), .bool (R2.rose)]) (cs' := [.string (R2.kb.ten), .string (R2.kb.clu), .int .i64 (R2.kb.epo), .slice a_y (os_y.length) c_y, .int .i64 (R2.bad), .bool (R2.rose)]) hf (by kernel_rfl) rfl rfl rfl hb47 rfl rfl (Nat.le_of_ble_eq_true rfl) rfl) ?_
    rintro _ h52 n53 ⟨rfl, hb51⟩ s54 hn2 hf
    refine sq.w0 ?_
    have hSv := hSv.keep (.own s54 hb47 rfl)
    have hSp := hSp.keep (.own s54 hb47 rfl)
    have D_y := D_y.keep (.own s54 hb47 rfl)
    have hb_bp := s54.get1 (e_bp_n45) hb_bp
    have hf_y := s54.get1 (e_fp_n45) hf_y
    have hg_y := s54.get1 (e_gp_n45) hg_y
    have hb30 := s54.get1 (e_n24_n45) hb30
    have hb_bv := s54.get1 (e_bv_n45) hb_bv
    have hb_fv := s54.get1 (e_fv_n45) hb_fv
    have hb_gv := s54.get1 (e_gv_n45) hb_gv
    have hs := hs.fresh z_n45 s54
    have hn := Nat.le_trans hn hn2
    refine sq.c (v := .int .i64 (R2.e)) rfl rfl rfl rfl ?_
    refine sq.e (AWp.seq (AWp.rowV (l := _) pok ?_))
    refine sq.c (v := .int .i64 (R.e)) rfl rfl rfl rfl ?_
    refine sq.c (v := .int .i64 (R2.e)) rfl rfl rfl rfl ?_
    refine sq.c (v := .bool (!decide (R.e = R2.e))) rfl rfl rfl rfl ?_
    refine sq.c (v := .bool (!decide (R.e = R2.e))) rfl rfl rfl rfl ?_
    by_cases c13_2 : R.e = R2.e
    ·rw [decide_eq_true c13_2]
     refine sq.c (v := .pointer (some ⟨bp, 0, none⟩)) (wantT (g := 3) (d := 58) rfl rfl rfl) rfl rfl rfl ?_
     refine sq.c (v := .pointer (some ⟨bv, 0, none⟩)) (wantT (g := 3) (d := 58) rfl rfl rfl) rfl rfl rfl ?_
     refine sq.t (v := .bool ((eqM R2.F R.F && eqSt R2.S R.S))) (wantT (g := 3) (d := 58) rfl rfl rfl) (CallsF.fn rfl (by kernel_rfl) rfl rfl) (fun hf => sameOn (⟨hb_bp, hf_y, hg_y, okF_y, okG_y, hSp, ne_fp_gp⟩ : At _ R2.st _ _ _ _ G_y) (⟨hb_bv, hb_fv, hb_gv, okF_x, okG_x, hSv, ne_fv_gv⟩ : At _ R.st _ _ _ _ G_x) hPi3 hi61 hPi2 hi61) hf rfl ?_
     intro n55 hn2 hf
     have hn := Nat.le_trans hn hn2
     rcases Bool.eq_false_or_eq_true ((eqM R2.F R.F && eqSt R2.S R.S)) with c13_6 | c13_6
     ·rw [c13_6]
      refine sq.c (v := .bool false) (wantT (g := 3) (d := 58) rfl rfl rfl) rfl rfl rfl ?_
      refine sq.c (v := .bool false) rfl rfl rfl rfl ?_
      refine sq.c (v := .bool false) rfl rfl rfl rfl ?_
      refine sq.c (v := .pointer (some ⟨n45, 5, none⟩)) (wantT (g := 9) (d := 64) rfl rfl rfl) rfl (by kernel_rfl) rfl ?_
      refine sq.c (v := .bool (R2.rose)) (wantT (g := 9) (d := 64) rfl rfl rfl) rfl (ld1 (P := Tryd.prog) (t := 4) (p := 5) (v := .bool (R2.rose)) (by kernel_rfl) (by kernel_rfl) hb51 rfl) rfl ?_
      refine sq.c (v := .bool (R2.rose)) rfl rfl rfl rfl ?_
      refine sq.c (v := .bool (R2.rose)) rfl rfl rfl rfl ?_
      rcases Bool.eq_false_or_eq_true (R2.rose) with cr_y | cr_y
      ·exfalso
       rw [t_rose] at cr_y
       cases cr_y
      ·rw [cr_y]
       refine sq.c (v := .pointer (some ⟨n45, 0, none⟩)) (wantT (g := 13) (d := 68) rfl rfl rfl) rfl (by kernel_rfl) rfl ?_
       refine sq.c (v := .pointer (some ⟨n45, 3, none⟩)) (wantT (g := 13) (d := 68) rfl rfl rfl) rfl (by kernel_rfl) rfl ?_
       refine sq.c (v := .slice a_y (os_y.length) c_y) (wantT (g := 13) (d := 68) rfl rfl rfl) rfl (ld1 (P := Tryd.prog) (t := 29) (p := 3) (v := .slice a_y (os_y.length) c_y) (by kernel_rfl) (by kernel_rfl) hb51 rfl) rfl ?_
       refine sq.c (v := .int .i64 (((os_y.length : Nat) : Int))) (wantT (g := 13) (d := 68) rfl rfl rfl) rfl (by kernel_rfl) rfl ?_
       refine sq.c (v := .bool (!decide ((((os_y.length : Nat) : Int)) = (0 : Int)))) (wantT (g := 13) (d := 68) rfl rfl rfl) rfl rfl rfl ?_
       refine sq.c (v := .bool (!decide ((((os_y.length : Nat) : Int)) = (0 : Int)))) rfl rfl rfl rfl ?_
       refine sq.c (v := .bool (!decide ((((os_y.length : Nat) : Int)) = (0 : Int)))) rfl rfl rfl rfl ?_
       by_cases c13_18 : (((os_y.length : Nat) : Int)) = (0 : Int)
       ·rw [decide_eq_true c13_18]
        refine sq.c (v := .pointer (some ⟨n45, 4, none⟩)) (wantT (g := 20) (d := 75) rfl rfl rfl) rfl (by kernel_rfl) rfl ?_
        refine sq.c (v := .int .i64 (R2.bad)) (wantT (g := 20) (d := 75) rfl rfl rfl) rfl (ld1 (P := Tryd.prog) (t := 3) (p := 4) (v := .int .i64 (R2.bad)) (by kernel_rfl) (by kernel_rfl) hb51 rfl) rfl ?_
        refine sq.c (v := .pointer (some ⟨n24, 4, none⟩)) (wantT (g := 20) (d := 75) rfl rfl rfl) rfl (by kernel_rfl) rfl ?_
        refine sq.c (v := .int .i64 (R.bad)) (wantT (g := 20) (d := 75) rfl rfl rfl) rfl (ld1 (P := Tryd.prog) (t := 3) (p := 4) (v := .int .i64 (R.bad)) (by kernel_rfl) (by kernel_rfl) hb30 rfl) rfl ?_
        refine sq.c (v := .bool (!decide (R2.bad = R.bad))) (wantT (g := 20) (d := 75) rfl rfl rfl) rfl rfl rfl ?_
        refine sq.c (v := .bool (!decide (R2.bad = R.bad))) rfl rfl rfl rfl ?_
        refine sq.e ?_
        by_cases c13_25 : R2.bad = R.bad
        ·rw [decide_eq_true c13_25]
         refine AWp.condF rfl rfl ?_
         refine AWp.skip (AWp.rowV (l := _) pok ?_)
         refine sq.c (v := .int .i64 (i)) rfl rfl rfl rfl ?_
         refine sq.c (v := .int .i64 (i + 1)) rfl rfl (okI (wrap_i64 (by omega) (by omega))) rfl ?_
         refine sq.c (v := .int .i64 (i + 1)) rfl rfl rfl rfl ?_
         refine sq.e ?_
         refine ⟨_, _, rfl, (by omega), i + 1, R2.st, G_y, rfl, hs, hn, hf, hb_bp, hf_y, hg_y, hSp, okF_y, okG_y, (by omega), (by omega), (by rw [show (i + 1).toNat = i.toNat + 1 by omega]; exact hPi3), (by rw [take_snoc hi0 hy_x22, runP_snoc, ← hP, ← hR]; exact t_st), getV [undef, undef, (y9 2), undef, undef, .pointer (some ⟨bw, 0, none⟩), .pointer (some ⟨n24, 0, none⟩), .int .i64 (R.e), .pointer (some ⟨bv, 0, none⟩), .pointer (some ⟨n45, 0, none⟩), .int .i64 (R2.e), undef, undef, undef, undef, undef, undef, undef, undef, .int .i64 (i), .slice a (rs.length) cp, .int .i64 (((rs.length : Nat) : Int)), .bool true, .int .i64 (i), .int .i64 (i + 1), .pointer (some ⟨bp, 0, none⟩), .pointer (some ⟨bw, 0, none⟩), .tuple #[.agg #[.string (R.kb.ten), .string (R.kb.clu), .int .i64 (R.kb.epo), .slice a_x (os_x.length) c_x, .int .i64 (R.bad), .bool (R.rose)], .int .i64 (R.e)], .pointer (some ⟨bp, 0, none⟩), .slice a (rs.length) cp, .int .i64 (i), .pointer (some ⟨b15, o16, none⟩), .agg #[.string (y_x22.ten), .string (y_x22.clu), .int .i64 (y_x22.epo), .slice a_x22 (rs_x22.length) c_x22], .tuple #[.agg #[.string (R.kb.ten), .string (R.kb.clu), .int .i64 (R.kb.epo), .slice a_x (os_x.length) c_x, .int .i64 (R.bad), .bool (R.rose)], .int .i64 (R.e)], .agg #[.string (R.kb.ten), .string (R.kb.clu), .int .i64 (R.kb.epo), .slice a_x (os_x.length) c_x, .int .i64 (R.bad), .bool (R.rose)], .int .i64 (R.e), .int .i64 (R.e), .bool false, .bool false, undef, undef, undef, undef, .bool false, .pointer (some ⟨bp, 0, none⟩), .pointer (some ⟨bv, 0, none⟩), .tuple #[.agg #[.string (R2.kb.ten), .string (R2.kb.clu), .int .i64 (R2.kb.epo), .slice a_y (os_y.length) c_y, .int .i64 (R2.bad), .bool false], .int .i64 (R2.e)], .pointer (some ⟨bp, 0, none⟩), .slice a (rs.length) cp, .int .i64 (i), .pointer (some ⟨b37, o38, none⟩), .agg #[.string (y_x22.ten), .string (y_x22.clu), .int .i64 (y_x22.epo), .slice a_x22 (rs_x22.length) c_x22], .tuple #[.agg #[.string (R2.kb.ten), .string (R2.kb.clu), .int .i64 (R2.kb.epo), .slice a_y (os_y.length) c_y, .int .i64 (R2.bad), .bool false], .int .i64 (R2.e)], .agg #[.string (R2.kb.ten), .string (R2.kb.clu), .int .i64 (R2.kb.epo), .slice a_y (os_y.length) c_y, .int .i64 (R2.bad), .bool false], .int .i64 (R2.e), .int .i64 (R.e), .int .i64 (R2.e), .bool false, .bool false, .pointer (some ⟨bp, 0, none⟩), .pointer (some ⟨bv, 0, none⟩), .bool true, .bool false, .bool false, .bool false, .pointer (some ⟨n45, 5, none⟩), .bool false, .bool false, .bool false, .pointer (some ⟨n45, 0, none⟩), .pointer (some ⟨n45, 3, none⟩), .slice a_y (os_y.length) c_y, .int .i64 (((os_y.length : Nat) : Int)), .bool false, .bool false, .bool false, .pointer (some ⟨n45, 4, none⟩), .int .i64 (R2.bad), .pointer (some ⟨n24, 4, none⟩), .int .i64 (R.bad), .bool false, .bool false], rfl⟩
        ·exfalso
         exact c13_25 t_bad
       ·exfalso
        exact c13_18 (by rw [D_y.1, t_ser]; rfl)
     ·exfalso
      rw [t_F, t_S] at c13_6
      exact absurd (c13_6.symm.trans (same_refl hPi2)) Bool.false_ne_true
    ·exfalso
     exact c13_2 t_e.symm
   ·rw [decide_eq_false c9_1]
    refine sq.c (v := .pointer (some ⟨bp, 0, none⟩)) (wantT (g := 2) (d := 38) rfl rfl rfl) rfl rfl rfl ?_
    refine sq.c (v := .pointer (some ⟨bw, 0, none⟩)) (wantT (g := 2) (d := 38) rfl rfl rfl) rfl rfl rfl ?_
    refine sq.t (v := .bool ((eqM R.F P.F && eqSt R.S P.S))) (wantT (g := 2) (d := 38) rfl rfl rfl) (CallsF.fn rfl (by kernel_rfl) rfl rfl) (fun hf => sameOn (⟨hb_bp, hf_x, hg_x, okF_x, okG_x, hSp, ne_fp_gp⟩ : At _ R.st _ _ _ _ G_x) (⟨hb_bw, hb_fw, hb_gw, okfp, okgp, hSw, ne_fw_gw⟩ : At _ P _ _ _ _ Gp) hPi2 hi61 hPi hi60) hf rfl ?_
    intro n56 hn2 hf
    have hn := Nat.le_trans hn hn2
    rcases Bool.eq_false_or_eq_true ((eqM R.F P.F && eqSt R.S P.S)) with c9_5 | c9_5
    ·rw [c9_5]
     refine sq.c (v := .bool false) (wantT (g := 2) (d := 38) rfl rfl rfl) rfl rfl rfl ?_
     refine sq.c (v := .bool false) rfl rfl rfl rfl ?_
     refine sq.e ?_
     refine AWp.condF rfl rfl ?_
     refine AWp.skip (AWp.seq (AWp.rowV (l := _) pok ?_))
     refine sq.c (v := .pointer (some ⟨bp, 0, none⟩)) rfl rfl rfl rfl ?_
     refine sq.k rfl (CallsF.fn rfl (by kernel_rfl) rfl rfl) (copyOn (⟨hb_bp, hf_x, hg_x, okF_x, okG_x, hSp, ne_fp_gp⟩ : At _ R.st _ _ _ _ G_x)) ?_
     rintro _ h57 n58 ⟨bv, fv, gv, rfl, hb_bv, hb_fv, hb_gv, y_bv, y_fv, y_gv, ne_fv_gv⟩ s59 hn2 hf
     have e_fp_bv : Apt fp bv := got_apt hf_x y_bv
     have e_gp_bv : Apt gp bv := got_apt hg_x y_bv
     have e_fp_fv : Apt fp fv := got_apt hf_x y_fv
     have e_gp_fv : Apt gp fv := got_apt hg_x y_fv
     have e_fp_gv : Apt fp gv := got_apt hf_x y_gv
     have e_gp_gv : Apt gp gv := got_apt hg_x y_gv
     change Apt fv gv at ne_fv_gv
     have ne_bv_fv : Apt bv fv := by intro e; rw [e] at hb_bv; rw [hb_bv] at hb_fv; cases hb_fv
     have ne_bv_gv : Apt bv gv := by intro e; rw [e] at hb_bv; rw [hb_bv] at hb_gv; cases hb_gv
     refine sq.w ?_
     have hSp := hSp.keep (.of0 s59)
     have hb_bp := s59.sub _ _ hb_bp
     have hf_x := s59.sub _ _ hf_x
     have hg_x := s59.sub _ _ hg_x
     have hb30 := s59.sub _ _ hb30
     have hs := hs.trans s59
     have hn := Nat.le_trans hn hn2
     have hSv := hSp
     refine sq.c (v := .pointer (some ⟨bv, 0, none⟩)) rfl rfl rfl rfl ?_
     refine sq.e (AWp.seq (AWp.rowV (l := _) pok ?_))
     refine sq.c (v := .pointer (some ⟨bp, 0, none⟩)) rfl rfl rfl rfl ?_
     refine sq.c (v := .slice a (rs.length) cp) rfl rfl rfl rfl ?_
     refine sq.c (v := .int .i64 (i)) rfl rfl rfl rfl ?_
     have i66 : (0 : Int) ≤ (i : Int) := by omega
     obtain ⟨b60, o61, cs_b60, ow_b60, ci_b60, ie65, hb62, hc63, hr64⟩ := IsRow.at (P := Tryd.prog) (t := 22) (e := 31) (k := .i64) (by kernel_rfl) (by kernel_rfl) (hr.keep (.of0 hs)).is i66 hx_x22
     refine sq.c (v := .pointer (some ⟨b60, o61, none⟩)) rfl rfl ie65 rfl ?_
     refine sq.c (v := .agg #[.string (y_x22.ten), .string (y_x22.clu), .int .i64 (y_x22.epo), .slice a_x22 (rs_x22.length) c_x22]) rfl rfl (ldR (P := Tryd.prog) (t := 31) (k := 4) (xs := [.string (y_x22.ten), .string (y_x22.clu), .int .i64 (y_x22.epo), .slice a_x22 (rs_x22.length) c_x22]) (by kernel_rfl) (by kernel_rfl) hr64) rfl ?_
     obtain ⟨R2, hR2⟩ : ∃ Q, Q = takeP R.st y_x22 := ⟨_, rfl⟩
     obtain ⟨t_e, t_bad, t_rose, t_ser, t_st⟩ : R2.e = R.e ∧ R2.bad = R.bad ∧ R2.rose = false ∧ R2.kb.ser = [] ∧ R2.st = R.st := by rw [hR2, hR]; exact take_twice P y_x22
     have t_F : R2.F = R.F := congrArg PSt.F t_st
     have t_S : R2.S = R.S := congrArg PSt.S t_st
     have hPi3 : PInv (i.toNat + 1) R2.st := by rw [t_st]; exact hPi2
     refine sq.k rfl (CallsF.fn rfl (by kernel_rfl) rfl rfl) (takeOn (⟨hb_bp, hf_x, hg_x, okF_x, okG_x, hSp, ne_fp_gp⟩ : At _ R.st _ _ _ _ G_x) y_x22 _ (R_x22.keep (.of0 hs)).is (D_x22.keep (.of0 hs)).is (hld.keep hs) hPi2 hi61 hsb hR2) ?_
     rintro _ h67 n68 ⟨w_y, os_y, G_y, rfl, W_y, D_y, hf_y, hg_y, okF_y, okG_y, hS_y⟩ s69 hn2 hf
     obtain ⟨a_y, c_y, rfl⟩ := W_y.slice
     refine sq.w ?_
     have ours_s69 : Ours _ [fp, gp] := .cons hf_x rfl (.cons hg_x rfl (.nil _))
     have hSv := hSv.keep (.of s69 ours_s69)
     have hb_bp := s69.get2 (ne_bp_fp) (ne_bp_gp) hb_bp
     have hb30 := s69.get2 (Ne.symm e_fp_n24) (Ne.symm e_gp_n24) hb30
     have hb_bv := s69.get2 (Ne.symm e_fp_bv) (Ne.symm e_gp_bv) hb_bv
     have hb_fv := s69.get2 (Ne.symm e_fp_fv) (Ne.symm e_gp_fv) hb_fv
     have hb_gv := s69.get2 (Ne.symm e_fp_gv) (Ne.symm e_gp_gv) hb_gv
     have hs := hs.fresh2 z_fp z_gp s69
     have hn := Nat.le_trans hn hn2
     have hSp := hS_y
     refine sq.c (v := .tuple #[.agg #[.string (R2.kb.ten), .string (R2.kb.clu), .int .i64 (R2.kb.epo), .slice a_y (os_y.length) c_y, .int .i64 (R2.bad), .bool (R2.rose)], .int .i64 (R2.e)]) rfl rfl rfl rfl ?_
     refine sq.c (v := .agg #[.string (R2.kb.ten), .string (R2.kb.clu), .int .i64 (R2.kb.epo), .slice a_y (os_y.length) c_y, .int .i64 (R2.bad), .bool (R2.rose)]) rfl rfl rfl rfl ?_
     refine sq.c (v := .int .i64 (R2.e)) rfl rfl rfl rfl ?_
     have e_bp_n68 : Apt bp n68 := hf.ne hb_bp
     have e_fp_n68 : Apt fp n68 := hf.ne hf_y
     have e_gp_n68 : Apt gp n68 := hf.ne hg_y
     have e_n24_n68 : Apt n24 n68 := hf.ne hb30
     have e_bv_n68 : Apt bv n68 := hf.ne hb_bv
     have e_fv_n68 : Apt fv n68 := hf.ne hb_fv
     have e_gv_n68 : Apt gv n68 := hf.ne hb_gv
     have z_n68 : h.get n68 = none := hf0 _ hn
     refine sq.op rfl rfl (Does.alloc (cs := [.string (⟨#[]⟩), .string (⟨#[]⟩), .int .i64 (0), .slice none (0) (0), .int .i64 (0), .bool false]) hf (z := .agg #[.string (⟨#[]⟩), .string (⟨#[]⟩), .int .i64 (0), .slice none (0) (0), .int .i64 (0), .bool false]) (by kernel_rfl) rfl) ?_
     rintro _ h71 n72 ⟨rfl, hb70⟩ s73 hn2 hf
     refine sq.w ?_
     have hSv := hSv.keep (.of0 s73)
     have hSp := hSp.keep (.of0 s73)
     have D_y := D_y.keep (.of0 s73)
     have hb_bp := s73.sub _ _ hb_bp
     have hf_y := s73.sub _ _ hf_y
     have hg_y := s73.sub _ _ hg_y
     have hb30 := s73.sub _ _ hb30
     have hb_bv := s73.sub _ _ hb_bv
     have hb_fv := s73.sub _ _ hb_fv
     have hb_gv := s73.sub _ _ hb_gv
     have hs := hs.trans s73
     have hn := Nat.le_trans hn hn2
     refine sq.op rfl rfl (Does.store (k := 6) (xs := [.string (R2.kb.ten), .string (R2.kb.clu), .int .i64 (R2.kb.epo), .slice a_y (os_y.length) c_y, .int .i64 (R2.bad), .bool (R2.rose)]) (cs' := [.string (R2.kb.ten), .string (R2.kb.clu), .int .i64 (R2.kb.epo), .slice a_y (os_y.length) c_y, .int .i64 (R2.bad), .bool (R2.rose)]) hf (by kernel_rfl) rfl rfl rfl hb70 rfl rfl (Nat.le_of_ble_eq_true rfl) rfl) ?_
     rintro _ h75 n76 ⟨rfl, hb74⟩ s77 hn2 hf
     refine sq.w0 ?_
     have hSv := hSv.keep (.own s77 hb70 rfl)
     have hSp := hSp.keep (.own s77 hb70 rfl)
     have D_y := D_y.keep (.own s77 hb70 rfl)
     have hb_bp := s77.get1 (e_bp_n68) hb_bp
     have hf_y := s77.get1 (e_fp_n68) hf_y
     have hg_y := s77.get1 (e_gp_n68) hg_y
     have hb30 := s77.get1 (e_n24_n68) hb30
     have hb_bv := s77.get1 (e_bv_n68) hb_bv
     have hb_fv := s77.get1 (e_fv_n68) hb_fv
     have hb_gv := s77.get1 (e_gv_n68) hb_gv
     have hs := hs.fresh z_n68 s77
     have hn := Nat.le_trans hn hn2
     refine sq.c (v := .int .i64 (R2.e)) rfl rfl rfl rfl ?_
     refine sq.e (AWp.seq (AWp.rowV (l := _) pok ?_))
     refine sq.c (v := .int .i64 (R.e)) rfl rfl rfl rfl ?_
     refine sq.c (v := .int .i64 (R2.e)) rfl rfl rfl rfl ?_
     refine sq.c (v := .bool (!decide (R.e = R2.e))) rfl rfl rfl rfl ?_
     refine sq.c (v := .bool (!decide (R.e = R2.e))) rfl rfl rfl rfl ?_
     by_cases c13_2 : R.e = R2.e
     ·rw [decide_eq_true c13_2]
      refine sq.c (v := .pointer (some ⟨bp, 0, none⟩)) (wantT (g := 3) (d := 58) rfl rfl rfl) rfl rfl rfl ?_
      refine sq.c (v := .pointer (some ⟨bv, 0, none⟩)) (wantT (g := 3) (d := 58) rfl rfl rfl) rfl rfl rfl ?_
      refine sq.t (v := .bool ((eqM R2.F R.F && eqSt R2.S R.S))) (wantT (g := 3) (d := 58) rfl rfl rfl) (CallsF.fn rfl (by kernel_rfl) rfl rfl) (fun hf => sameOn (⟨hb_bp, hf_y, hg_y, okF_y, okG_y, hSp, ne_fp_gp⟩ : At _ R2.st _ _ _ _ G_y) (⟨hb_bv, hb_fv, hb_gv, okF_x, okG_x, hSv, ne_fv_gv⟩ : At _ R.st _ _ _ _ G_x) hPi3 hi61 hPi2 hi61) hf rfl ?_
      intro n78 hn2 hf
      have hn := Nat.le_trans hn hn2
      rcases Bool.eq_false_or_eq_true ((eqM R2.F R.F && eqSt R2.S R.S)) with c13_6 | c13_6
      ·rw [c13_6]
       refine sq.c (v := .bool false) (wantT (g := 3) (d := 58) rfl rfl rfl) rfl rfl rfl ?_
       refine sq.c (v := .bool false) rfl rfl rfl rfl ?_
       refine sq.c (v := .bool false) rfl rfl rfl rfl ?_
       refine sq.c (v := .pointer (some ⟨n68, 5, none⟩)) (wantT (g := 9) (d := 64) rfl rfl rfl) rfl (by kernel_rfl) rfl ?_
       refine sq.c (v := .bool (R2.rose)) (wantT (g := 9) (d := 64) rfl rfl rfl) rfl (ld1 (P := Tryd.prog) (t := 4) (p := 5) (v := .bool (R2.rose)) (by kernel_rfl) (by kernel_rfl) hb74 rfl) rfl ?_
       refine sq.c (v := .bool (R2.rose)) rfl rfl rfl rfl ?_
       refine sq.c (v := .bool (R2.rose)) rfl rfl rfl rfl ?_
       rcases Bool.eq_false_or_eq_true (R2.rose) with cr_y | cr_y
       ·exfalso
        rw [t_rose] at cr_y
        cases cr_y
       ·rw [cr_y]
        refine sq.c (v := .pointer (some ⟨n68, 0, none⟩)) (wantT (g := 13) (d := 68) rfl rfl rfl) rfl (by kernel_rfl) rfl ?_
        refine sq.c (v := .pointer (some ⟨n68, 3, none⟩)) (wantT (g := 13) (d := 68) rfl rfl rfl) rfl (by kernel_rfl) rfl ?_
        refine sq.c (v := .slice a_y (os_y.length) c_y) (wantT (g := 13) (d := 68) rfl rfl rfl) rfl (ld1 (P := Tryd.prog) (t := 29) (p := 3) (v := .slice a_y (os_y.length) c_y) (by kernel_rfl) (by kernel_rfl) hb74 rfl) rfl ?_
        refine sq.c (v := .int .i64 (((os_y.length : Nat) : Int))) (wantT (g := 13) (d := 68) rfl rfl rfl) rfl (by kernel_rfl) rfl ?_
        refine sq.c (v := .bool (!decide ((((os_y.length : Nat) : Int)) = (0 : Int)))) (wantT (g := 13) (d := 68) rfl rfl rfl) rfl rfl rfl ?_
        refine sq.c (v := .bool (!decide ((((os_y.length : Nat) : Int)) = (0 : Int)))) rfl rfl rfl rfl ?_
        refine sq.c (v := .bool (!decide ((((os_y.length : Nat) : Int)) = (0 : Int)))) rfl rfl rfl rfl ?_
        by_cases c13_18 : (((os_y.length : Nat) : Int)) = (0 : Int)
        ·rw [decide_eq_true c13_18]
         refine sq.c (v := .pointer (some ⟨n68, 4, none⟩)) (wantT (g := 20) (d := 75) rfl rfl rfl) rfl (by kernel_rfl) rfl ?_
         refine sq.c (v := .int .i64 (R2.bad)) (wantT (g := 20) (d := 75) rfl rfl rfl) rfl (ld1 (P := Tryd.prog) (t := 3) (p := 4) (v := .int .i64 (R2.bad)) (by kernel_rfl) (by kernel_rfl) hb74 rfl) rfl ?_
         refine sq.c (v := .pointer (some ⟨n24, 4, none⟩)) (wantT (g := 20) (d := 75) rfl rfl rfl) rfl (by kernel_rfl) rfl ?_
         refine sq.c (v := .int .i64 (R.bad)) (wantT (g := 20) (d := 75) rfl rfl rfl) rfl (ld1 (P := Tryd.prog) (t := 3) (p := 4) (v := .int .i64 (R.bad)) (by kernel_rfl) (by kernel_rfl) hb30 rfl) rfl ?_
         refine sq.c (v := .bool (!decide (R2.bad = R.bad))) (wantT (g := 20) (d := 75) rfl rfl rfl) rfl rfl rfl ?_
         refine sq.c (v := .bool (!decide (R2.bad = R.bad))) rfl rfl rfl rfl ?_
         refine sq.e ?_
         by_cases c13_25 : R2.bad = R.bad
         ·rw [decide_eq_true c13_25]
          refine AWp.condF rfl rfl ?_
          refine AWp.skip (AWp.rowV (l := _) pok ?_)
          refine sq.c (v := .int .i64 (i)) rfl rfl rfl rfl ?_
          refine sq.c (v := .int .i64 (i + 1)) rfl rfl (okI (wrap_i64 (by omega) (by omega))) rfl ?_
          refine sq.c (v := .int .i64 (i + 1)) rfl rfl rfl rfl ?_
          refine sq.e ?_
          refine ⟨_, _, rfl, (by omega), i + 1, R2.st, G_y, rfl, hs, hn, hf, hb_bp, hf_y, hg_y, hSp, okF_y, okG_y, (by omega), (by omega), (by rw [show (i + 1).toNat = i.toNat + 1 by omega]; exact hPi3), (by rw [take_snoc hi0 hy_x22, runP_snoc, ← hP, ← hR]; exact t_st), getV [undef, undef, (y9 2), undef, undef, .pointer (some ⟨bw, 0, none⟩), .pointer (some ⟨n24, 0, none⟩), .int .i64 (R.e), .pointer (some ⟨bv, 0, none⟩), .pointer (some ⟨n68, 0, none⟩), .int .i64 (R2.e), undef, undef, undef, undef, undef, undef, undef, undef, .int .i64 (i), .slice a (rs.length) cp, .int .i64 (((rs.length : Nat) : Int)), .bool true, .int .i64 (i), .int .i64 (i + 1), .pointer (some ⟨bp, 0, none⟩), .pointer (some ⟨bw, 0, none⟩), .tuple #[.agg #[.string (R.kb.ten), .string (R.kb.clu), .int .i64 (R.kb.epo), .slice a_x (os_x.length) c_x, .int .i64 (R.bad), .bool (R.rose)], .int .i64 (R.e)], .pointer (some ⟨bp, 0, none⟩), .slice a (rs.length) cp, .int .i64 (i), .pointer (some ⟨b15, o16, none⟩), .agg #[.string (y_x22.ten), .string (y_x22.clu), .int .i64 (y_x22.epo), .slice a_x22 (rs_x22.length) c_x22], .tuple #[.agg #[.string (R.kb.ten), .string (R.kb.clu), .int .i64 (R.kb.epo), .slice a_x (os_x.length) c_x, .int .i64 (R.bad), .bool (R.rose)], .int .i64 (R.e)], .agg #[.string (R.kb.ten), .string (R.kb.clu), .int .i64 (R.kb.epo), .slice a_x (os_x.length) c_x, .int .i64 (R.bad), .bool (R.rose)], .int .i64 (R.e), .int .i64 (R.e), .bool true, .bool true, .pointer (some ⟨bp, 0, none⟩), .pointer (some ⟨bw, 0, none⟩), .bool true, .bool false, .bool false, .pointer (some ⟨bp, 0, none⟩), .pointer (some ⟨bv, 0, none⟩), .tuple #[.agg #[.string (R2.kb.ten), .string (R2.kb.clu), .int .i64 (R2.kb.epo), .slice a_y (os_y.length) c_y, .int .i64 (R2.bad), .bool false], .int .i64 (R2.e)], .pointer (some ⟨bp, 0, none⟩), .slice a (rs.length) cp, .int .i64 (i), .pointer (some ⟨b60, o61, none⟩), .agg #[.string (y_x22.ten), .string (y_x22.clu), .int .i64 (y_x22.epo), .slice a_x22 (rs_x22.length) c_x22], .tuple #[.agg #[.string (R2.kb.ten), .string (R2.kb.clu), .int .i64 (R2.kb.epo), .slice a_y (os_y.length) c_y, .int .i64 (R2.bad), .bool false], .int .i64 (R2.e)], .agg #[.string (R2.kb.ten), .string (R2.kb.clu), .int .i64 (R2.kb.epo), .slice a_y (os_y.length) c_y, .int .i64 (R2.bad), .bool false], .int .i64 (R2.e), .int .i64 (R.e), .int .i64 (R2.e), .bool false, .bool false, .pointer (some ⟨bp, 0, none⟩), .pointer (some ⟨bv, 0, none⟩), .bool true, .bool false, .bool false, .bool false, .pointer (some ⟨n68, 5, none⟩), .bool false, .bool false, .bool false, .pointer (some ⟨n68, 0, none⟩), .pointer (some ⟨n68, 3, none⟩), .slice a_y (os_y.length) c_y, .int .i64 (((os_y.length : Nat) : Int)), .bool false, .bool false, .bool false, .pointer (some ⟨n68, 4, none⟩), .int .i64 (R2.bad), .pointer (some ⟨n24, 4, none⟩), .int .i64 (R.bad), .bool false, .bool false], rfl⟩
         ·exfalso
          exact c13_25 t_bad
        ·exfalso
         exact c13_18 (by rw [D_y.1, t_ser]; rfl)
      ·exfalso
       rw [t_F, t_S] at c13_6
       exact absurd (c13_6.symm.trans (same_refl hPi2)) Bool.false_ne_true
     ·exfalso
      exact c13_2 t_e.symm
    ·exfalso
     have e0 : R.st = P := by rw [hR]; exact (takeP_no (by rw [← hR]; exact c9_1)).2.2.2
     rw [show R.F = P.F from congrArg PSt.F e0, show R.S = P.S from congrArg PSt.S e0] at c9_5
     exact absurd (c9_5.symm.trans (same_refl hPi)) Bool.false_ne_true
  ·rw [decide_eq_false c5_3]
   refine AWp.condF rfl rfl ?_
   refine AWp.exit ?_
   refine AWp.seq (AWp.rowV (l := _) pok ?_)
   refine sq.c (v := .bool true) rfl rfl rfl rfl ?_
   refine sq.e ?_
   refine AWp.ret ?_
   refine ⟨rfl, [.bool true], rfl, .bool true, rfl, hs, hn, ?_⟩
   rfl
end Go.Proofs.YtkpaklofdkjinaaDoor
namespace Go.Proofs.YtkpaklofdkjinaaDoor
open Go Go.Abs Go.ChangeShapes Go.RowKit Go.WideShapes
set_option maxRecDepth 100000
set_option maxHeartbeats 1000000
theorem exists_list {α : Type} {Q : Nat → α → Prop} : ∀ (len : Nat), (∀ i, i < len → ∃ x, Q i x) → ∃ ls : List α, ls.length = len ∧ ∀ i x, ls[i]? = some x → Q i x := by
  intro len
  induction len with
  | zero => intro _; exact ⟨[], rfl, fun i x h => by simp at h⟩
  | succ len ih =>
    intro h
    obtain ⟨ls, hl, hq⟩ := ih fun i hi => h i (by omega)
    obtain ⟨x, hx⟩ := h len (by omega)
    refine ⟨ls ++ [x], by simp [hl], fun i y hy => ?_⟩
    by_cases hi : i < ls.length
    · rw [List.getElem?_append_left hi] at hy; exact hq i y hy
    · rw [List.getElem?_append_right (by omega)] at hy
      have : i - ls.length = 0 := by
        cases hc : i - ls.length with
        | zero => rfl
        | succ k => rw [hc] at hy; simp at hy
      rw [this] at hy
      simp at hy
      subst hy
      rw [show i = len by omega]
      exact hx
theorem choose_list {β γ : Type} {O : β → γ → Prop} {bs : List β} (h : ∀ b ∈ bs, ∃ c, O b c) : ∃ cs : List γ, cs.length = bs.length ∧ ∀ (i : Nat) b c, bs[i]? = some b → cs[i]? = some c → O b c := by
  obtain ⟨cs, hl, hq⟩ := exists_list (Q := fun i c => ∀ b, bs[i]? = some b → O b c) bs.length fun i hi => by
    obtain ⟨c, hc⟩ := h _ (List.getElem_mem hi)
    refine ⟨c, fun b hb => ?_⟩
    rw [List.getElem?_eq_getElem hi] at hb
    cases hb; exact hc
  exact ⟨cs, hl, fun i b c hb hc => hq i c hc b hb⟩
theorem row_cell {α : Type} (E : Enc α) {xs : List α} {i : Nat} {y : Value} (h : (E.row xs)[i]? = some y) : ∃ x, xs[i / E.k]? = some x ∧ (E.cells x)[i % E.k]? = some y ∧ i / E.k < xs.length := by
  have hi := (List.getElem?_eq_some_iff.1 h).1
  rw [E.row_length] at hi
  have hq : i / E.k < xs.length := by rw [Nat.div_lt_iff_lt_mul E.pos, Nat.mul_comm]; exact hi
  refine ⟨xs[i / E.k], List.getElem?_eq_getElem hq, ?_, hq⟩
  have hr : i % E.k < (E.cells xs[i / E.k]).length := by rw [E.len]; exact Nat.mod_lt _ E.pos
  have e := E.row_get xs (i / E.k) _ (List.getElem?_eq_getElem hq) (i % E.k) _ (List.getElem?_eq_getElem hr)
  rw [Nat.div_add_mod] at e
  rw [h] at e
  rw [List.getElem?_eq_getElem hr]
  exact e.symm
def OSl {α : Type} (E : Enc α) (W : World) (v : Value) (ls : List α) : Prop :=
  (v = .slice none 0 0 ∧ ls = []) ∨ (∃ a, v = .slice (some a) 0 0 ∧ ls = []) ∨
  ∃ (bk off cap : Nat) (c : Array Value) (el : TypeId) (fr : Nat × Nat), v = .slice (some ⟨bk, off, none⟩) ls.length cap ∧ ls.length ≤ cap ∧ cap ≤ maxLen ∧ W.heap[bk]? = some (.cells c el fr) ∧ off + E.k * ls.length ≤ c.size ∧ ∀ i y, (E.row ls)[i]? = some y → c[off + i]? = some y
theorem cell_at {W : World} {a : Addr} {z : Value} (h : W.cell? a = some z) : ∃ bk off c el fr, a = ⟨bk, off, none⟩ ∧ W.heap[bk]? = some (.cells c el fr) ∧ off < c.size := by
  have hs := World.cell?_spot h
  obtain ⟨bk, off, sp⟩ := a
  simp only at hs
  subst hs
  unfold World.cell? at h
  split at h
  · rename_i c el fr hh
    simp at h
    exact ⟨bk, off, c, el, fr, rfl, hh, (Array.getElem?_eq_some_iff.1 h).1⟩
  · cases h
theorem cells_at {W : World} {base n : Nat} {a : Addr} {cs : List Value} (h : W.cells? base a n = some cs) : ∀ j, j < n → ∃ z, cs[j]? = some z ∧ W.cell? (a.add j) = some z := by
  intro j hj
  unfold World.cells? at h
  split at h
  · exact Lib.mapM_at h j j (by rw [List.getElem?_range hj])
  · cases h
theorem open_sl {α : Type} {E : Enc α} {Q : α → Prop} {H : Type} {enc : TypeId × Value → H} {W : World} {base : Nat} {held : Bool} {t e : TypeId} (ut : Tryd.prog.underlying t = some (.slice e)) (hk : Tryd.prog.cellsOf e = E.k)
    (one : ∀ {n : Nat} {cs : List Value} {x : DataW H × List MemPlace}, DataW.trod enc Tryd.prog W base (fun _ => true) held n e cs = some x → ∃ a : α, cs = E.cells a ∧ Q a)
    {fuel : Nat} {v : Value} {x : DataW H × List MemPlace} (h : DataW.trod enc Tryd.prog W base (fun _ => true) held fuel t [v] = some x) : ∃ ls, OSl E W v ls ∧ ∀ a ∈ ls, Q a := by
  rcases DataW.trod_slice ut h with ⟨h1, _⟩ | ⟨a, len, cap, elems, rest, n, rfl, h1, _, _, hl, hm, hlen, hel, hr, _⟩
  · cases h1
    exact ⟨[], .inl ⟨rfl, rfl⟩, fun a ha => by cases ha⟩
  · cases h1
    by_cases hc : cap = 0
    · have h0 : len = 0 := by omega
      subst hc; subst h0
      exact ⟨[], .inr (.inl ⟨a, rfl, rfl⟩), fun a ha => by cases ha⟩
    · rw [hk] at hel
      obtain ⟨hr1, hr2⟩ := hr rfl
      rw [hk] at hr2
      have hkp := E.pos
      have add0 : a.add 0 = a := by unfold Addr.add; rfl
      have key : ∃ z, W.cell? a = some z := by
        by_cases h0 : len = 0
        · have e1 := hr2 0 (by omega)
          obtain ⟨y, hy⟩ : ∃ y, rest[0]? = some y := ⟨rest[0]'(by omega), List.getElem?_eq_getElem _⟩
          rw [hy, Option.bind_eq_some_iff] at e1
          obtain ⟨cs, hcs, _⟩ := e1
          obtain ⟨z, _, hz⟩ := cells_at hcs 0 hkp
          rw [h0, Nat.zero_add, Nat.zero_mul, add0, add0] at hz
          exact ⟨z, hz⟩
        · have e1 := hel 0 (by omega)
          obtain ⟨y, hy⟩ : ∃ y, elems[0]? = some y := ⟨elems[0]'(by omega), List.getElem?_eq_getElem _⟩
          rw [hy, Option.bind_eq_some_iff] at e1
          obtain ⟨cs, hcs, _⟩ := e1
          obtain ⟨z, _, hz⟩ := cells_at hcs 0 hkp
          rw [Nat.zero_mul, add0, add0] at hz
          exact ⟨z, hz⟩
      obtain ⟨z, hz⟩ := key
      obtain ⟨bk, off, c, el, fr, rfl, hheap, hoff⟩ := cell_at hz
      have hcell : ∀ i, i < len → ∃ x : α, Q x ∧ ∀ j y, (E.cells x)[j]? = some y → c[off + (E.k * i + j)]? = some y := by
        intro i hi
        have h2 := hel i hi
        obtain ⟨y, hy⟩ : ∃ y, elems[i]? = some y := ⟨elems[i]'(by omega), List.getElem?_eq_getElem _⟩
        rw [hy, Option.bind_eq_some_iff] at h2
        obtain ⟨cs, hcs, htr⟩ := h2
        obtain ⟨x, rfl, hx⟩ := one htr
        refine ⟨x, hx, fun j y hj => ?_⟩
        have hjl : j < E.k := by have := (List.getElem?_eq_some_iff.1 hj).1; rw [E.len] at this; exact this
        obtain ⟨z, f0, g0⟩ := cells_at hcs j hjl
        rw [hj] at f0
        cases f0
        rw [Addr.add_plain, Addr.add_plain, cell_of_block hheap] at g0
        rw [← g0]; congr 1; rw [Nat.mul_comm]; omega
      obtain ⟨ls, hll, hq⟩ := exists_list len hcell
      subst hll
      have hcells : ∀ i y, (E.row ls)[i]? = some y → c[off + i]? = some y := by
        intro i y hy
        obtain ⟨x, hx, hj, _⟩ := row_cell E hy
        have := (hq _ _ hx).2 _ _ hj
        rw [Nat.div_add_mod] at this
        exact this
      refine ⟨ls, .inr (.inr ⟨bk, off, cap, c, el, fr, rfl, hl, hm, hheap, ?_, hcells⟩), fun x hx => ?_⟩
      · rcases Nat.eq_zero_or_pos (E.k * ls.length) with h0 | h0
        · omega
        · have hlt : E.k * ls.length - 1 < (E.row ls).length := by rw [E.row_length]; omega
          have := hcells _ _ (List.getElem?_eq_getElem hlt)
          have := (Array.getElem?_eq_some_iff.1 this).1
          omega
      · obtain ⟨i, hi⟩ := List.getElem?_of_mem hx
        exact (hq i x hi).1
theorem add_sl {α β : Type} (E : Enc α) (E' : Enc β) (hkk : E.k = E'.k) {μ : Mu} {h : Heap} {n : Nat} {W : World} {v : Value} {ws : List β} (hr : Rel Tryd.prog μ h n W) (ro : ∀ b o, h.get b = some o → o.excl = false) (o : OSl E' W v ws)
    {xs : List α} (hlen : xs.length = ws.length) (hrel : ∀ (i : Nat) y y', (E.row xs)[i]? = some y → (E'.row ws)[i]? = some y' → VRel μ y y') :
    ∃ (μ' : Mu) (h' : Heap) (n' : Nat) (a : Option Addr) (cp : Nat), Rel Tryd.prog μ' h' n' W ∧ (∀ b o, h'.get b = some o → o.excl = false) ∧ h.sub h' ∧ μ.le μ' ∧ VRel μ' (.slice a xs.length cp) v ∧ FRow E h' (.slice a xs.length cp) xs ∧ xs.length < 9223372036854775808 ∧ xs.length ≤ cp ∧ cp < U := by
  rcases o with ⟨rfl, rfl⟩ | ⟨a, rfl, rfl⟩ | ⟨bk, off, cap, c, el, fr, rfl, hlc, hcm, hb, hoff, hcells⟩
  · obtain rfl : xs = [] := List.eq_nil_of_length_eq_zero hlen
    exact ⟨μ, h, n, none, 0, hr, ro, Heap.sub_refl _, μ.le_refl, .snil, .nil, by simp, by simp, by decide⟩
  · obtain rfl : xs = [] := List.eq_nil_of_length_eq_zero hlen
    exact ⟨μ, h, n, some ⟨0, 0, none⟩, 0, hr, ro, Heap.sub_refl _, μ.le_refl, .szero _ _ _, .inl ⟨rfl, .inr ⟨0, 0, 0, rfl⟩⟩, by simp, by simp, by decide⟩
  · have hl1 : (E.row xs).length = E'.k * ws.length := by rw [E.row_length, hkk, hlen]
    have hle : μ.le (μ.set n ⟨bk, off, c.size, 0⟩) := by
      intro b m hbm
      unfold Mu.set
      by_cases e : b = n
      · subst e; rw [hr.bound _ (Nat.le_refl _)] at hbm; cases hbm
      · simp [e, hbm]
    obtain ⟨hr1, ro1⟩ := hr.addRO ro (o := .cells (E.row xs) false ⟨el, 0, false⟩) (x := .cells c el fr) (m := ⟨bk, off, c.size, 0⟩) rfl hb
      ⟨rfl, by rw [hl1]; exact hoff, fun i y hy => by
        have hi : i < (E'.row ws).length := by rw [E'.row_length, ← hl1]; exact (List.getElem?_eq_some_iff.1 hy).1
        exact ⟨(E'.row ws)[i], hcells _ _ (List.getElem?_eq_getElem hi), (hrel i y _ hy (List.getElem?_eq_getElem hi)).mono hle⟩, by simp, rfl, rfl, by simp⟩
    have hmax : maxLen < U := by decide
    have hm : xs.length < 9223372036854775808 := by rw [hlen]; exact Nat.lt_of_le_of_lt (Nat.le_trans hlc hcm) (by decide)
    have hf : Free h n := fun b hb => hr.below hb
    refine ⟨_, _, _, some ⟨n, 0, none⟩, cap, hr1, ro1, sub_alloc hf, hle, ?_, ?_, hm, by rw [hlen]; exact hlc, Nat.lt_of_le_of_lt hcm hmax⟩
    · rw [hlen]
      exact VRel.slice (b := n) 0 ws.length cap cap (Mu.set_same _ _ _) (.inl ⟨by omega, rfl⟩)
    · refine .inr ⟨n, 0, cap, _, ⟨el, 0, false⟩, rfl, by rw [hlen]; exact hlc, Trie.get_set_same _ _ _, ?_, ?_⟩
      · rw [List.drop_zero, ← E.row_length, List.take_length]
      · rw [E.row_length]; omega
theorem row_rel {α β : Type} (E : Enc α) (E' : Enc β) (hkk : E.k = E'.k) {μ : Mu} {xs : List α} {ws : List β} (h : ∀ (i : Nat) a b, xs[i]? = some a → ws[i]? = some b → ∀ (j : Nat) y y', (E.cells a)[j]? = some y → (E'.cells b)[j]? = some y' → VRel μ y y') :
    ∀ (i : Nat) y y', (E.row xs)[i]? = some y → (E'.row ws)[i]? = some y' → VRel μ y y' := fun i y y' hy hy' => by
  obtain ⟨x, hx, hj, _⟩ := row_cell E hy
  obtain ⟨w, hw, hj', _⟩ := row_cell E' hy'
  rw [hkk] at hx hj
  exact h _ _ _ hx hw _ _ _ hj hj'
theorem row_flat {α : Type} (E : Enc α) (hfl : ∀ x, ((E.cells x).all flat) = true) {μ : Mu} {xs : List α} : ∀ (i : Nat) y y', (E.row xs)[i]? = some y → (E.row xs)[i]? = some y' → VRel μ y y' := fun i y y' hy hy' => by
  rw [hy] at hy'
  cases hy'
  obtain ⟨x, _, hj, _⟩ := row_cell E hy
  exact .flat_self (List.all_eq_true.1 (hfl x) y (List.mem_of_getElem? hj))
theorem add_list {β γ α : Type} {W : World} (O : β → γ → Prop) (R : Mu → α → β → Prop) (Fa : Heap → α → γ → Prop) (hRm : ∀ μ μ' a b, μ.le μ' → R μ a b → R μ' a b) (hFm : ∀ (h h' : Heap) a c, h.sub h' → Fa h a c → Fa h' a c)
    (one : ∀ (μ : Mu) (h : Heap) (n : Nat) b c, Rel Tryd.prog μ h n W → (∀ b o, h.get b = some o → o.excl = false) → O b c → ∃ (μ' : Mu) (h' : Heap) (n' : Nat) (a : α), Rel Tryd.prog μ' h' n' W ∧ (∀ b o, h'.get b = some o → o.excl = false) ∧ h.sub h' ∧ μ.le μ' ∧ R μ' a b ∧ Fa h' a c) :
    ∀ (bs : List β) (cs : List γ) (μ : Mu) (h : Heap) (n : Nat), cs.length = bs.length → (∀ (i : Nat) b c, bs[i]? = some b → cs[i]? = some c → O b c) → Rel Tryd.prog μ h n W → (∀ b o, h.get b = some o → o.excl = false) →
      ∃ (μ' : Mu) (h' : Heap) (n' : Nat) (az : List α), Rel Tryd.prog μ' h' n' W ∧ (∀ b o, h'.get b = some o → o.excl = false) ∧ h.sub h' ∧ μ.le μ' ∧ az.length = bs.length ∧ (∀ (i : Nat) a b, az[i]? = some a → bs[i]? = some b → R μ' a b) ∧ (∀ (i : Nat) a c, az[i]? = some a → cs[i]? = some c → Fa h' a c) := by
  intro bs
  induction bs with
  | nil =>
    intro cs μ h n hl hO hr ro
    exact ⟨μ, h, n, [], hr, ro, Heap.sub_refl _, μ.le_refl, rfl, (fun i a b ha => by simp at ha), (fun i a b ha => by simp at ha)⟩
  | cons b bs ih =>
    intro cs μ h n hl hO hr ro
    cases cs with
    | nil => simp at hl
    | cons c cs =>
      obtain ⟨m1, k1, n1, a, r1, ro1, s1, l1, x1, y1⟩ := one μ h n b c hr ro (hO 0 b c rfl rfl)
      obtain ⟨m2, k2, n2, az, r2, ro2, s2, l2, e2, x2, y2⟩ := ih cs m1 k1 n1 (by simpa using hl) (fun i b c hb hc => hO (i + 1) b c (by simpa using hb) (by simpa using hc)) r1 ro1
      refine ⟨m2, k2, n2, a :: az, r2, ro2, Heap.sub_trans s1 s2, Mu.le_trans l1 l2, by simp [e2], fun i a' b' ha hb => ?_, fun i a' c' ha hc => ?_⟩
      · cases i with
        | zero => simp at ha hb; subst ha; subst hb; exact hRm _ _ _ _ l2 x1
        | succ i => exact x2 i a' b' (by simpa using ha) (by simpa using hb)
      · cases i with
        | zero => simp at ha hc; subst ha; subst hc; exact hFm _ _ _ _ s2 y1
        | succ i => exact y2 i a' c' (by simpa using ha) (by simpa using hc)
/-! Series, batches. -/
def OSer (W : World) (r : RSer) (s : Ser) : Prop := OSl encLab W r.1 s.1 ∧ OSl encSmp W r.2 s.2
def OSers (W : World) (v : Value) (ss : List Ser) : Prop := ∃ ws, OSl encSer W v ws ∧ ss.length = ws.length ∧ ∀ (i : Nat) r s, ws[i]? = some r → ss[i]? = some s → OSer W r s
def OBat (W : World) (r : RBat) (b : Bat) : Prop := r.ten = b.ten ∧ r.clu = b.clu ∧ r.epo = b.epo ∧ OSers W r.ser b.ser
def OBats (W : World) (v : Value) (bs : List Bat) : Prop := ∃ ws, OSl encBat W v ws ∧ bs.length = ws.length ∧ ∀ (i : Nat) r b, ws[i]? = some r → bs[i]? = some b → OBat W r b
section
variable {H : Type} {enc : TypeId × Value → H} {W : World} {base : Nat} {held : Bool}
theorem ut_str : Tryd.prog.underlying 9 = some .string := by kernel_rfl
theorem open_lab {n : Nat} {cs : List Value} {x : DataW H × List MemPlace} (h : DataW.trod enc Tryd.prog W base (fun _ => true) held n 61 cs = some x) : ∃ a : Lab, cs = encLab.cells a ∧ True := by
  obtain ⟨y0, y1, n, _, hl, h0, h1⟩ := trod_struct2 Tryd.underlying61 h
  rw [show Tryd.prog.cellsOf 61 = 2 by kernel_rfl] at hl
  match cs, hl with
  | [a, b], _ =>
    obtain ⟨s, hs, _⟩ := DataW.trod_string ut_str h0
    obtain ⟨t, ht, _⟩ := DataW.trod_string ut_str h1
    rw [show Tryd.prog.cellsOf 9 = 1 by kernel_rfl] at hs ht
    have hs' : [a] = [Value.string s] := hs
    have ht' : [b] = [Value.string t] := ht
    cases hs'; cases ht'
    exact ⟨(s, t), rfl, trivial⟩
theorem open_smp {n : Nat} {cs : List Value} {x : DataW H × List MemPlace} (h : DataW.trod enc Tryd.prog W base (fun _ => true) held n 53 cs = some x) : ∃ a : Samp, cs = encSmp.cells a ∧ True := by
  obtain ⟨y0, y1, n, _, hl, h0, h1⟩ := trod_struct2 Tryd.underlying53 h
  rw [show Tryd.prog.cellsOf 53 = 2 by kernel_rfl] at hl
  match cs, hl with
  | [a, b], _ =>
    obtain ⟨s, hs, _⟩ := DataW.trod_int (k := .i64) (by kernel_rfl) h0
    obtain ⟨t, ht, _⟩ := DataW.trod_int (k := .u64) (by kernel_rfl) h1
    rw [show Tryd.prog.cellsOf 2 = 1 by kernel_rfl] at hs
    rw [show Tryd.prog.cellsOf 51 = 1 by kernel_rfl] at ht
    have hs' : [a] = [Value.int .i64 s] := hs
    have ht' : [b] = [Value.int .u64 t] := ht
    cases hs'; cases ht'
    exact ⟨(s, t), rfl, trivial⟩
theorem open_ser {n : Nat} {cs : List Value} {x : DataW H × List MemPlace} (h : DataW.trod enc Tryd.prog W base (fun _ => true) held n 43 cs = some x) : ∃ a : RSer, cs = encSer.cells a ∧ ∃ s : Ser, OSer W a s := by
  obtain ⟨y0, y1, n, _, hl, h0, h1⟩ := trod_struct2 Tryd.underlying43 h
  rw [show Tryd.prog.cellsOf 43 = 2 by kernel_rfl] at hl
  match cs, hl with
  | [a, b], _ =>
    rw [show Tryd.prog.cellsOf 40 = 1 by kernel_rfl] at h0
    rw [show Tryd.prog.cellsOf 41 = 1 by kernel_rfl] at h1
    obtain ⟨ls, o1, _⟩ := open_sl (E := encLab) (Q := fun _ => True) Tryd.underlying40 (by kernel_rfl) open_lab (v := a) h0
    obtain ⟨xs, o2, _⟩ := open_sl (E := encSmp) (Q := fun _ => True) Tryd.underlying41 (by kernel_rfl) open_smp (v := b) h1
    exact ⟨(a, b), rfl, (ls, xs), o1, o2⟩
theorem open_sers {n : Nat} {v : Value} {x : DataW H × List MemPlace} (h : DataW.trod enc Tryd.prog W base (fun _ => true) held n 29 [v] = some x) : ∃ ss, OSers W v ss := by
  obtain ⟨ws, o, q⟩ := open_sl (E := encSer) (Q := fun a => ∃ s, OSer W a s) Tryd.underlying29 (by kernel_rfl) open_ser h
  obtain ⟨ss, hl, hq⟩ := choose_list q
  exact ⟨ss, ws, o, hl, hq⟩
theorem open_bat {n : Nat} {cs : List Value} {x : DataW H × List MemPlace} (h : DataW.trod enc Tryd.prog W base (fun _ => true) held n 31 cs = some x) : ∃ a : RBat, cs = encBat.cells a ∧ ∃ b : Bat, OBat W a b := by
  obtain ⟨xs, n, _, _, hl, hxl, hall⟩ := DataW.trod_struct Tryd.underlying31 h
  rw [show Tryd.prog.cellsOf 31 = 4 by kernel_rfl] at hl
  match cs, hl, xs, hxl with
  | [a, b, c, d], _, [y0, y1, y2, y3], _ =>
    have h0 := hall 0 _ rfl
    have h1 := hall 1 _ rfl
    have h2 := hall 2 _ rfl
    have h3 := hall 3 _ rfl
    have k0 : DataW.trod enc Tryd.prog W base (fun _ => true) held n 9 (([a, b, c, d].drop 0).take (Tryd.prog.cellsOf 9)) = some y0 := h0
    have k1 : DataW.trod enc Tryd.prog W base (fun _ => true) held n 9 (([a, b, c, d].drop 1).take (Tryd.prog.cellsOf 9)) = some y1 := h1
    have k2 : DataW.trod enc Tryd.prog W base (fun _ => true) held n 2 (([a, b, c, d].drop 2).take (Tryd.prog.cellsOf 2)) = some y2 := h2
    have k3 : DataW.trod enc Tryd.prog W base (fun _ => true) held n 29 (([a, b, c, d].drop 3).take (Tryd.prog.cellsOf 29)) = some y3 := h3
    rw [show Tryd.prog.cellsOf 9 = 1 by kernel_rfl] at k0 k1
    rw [show Tryd.prog.cellsOf 2 = 1 by kernel_rfl] at k2
    rw [show Tryd.prog.cellsOf 29 = 1 by kernel_rfl] at k3
    obtain ⟨s, hs, _⟩ := DataW.trod_string ut_str k0
    obtain ⟨t, ht, _⟩ := DataW.trod_string ut_str k1
    obtain ⟨e, he, _⟩ := DataW.trod_int (k := .i64) (by kernel_rfl) k2
    obtain ⟨ss, o⟩ := open_sers (v := d) k3
    have hs' : [a] = [Value.string s] := hs
    have ht' : [b] = [Value.string t] := ht
    have he' : [c] = [Value.int .i64 e] := he
    cases hs'; cases ht'; cases he'
    exact ⟨⟨s, t, e, d⟩, rfl, ⟨s, t, e, ss⟩, rfl, rfl, rfl, o⟩
theorem open_bats {n : Nat} {v : Value} {x : DataW H × List MemPlace} (h : DataW.trod enc Tryd.prog W base (fun _ => true) held n 22 [v] = some x) : ∃ bs, OBats W v bs := by
  obtain ⟨ws, o, q⟩ := open_sl (E := encBat) (Q := fun a => ∃ b, OBat W a b) Tryd.underlying22 (by kernel_rfl) open_bat h
  obtain ⟨bs, hl, hq⟩ := choose_list q
  exact ⟨bs, ws, o, hl, hq⟩
end
theorem flat_lab (x : Lab) : ((encLab.cells x).all flat) = true := by
  simp only [encLab, List.all_cons, List.all_nil, Bool.and_true, Bool.and_eq_true]
  exact ⟨rfl, rfl⟩
theorem flat_smp (x : Samp) : ((encSmp.cells x).all flat) = true := by
  simp only [encSmp, List.all_cons, List.all_nil, Bool.and_true, Bool.and_eq_true]
  exact ⟨rfl, rfl⟩
section
variable {μ : Mu} {h : Heap} {n : Nat} {W : World} {v : Value}
theorem add_sers (hr : Rel Tryd.prog μ h n W) (ro : ∀ b o, h.get b = some o → o.excl = false) {ss : List Ser} (o : OSers W v ss) :
    ∃ (μ' : Mu) (h' : Heap) (n' : Nat) (a : Option Addr) (cp : Nat) (rs : List RSer), Rel Tryd.prog μ' h' n' W ∧ (∀ b o, h'.get b = some o → o.excl = false) ∧ h.sub h' ∧ μ.le μ' ∧ VRel μ' (.slice a rs.length cp) v ∧ FRow encSer h' (.slice a rs.length cp) rs ∧ FSers h' rs ss ∧ rs.length < 9223372036854775808 := by
  obtain ⟨ws, o1, hl, hO⟩ := o
  obtain ⟨m1, k1, n1, az, r1, ro1, s1, l1, e1, x1, y1⟩ := add_list (α := RSer) (W := W) (OSer W) (fun μ (a : RSer) (b : RSer) => VRel μ a.1 b.1 ∧ VRel μ a.2 b.2) FSer (fun μ μ' a b l q => ⟨q.1.mono l, q.2.mono l⟩) (fun h h' a c s q => q.keep (.sub s)) (fun μ h n b c hr ro q => by
    obtain ⟨m1, k1, n1, a1, p1, r1, ro1, s1, l1, x1, y1, _⟩ := add_sl encLab encLab rfl hr ro q.1 rfl (row_flat encLab flat_lab)
    obtain ⟨m2, k2, n2, a2, p2, r2, ro2, s2, l2, x2, y2, _⟩ := add_sl encSmp encSmp rfl r1 ro1 q.2 rfl (row_flat encSmp flat_smp)
    exact ⟨m2, k2, n2, (.slice a1 c.1.length p1, .slice a2 c.2.length p2), r2, ro2, Heap.sub_trans s1 s2, Mu.le_trans l1 l2, ⟨x1.mono l2, x2⟩, y1.keep (.sub s2), y2⟩) ws ss μ h n hl hO hr ro
  obtain ⟨m2, k2, n2, a, cp, r2, ro2, s2, l2, x2, y2, z2, _⟩ := add_sl encSer encSer rfl r1 ro1 o1 e1 (row_rel encSer encSer rfl fun i a b ha hb j y y' hy hy' => by
    have q := x1 i a b ha hb
    match j, hy, hy' with
    | 0, hy, hy' => cases hy; cases hy'; exact q.1
    | 1, hy, hy' => cases hy; cases hy'; exact q.2
    | j + 2, hy, _ => simp [encSer] at hy)
  exact ⟨m2, k2, n2, a, cp, az, r2, ro2, Heap.sub_trans s1 s2, Mu.le_trans l1 l2, x2, y2, ⟨by rw [e1, hl], fun i r s a b => (y1 i r s a b).keep (.sub s2)⟩, z2⟩
theorem add_bats (hr : Rel Tryd.prog μ h n W) (ro : ∀ b o, h.get b = some o → o.excl = false) {bs : List Bat} (o : OBats W v bs) :
    ∃ (μ' : Mu) (h' : Heap) (n' : Nat) (a : Option Addr) (cp : Nat) (rs : List RBat), Rel Tryd.prog μ' h' n' W ∧ (∀ b o, h'.get b = some o → o.excl = false) ∧ h.sub h' ∧ μ.le μ' ∧ VRel μ' (.slice a rs.length cp) v ∧ FRow encBat h' (.slice a rs.length cp) rs ∧ FBats h' rs bs ∧ rs.length < 9223372036854775808 := by
  obtain ⟨ws, o1, hl, hO⟩ := o
  obtain ⟨m1, k1, n1, az, r1, ro1, s1, l1, e1, x1, y1⟩ := add_list (α := RBat) (W := W) (OBat W) (fun μ (a : RBat) (b : RBat) => a.ten = b.ten ∧ a.clu = b.clu ∧ a.epo = b.epo ∧ VRel μ a.ser b.ser) FBat (fun μ μ' a b l q => ⟨q.1, q.2.1, q.2.2.1, q.2.2.2.mono l⟩) (fun h h' a c s q => q.keep (.sub s)) (fun μ h n b c hr ro q => by
    obtain ⟨m1, k1, n1, a1, p1, rs, r1, ro1, s1, l1, x1, y1, z1, _⟩ := add_sers hr ro q.2.2.2
    exact ⟨m1, k1, n1, ⟨b.ten, b.clu, b.epo, .slice a1 rs.length p1⟩, r1, ro1, s1, l1, ⟨rfl, rfl, rfl, x1⟩, q.1, q.2.1, q.2.2.1, rs, y1, z1⟩) ws bs μ h n hl hO hr ro
  obtain ⟨m2, k2, n2, a, cp, r2, ro2, s2, l2, x2, y2, z2, _⟩ := add_sl encBat encBat rfl r1 ro1 o1 e1 (row_rel encBat encBat rfl fun i a b ha hb j y y' hy hy' => by
    obtain ⟨q1, q2, q3, q4⟩ := x1 i a b ha hb
    match j, hy, hy' with
    | 0, hy, hy' => cases hy; cases hy'; rw [q1]; exact .string _
    | 1, hy, hy' => cases hy; cases hy'; rw [q2]; exact .string _
    | 2, hy, hy' => cases hy; cases hy'; rw [q3]; exact .int _ _
    | 3, hy, hy' => cases hy; cases hy'; exact q4
    | j + 4, hy, _ => simp [encBat] at hy)
  exact ⟨m2, k2, n2, a, cp, az, r2, ro2, Heap.sub_trans s1 s2, Mu.le_trans l1 l2, x2, y2, ⟨by rw [e1, hl], fun i r s a b => (y1 i r s a b).keep (.sub s2)⟩, z2⟩
end
theorem law_calls {W : World} {f : FuncId} {args args' : Array Value} {μ : Mu} {h : Heap} {n : Nat} (ro : ∀ b o, h.get b = some o → o.excl = false) (hr : Rel Tryd.prog μ h n W) (ha : ARel μ args args') (c : Tells Tryd.prog f args.toList h n (.bool true)) :
    Calls Tryd.prog f args' W fun e W' => e = .returned (.bool true) ∧ Below W.heap.size W W' :=
  calls_of_acall ro hr ha rfl (ACall.mono c fun _ h' _ _ _ ⟨e, _, _⟩ => ⟨h', Heap.sub_refl _, e⟩)
end Go.Proofs.YtkpaklofdkjinaaDoor
