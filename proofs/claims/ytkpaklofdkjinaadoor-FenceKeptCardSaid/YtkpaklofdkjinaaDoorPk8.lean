/- texts of the claim, part 8: FenT6 FenT7 FenP1 FenW FenT8 FenOpn. -/
import Derived.Test.YtkpaklofdkjinaaDoorPk7
import Derived.SevenTiedAt
import Derived.ChangeSame
set_option linter.unusedVariables false
set_option linter.unusedSimpArgs false
set_option linter.unusedSectionVars false
namespace Go.Proofs.YtkpaklofdkjinaaDoor
open Go Go.Abs Go.RowKit Go.Shelf
set_option maxRecDepth 100000
set_option maxHeartbeats 8000000
def plF (x : Fen) : Pl := (x.1, x.2.1)
def plO (x : POwn) : Pl := (x.1, keyA x.2.1)
def stepF (M : FM × Nat) (x : Fen) : FM × Nat := (mset M.1 M.2 (plF x) x.2.2, mck M.1 M.2 (plF x))
def stepO (M : SP × Nat) (x : POwn) : SP × Nat := (mset M.1 M.2 (plO x) x.2, mck M.1 M.2 (plO x))
def buildF (fs : List Fen) : FM × Nat := fs.foldl stepF ([], 0)
def buildO (os : List POwn) : SP × Nat := os.foldl stepO ([], 0)
theorem buildF_snoc (fs : List Fen) (x : Fen) : buildF (fs ++ [x]) = stepF (buildF fs) x := by unfold buildF; rw [List.foldl_append]; rfl
theorem buildO_snoc (fs : List POwn) (x : POwn) : buildO (fs ++ [x]) = stepO (buildO fs) x := by unfold buildO; rw [List.foldl_append]; rfl
def okRow {α : Type} (p : α → Bool) (k : α → Pl) (xs : List α) : Prop := (∀ x ∈ xs, p x = true) ∧ Rising (xs.map k)
theorem okRow_bad {α : Type} {p : α → Bool} {k : α → Pl} {xs : List α} {i : Nat} {x : α} (hx : xs[i]? = some x) (h : p x = false) : ¬ okRow p k xs := fun q => by
  have := q.1 x (List.mem_of_getElem? hx)
  rw [h] at this; cases this
theorem okRow_row {α : Type} {p : α → Bool} {k : α → Pl} {xs : List α} {i : Nat} {x y : α} (hx : xs[i + 1]? = some x) (hy : xs[i]? = some y) (h : ¬ ltP (k y) (k x)) : ¬ okRow p k xs := fun q => by
  have := List.pairwise_iff_getElem.1 q.2 i (i + 1) (by rw [List.length_map]; exact (List.getElem?_eq_some_iff.1 hy).1) (by rw [List.length_map]; exact (List.getElem?_eq_some_iff.1 hx).1) (by omega)
  rw [List.getElem_map, List.getElem_map] at this
  obtain ⟨_, e1⟩ := List.getElem?_eq_some_iff.1 hx
  obtain ⟨_, e2⟩ := List.getElem?_eq_some_iff.1 hy
  rw [e1, e2] at this
  exact h this
theorem okRow_nil {α : Type} (p : α → Bool) (k : α → Pl) : okRow p k [] := ⟨by simp, List.Pairwise.nil⟩
theorem okRow_snoc {α : Type} {p : α → Bool} {k : α → Pl} {xs : List α} {x : α} (q : okRow p k xs) (h : p x = true) (hr : ∀ y, xs.getLast? = some y → ltP (k y) (k x)) : okRow p k (xs ++ [x]) := by
  refine ⟨fun y hy => ?_, ?_⟩
  · rcases List.mem_append.1 hy with hy | hy
    · exact q.1 y hy
    · rw [List.mem_singleton] at hy; subst hy; exact h
  · rw [List.map_append]
    show List.Pairwise ltP _
    rw [List.pairwise_append]
    refine ⟨q.2, by simp, fun a ha b hb => ?_⟩
    simp only [List.map_cons, List.map_nil, List.mem_singleton] at hb
    subst hb
    cases hl : xs.getLast? with
    | none => rw [List.getLast?_eq_none_iff] at hl; subst hl; simp at ha
    | some y =>
      have h1 := hr y hl
      obtain ⟨ys, rfl⟩ := List.getLast?_eq_some_iff.1 hl
      have h2 := q.2
      unfold Rising at h2
      rw [List.map_append, List.pairwise_append] at h2
      rw [List.map_append, List.mem_append] at ha
      rcases ha with ha | ha
      · exact ltP_trans (h2.2.2 a ha (k y) (by simp)) h1
      · simp only [List.map_cons, List.map_nil, List.mem_singleton] at ha
        rw [ha]; exact h1
theorem last_take {α : Type} {xs : List α} {i : Int} {y : α} (h0 : 0 < i) (h1 : i ≤ (xs.length : Nat)) (h : (xs.take i.toNat).getLast? = some y) : xs[(i - 1).toNat]? = some y := by
  rw [List.getLast?_eq_getElem?, List.length_take, List.getElem?_take] at h
  split at h
  · rw [show min i.toNat xs.length - 1 = (i - 1).toNat by omega] at h; exact h
  · cases h
theorem last_take0 {α : Type} {xs : List α} {i : Int} {y : α} (h0 : ¬ 0 < i) (h : (xs.take i.toNat).getLast? = some y) : False := by
  rw [show i.toNat = 0 by omega] at h; cases h
theorem ofS_spec {h : Heap} {n : Nat} {a a2 : Option Addr} {cp cp2 : Nat} (fs : List Fen) (rs : List ROwn) (os : List POwn) (hr : IsRow encFen h (.slice a fs.length cp) fs) (ho : FRow encOwn h (.slice a2 rs.length cp2) rs) (hd : FOwns h rs os) (hld : Laid0 h) (hq : ∀ x ∈ fs, x.1.data.toList.length < 9223372036854775808 ∧ x.2.1.data.toList.length < 9223372036854775808) (hsm : ∀ x ∈ os, x.2.1.length ≤ 1200 ∧ (∀ y ∈ x.2.1, y.1.data.toList.length < 6000 ∧ y.2.data.toList.length < 6000) ∧ x.2.2.length < 1000000000000 ∧ x.1.data.toList.length < 9223372036854775808) (hl1 : fs.length < 1000000000000) (hl2 : rs.length < 1000000000000) :
    Makes Tryd.prog 23 [.slice a (fs.length) cp, .slice a2 (rs.length) cp2] h n ([]) (fun v h2 _ => (¬ (okRow fmayB plF fs ∧ okRow omayB plO os) → v = .tuple #[.pointer none, .int .i64 4]) ∧ ((okRow fmayB plF fs ∧ okRow omayB plO os) → ∃ b f g G, v = .tuple #[.pointer (some ⟨b, 0, none⟩), .int .i64 0] ∧ h2.get b = some (.cells [.map (some f), .map (some g)] true ⟨69, 0, true⟩) ∧ h2.get f = some (.map (mapE plV intV (buildF fs).1) (buildF fs).2) ∧ h2.get g = some (.map (mapE plV ownV G) (buildO os).2) ∧ MOk (buildF fs).1 (buildF fs).2 ∧ MOk G (buildO os).2 ∧ SMIs h2 G (buildO os).1 ∧ h.get b = none ∧ h.get f = none ∧ h.get g = none ∧ f ≠ g)) := by
 refine Makes.free fun hf => ?_
 have hrl : rs.length = os.length := hd.1
 have D := hd
 have hs : SubBut h h ([]) := .refl _ _
 have hn : n ≤ n := Nat.le_refl _
 have hf0 := hf
 refine Makes.of_bodyV (args := [.slice a (fs.length) cp, .slice a2 (rs.length) cp2]) (vs := [.slice a (fs.length) cp, .slice a2 (rs.length) cp2, undef, undef, undef, undef, undef, undef, undef, undef, undef, undef, undef, undef, undef, undef, undef, undef, undef, undef, undef, undef, undef, undef, undef, undef, undef, undef, undef, undef, undef, undef, undef, undef, undef, undef, undef, undef, undef, undef, undef, undef, undef, undef, undef, undef, undef, undef, undef, undef, undef, undef, undef, undef, undef, undef, undef, undef, undef, undef, undef, undef, undef, undef, undef, undef, undef, undef, undef, undef, undef, undef, undef, undef, undef, undef, undef, undef, undef, undef, undef, undef, undef, undef, undef, undef, undef, undef, undef, undef, undef, undef, undef, undef, undef]) Tryd.func23 rfl rfl ?_
 refine AWp.seq (AWp.rowV (l := _) pok ?_)
 refine sq.c (v := .pointer none) rfl rfl rfl rfl ?_
 refine sq.c (v := .int .i64 (0)) rfl rfl rfl rfl ?_
 refine sq.e (AWp.seq (AWp.rowV (l := _) pok ?_))
 refine sq.k rfl (CallsF.fn rfl (by kernel_rfl) rfl rfl) (new_spec) ?_
 rintro _ h1 n2 ⟨b, f, g, rfl, hb_, hf_, hg_, y_b, y_f, y_g, ne_f_g⟩ s3 hn2 hf
 have z_b := sub_none hs y_b
 have z_f := sub_none hs y_f
 have z_g := sub_none hs y_g
 have ne_b_f : b ≠ f := by intro e; subst e; rw [hb_] at hf_; cases hf_
 have ne_b_g : b ≠ g := by intro e; subst e; rw [hb_] at hg_; cases hg_
 have okF : MOk ([] : FM) 0 := .nil
 have okG : MOk ([] : SM) 0 := .nil
 refine sq.w ?_
 have ho := ho.keep (.of0 s3)
 have D := D.keep (.of0 s3)
 have hs := hs.trans s3
 have hn := Nat.le_trans hn hn2
 have hS : SMIs h1 ([] : SM) ([] : SP) := SMIs.nil _
 refine sq.c (v := .pointer (some ⟨b, 0, none⟩)) rfl rfl rfl rfl ?_
 refine sq.e (AWp.seq (AWp.rowV (l := _) pok ?_))
 have e_b_n2 : b ≠ n2 := hf.ne hb_
 have e_f_n2 : f ≠ n2 := hf.ne hf_
 have e_g_n2 : g ≠ n2 := hf.ne hg_
 have z_n2 : h.get n2 = none := hf0 _ hn
 refine sq.op rfl rfl (Does.alloc (cs := [.string (⟨#[]⟩), .string (⟨#[]⟩)]) hf (z := .agg #[.string (⟨#[]⟩), .string (⟨#[]⟩)]) (by kernel_rfl) rfl) ?_
 rintro _ h5 n6 ⟨rfl, hb4⟩ s7 hn2 hf
 refine sq.w ?_
 have ho := ho.keep (.of0 s7)
 have D := D.keep (.of0 s7)
 have hS := hS.keep (.of0 s7)
 have hb_ := s7.sub _ _ hb_
 have hf_ := s7.sub _ _ hf_
 have hg_ := s7.sub _ _ hg_
 have hs := hs.trans s7
 have hn := Nat.le_trans hn hn2
 refine sq.e (AWp.seq (AWp.seq (AWp.rowV (l := _) pok ?_)))
 refine sq.c (v := .slice a (fs.length) cp) rfl rfl rfl rfl ?_
 refine sq.c (v := .int .i64 (((fs.length : Nat) : Int))) rfl rfl (by kernel_rfl) rfl ?_
 refine sq.c (v := .int .i64 (0)) rfl rfl rfl rfl ?_
 refine sq.e (AWp.block ?_)
 refine AWp.loopV (fun d vs h9 n10 => ∃ (i : Int) (M : FM × Nat) (la : Pl), d = ((fs.length : Nat) - i + 1).toNat ∧ SubBut h h9 ([]) ∧ n ≤ n10 ∧ Free h9 n10 ∧ FRow encOwn h9 (.slice a2 (rs.length) cp2) (rs) ∧ FOwns h9 rs os ∧ h9.get b = some (.cells [.map (some f), .map (some g)] true ⟨69, 0, true⟩) ∧ h9.get f = some (.map (mapE plV intV M.1) M.2) ∧ h9.get g = some (.map (mapE plV ownV ([] : SM)) 0) ∧ SMIs h9 ([] : SM) ([] : SP) ∧ h9.get n2 = some (.cells [.string (la.1), .string (la.2)] true ⟨73, 0, true⟩) ∧ MOk M.1 M.2 ∧ (0 ≤ i) ∧ (i ≤ (fs.length : Nat)) ∧ (M = buildF (fs.take i.toNat)) ∧ (okRow fmayB plF (fs.take i.toNat)) ∧ (0 < i → ∀ z, fs[(i - 1).toNat]? = some z → la = plF z) ∧ ∃ y8 : Nat → Value, vs = [.slice a (fs.length) cp, .slice a2 (rs.length) cp2, undef, undef, (y8 4), (y8 5), .pointer (some ⟨b, 0, none⟩), .pointer (some ⟨n2, 0, none⟩), (y8 8), (y8 9), (y8 10), undef, undef, undef, .pointer (some ⟨b, 0, none⟩), .slice a (fs.length) cp, .int .i64 (((fs.length : Nat) : Int)), .int .i64 (i), (y8 18), (y8 19), (y8 20), (y8 21), (y8 22), (y8 23), (y8 24), (y8 25), (y8 26), (y8 27), (y8 28), (y8 29), (y8 30), (y8 31), (y8 32), (y8 33), (y8 34), (y8 35), (y8 36), (y8 37), (y8 38), (y8 39), (y8 40), (y8 41), (y8 42), (y8 43), (y8 44), (y8 45), (y8 46), (y8 47), (y8 48), (y8 49), (y8 50), undef, undef, undef, undef, undef, undef, undef, undef, undef, undef, undef, undef, undef, undef, undef, undef, undef, undef, undef, undef, undef, undef, undef, undef, undef, undef, undef, undef, undef, undef, undef, undef, undef, undef, undef, undef, undef, undef, undef, undef, undef, undef, undef, undef]) (((fs.length : Nat) - (0 : Int) + 1).toNat) ⟨0, ([], 0), (⟨#[]⟩, ⟨#[]⟩), rfl, hs, hn, hf, ho, D, hb_, hf_, hg_, hS, hb4, okF, (by omega), (by omega), (rfl), (okRow_nil _ _), (fun q => by omega), getV [undef, undef, undef, undef, .pointer none, .int .i64 (0), undef, undef, undef, undef, undef, undef, undef, undef, undef, undef, undef, undef, undef, undef, undef, undef, undef, undef, undef, undef, undef, undef, undef, undef, undef, undef, undef, undef, undef, undef, undef, undef, undef, undef, undef, undef, undef, undef, undef, undef, undef, undef, undef, undef, undef], rfl⟩ ?_
 rintro d vs h9 n10 ⟨i, M, la, rfl, hs, hn, hf, ho, D, hb_, hf_, hg_, hS, hb4, okf2, hi0, hi1, hM, hyes, hla, y8, rfl⟩
 refine AWp.seq (AWp.rowV (l := _) pok ?_)
 refine sq.c (v := .bool (decide (i < (((fs.length : Nat) : Int))))) rfl rfl rfl rfl ?_
 refine sq.e (AWp.seq ?_)
 by_cases c4_0 : i < (((fs.length : Nat) : Int))
 ·rw [decide_eq_true c4_0]
  refine AWp.condT rfl rfl ?_
  refine AWp.skip (AWp.seq (AWp.block (AWp.seq (AWp.rowV (l := _) pok ?_))))
  refine sq.c (v := .int .i64 (i)) rfl rfl rfl rfl ?_
  have i17 : (0 : Int) ≤ (i : Int) := by omega
  obtain ⟨x18, hx_x18⟩ : ∃ x, (fs)[((i : Int)).toNat]? = some x := ⟨_, List.getElem?_eq_getElem (by omega)⟩
  obtain ⟨b11, o12, cs_b11, ow_b11, ci_b11, ie16, hb13, hc14, hr15⟩ := IsRow.at (P := Tryd.prog) (t := 27) (e := 56) (k := .i64) (by kernel_rfl) (by kernel_rfl) (hr.keep hs) i17 hx_x18
  refine sq.c (v := .pointer (some ⟨b11, o12, none⟩)) rfl rfl ie16 rfl ?_
  refine sq.c (v := .agg #[.string (x18.1), .string (x18.2.1), .int .i64 (x18.2.2)]) rfl rfl (ldR (P := Tryd.prog) (t := 56) (k := 3) (xs := [.string (x18.1), .string (x18.2.1), .int .i64 (x18.2.2)]) (by kernel_rfl) (by kernel_rfl) hr15) rfl ?_
  have e_b_n10 : b ≠ n10 := hf.ne hb_
  have e_f_n10 : f ≠ n10 := hf.ne hf_
  have e_g_n10 : g ≠ n10 := hf.ne hg_
  have e_n2_n10 : n2 ≠ n10 := hf.ne hb4
  have z_n10 : h.get n10 = none := hf0 _ hn
  refine sq.op rfl rfl (Does.alloc (cs := [.string (⟨#[]⟩), .string (⟨#[]⟩), .int .i64 (0)]) hf (z := .agg #[.string (⟨#[]⟩), .string (⟨#[]⟩), .int .i64 (0)]) (by kernel_rfl) rfl) ?_
  rintro _ h20 n21 ⟨rfl, hb19⟩ s22 hn2 hf
  refine sq.w ?_
  have ho := ho.keep (.of0 s22)
  have D := D.keep (.of0 s22)
  have hS := hS.keep (.of0 s22)
  have hb_ := s22.sub _ _ hb_
  have hf_ := s22.sub _ _ hf_
  have hg_ := s22.sub _ _ hg_
  have hb4 := s22.sub _ _ hb4
  have hs := hs.trans s22
  have hn := Nat.le_trans hn hn2
  refine sq.c (v := .int .i64 (i)) rfl rfl rfl rfl ?_
  refine sq.op rfl rfl (Does.store (k := 3) (xs := [.string (x18.1), .string (x18.2.1), .int .i64 (x18.2.2)]) (cs' := [.string (x18.1), .string (x18.2.1), .int .i64 (x18.2.2)]) hf (by kernel_rfl) rfl rfl rfl hb19 rfl rfl (Nat.le_of_ble_eq_true rfl) rfl) ?_
  rintro _ h24 n25 ⟨rfl, hb23⟩ s26 hn2 hf
  refine sq.w0 ?_
  have ho := ho.keep (.own s26 hb19 rfl)
  have D := D.keep (.own s26 hb19 rfl)
  have hS := hS.keep (.own s26 hb19 rfl)
  have hb_ := s26.get1 (e_b_n10) hb_
  have hf_ := s26.get1 (e_f_n10) hf_
  have hg_ := s26.get1 (e_g_n10) hg_
  have hb4 := s26.get1 (e_n2_n10) hb4
  have hs := hs.fresh z_n10 s26
  have hn := Nat.le_trans hn hn2
  refine sq.e (AWp.seq (AWp.rowV (l := _) pok ?_))
  refine sq.c (v := .pointer (some ⟨n10, 0, none⟩)) rfl rfl (by kernel_rfl) rfl ?_
  refine sq.c (v := .string (x18.1)) rfl rfl (ld1 (P := Tryd.prog) (t := 9) (p := 0) (v := .string (x18.1)) (by kernel_rfl) (by kernel_rfl) hb23 rfl) rfl ?_
  refine sq.c (v := .pointer (some ⟨n10, 1, none⟩)) rfl rfl (by kernel_rfl) rfl ?_
  refine sq.c (v := .string (x18.2.1)) rfl rfl (ld1 (P := Tryd.prog) (t := 9) (p := 1) (v := .string (x18.2.1)) (by kernel_rfl) (by kernel_rfl) hb23 rfl) rfl ?_
  refine sq.c (v := .agg #[.string (x18.1), .string (x18.2.1)]) rfl rfl (by kernel_rfl) rfl ?_
  have e_b_n25 : b ≠ n25 := hf.ne hb_
  have e_f_n25 : f ≠ n25 := hf.ne hf_
  have e_g_n25 : g ≠ n25 := hf.ne hg_
  have e_n2_n25 : n2 ≠ n25 := hf.ne hb4
  have e_n10_n25 : n10 ≠ n25 := hf.ne hb23
  have z_n25 : h.get n25 = none := hf0 _ hn
  refine sq.op rfl rfl (Does.alloc (cs := [.string (⟨#[]⟩), .string (⟨#[]⟩)]) hf (z := .agg #[.string (⟨#[]⟩), .string (⟨#[]⟩)]) (by kernel_rfl) rfl) ?_
  rintro _ h28 n29 ⟨rfl, hb27⟩ s30 hn2 hf
  refine sq.w ?_
  have ho := ho.keep (.of0 s30)
  have D := D.keep (.of0 s30)
  have hS := hS.keep (.of0 s30)
  have hb_ := s30.sub _ _ hb_
  have hf_ := s30.sub _ _ hf_
  have hg_ := s30.sub _ _ hg_
  have hb4 := s30.sub _ _ hb4
  have hb23 := s30.sub _ _ hb23
  have hs := hs.trans s30
  have hn := Nat.le_trans hn hn2
  refine sq.op rfl rfl (Does.store (k := 2) (xs := [.string (x18.1), .string (x18.2.1)]) (cs' := [.string (x18.1), .string (x18.2.1)]) hf (by kernel_rfl) rfl rfl rfl hb27 rfl rfl (Nat.le_of_ble_eq_true rfl) rfl) ?_
  rintro _ h32 n33 ⟨rfl, hb31⟩ s34 hn2 hf
  refine sq.w0 ?_
  have ho := ho.keep (.own s34 hb27 rfl)
  have D := D.keep (.own s34 hb27 rfl)
  have hS := hS.keep (.own s34 hb27 rfl)
  have hb_ := s34.get1 (e_b_n25) hb_
  have hf_ := s34.get1 (e_f_n25) hf_
  have hg_ := s34.get1 (e_g_n25) hg_
  have hb4 := s34.get1 (e_n2_n25) hb4
  have hb23 := s34.get1 (e_n10_n25) hb23
  have hs := hs.fresh z_n25 s34
  have hn := Nat.le_trans hn hn2
  refine sq.e (AWp.seq (AWp.seq (AWp.rowV (l := _) pok ?_)))
  refine sq.c (v := .agg #[.string (x18.1), .string (x18.2.1), .int .i64 (x18.2.2)]) rfl rfl (ldA (P := Tryd.prog) (t := 56) (p := 0) (k := 3) (xs := [.string (x18.1), .string (x18.2.1), .int .i64 (x18.2.2)]) (by kernel_rfl) (by kernel_rfl) hb23 rfl (Nat.le_of_ble_eq_true rfl)) rfl ?_
  refine sq.t (v := .bool (fmayB x18)) rfl (CallsF.fn rfl (by kernel_rfl) rfl rfl) (fun hf => fmay_spec x18 (hq _ (List.mem_of_getElem? hx_x18)).1 (hq _ (List.mem_of_getElem? hx_x18)).2) hf rfl ?_
  intro n35 hn2 hf
  have hn := Nat.le_trans hn hn2
  rcases Bool.eq_false_or_eq_true (fmayB x18) with c7_1 | c7_1
  ·rw [c7_1]
   refine sq.c (v := .bool false) rfl rfl rfl rfl ?_
   refine sq.c (v := .bool false) rfl rfl rfl rfl ?_
   refine sq.c (v := .int .i64 (i)) (wantT (g := 3) (d := 30) rfl rfl rfl) rfl rfl rfl ?_
   refine sq.c (v := .bool (decide ((0 : Int) < i))) (wantT (g := 3) (d := 30) rfl rfl rfl) rfl rfl rfl ?_
   refine sq.c (v := .bool (decide ((0 : Int) < i))) (wantT (g := 3) (d := 30) rfl rfl rfl) rfl rfl rfl ?_
   by_cases c7_5 : (0 : Int) < i
   ·rw [decide_eq_true c7_5]
    refine sq.c (v := .agg #[.string (la.1), .string (la.2)]) (wantT (g := 6) (d := 33) rfl rfl rfl) rfl (ldA (P := Tryd.prog) (t := 73) (p := 0) (k := 2) (xs := [.string (la.1), .string (la.2)]) (by kernel_rfl) (by kernel_rfl) hb4 rfl (Nat.le_of_ble_eq_true rfl)) rfl ?_
    refine sq.c (v := .agg #[.string (x18.1), .string (x18.2.1)]) (wantT (g := 6) (d := 33) rfl rfl rfl) rfl (ldA (P := Tryd.prog) (t := 73) (p := 0) (k := 2) (xs := [.string (x18.1), .string (x18.2.1)]) (by kernel_rfl) (by kernel_rfl) hb31 rfl (Nat.le_of_ble_eq_true rfl)) rfl ?_
    refine sq.t (v := .bool (decide (ltP la (plF x18)))) (wantT (g := 6) (d := 33) rfl rfl rfl) (CallsF.fn rfl (by kernel_rfl) rfl rfl) (fun hf => ahead_spec la (plF x18)) hf rfl ?_
    intro n36 hn2 hf
    have hn := Nat.le_trans hn hn2
    rcases Bool.eq_false_or_eq_true (decide (ltP la (plF x18))) with c7_9 | c7_9
    ·rw [c7_9]
     refine sq.c (v := .bool false) (wantT (g := 6) (d := 33) rfl rfl rfl) rfl rfl rfl ?_
     refine sq.c (v := .bool false) (wantT (g := 3) (d := 30) rfl rfl rfl) rfl rfl rfl ?_
     refine sq.c (v := .bool false) rfl rfl rfl rfl ?_
     refine sq.e ?_
     refine AWp.condF rfl rfl ?_
     refine AWp.skip ?_
     refine AWp.anyK pok [0, 1, 2, 3, 4, 5, 6, 7, 8, 9, 10, 11] (by kernel_rfl) (by kernel_rfl) rfl (fun x fr fr' h n hd _ q => ⟨hd ▸ q.1, q.2⟩) ?_
     refine dk.c (v := .pointer (some ⟨b, 0, none⟩)) rfl (by kernel_rfl) rfl rfl rfl rfl ?_
     refine dk.c (v := .pointer (some ⟨b, 0, none⟩)) rfl (by kernel_rfl) rfl rfl rfl rfl ?_
     refine dk.c (v := .pointer (some ⟨b, 0, none⟩)) rfl (by kernel_rfl) rfl rfl (by kernel_rfl) rfl ?_
     refine dk.gB (v := .map (some f)) b rfl (by kernel_rfl) rfl rfl (fun _ q_ => (ld1 (P := Tryd.prog) (t := 66) (p := 0) (v := .map (some f)) (by kernel_rfl) (by kernel_rfl) (q_ _ hb_) rfl)) rfl ?_
     refine dk.gB (v := .agg #[.string (x18.1), .string (x18.2.1)]) n25 rfl (by kernel_rfl) rfl rfl (fun _ q_ => (ldA (P := Tryd.prog) (t := 73) (p := 0) (k := 2) (xs := [.string (x18.1), .string (x18.2.1)]) (by kernel_rfl) (by kernel_rfl) (q_ _ hb31) rfl (Nat.le_of_ble_eq_true rfl))) rfl ?_
     refine dk.c (v := .pointer (some ⟨n10, 2, none⟩)) rfl (by kernel_rfl) rfl rfl (by kernel_rfl) rfl ?_
     refine dk.gB (v := .int .i64 (x18.2.2)) n10 rfl (by kernel_rfl) rfl rfl (fun _ q_ => (ld1 (P := Tryd.prog) (t := 2) (p := 2) (v := .int .i64 (x18.2.2)) (by kernel_rfl) (by kernel_rfl) (q_ _ hb23) rfl)) rfl ?_
     refine dk.gB (v := .agg #[.string (x18.1), .string (x18.2.1)]) n25 rfl (by kernel_rfl) rfl rfl (fun _ q_ => (ldA (P := Tryd.prog) (t := 73) (p := 0) (k := 2) (xs := [.string (x18.1), .string (x18.2.1)]) (by kernel_rfl) (by kernel_rfl) (q_ _ hb31) rfl (Nat.le_of_ble_eq_true rfl))) rfl ?_
     refine dk.op rfl (by kernel_rfl) rfl rfl (Does.mapOpen (K := plV) (V := intV) (k := (x18.1, x18.2.1)) (d := (0 : Int)) hf okf2 Tryd.underlying66 keyPl (by kernel_rfl) rfl rfl rfl rfl hf_) (keepC (fun hm => Ne.symm e_f_n25 (List.mem_singleton.1 hm)) (keepC (fun hm => Ne.symm e_f_n10 (List.mem_singleton.1 hm)) (keepC (fun hm => Ne.symm e_f_n25 (List.mem_singleton.1 hm)) (keepC (fun hm => ne_b_f (List.mem_singleton.1 hm)) keepN)))) ?_
     rintro _ h41 n42 ⟨s39, rfl, fd40, hb37⟩ s43 hn2 hf
     refine dk.w ?_
     have ho := ho.keep (.own s43 hf_ rfl)
     have D := D.keep (.own s43 hf_ rfl)
     have hS := hS.keep (.own s43 hf_ rfl)
     have hb_ := s43.get1 (ne_b_f) hb_
     have hg_ := s43.get1 (Ne.symm ne_f_g) hg_
     have hb4 := s43.get1 (Ne.symm e_f_n2) hb4
     have hs := hs.fresh z_f s43
     have hn := Nat.le_trans hn hn2
     have ok38 := (okf2).set (x18.1, x18.2.1) ((mget M.1 (x18.1, x18.2.1)).getD (0 : Int))
     refine dk.c (v := .int .i64 ((s39 : Nat))) rfl (by kernel_rfl) rfl rfl rfl rfl ?_
     refine dk.op rfl (by kernel_rfl) rfl rfl (Does.mapPut (K := plV) (V := intV) (k := (x18.1, x18.2.1)) (v := x18.2.2) (kt := 73) hf keyPl ok38 rfl rfl rfl rfl fd40 hb37) (keepC (fun hm => Ne.symm e_f_n25 (List.mem_singleton.1 hm)) (keepC (fun hm => Ne.symm e_f_n10 (List.mem_singleton.1 hm)) (keepC (fun hm => Ne.symm e_f_n25 (List.mem_singleton.1 hm)) (keepC (fun hm => ne_b_f (List.mem_singleton.1 hm)) keepN)))) ?_
     rintro _ h46 n47 ⟨rfl, hb44⟩ s48 hn2 hf
     refine dk.w0 ?_
     have ho := ho.keep (.own s48 hb37 rfl)
     have D := D.keep (.own s48 hb37 rfl)
     have hS := hS.keep (.own s48 hb37 rfl)
     have hb_ := s48.get1 (ne_b_f) hb_
     have hg_ := s48.get1 (Ne.symm ne_f_g) hg_
     have hb4 := s48.get1 (Ne.symm e_f_n2) hb4
     have hs := hs.fresh z_f s48
     have hn := Nat.le_trans hn hn2
     rw [mset_mset] at hb44
     have ok45 := (okf2).set (x18.1, x18.2.1) x18.2.2
     refine dk.op rfl (by kernel_rfl) rfl rfl (Does.store (k := 2) (xs := [.string (x18.1), .string (x18.2.1)]) (cs' := [.string (x18.1), .string (x18.2.1)]) hf (by kernel_rfl) rfl rfl rfl hb4 rfl rfl (Nat.le_of_ble_eq_true rfl) rfl) (keepC (fun hm => Ne.symm e_n2_n25 (List.mem_singleton.1 hm)) (keepC (fun hm => Ne.symm e_n2_n10 (List.mem_singleton.1 hm)) (keepC (fun hm => Ne.symm e_n2_n25 (List.mem_singleton.1 hm)) (keepC (fun hm => e_b_n2 (List.mem_singleton.1 hm)) keepN)))) ?_
     rintro _ h50 n51 ⟨rfl, hb49⟩ s52 hn2 hf
     refine dk.w0 ?_
     have ho := ho.keep (.own s52 hb4 rfl)
     have D := D.keep (.own s52 hb4 rfl)
     have hS := hS.keep (.own s52 hb4 rfl)
     have hb_ := s52.get1 (e_b_n2) hb_
     have hb44 := s52.get1 (e_f_n2) hb44
     have hg_ := s52.get1 (e_g_n2) hg_
     have hs := hs.fresh z_n2 s52
     have hn := Nat.le_trans hn hn2
     refine dk.e (AWp.rowV (l := _) pok ?_)
     refine sq.c (v := .int .i64 (i + 1)) rfl rfl (okI (wrap_i64 (by omega) (by omega))) rfl ?_
     refine sq.c (v := .int .i64 (i + 1)) rfl rfl rfl rfl ?_
     refine sq.e ?_
     have hyes3 := okRow_snoc hyes (x := x18) c7_1 (fun y hy => by rw [← hla (by omega) _ (last_take (by omega) hi1 hy)]; exact of_decide_eq_true c7_9)
     rw [← take_snoc hi0 hx_x18] at hyes3
     have hla2 : ∀ z, fs[(i + 1 - 1).toNat]? = some z → plF x18 = plF z := fun z hz => by
      rw [show i + 1 - 1 = i by omega, hx_x18] at hz
      rw [Option.some.inj hz]
     refine ⟨_, _, rfl, (by omega), i + 1, stepF M x18, plF x18, rfl, hs, hn, hf, ho, D, hb_, hb44, hg_, hS, hb49, ok45, (by omega), (by omega), (by rw [take_snoc hi0 hx_x18, buildF_snoc, ← hM]), (hyes3), (fun _ => hla2), getV [undef, undef, undef, undef, (y8 4), (y8 5), undef, undef, .int .i64 (i), .pointer (some ⟨n10, 0, none⟩), .pointer (some ⟨n25, 0, none⟩), undef, undef, undef, undef, undef, undef, undef, .bool true, .int .i64 (i), .pointer (some ⟨b11, o12, none⟩), .agg #[.string (x18.1), .string (x18.2.1), .int .i64 (x18.2.2)], .pointer (some ⟨n10, 0, none⟩), .string (x18.1), .pointer (some ⟨n10, 1, none⟩), .string (x18.2.1), .agg #[.string (x18.1), .string (x18.2.1)], .agg #[.string (x18.1), .string (x18.2.1), .int .i64 (x18.2.2)], .bool true, .bool false, .bool false, .int .i64 (i), .bool true, .bool true, .agg #[.string (la.1), .string (la.2)], .agg #[.string (x18.1), .string (x18.2.1)], .bool true, .bool false, .bool false, .bool false, .pointer (some ⟨b, 0, none⟩), .pointer (some ⟨b, 0, none⟩), .pointer (some ⟨b, 0, none⟩), .map (some f), .agg #[.string (x18.1), .string (x18.2.1)], .pointer (some ⟨n10, 2, none⟩), .int .i64 (x18.2.2), .agg #[.string (x18.1), .string (x18.2.1)], .tuple #[(intV ((mget M.1 (x18.1, x18.2.1)).getD (0 : Int))), .int .i64 ((s39 : Nat))], .int .i64 ((s39 : Nat)), .int .i64 (i + 1)], rfl⟩
    ·rw [c7_9]
     refine sq.c (v := .bool true) rfl rfl rfl rfl ?_
     refine sq.c (v := .bool true) (wantT (g := 3) (d := 30) rfl rfl rfl) rfl rfl rfl ?_
     refine sq.c (v := .bool true) rfl rfl rfl rfl ?_
     refine sq.e ?_
     refine AWp.condT rfl rfl ?_
     refine AWp.seq (AWp.rowV (l := _) pok ?_)
     refine sq.c (v := .pointer none) rfl rfl rfl rfl ?_
     refine sq.c (v := .int .i64 (4)) rfl rfl rfl rfl ?_
     refine sq.e ?_
     refine AWp.ret ?_
     refine ⟨rfl, [.pointer none, .int .i64 (4)], rfl, .tuple #[.pointer none, .int .i64 (4)], rfl, hs, hn, ?_⟩
     refine ⟨fun _ => rfl, fun q => absurd q.1 ?_⟩
     have hi5 : (i - 1).toNat + 1 = i.toNat := by omega
     have hlt : (i - 1).toNat < fs.length := by omega
     refine okRow_row (i := (i - 1).toNat) (by rw [hi5]; exact hx_x18) (List.getElem?_eq_getElem hlt) ?_
     rw [← hla (by omega) _ (List.getElem?_eq_getElem hlt)]
     exact of_decide_eq_false c7_9
   ·rw [decide_eq_false c7_5]
    refine sq.s (wantF (g := 6) (d := 33) rfl rfl rfl) rfl ?_
    refine sq.s (wantF (g := 6) (d := 33) rfl rfl rfl) rfl ?_
    refine sq.s (wantF (g := 6) (d := 33) rfl rfl rfl) rfl ?_
    refine sq.s (wantF (g := 6) (d := 33) rfl rfl rfl) rfl ?_
    refine sq.c (v := .bool false) (wantT (g := 3) (d := 30) rfl rfl rfl) rfl rfl rfl ?_
    refine sq.c (v := .bool false) rfl rfl rfl rfl ?_
    refine sq.e ?_
    refine AWp.condF rfl rfl ?_
    refine AWp.skip ?_
    refine AWp.anyK pok [0, 1, 2, 3, 4, 5, 6, 7, 8, 9, 10, 11] (by kernel_rfl) (by kernel_rfl) rfl (fun x fr fr' h n hd _ q => ⟨hd ▸ q.1, q.2⟩) ?_
    refine dk.c (v := .pointer (some ⟨b, 0, none⟩)) rfl (by kernel_rfl) rfl rfl rfl rfl ?_
    refine dk.c (v := .pointer (some ⟨b, 0, none⟩)) rfl (by kernel_rfl) rfl rfl rfl rfl ?_
    refine dk.c (v := .pointer (some ⟨b, 0, none⟩)) rfl (by kernel_rfl) rfl rfl (by kernel_rfl) rfl ?_
    refine dk.gB (v := .map (some f)) b rfl (by kernel_rfl) rfl rfl (fun _ q_ => (ld1 (P := Tryd.prog) (t := 66) (p := 0) (v := .map (some f)) (by kernel_rfl) (by kernel_rfl) (q_ _ hb_) rfl)) rfl ?_
    refine dk.gB (v := .agg #[.string (x18.1), .string (x18.2.1)]) n25 rfl (by kernel_rfl) rfl rfl (fun _ q_ => (ldA (P := Tryd.prog) (t := 73) (p := 0) (k := 2) (xs := [.string (x18.1), .string (x18.2.1)]) (by kernel_rfl) (by kernel_rfl) (q_ _ hb31) rfl (Nat.le_of_ble_eq_true rfl))) rfl ?_
    refine dk.c (v := .pointer (some ⟨n10, 2, none⟩)) rfl (by kernel_rfl) rfl rfl (by kernel_rfl) rfl ?_
    refine dk.gB (v := .int .i64 (x18.2.2)) n10 rfl (by kernel_rfl) rfl rfl (fun _ q_ => (ld1 (P := Tryd.prog) (t := 2) (p := 2) (v := .int .i64 (x18.2.2)) (by kernel_rfl) (by kernel_rfl) (q_ _ hb23) rfl)) rfl ?_
    refine dk.gB (v := .agg #[.string (x18.1), .string (x18.2.1)]) n25 rfl (by kernel_rfl) rfl rfl (fun _ q_ => (ldA (P := Tryd.prog) (t := 73) (p := 0) (k := 2) (xs := [.string (x18.1), .string (x18.2.1)]) (by kernel_rfl) (by kernel_rfl) (q_ _ hb31) rfl (Nat.le_of_ble_eq_true rfl))) rfl ?_
    refine dk.op rfl (by kernel_rfl) rfl rfl (Does.mapOpen (K := plV) (V := intV) (k := (x18.1, x18.2.1)) (d := (0 : Int)) hf okf2 Tryd.underlying66 keyPl (by kernel_rfl) rfl rfl rfl rfl hf_) (keepC (fun hm => Ne.symm e_f_n25 (List.mem_singleton.1 hm)) (keepC (fun hm => Ne.symm e_f_n10 (List.mem_singleton.1 hm)) (keepC (fun hm => Ne.symm e_f_n25 (List.mem_singleton.1 hm)) (keepC (fun hm => ne_b_f (List.mem_singleton.1 hm)) keepN)))) ?_
    rintro _ h57 n58 ⟨s55, rfl, fd56, hb53⟩ s59 hn2 hf
    refine dk.w ?_
    have ho := ho.keep (.own s59 hf_ rfl)
    have D := D.keep (.own s59 hf_ rfl)
    have hS := hS.keep (.own s59 hf_ rfl)
    have hb_ := s59.get1 (ne_b_f) hb_
    have hg_ := s59.get1 (Ne.symm ne_f_g) hg_
    have hb4 := s59.get1 (Ne.symm e_f_n2) hb4
    have hs := hs.fresh z_f s59
    have hn := Nat.le_trans hn hn2
    have ok54 := (okf2).set (x18.1, x18.2.1) ((mget M.1 (x18.1, x18.2.1)).getD (0 : Int))
    refine dk.c (v := .int .i64 ((s55 : Nat))) rfl (by kernel_rfl) rfl rfl rfl rfl ?_
    refine dk.op rfl (by kernel_rfl) rfl rfl (Does.mapPut (K := plV) (V := intV) (k := (x18.1, x18.2.1)) (v := x18.2.2) (kt := 73) hf keyPl ok54 rfl rfl rfl rfl fd56 hb53) (keepC (fun hm => Ne.symm e_f_n25 (List.mem_singleton.1 hm)) (keepC (fun hm => Ne.symm e_f_n10 (List.mem_singleton.1 hm)) (keepC (fun hm => Ne.symm e_f_n25 (List.mem_singleton.1 hm)) (keepC (fun hm => ne_b_f (List.mem_singleton.1 hm)) keepN)))) ?_
    rintro _ h62 n63 ⟨rfl, hb60⟩ s64 hn2 hf
    refine dk.w0 ?_
    have ho := ho.keep (.own s64 hb53 rfl)
    have D := D.keep (.own s64 hb53 rfl)
    have hS := hS.keep (.own s64 hb53 rfl)
    have hb_ := s64.get1 (ne_b_f) hb_
    have hg_ := s64.get1 (Ne.symm ne_f_g) hg_
    have hb4 := s64.get1 (Ne.symm e_f_n2) hb4
    have hs := hs.fresh z_f s64
    have hn := Nat.le_trans hn hn2
    rw [mset_mset] at hb60
    have ok61 := (okf2).set (x18.1, x18.2.1) x18.2.2
    refine dk.op rfl (by kernel_rfl) rfl rfl (Does.store (k := 2) (xs := [.string (x18.1), .string (x18.2.1)]) (cs' := [.string (x18.1), .string (x18.2.1)]) hf (by kernel_rfl) rfl rfl rfl hb4 rfl rfl (Nat.le_of_ble_eq_true rfl) rfl) (keepC (fun hm => Ne.symm e_n2_n25 (List.mem_singleton.1 hm)) (keepC (fun hm => Ne.symm e_n2_n10 (List.mem_singleton.1 hm)) (keepC (fun hm => Ne.symm e_n2_n25 (List.mem_singleton.1 hm)) (keepC (fun hm => e_b_n2 (List.mem_singleton.1 hm)) keepN)))) ?_
    rintro _ h66 n67 ⟨rfl, hb65⟩ s68 hn2 hf
    refine dk.w0 ?_
    have ho := ho.keep (.own s68 hb4 rfl)
    have D := D.keep (.own s68 hb4 rfl)
    have hS := hS.keep (.own s68 hb4 rfl)
    have hb_ := s68.get1 (e_b_n2) hb_
    have hb60 := s68.get1 (e_f_n2) hb60
    have hg_ := s68.get1 (e_g_n2) hg_
    have hs := hs.fresh z_n2 s68
    have hn := Nat.le_trans hn hn2
    refine dk.e (AWp.rowV (l := _) pok ?_)
    refine sq.c (v := .int .i64 (i + 1)) rfl rfl (okI (wrap_i64 (by omega) (by omega))) rfl ?_
    refine sq.c (v := .int .i64 (i + 1)) rfl rfl rfl rfl ?_
    refine sq.e ?_
    have hyes3 := okRow_snoc hyes (x := x18) c7_1 (fun y hy => (last_take0 (by omega) hy).elim)
    rw [← take_snoc hi0 hx_x18] at hyes3
    have hla2 : ∀ z, fs[(i + 1 - 1).toNat]? = some z → plF x18 = plF z := fun z hz => by
     rw [show i + 1 - 1 = i by omega, hx_x18] at hz
     rw [Option.some.inj hz]
    refine ⟨_, _, rfl, (by omega), i + 1, stepF M x18, plF x18, rfl, hs, hn, hf, ho, D, hb_, hb60, hg_, hS, hb65, ok61, (by omega), (by omega), (by rw [take_snoc hi0 hx_x18, buildF_snoc, ← hM]), (hyes3), (fun _ => hla2), getV [undef, undef, undef, undef, (y8 4), (y8 5), undef, undef, .int .i64 (i), .pointer (some ⟨n10, 0, none⟩), .pointer (some ⟨n25, 0, none⟩), undef, undef, undef, undef, undef, undef, undef, .bool true, .int .i64 (i), .pointer (some ⟨b11, o12, none⟩), .agg #[.string (x18.1), .string (x18.2.1), .int .i64 (x18.2.2)], .pointer (some ⟨n10, 0, none⟩), .string (x18.1), .pointer (some ⟨n10, 1, none⟩), .string (x18.2.1), .agg #[.string (x18.1), .string (x18.2.1)], .agg #[.string (x18.1), .string (x18.2.1), .int .i64 (x18.2.2)], .bool true, .bool false, .bool false, .int .i64 (i), .bool false, .bool false, undef, undef, undef, undef, .bool false, .bool false, .pointer (some ⟨b, 0, none⟩), .pointer (some ⟨b, 0, none⟩), .pointer (some ⟨b, 0, none⟩), .map (some f), .agg #[.string (x18.1), .string (x18.2.1)], .pointer (some ⟨n10, 2, none⟩), .int .i64 (x18.2.2), .agg #[.string (x18.1), .string (x18.2.1)], .tuple #[(intV ((mget M.1 (x18.1, x18.2.1)).getD (0 : Int))), .int .i64 ((s55 : Nat))], .int .i64 ((s55 : Nat)), .int .i64 (i + 1)], rfl⟩
  ·rw [c7_1]
   refine sq.c (v := .bool true) rfl rfl rfl rfl ?_
   refine sq.c (v := .bool true) rfl rfl rfl rfl ?_
   refine sq.s (wantF (g := 3) (d := 30) rfl rfl rfl) rfl ?_
   refine sq.s (wantF (g := 3) (d := 30) rfl rfl rfl) rfl ?_
   refine sq.s (wantF (g := 3) (d := 30) rfl rfl rfl) rfl ?_
   refine sq.s (wantU (g := 6) (d := 33) rfl rfl rfl) rfl ?_
   refine sq.s (wantU (g := 6) (d := 33) rfl rfl rfl) rfl ?_
   refine sq.s (wantU (g := 6) (d := 33) rfl rfl rfl) rfl ?_
   refine sq.s (wantU (g := 6) (d := 33) rfl rfl rfl) rfl ?_
   refine sq.s (wantF (g := 3) (d := 30) rfl rfl rfl) rfl ?_
   refine sq.c (v := .bool true) rfl rfl rfl rfl ?_
   refine sq.e ?_
   refine AWp.condT rfl rfl ?_
   refine AWp.seq (AWp.rowV (l := _) pok ?_)
   refine sq.c (v := .pointer none) rfl rfl rfl rfl ?_
   refine sq.c (v := .int .i64 (4)) rfl rfl rfl rfl ?_
   refine sq.e ?_
   refine AWp.ret ?_
   refine ⟨rfl, [.pointer none, .int .i64 (4)], rfl, .tuple #[.pointer none, .int .i64 (4)], rfl, hs, hn, ?_⟩
   refine ⟨fun _ => rfl, fun q => absurd q.1 ?_⟩
   exact okRow_bad hx_x18 c7_1
 ·rw [decide_eq_false c4_0]
  refine AWp.condF rfl rfl ?_
  refine AWp.exit ?_
  refine AWp.seq (AWp.seq (AWp.rowV (l := _) pok ?_))
  refine sq.c (v := .slice a2 (rs.length) cp2) rfl rfl rfl rfl ?_
  refine sq.c (v := .int .i64 (((rs.length : Nat) : Int))) rfl rfl (by kernel_rfl) rfl ?_
  refine sq.c (v := .int .i64 (0)) rfl rfl rfl rfl ?_
  refine sq.e (AWp.block ?_)
  have hyes0 := hyes
  refine AWp.loopV (fun d vs h70 n71 => ∃ (k : Int) (M2 : SP × Nat) (G' : SM) (la : Pl), d = ((rs.length : Nat) - k + 1).toNat ∧ SubBut h h70 ([]) ∧ n ≤ n71 ∧ Free h70 n71 ∧ FRow encOwn h70 (.slice a2 (rs.length) cp2) (rs) ∧ FOwns h70 rs os ∧ h70.get b = some (.cells [.map (some f), .map (some g)] true ⟨69, 0, true⟩) ∧ h70.get f = some (.map (mapE plV intV M.1) M.2) ∧ h70.get g = some (.map (mapE plV ownV G') M2.2) ∧ SMIs h70 G' M2.1 ∧ h70.get n2 = some (.cells [.string (la.1), .string (la.2)] true ⟨73, 0, true⟩) ∧ MOk G' M2.2 ∧ (0 ≤ k) ∧ (k ≤ (rs.length : Nat)) ∧ (M2 = buildO (os.take k.toNat)) ∧ (okRow omayB plO (os.take k.toNat)) ∧ (0 < k → ∀ z, os[(k - 1).toNat]? = some z → la = plO z) ∧ ∃ y69 : Nat → Value, vs = [.slice a (fs.length) cp, .slice a2 (rs.length) cp2, undef, undef, (y69 4), (y69 5), .pointer (some ⟨b, 0, none⟩), .pointer (some ⟨n2, 0, none⟩), (y8 8), (y8 9), (y8 10), (y69 11), (y69 12), (y69 13), .pointer (some ⟨b, 0, none⟩), .slice a (fs.length) cp, .int .i64 (((fs.length : Nat) : Int)), .int .i64 (i), .bool false, (y8 19), (y8 20), (y8 21), (y8 22), (y8 23), (y8 24), (y8 25), (y8 26), (y8 27), (y8 28), (y8 29), (y8 30), (y8 31), (y8 32), (y8 33), (y8 34), (y8 35), (y8 36), (y8 37), (y8 38), (y8 39), (y8 40), (y8 41), (y8 42), (y8 43), (y8 44), (y8 45), (y8 46), (y8 47), (y8 48), (y8 49), (y8 50), .slice a2 (rs.length) cp2, .int .i64 (((rs.length : Nat) : Int)), .int .i64 (k), (y69 54), (y69 55), (y69 56), (y69 57), (y69 58), (y69 59), (y69 60), (y69 61), (y69 62), (y69 63), (y69 64), (y69 65), (y69 66), (y69 67), (y69 68), (y69 69), (y69 70), (y69 71), (y69 72), (y69 73), (y69 74), (y69 75), (y69 76), (y69 77), (y69 78), (y69 79), (y69 80), (y69 81), (y69 82), (y69 83), (y69 84), (y69 85), (y69 86), (y69 87), (y69 88), (y69 89), (y69 90), (y69 91), (y69 92), (y69 93), undef]) (((rs.length : Nat) - (0 : Int) + 1).toNat) ⟨0, ([], 0), [], la, rfl, hs, hn, hf, ho, D, hb_, hf_, hg_, hS, hb4, okG, (by omega), (by omega), (rfl), (okRow_nil _ _), (fun q => by omega), getV [undef, undef, undef, undef, (y8 4), (y8 5), undef, undef, undef, undef, undef, undef, undef, undef, undef, undef, undef, undef, undef, undef, undef, undef, undef, undef, undef, undef, undef, undef, undef, undef, undef, undef, undef, undef, undef, undef, undef, undef, undef, undef, undef, undef, undef, undef, undef, undef, undef, undef, undef, undef, undef, undef, undef, undef, undef, undef, undef, undef, undef, undef, undef, undef, undef, undef, undef, undef, undef, undef, undef, undef, undef, undef, undef, undef, undef, undef, undef, undef, undef, undef, undef, undef, undef, undef, undef, undef, undef, undef, undef, undef, undef, undef, undef, undef], rfl⟩ ?_
  rintro d vs h70 n71 ⟨k, M2, G', la, rfl, hs, hn, hf, ho, D, hb_, hf_, hg_, hS, hb4, okg2, hk0, hk1, hM2, hyes2, hlb, y69, rfl⟩
  refine AWp.seq (AWp.rowV (l := _) pok ?_)
  refine sq.c (v := .bool (decide (k < (((rs.length : Nat) : Int))))) rfl rfl rfl rfl ?_
  refine sq.e (AWp.seq ?_)
  by_cases c12_0 : k < (((rs.length : Nat) : Int))
  ·rw [decide_eq_true c12_0]
   refine AWp.condT rfl rfl ?_
   refine AWp.skip (AWp.seq (AWp.block (AWp.seq (AWp.rowV (l := _) pok ?_))))
   refine sq.c (v := .int .i64 (k)) rfl rfl rfl rfl ?_
   have i78 : (0 : Int) ≤ (k : Int) := by omega
   obtain ⟨x79, hx_x79⟩ : ∃ x, (rs)[((k : Int)).toNat]? = some x := ⟨_, List.getElem?_eq_getElem (by omega)⟩
   obtain ⟨y_x79, hy_x79, hb_x79⟩ := D.at hx_x79
   obtain ⟨t_x79, ⟨a1_x79, n1_x79, c1_x79⟩, ⟨a2_x79, n2_x79, c2_x79⟩⟩ := x79
   obtain ⟨rfl, L_x79, M_x79⟩ := hb_x79
   obtain ⟨_, _, e1_x79⟩ := L_x79.slice
   cases e1_x79
   obtain ⟨_, _, e2_x79⟩ := M_x79.slice
   cases e2_x79
   obtain ⟨b72, o73, cs_b72, ow_b72, ci_b72, ie77, hb74, hc75, hr76⟩ := IsRow.at (P := Tryd.prog) (t := 38) (e := 45) (k := .i64) (by kernel_rfl) (by kernel_rfl) ho.is i78 hx_x79
   refine sq.c (v := .pointer (some ⟨b72, o73, none⟩)) rfl rfl ie77 rfl ?_
   refine sq.c (v := .agg #[.string (y_x79.1), .slice a1_x79 (y_x79.2.1.length) c1_x79, .slice a2_x79 (y_x79.2.2.length) c2_x79]) rfl rfl (ldR (P := Tryd.prog) (t := 45) (k := 3) (xs := [.string (y_x79.1), .slice a1_x79 (y_x79.2.1.length) c1_x79, .slice a2_x79 (y_x79.2.2.length) c2_x79]) (by kernel_rfl) (by kernel_rfl) hr76) rfl ?_
   have e_b_n71 : b ≠ n71 := hf.ne hb_
   have e_f_n71 : f ≠ n71 := hf.ne hf_
   have e_g_n71 : g ≠ n71 := hf.ne hg_
   have e_n2_n71 : n2 ≠ n71 := hf.ne hb4
   have z_n71 : h.get n71 = none := hf0 _ hn
   refine sq.op rfl rfl (Does.alloc (cs := [.string (⟨#[]⟩), .slice none (0) (0), .slice none (0) (0)]) hf (z := .agg #[.string (⟨#[]⟩), .slice none (0) (0), .slice none (0) (0)]) (by kernel_rfl) rfl) ?_
   rintro _ h81 n82 ⟨rfl, hb80⟩ s83 hn2 hf
   refine sq.w ?_
   have ho := ho.keep (.of0 s83)
   have D := D.keep (.of0 s83)
   have hS := hS.keep (.of0 s83)
   have L_x79 := L_x79.keep (.of0 s83)
   have M_x79 := M_x79.keep (.of0 s83)
   have hb_ := s83.sub _ _ hb_
   have hf_ := s83.sub _ _ hf_
   have hg_ := s83.sub _ _ hg_
   have hb4 := s83.sub _ _ hb4
   have hs := hs.trans s83
   have hn := Nat.le_trans hn hn2
   refine sq.c (v := .int .i64 (k)) rfl rfl rfl rfl ?_
   refine sq.op rfl rfl (Does.store (k := 3) (xs := [.string (y_x79.1), .slice a1_x79 (y_x79.2.1.length) c1_x79, .slice a2_x79 (y_x79.2.2.length) c2_x79]) (cs' := [.string (y_x79.1), .slice a1_x79 (y_x79.2.1.length) c1_x79, .slice a2_x79 (y_x79.2.2.length) c2_x79]) hf (by kernel_rfl) rfl rfl rfl hb80 rfl rfl (Nat.le_of_ble_eq_true rfl) rfl) ?_
   rintro _ h85 n86 ⟨rfl, hb84⟩ s87 hn2 hf
   refine sq.w0 ?_
   have ho := ho.keep (.own s87 hb80 rfl)
   have D := D.keep (.own s87 hb80 rfl)
   have hS := hS.keep (.own s87 hb80 rfl)
   have L_x79 := L_x79.keep (.own s87 hb80 rfl)
   have M_x79 := M_x79.keep (.own s87 hb80 rfl)
   have hb_ := s87.get1 (e_b_n71) hb_
   have hf_ := s87.get1 (e_f_n71) hf_
   have hg_ := s87.get1 (e_g_n71) hg_
   have hb4 := s87.get1 (e_n2_n71) hb4
   have hs := hs.fresh z_n71 s87
   have hn := Nat.le_trans hn hn2
   refine sq.e (AWp.seq (AWp.seq (AWp.rowV (l := _) pok ?_)))
   refine sq.c (v := .agg #[.string (y_x79.1), .slice a1_x79 (y_x79.2.1.length) c1_x79, .slice a2_x79 (y_x79.2.2.length) c2_x79]) rfl rfl (ldA (P := Tryd.prog) (t := 45) (p := 0) (k := 3) (xs := [.string (y_x79.1), .slice a1_x79 (y_x79.2.1.length) c1_x79, .slice a2_x79 (y_x79.2.2.length) c2_x79]) (by kernel_rfl) (by kernel_rfl) hb84 rfl (Nat.le_of_ble_eq_true rfl)) rfl ?_
   refine sq.t (v := .bool (omayB (y_x79.1, y_x79.2.1, y_x79.2.2))) rfl (CallsF.fn rfl (by kernel_rfl) rfl rfl) (fun hf => (have q_ := hsm _ (List.mem_of_getElem? hy_x79); omay_spec _ _ _ L_x79.is M_x79.is (hld.keep hs) q_.1 q_.2.1 q_.2.2.1 q_.2.2.2)) hf rfl ?_
   intro n88 hn2 hf
   have hn := Nat.le_trans hn hn2
   rcases Bool.eq_false_or_eq_true (omayB (y_x79.1, y_x79.2.1, y_x79.2.2)) with c14_1 | c14_1
   ·rw [c14_1]
    refine sq.c (v := .bool false) rfl rfl rfl rfl ?_
    refine sq.e ?_
    refine AWp.condF rfl rfl ?_
    refine AWp.skip (AWp.seq ?_)
    refine AWp.anyT pok (.s 0 (.s 1 (.s 2 (.s 3 (.s 4 (.f 5 7 (.s 6 (.s 7 (.s 8 .e))) (.s 5 (.s 6 (.s 8 .e))))))))) (by kernel_rfl) (by kernel_rfl) rfl (fun x fr fr' h n hd _ q => ⟨hd ▸ q.1, q.2⟩) ?_
    refine dt.c (v := .pointer (some ⟨n71, 0, none⟩)) rfl (by kernel_rfl) rfl rfl (by kernel_rfl) rfl ?_
    refine dt.gB (v := .string (y_x79.1)) n71 rfl (by kernel_rfl) rfl rfl (fun _ q_ => (ld1 (P := Tryd.prog) (t := 9) (p := 0) (v := .string (y_x79.1)) (by kernel_rfl) (by kernel_rfl) (q_ _ hb84) rfl)) rfl ?_
    refine dt.c (v := .pointer (some ⟨n71, 1, none⟩)) rfl (by kernel_rfl) rfl rfl (by kernel_rfl) rfl ?_
    refine dt.c (v := .pointer (some ⟨n71, 1, none⟩)) rfl (by kernel_rfl) rfl rfl (by kernel_rfl) rfl ?_
    refine dt.gB (v := .slice a1_x79 (y_x79.2.1.length) c1_x79) n71 rfl (by kernel_rfl) rfl rfl (fun _ q_ => (ld1 (P := Tryd.prog) (t := 40) (p := 1) (v := .slice a1_x79 (y_x79.2.1.length) c1_x79) (by kernel_rfl) (by kernel_rfl) (q_ _ hb84) rfl)) rfl ?_
    refine dt.f rfl (by kernel_rfl) rfl (by kernel_rfl) ?_ ?_
    ·skip
     refine dt.t (v := .string (keyA y_x79.2.1)) rfl (by kernel_rfl) rfl (CallsF.fn rfl (by kernel_rfl) rfl rfl) (fun hf => (have q_ := hsm _ (List.mem_of_getElem? hy_x79); key_spec _ L_x79.is q_.1 q_.2.1)) hf rfl ?_
     intro n89 hn2 hf
     have hn := Nat.le_trans hn hn2
     refine dt.c (v := .agg #[.string (y_x79.1), .string (keyA y_x79.2.1)]) rfl (by kernel_rfl) rfl rfl (by kernel_rfl) rfl ?_
     have e_b_n89 : b ≠ n89 := hf.ne hb_
     have e_f_n89 : f ≠ n89 := hf.ne hf_
     have e_g_n89 : g ≠ n89 := hf.ne hg_
     have e_n2_n89 : n2 ≠ n89 := hf.ne hb4
     have e_n71_n89 : n71 ≠ n89 := hf.ne hb84
     have z_n89 : h.get n89 = none := hf0 _ hn
     refine dt.op rfl (by kernel_rfl) rfl rfl (Does.alloc (cs := [.string (⟨#[]⟩), .string (⟨#[]⟩)]) hf (z := .agg #[.string (⟨#[]⟩), .string (⟨#[]⟩)]) (by kernel_rfl) rfl) (keepC (by simp) (keepC (by simp) keepN)) ?_
     rintro _ h91 n92 ⟨rfl, hb90⟩ s93 hn2 hf
     refine dt.w ?_
     have ho := ho.keep (.of0 s93)
     have D := D.keep (.of0 s93)
     have hS := hS.keep (.of0 s93)
     have L_x79 := L_x79.keep (.of0 s93)
     have M_x79 := M_x79.keep (.of0 s93)
     have hb_ := s93.sub _ _ hb_
     have hf_ := s93.sub _ _ hf_
     have hg_ := s93.sub _ _ hg_
     have hb4 := s93.sub _ _ hb4
     have hb84 := s93.sub _ _ hb84
     have hs := hs.trans s93
     have hn := Nat.le_trans hn hn2
     refine dt.op rfl (by kernel_rfl) rfl rfl (Does.store (k := 2) (xs := [.string (y_x79.1), .string (keyA y_x79.2.1)]) (cs' := [.string (y_x79.1), .string (keyA y_x79.2.1)]) hf (by kernel_rfl) rfl rfl rfl hb90 rfl rfl (Nat.le_of_ble_eq_true rfl) rfl) (keepC (fun hm => e_n71_n89 (List.mem_singleton.1 hm)) (keepC (fun hm => e_n71_n89 (List.mem_singleton.1 hm)) keepN)) ?_
     rintro _ h95 n96 ⟨rfl, hb94⟩ s97 hn2 hf
     refine dt.w0 ?_
     have ho := ho.keep (.own s97 hb90 rfl)
     have D := D.keep (.own s97 hb90 rfl)
     have hS := hS.keep (.own s97 hb90 rfl)
     have L_x79 := L_x79.keep (.own s97 hb90 rfl)
     have M_x79 := M_x79.keep (.own s97 hb90 rfl)
     have hb_ := s97.get1 (e_b_n89) hb_
     have hf_ := s97.get1 (e_f_n89) hf_
     have hg_ := s97.get1 (e_g_n89) hg_
     have hb4 := s97.get1 (e_n2_n89) hb4
     have hb84 := s97.get1 (e_n71_n89) hb84
     have hs := hs.fresh z_n89 s97
     have hn := Nat.le_trans hn hn2
     refine dt.e (AWp.seq (AWp.seq (AWp.rowV (l := _) pok ?_)))
     refine sq.c (v := .int .i64 (k)) rfl rfl rfl rfl ?_
     refine sq.c (v := .bool (decide ((0 : Int) < k))) rfl rfl rfl rfl ?_
     refine sq.c (v := .bool (decide ((0 : Int) < k))) rfl rfl rfl rfl ?_
     by_cases c17_1 : (0 : Int) < k
     ·rw [decide_eq_true c17_1]
      refine sq.c (v := .agg #[.string (la.1), .string (la.2)]) (wantT (g := 2) (d := 70) rfl rfl rfl) rfl (ldA (P := Tryd.prog) (t := 73) (p := 0) (k := 2) (xs := [.string (la.1), .string (la.2)]) (by kernel_rfl) (by kernel_rfl) hb4 rfl (Nat.le_of_ble_eq_true rfl)) rfl ?_
      refine sq.c (v := .agg #[.string (y_x79.1), .string (keyA y_x79.2.1)]) (wantT (g := 2) (d := 70) rfl rfl rfl) rfl (ldA (P := Tryd.prog) (t := 73) (p := 0) (k := 2) (xs := [.string (y_x79.1), .string (keyA y_x79.2.1)]) (by kernel_rfl) (by kernel_rfl) hb94 rfl (Nat.le_of_ble_eq_true rfl)) rfl ?_
      refine sq.t (v := .bool (decide (ltP la (plO y_x79)))) (wantT (g := 2) (d := 70) rfl rfl rfl) (CallsF.fn rfl (by kernel_rfl) rfl rfl) (fun hf => ahead_spec la (plO y_x79)) hf rfl ?_
      intro n98 hn2 hf
      have hn := Nat.le_trans hn hn2
      rcases Bool.eq_false_or_eq_true (decide (ltP la (plO y_x79))) with c17_5 | c17_5
      ·rw [c17_5]
       refine sq.c (v := .bool false) (wantT (g := 2) (d := 70) rfl rfl rfl) rfl rfl rfl ?_
       refine sq.c (v := .bool false) rfl rfl rfl rfl ?_
       refine sq.e ?_
       refine AWp.condF rfl rfl ?_
       refine AWp.skip ?_
       refine AWp.anyK pok [0, 1, 2, 3, 4, 5, 6, 7, 9, 10, 11, 14, 8, 12, 13, 15, 16, 17, 18] (by kernel_rfl) (by kernel_rfl) rfl (fun x fr fr' h n hd _ q => ⟨hd ▸ q.1, q.2⟩) ?_
       refine dk.c (v := .pointer (some ⟨b, 0, none⟩)) rfl (by kernel_rfl) rfl rfl rfl rfl ?_
       refine dk.c (v := .pointer (some ⟨b, 0, none⟩)) rfl (by kernel_rfl) rfl rfl rfl rfl ?_
       refine dk.c (v := .pointer (some ⟨b, 1, none⟩)) rfl (by kernel_rfl) rfl rfl (by kernel_rfl) rfl ?_
       refine dk.gB (v := .map (some g)) b rfl (by kernel_rfl) rfl rfl (fun _ q_ => (ld1 (P := Tryd.prog) (t := 67) (p := 1) (v := .map (some g)) (by kernel_rfl) (by kernel_rfl) (q_ _ hb_) rfl)) rfl ?_
       refine dk.gB (v := .agg #[.string (y_x79.1), .string (keyA y_x79.2.1)]) n89 rfl (by kernel_rfl) rfl rfl (fun _ q_ => (ldA (P := Tryd.prog) (t := 73) (p := 0) (k := 2) (xs := [.string (y_x79.1), .string (keyA y_x79.2.1)]) (by kernel_rfl) (by kernel_rfl) (q_ _ hb94) rfl (Nat.le_of_ble_eq_true rfl))) rfl ?_
       refine dk.c (v := .pointer (some ⟨n71, 1, none⟩)) rfl (by kernel_rfl) rfl rfl (by kernel_rfl) rfl ?_
       refine dk.c (v := .pointer (some ⟨n71, 1, none⟩)) rfl (by kernel_rfl) rfl rfl (by kernel_rfl) rfl ?_
       refine dk.gB (v := .slice a1_x79 (y_x79.2.1.length) c1_x79) n71 rfl (by kernel_rfl) rfl rfl (fun _ q_ => (ld1 (P := Tryd.prog) (t := 40) (p := 1) (v := .slice a1_x79 (y_x79.2.1.length) c1_x79) (by kernel_rfl) (by kernel_rfl) (q_ _ hb84) rfl)) rfl ?_
       refine dk.c (v := .pointer (some ⟨n71, 1, none⟩)) rfl (by kernel_rfl) rfl rfl (by kernel_rfl) rfl ?_
       refine dk.c (v := .pointer (some ⟨n71, 2, none⟩)) rfl (by kernel_rfl) rfl rfl (by kernel_rfl) rfl ?_
       refine dk.gB (v := .slice a2_x79 (y_x79.2.2.length) c2_x79) n71 rfl (by kernel_rfl) rfl rfl (fun _ q_ => (ld1 (P := Tryd.prog) (t := 41) (p := 2) (v := .slice a2_x79 (y_x79.2.2.length) c2_x79) (by kernel_rfl) (by kernel_rfl) (q_ _ hb84) rfl)) rfl ?_
       refine dk.gB (v := .agg #[.string (y_x79.1), .string (keyA y_x79.2.1)]) n89 rfl (by kernel_rfl) rfl rfl (fun _ q_ => (ldA (P := Tryd.prog) (t := 73) (p := 0) (k := 2) (xs := [.string (y_x79.1), .string (keyA y_x79.2.1)]) (by kernel_rfl) (by kernel_rfl) (q_ _ hb94) rfl (Nat.le_of_ble_eq_true rfl))) rfl ?_
       refine dk.k rfl (by kernel_rfl) rfl (CallsF.fn rfl (by kernel_rfl) rfl rfl) (cloneLFz _ L_x79.is (by have := (hsm _ (List.mem_of_getElem? hy_x79)).1; omega)) (keepC (by simp) (keepC (by simp) (keepC (by simp) (keepC (by simp) (keepC (by simp) keepN))))) ?_
       rintro v_q98 h99 n100 R_q98 s101 hn2 hf
       obtain ⟨a_q98, c_q98, rfl⟩ := R_q98.slice
       refine dk.w ?_
       have ho := ho.keep (.of0 s101)
       have D := D.keep (.of0 s101)
       have hS := hS.keep (.of0 s101)
       have M_x79 := M_x79.keep (.of0 s101)
       have hb_ := s101.sub _ _ hb_
       have hf_ := s101.sub _ _ hf_
       have hg_ := s101.sub _ _ hg_
       have hb4 := s101.sub _ _ hb4
       have hs := hs.trans s101
       have hn := Nat.le_trans hn hn2
       refine dk.k rfl (by kernel_rfl) rfl (CallsF.fn rfl (by kernel_rfl) rfl rfl) (cloneSFz _ M_x79.is (hsm _ (List.mem_of_getElem? hy_x79)).2.2.1) (keepC (by simp) (keepC (by simp) (keepC (by simp) (keepC (by simp) (keepC (by simp) keepN))))) ?_
       rintro v_q101 h102 n103 R_q101 s104 hn2 hf
       obtain ⟨a_q101, c_q101, rfl⟩ := R_q101.slice
       refine dk.w ?_
       have ho := ho.keep (.of0 s104)
       have D := D.keep (.of0 s104)
       have hS := hS.keep (.of0 s104)
       have R_q98 := R_q98.keep (.of0 s104)
       have hb_ := s104.sub _ _ hb_
       have hf_ := s104.sub _ _ hf_
       have hg_ := s104.sub _ _ hg_
       have hb4 := s104.sub _ _ hb4
       have hs := hs.trans s104
       have hn := Nat.le_trans hn hn2
       refine dk.c (v := .agg #[.slice a_q98 (y_x79.2.1).length c_q98, .slice a_q101 (y_x79.2.2).length c_q101]) rfl (by kernel_rfl) rfl rfl (by kernel_rfl) rfl ?_
       refine dk.op rfl (by kernel_rfl) rfl rfl (Does.mapOpen (K := plV) (V := ownV) (k := (y_x79.1, keyA y_x79.2.1)) (d := dOV) hf okg2 Tryd.underlying67 keyPl (by kernel_rfl) rfl rfl rfl rfl hg_) (keepC (fun hm => Ne.symm e_g_n89 (List.mem_singleton.1 hm)) (keepC (fun hm => Ne.symm e_g_n71 (List.mem_singleton.1 hm)) (keepC (fun hm => Ne.symm e_g_n71 (List.mem_singleton.1 hm)) (keepC (fun hm => Ne.symm e_g_n89 (List.mem_singleton.1 hm)) (keepC (fun hm => ne_b_g (List.mem_singleton.1 hm)) keepN))))) ?_
       rintro _ h109 n110 ⟨s107, rfl, fd108, hb105⟩ s111 hn2 hf
       refine dk.w ?_
       have ho := ho.keep (.own s111 hg_ rfl)
       have D := D.keep (.own s111 hg_ rfl)
       have hS := hS.keep (.own s111 hg_ rfl)
       have R_q98 := R_q98.keep (.own s111 hg_ rfl)
       have R_q101 := R_q101.keep (.own s111 hg_ rfl)
       have hb_ := s111.get1 (ne_b_g) hb_
       have hf_ := s111.get1 (ne_f_g) hf_
       have hb4 := s111.get1 (Ne.symm e_g_n2) hb4
       have hs := hs.fresh z_g s111
       have hn := Nat.le_trans hn hn2
       have ok106 := (okg2).set (y_x79.1, keyA y_x79.2.1) ((mget G' (y_x79.1, keyA y_x79.2.1)).getD dOV)
       refine dk.c (v := .int .i64 ((s107 : Nat))) rfl (by kernel_rfl) rfl rfl rfl rfl ?_
       refine dk.op rfl (by kernel_rfl) rfl rfl (Does.mapPut (K := plV) (V := ownV) (k := (y_x79.1, keyA y_x79.2.1)) (v := (.slice a_q98 (y_x79.2.1).length c_q98, .slice a_q101 (y_x79.2.2).length c_q101)) (kt := 73) hf keyPl ok106 rfl rfl rfl rfl fd108 hb105) (keepC (fun hm => Ne.symm e_g_n89 (List.mem_singleton.1 hm)) (keepC (fun hm => Ne.symm e_g_n71 (List.mem_singleton.1 hm)) (keepC (fun hm => Ne.symm e_g_n71 (List.mem_singleton.1 hm)) (keepC (fun hm => Ne.symm e_g_n89 (List.mem_singleton.1 hm)) (keepC (fun hm => ne_b_g (List.mem_singleton.1 hm)) keepN))))) ?_
       rintro _ h114 n115 ⟨rfl, hb112⟩ s116 hn2 hf
       refine dk.w0 ?_
       have ho := ho.keep (.own s116 hb105 rfl)
       have D := D.keep (.own s116 hb105 rfl)
       have hS := hS.keep (.own s116 hb105 rfl)
       have R_q98 := R_q98.keep (.own s116 hb105 rfl)
       have R_q101 := R_q101.keep (.own s116 hb105 rfl)
       have hb_ := s116.get1 (ne_b_g) hb_
       have hf_ := s116.get1 (ne_f_g) hf_
       have hb4 := s116.get1 (Ne.symm e_g_n2) hb4
       have hs := hs.fresh z_g s116
       have hn := Nat.le_trans hn hn2
       rw [mset_mset] at hb112
       have ok113 := (okg2).set (y_x79.1, keyA y_x79.2.1) (.slice a_q98 (y_x79.2.1).length c_q98, .slice a_q101 (y_x79.2.2).length c_q101)
       refine dk.op rfl (by kernel_rfl) rfl rfl (Does.store (k := 2) (xs := [.string (y_x79.1), .string (keyA y_x79.2.1)]) (cs' := [.string (y_x79.1), .string (keyA y_x79.2.1)]) hf (by kernel_rfl) rfl rfl rfl hb4 rfl rfl (Nat.le_of_ble_eq_true rfl) rfl) (keepC (fun hm => Ne.symm e_n2_n89 (List.mem_singleton.1 hm)) (keepC (fun hm => Ne.symm e_n2_n71 (List.mem_singleton.1 hm)) (keepC (fun hm => Ne.symm e_n2_n71 (List.mem_singleton.1 hm)) (keepC (fun hm => Ne.symm e_n2_n89 (List.mem_singleton.1 hm)) (keepC (fun hm => e_b_n2 (List.mem_singleton.1 hm)) keepN))))) ?_
       rintro _ h118 n119 ⟨rfl, hb117⟩ s120 hn2 hf
       refine dk.w0 ?_
       have ho := ho.keep (.own s120 hb4 rfl)
       have D := D.keep (.own s120 hb4 rfl)
       have hS := hS.keep (.own s120 hb4 rfl)
       have R_q98 := R_q98.keep (.own s120 hb4 rfl)
       have R_q101 := R_q101.keep (.own s120 hb4 rfl)
       have hb_ := s120.get1 (e_b_n2) hb_
       have hf_ := s120.get1 (e_f_n2) hf_
       have hb112 := s120.get1 (e_g_n2) hb112
       have hs := hs.fresh z_n2 s120
       have hn := Nat.le_trans hn hn2
       refine dk.e (AWp.rowV (l := _) pok ?_)
       refine sq.c (v := .int .i64 (k + 1)) rfl rfl (okI (wrap_i64 (by omega) (by omega))) rfl ?_
       refine sq.c (v := .int .i64 (k + 1)) rfl rfl rfl rfl ?_
       refine sq.e ?_
       have hyes3 := okRow_snoc hyes2 (x := y_x79) c14_1 (fun y hy => by rw [← hlb (by omega) _ (last_take (by omega) (by omega) hy)]; exact of_decide_eq_true c17_5)
       rw [← take_snoc hk0 hy_x79] at hyes3
       have hla2 : ∀ z, os[(k + 1 - 1).toNat]? = some z → plO y_x79 = plO z := fun z hz => by
        rw [show k + 1 - 1 = k by omega, hy_x79] at hz
        rw [Option.some.inj hz]
       have eck : mck G' M2.2 (y_x79.1, keyA y_x79.2.1) = mck M2.1 M2.2 (plO y_x79) := by unfold mck; rw [hS.idx]; rfl
       rw [eck] at hb112 ok113
       have hS3 := hS.set M2.2 (plO y_x79) (v := (.slice a_q98 (y_x79.2.1).length c_q98, .slice a_q101 (y_x79.2.2).length c_q101)) (s := y_x79.2) ⟨R_q98, R_q101⟩
       refine ⟨_, _, rfl, (by omega), k + 1, stepO M2 y_x79, mset G' M2.2 (y_x79.1, keyA y_x79.2.1) (.slice a_q98 (y_x79.2.1).length c_q98, .slice a_q101 (y_x79.2.2).length c_q101), plO y_x79, rfl, hs, hn, hf, ho, D, hb_, hf_, hb112, (hS3), hb117, ok113, (by omega), (by omega), (by rw [take_snoc hk0 hy_x79, buildO_snoc, ← hM2]), (hyes3), (fun _ => hla2), getV [undef, undef, undef, undef, (y69 4), (y69 5), undef, undef, undef, undef, undef, .int .i64 (k), .pointer (some ⟨n71, 0, none⟩), .pointer (some ⟨n89, 0, none⟩), undef, undef, undef, undef, undef, undef, undef, undef, undef, undef, undef, undef, undef, undef, undef, undef, undef, undef, undef, undef, undef, undef, undef, undef, undef, undef, undef, undef, undef, undef, undef, undef, undef, undef, undef, undef, undef, undef, undef, undef, .bool true, .int .i64 (k), .pointer (some ⟨b72, o73, none⟩), .agg #[.string (y_x79.1), .slice a1_x79 (y_x79.2.1.length) c1_x79, .slice a2_x79 (y_x79.2.2.length) c2_x79], .agg #[.string (y_x79.1), .slice a1_x79 (y_x79.2.1.length) c1_x79, .slice a2_x79 (y_x79.2.2.length) c2_x79], .bool true, .bool false, .pointer (some ⟨n71, 0, none⟩), .string (y_x79.1), .pointer (some ⟨n71, 1, none⟩), .pointer (some ⟨n71, 1, none⟩), .slice a1_x79 (y_x79.2.1.length) c1_x79, .string (keyA y_x79.2.1), .agg #[.string (y_x79.1), .string (keyA y_x79.2.1)], .int .i64 (k), .bool true, .bool true, .agg #[.string (la.1), .string (la.2)], .agg #[.string (y_x79.1), .string (keyA y_x79.2.1)], .bool true, .bool false, .bool false, .pointer (some ⟨b, 0, none⟩), .pointer (some ⟨b, 0, none⟩), .pointer (some ⟨b, 1, none⟩), .map (some g), .agg #[.string (y_x79.1), .string (keyA y_x79.2.1)], .pointer (some ⟨n71, 1, none⟩), .pointer (some ⟨n71, 1, none⟩), .slice a1_x79 (y_x79.2.1.length) c1_x79, .slice a_q98 (y_x79.2.1).length c_q98, .pointer (some ⟨n71, 1, none⟩), .pointer (some ⟨n71, 2, none⟩), .slice a2_x79 (y_x79.2.2.length) c2_x79, .slice a_q101 (y_x79.2.2).length c_q101, .agg #[.slice a_q98 (y_x79.2.1).length c_q98, .slice a_q101 (y_x79.2.2).length c_q101], .agg #[.string (y_x79.1), .string (keyA y_x79.2.1)], .tuple #[(ownV ((mget G' (y_x79.1, keyA y_x79.2.1)).getD dOV)), .int .i64 ((s107 : Nat))], .int .i64 ((s107 : Nat)), .int .i64 (k + 1)], rfl⟩
      ·rw [c17_5]
       refine sq.c (v := .bool true) rfl rfl rfl rfl ?_
       refine sq.c (v := .bool true) rfl rfl rfl rfl ?_
       refine sq.e ?_
       refine AWp.condT rfl rfl ?_
       refine AWp.seq (AWp.rowV (l := _) pok ?_)
       refine sq.c (v := .pointer none) rfl rfl rfl rfl ?_
       refine sq.c (v := .int .i64 (4)) rfl rfl rfl rfl ?_
       refine sq.e ?_
       refine AWp.ret ?_
       refine ⟨rfl, [.pointer none, .int .i64 (4)], rfl, .tuple #[.pointer none, .int .i64 (4)], rfl, hs, hn, ?_⟩
       refine ⟨fun _ => rfl, fun q => absurd q.2 ?_⟩
       have hi5 : (k - 1).toNat + 1 = k.toNat := by omega
       have hlt : (k - 1).toNat < os.length := by omega
       refine okRow_row (i := (k - 1).toNat) (by rw [hi5]; exact hy_x79) (List.getElem?_eq_getElem hlt) ?_
       rw [← hlb (by omega) _ (List.getElem?_eq_getElem hlt)]
       exact of_decide_eq_false c17_5
     ·rw [decide_eq_false c17_1]
      refine sq.s (wantF (g := 2) (d := 70) rfl rfl rfl) rfl ?_
      refine sq.s (wantF (g := 2) (d := 70) rfl rfl rfl) rfl ?_
      refine sq.s (wantF (g := 2) (d := 70) rfl rfl rfl) rfl ?_
      refine sq.s (wantF (g := 2) (d := 70) rfl rfl rfl) rfl ?_
      refine sq.c (v := .bool false) rfl rfl rfl rfl ?_
      refine sq.e ?_
      refine AWp.condF rfl rfl ?_
      refine AWp.skip ?_
      refine AWp.anyK pok [0, 1, 2, 3, 4, 5, 6, 7, 9, 10, 11, 14, 8, 12, 13, 15, 16, 17, 18] (by kernel_rfl) (by kernel_rfl) rfl (fun x fr fr' h n hd _ q => ⟨hd ▸ q.1, q.2⟩) ?_
      refine dk.c (v := .pointer (some ⟨b, 0, none⟩)) rfl (by kernel_rfl) rfl rfl rfl rfl ?_
      refine dk.c (v := .pointer (some ⟨b, 0, none⟩)) rfl (by kernel_rfl) rfl rfl rfl rfl ?_
      refine dk.c (v := .pointer (some ⟨b, 1, none⟩)) rfl (by kernel_rfl) rfl rfl (by kernel_rfl) rfl ?_
      refine dk.gB (v := .map (some g)) b rfl (by kernel_rfl) rfl rfl (fun _ q_ => (ld1 (P := Tryd.prog) (t := 67) (p := 1) (v := .map (some g)) (by kernel_rfl) (by kernel_rfl) (q_ _ hb_) rfl)) rfl ?_
      refine dk.gB (v := .agg #[.string (y_x79.1), .string (keyA y_x79.2.1)]) n89 rfl (by kernel_rfl) rfl rfl (fun _ q_ => (ldA (P := Tryd.prog) (t := 73) (p := 0) (k := 2) (xs := [.string (y_x79.1), .string (keyA y_x79.2.1)]) (by kernel_rfl) (by kernel_rfl) (q_ _ hb94) rfl (Nat.le_of_ble_eq_true rfl))) rfl ?_
      refine dk.c (v := .pointer (some ⟨n71, 1, none⟩)) rfl (by kernel_rfl) rfl rfl (by kernel_rfl) rfl ?_
      refine dk.c (v := .pointer (some ⟨n71, 1, none⟩)) rfl (by kernel_rfl) rfl rfl (by kernel_rfl) rfl ?_
      refine dk.gB (v := .slice a1_x79 (y_x79.2.1.length) c1_x79) n71 rfl (by kernel_rfl) rfl rfl (fun _ q_ => (ld1 (P := Tryd.prog) (t := 40) (p := 1) (v := .slice a1_x79 (y_x79.2.1.length) c1_x79) (by kernel_rfl) (by kernel_rfl) (q_ _ hb84) rfl)) rfl ?_
      refine dk.c (v := .pointer (some ⟨n71, 1, none⟩)) rfl (by kernel_rfl) rfl rfl (by kernel_rfl) rfl ?_
      refine dk.c (v := .pointer (some ⟨n71, 2, none⟩)) rfl (by kernel_rfl) rfl rfl (by kernel_rfl) rfl ?_
      refine dk.gB (v := .slice a2_x79 (y_x79.2.2.length) c2_x79) n71 rfl (by kernel_rfl) rfl rfl (fun _ q_ => (ld1 (P := Tryd.prog) (t := 41) (p := 2) (v := .slice a2_x79 (y_x79.2.2.length) c2_x79) (by kernel_rfl) (by kernel_rfl) (q_ _ hb84) rfl)) rfl ?_
      refine dk.gB (v := .agg #[.string (y_x79.1), .string (keyA y_x79.2.1)]) n89 rfl (by kernel_rfl) rfl rfl (fun _ q_ => (ldA (P := Tryd.prog) (t := 73) (p := 0) (k := 2) (xs := [.string (y_x79.1), .string (keyA y_x79.2.1)]) (by kernel_rfl) (by kernel_rfl) (q_ _ hb94) rfl (Nat.le_of_ble_eq_true rfl))) rfl ?_
      refine dk.k rfl (by kernel_rfl) rfl (CallsF.fn rfl (by kernel_rfl) rfl rfl) (cloneLFz _ L_x79.is (by have := (hsm _ (List.mem_of_getElem? hy_x79)).1; omega)) (keepC (by simp) (keepC (by simp) (keepC (by simp) (keepC (by simp) (keepC (by simp) keepN))))) ?_
      rintro v_q120 h121 n122 R_q120 s123 hn2 hf
      obtain ⟨a_q120, c_q120, rfl⟩ := R_q120.slice
      refine dk.w ?_
      have ho := ho.keep (.of0 s123)
      have D := D.keep (.of0 s123)
      have hS := hS.keep (.of0 s123)
      have M_x79 := M_x79.keep (.of0 s123)
      have hb_ := s123.sub _ _ hb_
      have hf_ := s123.sub _ _ hf_
      have hg_ := s123.sub _ _ hg_
      have hb4 := s123.sub _ _ hb4
      have hs := hs.trans s123
      have hn := Nat.le_trans hn hn2
      refine dk.k rfl (by kernel_rfl) rfl (CallsF.fn rfl (by kernel_rfl) rfl rfl) (cloneSFz _ M_x79.is (hsm _ (List.mem_of_getElem? hy_x79)).2.2.1) (keepC (by simp) (keepC (by simp) (keepC (by simp) (keepC (by simp) (keepC (by simp) keepN))))) ?_
      rintro v_q123 h124 n125 R_q123 s126 hn2 hf
      obtain ⟨a_q123, c_q123, rfl⟩ := R_q123.slice
      refine dk.w ?_
      have ho := ho.keep (.of0 s126)
      have D := D.keep (.of0 s126)
      have hS := hS.keep (.of0 s126)
      have R_q120 := R_q120.keep (.of0 s126)
      have hb_ := s126.sub _ _ hb_
      have hf_ := s126.sub _ _ hf_
      have hg_ := s126.sub _ _ hg_
      have hb4 := s126.sub _ _ hb4
      have hs := hs.trans s126
      have hn := Nat.le_trans hn hn2
      refine dk.c (v := .agg #[.slice a_q120 (y_x79.2.1).length c_q120, .slice a_q123 (y_x79.2.2).length c_q123]) rfl (by kernel_rfl) rfl rfl (by kernel_rfl) rfl ?_
      refine dk.op rfl (by kernel_rfl) rfl rfl (Does.mapOpen (K := plV) (V := ownV) (k := (y_x79.1, keyA y_x79.2.1)) (d := dOV) hf okg2 Tryd.underlying67 keyPl (by kernel_rfl) rfl rfl rfl rfl hg_) (keepC (fun hm => Ne.symm e_g_n89 (List.mem_singleton.1 hm)) (keepC (fun hm => Ne.symm e_g_n71 (List.mem_singleton.1 hm)) (keepC (fun hm => Ne.symm e_g_n71 (List.mem_singleton.1 hm)) (keepC (fun hm => Ne.symm e_g_n89 (List.mem_singleton.1 hm)) (keepC (fun hm => ne_b_g (List.mem_singleton.1 hm)) keepN))))) ?_
      rintro _ h131 n132 ⟨s129, rfl, fd130, hb127⟩ s133 hn2 hf
      refine dk.w ?_
      have ho := ho.keep (.own s133 hg_ rfl)
      have D := D.keep (.own s133 hg_ rfl)
      have hS := hS.keep (.own s133 hg_ rfl)
      have R_q120 := R_q120.keep (.own s133 hg_ rfl)
      have R_q123 := R_q123.keep (.own s133 hg_ rfl)
      have hb_ := s133.get1 (ne_b_g) hb_
      have hf_ := s133.get1 (ne_f_g) hf_
      have hb4 := s133.get1 (Ne.symm e_g_n2) hb4
      have hs := hs.fresh z_g s133
      have hn := Nat.le_trans hn hn2
      have ok128 := (okg2).set (y_x79.1, keyA y_x79.2.1) ((mget G' (y_x79.1, keyA y_x79.2.1)).getD dOV)
      refine dk.c (v := .int .i64 ((s129 : Nat))) rfl (by kernel_rfl) rfl rfl rfl rfl ?_
      refine dk.op rfl (by kernel_rfl) rfl rfl (Does.mapPut (K := plV) (V := ownV) (k := (y_x79.1, keyA y_x79.2.1)) (v := (.slice a_q120 (y_x79.2.1).length c_q120, .slice a_q123 (y_x79.2.2).length c_q123)) (kt := 73) hf keyPl ok128 rfl rfl rfl rfl fd130 hb127) (keepC (fun hm => Ne.symm e_g_n89 (List.mem_singleton.1 hm)) (keepC (fun hm => Ne.symm e_g_n71 (List.mem_singleton.1 hm)) (keepC (fun hm => Ne.symm e_g_n71 (List.mem_singleton.1 hm)) (keepC (fun hm => Ne.symm e_g_n89 (List.mem_singleton.1 hm)) (keepC (fun hm => ne_b_g (List.mem_singleton.1 hm)) keepN))))) ?_
      rintro _ h136 n137 ⟨rfl, hb134⟩ s138 hn2 hf
      refine dk.w0 ?_
      have ho := ho.keep (.own s138 hb127 rfl)
      have D := D.keep (.own s138 hb127 rfl)
      have hS := hS.keep (.own s138 hb127 rfl)
      have R_q120 := R_q120.keep (.own s138 hb127 rfl)
      have R_q123 := R_q123.keep (.own s138 hb127 rfl)
      have hb_ := s138.get1 (ne_b_g) hb_
      have hf_ := s138.get1 (ne_f_g) hf_
      have hb4 := s138.get1 (Ne.symm e_g_n2) hb4
      have hs := hs.fresh z_g s138
      have hn := Nat.le_trans hn hn2
      rw [mset_mset] at hb134
      have ok135 := (okg2).set (y_x79.1, keyA y_x79.2.1) (.slice a_q120 (y_x79.2.1).length c_q120, .slice a_q123 (y_x79.2.2).length c_q123)
      refine dk.op rfl (by kernel_rfl) rfl rfl (Does.store (k := 2) (xs := [.string (y_x79.1), .string (keyA y_x79.2.1)]) (cs' := [.string (y_x79.1), .string (keyA y_x79.2.1)]) hf (by kernel_rfl) rfl rfl rfl hb4 rfl rfl (Nat.le_of_ble_eq_true rfl) rfl) (keepC (fun hm => Ne.symm e_n2_n89 (List.mem_singleton.1 hm)) (keepC (fun hm => Ne.symm e_n2_n71 (List.mem_singleton.1 hm)) (keepC (fun hm => Ne.symm e_n2_n71 (List.mem_singleton.1 hm)) (keepC (fun hm => Ne.symm e_n2_n89 (List.mem_singleton.1 hm)) (keepC (fun hm => e_b_n2 (List.mem_singleton.1 hm)) keepN))))) ?_
      rintro _ h140 n141 ⟨rfl, hb139⟩ s142 hn2 hf
      refine dk.w0 ?_
      have ho := ho.keep (.own s142 hb4 rfl)
      have D := D.keep (.own s142 hb4 rfl)
      have hS := hS.keep (.own s142 hb4 rfl)
      have R_q120 := R_q120.keep (.own s142 hb4 rfl)
      have R_q123 := R_q123.keep (.own s142 hb4 rfl)
      have hb_ := s142.get1 (e_b_n2) hb_
      have hf_ := s142.get1 (e_f_n2) hf_
      have hb134 := s142.get1 (e_g_n2) hb134
      have hs := hs.fresh z_n2 s142
      have hn := Nat.le_trans hn hn2
      refine dk.e (AWp.rowV (l := _) pok ?_)
      refine sq.c (v := .int .i64 (k + 1)) rfl rfl (okI (wrap_i64 (by omega) (by omega))) rfl ?_
      refine sq.c (v := .int .i64 (k + 1)) rfl rfl rfl rfl ?_
      refine sq.e ?_
      have hyes3 := okRow_snoc hyes2 (x := y_x79) c14_1 (fun y hy => (last_take0 (by omega) hy).elim)
      rw [← take_snoc hk0 hy_x79] at hyes3
      have hla2 : ∀ z, os[(k + 1 - 1).toNat]? = some z → plO y_x79 = plO z := fun z hz => by
       rw [show k + 1 - 1 = k by omega, hy_x79] at hz
       rw [Option.some.inj hz]
      have eck : mck G' M2.2 (y_x79.1, keyA y_x79.2.1) = mck M2.1 M2.2 (plO y_x79) := by unfold mck; rw [hS.idx]; rfl
      rw [eck] at hb134 ok135
      have hS3 := hS.set M2.2 (plO y_x79) (v := (.slice a_q120 (y_x79.2.1).length c_q120, .slice a_q123 (y_x79.2.2).length c_q123)) (s := y_x79.2) ⟨R_q120, R_q123⟩
      refine ⟨_, _, rfl, (by omega), k + 1, stepO M2 y_x79, mset G' M2.2 (y_x79.1, keyA y_x79.2.1) (.slice a_q120 (y_x79.2.1).length c_q120, .slice a_q123 (y_x79.2.2).length c_q123), plO y_x79, rfl, hs, hn, hf, ho, D, hb_, hf_, hb134, (hS3), hb139, ok135, (by omega), (by omega), (by rw [take_snoc hk0 hy_x79, buildO_snoc, ← hM2]), (hyes3), (fun _ => hla2), getV [undef, undef, undef, undef, (y69 4), (y69 5), undef, undef, undef, undef, undef, .int .i64 (k), .pointer (some ⟨n71, 0, none⟩), .pointer (some ⟨n89, 0, none⟩), undef, undef, undef, undef, undef, undef, undef, undef, undef, undef, undef, undef, undef, undef, undef, undef, undef, undef, undef, undef, undef, undef, undef, undef, undef, undef, undef, undef, undef, undef, undef, undef, undef, undef, undef, undef, undef, undef, undef, undef, .bool true, .int .i64 (k), .pointer (some ⟨b72, o73, none⟩), .agg #[.string (y_x79.1), .slice a1_x79 (y_x79.2.1.length) c1_x79, .slice a2_x79 (y_x79.2.2.length) c2_x79], .agg #[.string (y_x79.1), .slice a1_x79 (y_x79.2.1.length) c1_x79, .slice a2_x79 (y_x79.2.2.length) c2_x79], .bool true, .bool false, .pointer (some ⟨n71, 0, none⟩), .string (y_x79.1), .pointer (some ⟨n71, 1, none⟩), .pointer (some ⟨n71, 1, none⟩), .slice a1_x79 (y_x79.2.1.length) c1_x79, .string (keyA y_x79.2.1), .agg #[.string (y_x79.1), .string (keyA y_x79.2.1)], .int .i64 (k), .bool false, .bool false, undef, undef, undef, undef, .bool false, .pointer (some ⟨b, 0, none⟩), .pointer (some ⟨b, 0, none⟩), .pointer (some ⟨b, 1, none⟩), .map (some g), .agg #[.string (y_x79.1), .string (keyA y_x79.2.1)], .pointer (some ⟨n71, 1, none⟩), .pointer (some ⟨n71, 1, none⟩), .slice a1_x79 (y_x79.2.1.length) c1_x79, .slice a_q120 (y_x79.2.1).length c_q120, .pointer (some ⟨n71, 1, none⟩), .pointer (some ⟨n71, 2, none⟩), .slice a2_x79 (y_x79.2.2.length) c2_x79, .slice a_q123 (y_x79.2.2).length c_q123, .agg #[.slice a_q120 (y_x79.2.1).length c_q120, .slice a_q123 (y_x79.2.2).length c_q123], .agg #[.string (y_x79.1), .string (keyA y_x79.2.1)], .tuple #[(ownV ((mget G' (y_x79.1, keyA y_x79.2.1)).getD dOV)), .int .i64 ((s129 : Nat))], .int .i64 ((s129 : Nat)), .int .i64 (k + 1)], rfl⟩
    ·skip
     have e_b_n88 : b ≠ n88 := hf.ne hb_
     have e_f_n88 : f ≠ n88 := hf.ne hf_
     have e_g_n88 : g ≠ n88 := hf.ne hg_
     have e_n2_n88 : n2 ≠ n88 := hf.ne hb4
     have e_n71_n88 : n71 ≠ n88 := hf.ne hb84
     have z_n88 : h.get n88 = none := hf0 _ hn
     refine dt.op rfl (by kernel_rfl) rfl rfl (Does.alloc (cs := [.string (⟨#[]⟩), .string (⟨#[]⟩)]) hf (z := .agg #[.string (⟨#[]⟩), .string (⟨#[]⟩)]) (by kernel_rfl) rfl) (keepC (by simp) (keepC (by simp) keepN)) ?_
     rintro _ h144 n145 ⟨rfl, hb143⟩ s146 hn2 hf
     refine dt.w ?_
     have ho := ho.keep (.of0 s146)
     have D := D.keep (.of0 s146)
     have hS := hS.keep (.of0 s146)
     have L_x79 := L_x79.keep (.of0 s146)
     have M_x79 := M_x79.keep (.of0 s146)
     have hb_ := s146.sub _ _ hb_
     have hf_ := s146.sub _ _ hf_
     have hg_ := s146.sub _ _ hg_
     have hb4 := s146.sub _ _ hb4
     have hb84 := s146.sub _ _ hb84
     have hs := hs.trans s146
     have hn := Nat.le_trans hn hn2
     refine dt.t (v := .string (keyA y_x79.2.1)) rfl (by kernel_rfl) rfl (CallsF.fn rfl (by kernel_rfl) rfl rfl) (fun hf => (have q_ := hsm _ (List.mem_of_getElem? hy_x79); key_spec _ L_x79.is q_.1 q_.2.1)) hf rfl ?_
     intro n147 hn2 hf
     have hn := Nat.le_trans hn hn2
     refine dt.c (v := .agg #[.string (y_x79.1), .string (keyA y_x79.2.1)]) rfl (by kernel_rfl) rfl rfl (by kernel_rfl) rfl ?_
     refine dt.op rfl (by kernel_rfl) rfl rfl (Does.store (k := 2) (xs := [.string (y_x79.1), .string (keyA y_x79.2.1)]) (cs' := [.string (y_x79.1), .string (keyA y_x79.2.1)]) hf (by kernel_rfl) rfl rfl rfl hb143 rfl rfl (Nat.le_of_ble_eq_true rfl) rfl) (keepC (fun hm => e_n71_n88 (List.mem_singleton.1 hm)) (keepC (fun hm => e_n71_n88 (List.mem_singleton.1 hm)) keepN)) ?_
     rintro _ h149 n150 ⟨rfl, hb148⟩ s151 hn2 hf
     refine dt.w0 ?_
     have ho := ho.keep (.own s151 hb143 rfl)
     have D := D.keep (.own s151 hb143 rfl)
     have hS := hS.keep (.own s151 hb143 rfl)
     have L_x79 := L_x79.keep (.own s151 hb143 rfl)
     have M_x79 := M_x79.keep (.own s151 hb143 rfl)
     have hb_ := s151.get1 (e_b_n88) hb_
     have hf_ := s151.get1 (e_f_n88) hf_
     have hg_ := s151.get1 (e_g_n88) hg_
     have hb4 := s151.get1 (e_n2_n88) hb4
     have hb84 := s151.get1 (e_n71_n88) hb84
     have hs := hs.fresh z_n88 s151
     have hn := Nat.le_trans hn hn2
     refine dt.e (AWp.seq (AWp.seq (AWp.rowV (l := _) pok ?_)))
     refine sq.c (v := .int .i64 (k)) rfl rfl rfl rfl ?_
     refine sq.c (v := .bool (decide ((0 : Int) < k))) rfl rfl rfl rfl ?_
     refine sq.c (v := .bool (decide ((0 : Int) < k))) rfl rfl rfl rfl ?_
     by_cases c17_1 : (0 : Int) < k
     ·rw [decide_eq_true c17_1]
      refine sq.c (v := .agg #[.string (la.1), .string (la.2)]) (wantT (g := 2) (d := 70) rfl rfl rfl) rfl (ldA (P := Tryd.prog) (t := 73) (p := 0) (k := 2) (xs := [.string (la.1), .string (la.2)]) (by kernel_rfl) (by kernel_rfl) hb4 rfl (Nat.le_of_ble_eq_true rfl)) rfl ?_
      refine sq.c (v := .agg #[.string (y_x79.1), .string (keyA y_x79.2.1)]) (wantT (g := 2) (d := 70) rfl rfl rfl) rfl (ldA (P := Tryd.prog) (t := 73) (p := 0) (k := 2) (xs := [.string (y_x79.1), .string (keyA y_x79.2.1)]) (by kernel_rfl) (by kernel_rfl) hb148 rfl (Nat.le_of_ble_eq_true rfl)) rfl ?_
      refine sq.t (v := .bool (decide (ltP la (plO y_x79)))) (wantT (g := 2) (d := 70) rfl rfl rfl) (CallsF.fn rfl (by kernel_rfl) rfl rfl) (fun hf => ahead_spec la (plO y_x79)) hf rfl ?_
      intro n152 hn2 hf
      have hn := Nat.le_trans hn hn2
      rcases Bool.eq_false_or_eq_true (decide (ltP la (plO y_x79))) with c17_5 | c17_5
      ·rw [c17_5]
       refine sq.c (v := .bool false) (wantT (g := 2) (d := 70) rfl rfl rfl) rfl rfl rfl ?_
       refine sq.c (v := .bool false) rfl rfl rfl rfl ?_
       refine sq.e ?_
       refine AWp.condF rfl rfl ?_
       refine AWp.skip ?_
       refine AWp.anyK pok [0, 1, 2, 3, 4, 5, 6, 7, 9, 10, 11, 14, 8, 12, 13, 15, 16, 17, 18] (by kernel_rfl) (by kernel_rfl) rfl (fun x fr fr' h n hd _ q => ⟨hd ▸ q.1, q.2⟩) ?_
       refine dk.c (v := .pointer (some ⟨b, 0, none⟩)) rfl (by kernel_rfl) rfl rfl rfl rfl ?_
       refine dk.c (v := .pointer (some ⟨b, 0, none⟩)) rfl (by kernel_rfl) rfl rfl rfl rfl ?_
       refine dk.c (v := .pointer (some ⟨b, 1, none⟩)) rfl (by kernel_rfl) rfl rfl (by kernel_rfl) rfl ?_
       refine dk.gB (v := .map (some g)) b rfl (by kernel_rfl) rfl rfl (fun _ q_ => (ld1 (P := Tryd.prog) (t := 67) (p := 1) (v := .map (some g)) (by kernel_rfl) (by kernel_rfl) (q_ _ hb_) rfl)) rfl ?_
       refine dk.gB (v := .agg #[.string (y_x79.1), .string (keyA y_x79.2.1)]) n88 rfl (by kernel_rfl) rfl rfl (fun _ q_ => (ldA (P := Tryd.prog) (t := 73) (p := 0) (k := 2) (xs := [.string (y_x79.1), .string (keyA y_x79.2.1)]) (by kernel_rfl) (by kernel_rfl) (q_ _ hb148) rfl (Nat.le_of_ble_eq_true rfl))) rfl ?_
       refine dk.c (v := .pointer (some ⟨n71, 1, none⟩)) rfl (by kernel_rfl) rfl rfl (by kernel_rfl) rfl ?_
       refine dk.c (v := .pointer (some ⟨n71, 1, none⟩)) rfl (by kernel_rfl) rfl rfl (by kernel_rfl) rfl ?_
       refine dk.gB (v := .slice a1_x79 (y_x79.2.1.length) c1_x79) n71 rfl (by kernel_rfl) rfl rfl (fun _ q_ => (ld1 (P := Tryd.prog) (t := 40) (p := 1) (v := .slice a1_x79 (y_x79.2.1.length) c1_x79) (by kernel_rfl) (by kernel_rfl) (q_ _ hb84) rfl)) rfl ?_
       refine dk.c (v := .pointer (some ⟨n71, 1, none⟩)) rfl (by kernel_rfl) rfl rfl (by kernel_rfl) rfl ?_
       refine dk.c (v := .pointer (some ⟨n71, 2, none⟩)) rfl (by kernel_rfl) rfl rfl (by kernel_rfl) rfl ?_
       refine dk.gB (v := .slice a2_x79 (y_x79.2.2.length) c2_x79) n71 rfl (by kernel_rfl) rfl rfl (fun _ q_ => (ld1 (P := Tryd.prog) (t := 41) (p := 2) (v := .slice a2_x79 (y_x79.2.2.length) c2_x79) (by kernel_rfl) (by kernel_rfl) (q_ _ hb84) rfl)) rfl ?_
       refine dk.gB (v := .agg #[.string (y_x79.1), .string (keyA y_x79.2.1)]) n88 rfl (by kernel_rfl) rfl rfl (fun _ q_ => (ldA (P := Tryd.prog) (t := 73) (p := 0) (k := 2) (xs := [.string (y_x79.1), .string (keyA y_x79.2.1)]) (by kernel_rfl) (by kernel_rfl) (q_ _ hb148) rfl (Nat.le_of_ble_eq_true rfl))) rfl ?_
       refine dk.k rfl (by kernel_rfl) rfl (CallsF.fn rfl (by kernel_rfl) rfl rfl) (cloneLFz _ L_x79.is (by have := (hsm _ (List.mem_of_getElem? hy_x79)).1; omega)) (keepC (by simp) (keepC (by simp) (keepC (by simp) (keepC (by simp) (keepC (by simp) keepN))))) ?_
       rintro v_q152 h153 n154 R_q152 s155 hn2 hf
       obtain ⟨a_q152, c_q152, rfl⟩ := R_q152.slice
       refine dk.w ?_
       have ho := ho.keep (.of0 s155)
       have D := D.keep (.of0 s155)
       have hS := hS.keep (.of0 s155)
       have M_x79 := M_x79.keep (.of0 s155)
       have hb_ := s155.sub _ _ hb_
       have hf_ := s155.sub _ _ hf_
       have hg_ := s155.sub _ _ hg_
       have hb4 := s155.sub _ _ hb4
       have hs := hs.trans s155
       have hn := Nat.le_trans hn hn2
       refine dk.k rfl (by kernel_rfl) rfl (CallsF.fn rfl (by kernel_rfl) rfl rfl) (cloneSFz _ M_x79.is (hsm _ (List.mem_of_getElem? hy_x79)).2.2.1) (keepC (by simp) (keepC (by simp) (keepC (by simp) (keepC (by simp) (keepC (by simp) keepN))))) ?_
       rintro v_q155 h156 n157 R_q155 s158 hn2 hf
       obtain ⟨a_q155, c_q155, rfl⟩ := R_q155.slice
       refine dk.w ?_
       have ho := ho.keep (.of0 s158)
       have D := D.keep (.of0 s158)
       have hS := hS.keep (.of0 s158)
       have R_q152 := R_q152.keep (.of0 s158)
       have hb_ := s158.sub _ _ hb_
       have hf_ := s158.sub _ _ hf_
       have hg_ := s158.sub _ _ hg_
       have hb4 := s158.sub _ _ hb4
       have hs := hs.trans s158
       have hn := Nat.le_trans hn hn2
       refine dk.c (v := .agg #[.slice a_q152 (y_x79.2.1).length c_q152, .slice a_q155 (y_x79.2.2).length c_q155]) rfl (by kernel_rfl) rfl rfl (by kernel_rfl) rfl ?_
       refine dk.op rfl (by kernel_rfl) rfl rfl (Does.mapOpen (K := plV) (V := ownV) (k := (y_x79.1, keyA y_x79.2.1)) (d := dOV) hf okg2 Tryd.underlying67 keyPl (by kernel_rfl) rfl rfl rfl rfl hg_) (keepC (fun hm => Ne.symm e_g_n88 (List.mem_singleton.1 hm)) (keepC (fun hm => Ne.symm e_g_n71 (List.mem_singleton.1 hm)) (keepC (fun hm => Ne.symm e_g_n71 (List.mem_singleton.1 hm)) (keepC (fun hm => Ne.symm e_g_n88 (List.mem_singleton.1 hm)) (keepC (fun hm => ne_b_g (List.mem_singleton.1 hm)) keepN))))) ?_
       rintro _ h163 n164 ⟨s161, rfl, fd162, hb159⟩ s165 hn2 hf
       refine dk.w ?_
       have ho := ho.keep (.own s165 hg_ rfl)
       have D := D.keep (.own s165 hg_ rfl)
       have hS := hS.keep (.own s165 hg_ rfl)
       have R_q152 := R_q152.keep (.own s165 hg_ rfl)
       have R_q155 := R_q155.keep (.own s165 hg_ rfl)
       have hb_ := s165.get1 (ne_b_g) hb_
       have hf_ := s165.get1 (ne_f_g) hf_
       have hb4 := s165.get1 (Ne.symm e_g_n2) hb4
       have hs := hs.fresh z_g s165
       have hn := Nat.le_trans hn hn2
       have ok160 := (okg2).set (y_x79.1, keyA y_x79.2.1) ((mget G' (y_x79.1, keyA y_x79.2.1)).getD dOV)
       refine dk.c (v := .int .i64 ((s161 : Nat))) rfl (by kernel_rfl) rfl rfl rfl rfl ?_
       refine dk.op rfl (by kernel_rfl) rfl rfl (Does.mapPut (K := plV) (V := ownV) (k := (y_x79.1, keyA y_x79.2.1)) (v := (.slice a_q152 (y_x79.2.1).length c_q152, .slice a_q155 (y_x79.2.2).length c_q155)) (kt := 73) hf keyPl ok160 rfl rfl rfl rfl fd162 hb159) (keepC (fun hm => Ne.symm e_g_n88 (List.mem_singleton.1 hm)) (keepC (fun hm => Ne.symm e_g_n71 (List.mem_singleton.1 hm)) (keepC (fun hm => Ne.symm e_g_n71 (List.mem_singleton.1 hm)) (keepC (fun hm => Ne.symm e_g_n88 (List.mem_singleton.1 hm)) (keepC (fun hm => ne_b_g (List.mem_singleton.1 hm)) keepN))))) ?_
       rintro _ h168 n169 ⟨rfl, hb166⟩ s170 hn2 hf
       refine dk.w0 ?_
       have ho := ho.keep (.own s170 hb159 rfl)
       have D := D.keep (.own s170 hb159 rfl)
       have hS := hS.keep (.own s170 hb159 rfl)
       have R_q152 := R_q152.keep (.own s170 hb159 rfl)
       have R_q155 := R_q155.keep (.own s170 hb159 rfl)
       have hb_ := s170.get1 (ne_b_g) hb_
       have hf_ := s170.get1 (ne_f_g) hf_
       have hb4 := s170.get1 (Ne.symm e_g_n2) hb4
       have hs := hs.fresh z_g s170
       have hn := Nat.le_trans hn hn2
       rw [mset_mset] at hb166
       have ok167 := (okg2).set (y_x79.1, keyA y_x79.2.1) (.slice a_q152 (y_x79.2.1).length c_q152, .slice a_q155 (y_x79.2.2).length c_q155)
       refine dk.op rfl (by kernel_rfl) rfl rfl (Does.store (k := 2) (xs := [.string (y_x79.1), .string (keyA y_x79.2.1)]) (cs' := [.string (y_x79.1), .string (keyA y_x79.2.1)]) hf (by kernel_rfl) rfl rfl rfl hb4 rfl rfl (Nat.le_of_ble_eq_true rfl) rfl) (keepC (fun hm => Ne.symm e_n2_n88 (List.mem_singleton.1 hm)) (keepC (fun hm => Ne.symm e_n2_n71 (List.mem_singleton.1 hm)) (keepC (fun hm => Ne.symm e_n2_n71 (List.mem_singleton.1 hm)) (keepC (fun hm => Ne.symm e_n2_n88 (List.mem_singleton.1 hm)) (keepC (fun hm => e_b_n2 (List.mem_singleton.1 hm)) keepN))))) ?_
       rintro _ h172 n173 ⟨rfl, hb171⟩ s174 hn2 hf
       refine dk.w0 ?_
       have ho := ho.keep (.own s174 hb4 rfl)
       have D := D.keep (.own s174 hb4 rfl)
       have hS := hS.keep (.own s174 hb4 rfl)
       have R_q152 := R_q152.keep (.own s174 hb4 rfl)
       have R_q155 := R_q155.keep (.own s174 hb4 rfl)
       have hb_ := s174.get1 (e_b_n2) hb_
       have hf_ := s174.get1 (e_f_n2) hf_
       have hb166 := s174.get1 (e_g_n2) hb166
       have hs := hs.fresh z_n2 s174
       have hn := Nat.le_trans hn hn2
       refine dk.e (AWp.rowV (l := _) pok ?_)
       refine sq.c (v := .int .i64 (k + 1)) rfl rfl (okI (wrap_i64 (by omega) (by omega))) rfl ?_
       refine sq.c (v := .int .i64 (k + 1)) rfl rfl rfl rfl ?_
       refine sq.e ?_
       have hyes3 := okRow_snoc hyes2 (x := y_x79) c14_1 (fun y hy => by rw [← hlb (by omega) _ (last_take (by omega) (by omega) hy)]; exact of_decide_eq_true c17_5)
       rw [← take_snoc hk0 hy_x79] at hyes3
       have hla2 : ∀ z, os[(k + 1 - 1).toNat]? = some z → plO y_x79 = plO z := fun z hz => by
        rw [show k + 1 - 1 = k by omega, hy_x79] at hz
        rw [Option.some.inj hz]
       have eck : mck G' M2.2 (y_x79.1, keyA y_x79.2.1) = mck M2.1 M2.2 (plO y_x79) := by unfold mck; rw [hS.idx]; rfl
       rw [eck] at hb166 ok167
       have hS3 := hS.set M2.2 (plO y_x79) (v := (.slice a_q152 (y_x79.2.1).length c_q152, .slice a_q155 (y_x79.2.2).length c_q155)) (s := y_x79.2) ⟨R_q152, R_q155⟩
       refine ⟨_, _, rfl, (by omega), k + 1, stepO M2 y_x79, mset G' M2.2 (y_x79.1, keyA y_x79.2.1) (.slice a_q152 (y_x79.2.1).length c_q152, .slice a_q155 (y_x79.2.2).length c_q155), plO y_x79, rfl, hs, hn, hf, ho, D, hb_, hf_, hb166, (hS3), hb171, ok167, (by omega), (by omega), (by rw [take_snoc hk0 hy_x79, buildO_snoc, ← hM2]), (hyes3), (fun _ => hla2), getV [undef, undef, undef, undef, (y69 4), (y69 5), undef, undef, undef, undef, undef, .int .i64 (k), .pointer (some ⟨n71, 0, none⟩), .pointer (some ⟨n88, 0, none⟩), undef, undef, undef, undef, undef, undef, undef, undef, undef, undef, undef, undef, undef, undef, undef, undef, undef, undef, undef, undef, undef, undef, undef, undef, undef, undef, undef, undef, undef, undef, undef, undef, undef, undef, undef, undef, undef, undef, undef, undef, .bool true, .int .i64 (k), .pointer (some ⟨b72, o73, none⟩), .agg #[.string (y_x79.1), .slice a1_x79 (y_x79.2.1.length) c1_x79, .slice a2_x79 (y_x79.2.2.length) c2_x79], .agg #[.string (y_x79.1), .slice a1_x79 (y_x79.2.1.length) c1_x79, .slice a2_x79 (y_x79.2.2.length) c2_x79], .bool true, .bool false, .pointer (some ⟨n71, 0, none⟩), .string (y_x79.1), .pointer (some ⟨n71, 1, none⟩), .pointer (some ⟨n71, 1, none⟩), .slice a1_x79 (y_x79.2.1.length) c1_x79, .string (keyA y_x79.2.1), .agg #[.string (y_x79.1), .string (keyA y_x79.2.1)], .int .i64 (k), .bool true, .bool true, .agg #[.string (la.1), .string (la.2)], .agg #[.string (y_x79.1), .string (keyA y_x79.2.1)], .bool true, .bool false, .bool false, .pointer (some ⟨b, 0, none⟩), .pointer (some ⟨b, 0, none⟩), .pointer (some ⟨b, 1, none⟩), .map (some g), .agg #[.string (y_x79.1), .string (keyA y_x79.2.1)], .pointer (some ⟨n71, 1, none⟩), .pointer (some ⟨n71, 1, none⟩), .slice a1_x79 (y_x79.2.1.length) c1_x79, .slice a_q152 (y_x79.2.1).length c_q152, .pointer (some ⟨n71, 1, none⟩), .pointer (some ⟨n71, 2, none⟩), .slice a2_x79 (y_x79.2.2.length) c2_x79, .slice a_q155 (y_x79.2.2).length c_q155, .agg #[.slice a_q152 (y_x79.2.1).length c_q152, .slice a_q155 (y_x79.2.2).length c_q155], .agg #[.string (y_x79.1), .string (keyA y_x79.2.1)], .tuple #[(ownV ((mget G' (y_x79.1, keyA y_x79.2.1)).getD dOV)), .int .i64 ((s161 : Nat))], .int .i64 ((s161 : Nat)), .int .i64 (k + 1)], rfl⟩
      ·rw [c17_5]
       refine sq.c (v := .bool true) rfl rfl rfl rfl ?_
       refine sq.c (v := .bool true) rfl rfl rfl rfl ?_
       refine sq.e ?_
       refine AWp.condT rfl rfl ?_
       refine AWp.seq (AWp.rowV (l := _) pok ?_)
       refine sq.c (v := .pointer none) rfl rfl rfl rfl ?_
       refine sq.c (v := .int .i64 (4)) rfl rfl rfl rfl ?_
       refine sq.e ?_
       refine AWp.ret ?_
       refine ⟨rfl, [.pointer none, .int .i64 (4)], rfl, .tuple #[.pointer none, .int .i64 (4)], rfl, hs, hn, ?_⟩
       refine ⟨fun _ => rfl, fun q => absurd q.2 ?_⟩
       have hi5 : (k - 1).toNat + 1 = k.toNat := by omega
       have hlt : (k - 1).toNat < os.length := by omega
       refine okRow_row (i := (k - 1).toNat) (by rw [hi5]; exact hy_x79) (List.getElem?_eq_getElem hlt) ?_
       rw [← hlb (by omega) _ (List.getElem?_eq_getElem hlt)]
       exact of_decide_eq_false c17_5
     ·rw [decide_eq_false c17_1]
      refine sq.s (wantF (g := 2) (d := 70) rfl rfl rfl) rfl ?_
      refine sq.s (wantF (g := 2) (d := 70) rfl rfl rfl) rfl ?_
      refine sq.s (wantF (g := 2) (d := 70) rfl rfl rfl) rfl ?_
      refine sq.s (wantF (g := 2) (d := 70) rfl rfl rfl) rfl ?_
      refine sq.c (v := .bool false) rfl rfl rfl rfl ?_
      refine sq.e ?_
      refine AWp.condF rfl rfl ?_
      refine AWp.skip ?_
      refine AWp.anyK pok [0, 1, 2, 3, 4, 5, 6, 7, 9, 10, 11, 14, 8, 12, 13, 15, 16, 17, 18] (by kernel_rfl) (by kernel_rfl) rfl (fun x fr fr' h n hd _ q => ⟨hd ▸ q.1, q.2⟩) ?_
      refine dk.c (v := .pointer (some ⟨b, 0, none⟩)) rfl (by kernel_rfl) rfl rfl rfl rfl ?_
      refine dk.c (v := .pointer (some ⟨b, 0, none⟩)) rfl (by kernel_rfl) rfl rfl rfl rfl ?_
      refine dk.c (v := .pointer (some ⟨b, 1, none⟩)) rfl (by kernel_rfl) rfl rfl (by kernel_rfl) rfl ?_
      refine dk.gB (v := .map (some g)) b rfl (by kernel_rfl) rfl rfl (fun _ q_ => (ld1 (P := Tryd.prog) (t := 67) (p := 1) (v := .map (some g)) (by kernel_rfl) (by kernel_rfl) (q_ _ hb_) rfl)) rfl ?_
      refine dk.gB (v := .agg #[.string (y_x79.1), .string (keyA y_x79.2.1)]) n88 rfl (by kernel_rfl) rfl rfl (fun _ q_ => (ldA (P := Tryd.prog) (t := 73) (p := 0) (k := 2) (xs := [.string (y_x79.1), .string (keyA y_x79.2.1)]) (by kernel_rfl) (by kernel_rfl) (q_ _ hb148) rfl (Nat.le_of_ble_eq_true rfl))) rfl ?_
      refine dk.c (v := .pointer (some ⟨n71, 1, none⟩)) rfl (by kernel_rfl) rfl rfl (by kernel_rfl) rfl ?_
      refine dk.c (v := .pointer (some ⟨n71, 1, none⟩)) rfl (by kernel_rfl) rfl rfl (by kernel_rfl) rfl ?_
      refine dk.gB (v := .slice a1_x79 (y_x79.2.1.length) c1_x79) n71 rfl (by kernel_rfl) rfl rfl (fun _ q_ => (ld1 (P := Tryd.prog) (t := 40) (p := 1) (v := .slice a1_x79 (y_x79.2.1.length) c1_x79) (by kernel_rfl) (by kernel_rfl) (q_ _ hb84) rfl)) rfl ?_
      refine dk.c (v := .pointer (some ⟨n71, 1, none⟩)) rfl (by kernel_rfl) rfl rfl (by kernel_rfl) rfl ?_
      refine dk.c (v := .pointer (some ⟨n71, 2, none⟩)) rfl (by kernel_rfl) rfl rfl (by kernel_rfl) rfl ?_
      refine dk.gB (v := .slice a2_x79 (y_x79.2.2.length) c2_x79) n71 rfl (by kernel_rfl) rfl rfl (fun _ q_ => (ld1 (P := Tryd.prog) (t := 41) (p := 2) (v := .slice a2_x79 (y_x79.2.2.length) c2_x79) (by kernel_rfl) (by kernel_rfl) (q_ _ hb84) rfl)) rfl ?_
      refine dk.gB (v := .agg #[.string (y_x79.1), .string (keyA y_x79.2.1)]) n88 rfl (by kernel_rfl) rfl rfl (fun _ q_ => (ldA (P := Tryd.prog) (t := 73) (p := 0) (k := 2) (xs := [.string (y_x79.1), .string (keyA y_x79.2.1)]) (by kernel_rfl) (by kernel_rfl) (q_ _ hb148) rfl (Nat.le_of_ble_eq_true rfl))) rfl ?_
      refine dk.k rfl (by kernel_rfl) rfl (CallsF.fn rfl (by kernel_rfl) rfl rfl) (cloneLFz _ L_x79.is (by have := (hsm _ (List.mem_of_getElem? hy_x79)).1; omega)) (keepC (by simp) (keepC (by simp) (keepC (by simp) (keepC (by simp) (keepC (by simp) keepN))))) ?_
      rintro v_q174 h175 n176 R_q174 s177 hn2 hf
      obtain ⟨a_q174, c_q174, rfl⟩ := R_q174.slice
      refine dk.w ?_
      have ho := ho.keep (.of0 s177)
      have D := D.keep (.of0 s177)
      have hS := hS.keep (.of0 s177)
      have M_x79 := M_x79.keep (.of0 s177)
      have hb_ := s177.sub _ _ hb_
      have hf_ := s177.sub _ _ hf_
      have hg_ := s177.sub _ _ hg_
      have hb4 := s177.sub _ _ hb4
      have hs := hs.trans s177
      have hn := Nat.le_trans hn hn2
      refine dk.k rfl (by kernel_rfl) rfl (CallsF.fn rfl (by kernel_rfl) rfl rfl) (cloneSFz _ M_x79.is (hsm _ (List.mem_of_getElem? hy_x79)).2.2.1) (keepC (by simp) (keepC (by simp) (keepC (by simp) (keepC (by simp) (keepC (by simp) keepN))))) ?_
      rintro v_q177 h178 n179 R_q177 s180 hn2 hf
      obtain ⟨a_q177, c_q177, rfl⟩ := R_q177.slice
      refine dk.w ?_
      have ho := ho.keep (.of0 s180)
      have D := D.keep (.of0 s180)
      have hS := hS.keep (.of0 s180)
      have R_q174 := R_q174.keep (.of0 s180)
      have hb_ := s180.sub _ _ hb_
      have hf_ := s180.sub _ _ hf_
      have hg_ := s180.sub _ _ hg_
      have hb4 := s180.sub _ _ hb4
      have hs := hs.trans s180
      have hn := Nat.le_trans hn hn2
      refine dk.c (v := .agg #[.slice a_q174 (y_x79.2.1).length c_q174, .slice a_q177 (y_x79.2.2).length c_q177]) rfl (by kernel_rfl) rfl rfl (by kernel_rfl) rfl ?_
      refine dk.op rfl (by kernel_rfl) rfl rfl (Does.mapOpen (K := plV) (V := ownV) (k := (y_x79.1, keyA y_x79.2.1)) (d := dOV) hf okg2 Tryd.underlying67 keyPl (by kernel_rfl) rfl rfl rfl rfl hg_) (keepC (fun hm => Ne.symm e_g_n88 (List.mem_singleton.1 hm)) (keepC (fun hm => Ne.symm e_g_n71 (List.mem_singleton.1 hm)) (keepC (fun hm => Ne.symm e_g_n71 (List.mem_singleton.1 hm)) (keepC (fun hm => Ne.symm e_g_n88 (List.mem_singleton.1 hm)) (keepC (fun hm => ne_b_g (List.mem_singleton.1 hm)) keepN))))) ?_
      rintro _ h185 n186 ⟨s183, rfl, fd184, hb181⟩ s187 hn2 hf
      refine dk.w ?_
      have ho := ho.keep (.own s187 hg_ rfl)
      have D := D.keep (.own s187 hg_ rfl)
      have hS := hS.keep (.own s187 hg_ rfl)
      have R_q174 := R_q174.keep (.own s187 hg_ rfl)
      have R_q177 := R_q177.keep (.own s187 hg_ rfl)
      have hb_ := s187.get1 (ne_b_g) hb_
      have hf_ := s187.get1 (ne_f_g) hf_
      have hb4 := s187.get1 (Ne.symm e_g_n2) hb4
      have hs := hs.fresh z_g s187
      have hn := Nat.le_trans hn hn2
      have ok182 := (okg2).set (y_x79.1, keyA y_x79.2.1) ((mget G' (y_x79.1, keyA y_x79.2.1)).getD dOV)
      refine dk.c (v := .int .i64 ((s183 : Nat))) rfl (by kernel_rfl) rfl rfl rfl rfl ?_
      refine dk.op rfl (by kernel_rfl) rfl rfl (Does.mapPut (K := plV) (V := ownV) (k := (y_x79.1, keyA y_x79.2.1)) (v := (.slice a_q174 (y_x79.2.1).length c_q174, .slice a_q177 (y_x79.2.2).length c_q177)) (kt := 73) hf keyPl ok182 rfl rfl rfl rfl fd184 hb181) (keepC (fun hm => Ne.symm e_g_n88 (List.mem_singleton.1 hm)) (keepC (fun hm => Ne.symm e_g_n71 (List.mem_singleton.1 hm)) (keepC (fun hm => Ne.symm e_g_n71 (List.mem_singleton.1 hm)) (keepC (fun hm => Ne.symm e_g_n88 (List.mem_singleton.1 hm)) (keepC (fun hm => ne_b_g (List.mem_singleton.1 hm)) keepN))))) ?_
      rintro _ h190 n191 ⟨rfl, hb188⟩ s192 hn2 hf
      refine dk.w0 ?_
      have ho := ho.keep (.own s192 hb181 rfl)
      have D := D.keep (.own s192 hb181 rfl)
      have hS := hS.keep (.own s192 hb181 rfl)
      have R_q174 := R_q174.keep (.own s192 hb181 rfl)
      have R_q177 := R_q177.keep (.own s192 hb181 rfl)
      have hb_ := s192.get1 (ne_b_g) hb_
      have hf_ := s192.get1 (ne_f_g) hf_
      have hb4 := s192.get1 (Ne.symm e_g_n2) hb4
      have hs := hs.fresh z_g s192
      have hn := Nat.le_trans hn hn2
      rw [mset_mset] at hb188
      have ok189 := (okg2).set (y_x79.1, keyA y_x79.2.1) (.slice a_q174 (y_x79.2.1).length c_q174, .slice a_q177 (y_x79.2.2).length c_q177)
      refine dk.op rfl (by kernel_rfl) rfl rfl (Does.store (k := 2) (xs := [.string (y_x79.1), .string (keyA y_x79.2.1)]) (cs' := [.string (y_x79.1), .string (keyA y_x79.2.1)]) hf (by kernel_rfl) rfl rfl rfl hb4 rfl rfl (Nat.le_of_ble_eq_true rfl) rfl) (keepC (fun hm => Ne.symm e_n2_n88 (List.mem_singleton.1 hm)) (keepC (fun hm => Ne.symm e_n2_n71 (List.mem_singleton.1 hm)) (keepC (fun hm => Ne.symm e_n2_n71 (List.mem_singleton.1 hm)) (keepC (fun hm => Ne.symm e_n2_n88 (List.mem_singleton.1 hm)) (keepC (fun hm => e_b_n2 (List.mem_singleton.1 hm)) keepN))))) ?_
      rintro _ h194 n195 ⟨rfl, hb193⟩ s196 hn2 hf
      refine dk.w0 ?_
      have ho := ho.keep (.own s196 hb4 rfl)
      have D := D.keep (.own s196 hb4 rfl)
      have hS := hS.keep (.own s196 hb4 rfl)
      have R_q174 := R_q174.keep (.own s196 hb4 rfl)
      have R_q177 := R_q177.keep (.own s196 hb4 rfl)
      have hb_ := s196.get1 (e_b_n2) hb_
      have hf_ := s196.get1 (e_f_n2) hf_
      have hb188 := s196.get1 (e_g_n2) hb188
      have hs := hs.fresh z_n2 s196
      have hn := Nat.le_trans hn hn2
      refine dk.e (AWp.rowV (l := _) pok ?_)
      refine sq.c (v := .int .i64 (k + 1)) rfl rfl (okI (wrap_i64 (by omega) (by omega))) rfl ?_
      refine sq.c (v := .int .i64 (k + 1)) rfl rfl rfl rfl ?_
      refine sq.e ?_
      have hyes3 := okRow_snoc hyes2 (x := y_x79) c14_1 (fun y hy => (last_take0 (by omega) hy).elim)
      rw [← take_snoc hk0 hy_x79] at hyes3
      have hla2 : ∀ z, os[(k + 1 - 1).toNat]? = some z → plO y_x79 = plO z := fun z hz => by
       rw [show k + 1 - 1 = k by omega, hy_x79] at hz
       rw [Option.some.inj hz]
      have eck : mck G' M2.2 (y_x79.1, keyA y_x79.2.1) = mck M2.1 M2.2 (plO y_x79) := by unfold mck; rw [hS.idx]; rfl
      rw [eck] at hb188 ok189
      have hS3 := hS.set M2.2 (plO y_x79) (v := (.slice a_q174 (y_x79.2.1).length c_q174, .slice a_q177 (y_x79.2.2).length c_q177)) (s := y_x79.2) ⟨R_q174, R_q177⟩
      refine ⟨_, _, rfl, (by omega), k + 1, stepO M2 y_x79, mset G' M2.2 (y_x79.1, keyA y_x79.2.1) (.slice a_q174 (y_x79.2.1).length c_q174, .slice a_q177 (y_x79.2.2).length c_q177), plO y_x79, rfl, hs, hn, hf, ho, D, hb_, hf_, hb188, (hS3), hb193, ok189, (by omega), (by omega), (by rw [take_snoc hk0 hy_x79, buildO_snoc, ← hM2]), (hyes3), (fun _ => hla2), getV [undef, undef, undef, undef, (y69 4), (y69 5), undef, undef, undef, undef, undef, .int .i64 (k), .pointer (some ⟨n71, 0, none⟩), .pointer (some ⟨n88, 0, none⟩), undef, undef, undef, undef, undef, undef, undef, undef, undef, undef, undef, undef, undef, undef, undef, undef, undef, undef, undef, undef, undef, undef, undef, undef, undef, undef, undef, undef, undef, undef, undef, undef, undef, undef, undef, undef, undef, undef, undef, undef, .bool true, .int .i64 (k), .pointer (some ⟨b72, o73, none⟩), .agg #[.string (y_x79.1), .slice a1_x79 (y_x79.2.1.length) c1_x79, .slice a2_x79 (y_x79.2.2.length) c2_x79], .agg #[.string (y_x79.1), .slice a1_x79 (y_x79.2.1.length) c1_x79, .slice a2_x79 (y_x79.2.2.length) c2_x79], .bool true, .bool false, .pointer (some ⟨n71, 0, none⟩), .string (y_x79.1), .pointer (some ⟨n71, 1, none⟩), .pointer (some ⟨n71, 1, none⟩), .slice a1_x79 (y_x79.2.1.length) c1_x79, .string (keyA y_x79.2.1), .agg #[.string (y_x79.1), .string (keyA y_x79.2.1)], .int .i64 (k), .bool false, .bool false, undef, undef, undef, undef, .bool false, .pointer (some ⟨b, 0, none⟩), .pointer (some ⟨b, 0, none⟩), .pointer (some ⟨b, 1, none⟩), .map (some g), .agg #[.string (y_x79.1), .string (keyA y_x79.2.1)], .pointer (some ⟨n71, 1, none⟩), .pointer (some ⟨n71, 1, none⟩), .slice a1_x79 (y_x79.2.1.length) c1_x79, .slice a_q174 (y_x79.2.1).length c_q174, .pointer (some ⟨n71, 1, none⟩), .pointer (some ⟨n71, 2, none⟩), .slice a2_x79 (y_x79.2.2.length) c2_x79, .slice a_q177 (y_x79.2.2).length c_q177, .agg #[.slice a_q174 (y_x79.2.1).length c_q174, .slice a_q177 (y_x79.2.2).length c_q177], .agg #[.string (y_x79.1), .string (keyA y_x79.2.1)], .tuple #[(ownV ((mget G' (y_x79.1, keyA y_x79.2.1)).getD dOV)), .int .i64 ((s183 : Nat))], .int .i64 ((s183 : Nat)), .int .i64 (k + 1)], rfl⟩
   ·rw [c14_1]
    refine sq.c (v := .bool true) rfl rfl rfl rfl ?_
    refine sq.e ?_
    refine AWp.condT rfl rfl ?_
    refine AWp.seq (AWp.rowV (l := _) pok ?_)
    refine sq.c (v := .pointer none) rfl rfl rfl rfl ?_
    refine sq.c (v := .int .i64 (4)) rfl rfl rfl rfl ?_
    refine sq.e ?_
    refine AWp.ret ?_
    refine ⟨rfl, [.pointer none, .int .i64 (4)], rfl, .tuple #[.pointer none, .int .i64 (4)], rfl, hs, hn, ?_⟩
    refine ⟨fun _ => rfl, fun q => absurd q.2 ?_⟩
    exact okRow_bad hy_x79 c14_1
  ·rw [decide_eq_false c12_0]
   refine AWp.condF rfl rfl ?_
   refine AWp.exit ?_
   refine AWp.seq (AWp.rowV (l := _) pok ?_)
   refine sq.c (v := .pointer (some ⟨b, 0, none⟩)) rfl rfl rfl rfl ?_
   refine sq.c (v := .pointer (some ⟨b, 0, none⟩)) rfl rfl rfl rfl ?_
   refine sq.c (v := .int .i64 (0)) rfl rfl rfl rfl ?_
   refine sq.e ?_
   refine AWp.ret ?_
   refine ⟨rfl, [.pointer (some ⟨b, 0, none⟩), .int .i64 (0)], rfl, .tuple #[.pointer (some ⟨b, 0, none⟩), .int .i64 (0)], rfl, hs, hn, ?_⟩
   rw [show i.toNat = fs.length by omega, List.take_length] at hM hyes
   rw [show k.toNat = os.length by omega, List.take_length] at hM2 hyes2
   refine ⟨fun q => absurd ⟨hyes, hyes2⟩ q, fun _ => ⟨b, f, g, G', rfl, hb_, ?_, ?_, ?_, ?_, ?_, z_b, z_f, z_g, ne_f_g⟩⟩
   ·rw [← hM]; exact hf_
   ·rw [← hM2]; exact hg_
   ·rw [← hM]; exact okf2
   ·rw [← hM2]; exact okg2
   ·rw [← hM2]; exact hS
end Go.Proofs.YtkpaklofdkjinaaDoor
namespace Go.Abs
open Go
theorem SubBut.get2 {h h' : Heap} {x y b : Nat} {o : AObj} (s : SubBut h h' [x, y]) (hx : b ≠ x) (hy : b ≠ y) (e : h.get b = some o) : h'.get b = some o := s b o (by simp [hx, hy]) e
theorem SubBut.fresh2 {h h1 h2 : Heap} {S : List Nat} {x y : Nat} (a : SubBut h h1 S) (hx : h.get x = none) (hy : h.get y = none) (c : SubBut h1 h2 [x, y]) : SubBut h h2 S := fun b o hb e => by
  refine c b o ?_ (a b o hb e)
  intro hm
  simp only [List.mem_cons, List.not_mem_nil, or_false] at hm
  rcases hm with rfl | rfl
  · rw [hx] at e; cases e
  · rw [hy] at e; cases e
end Go.Abs
namespace Go.Proofs.YtkpaklofdkjinaaDoor
open Go Go.Abs Go.RowKit Go.Shelf
set_option maxRecDepth 100000
set_option maxHeartbeats 8000000
structure PSt where
  F : FM
  kf : Nat
  S : SP
  kg : Nat
def st0 : PSt := ⟨[], 0, [], 0⟩
def TkR.st (R : TkR) : PSt := ⟨R.F, R.kf, R.S, R.kg⟩
def takeP (P : PSt) (b : Bat) : TkR := takeR P.F P.kf P.S P.kg b
def runP (P : PSt) (bs : List Bat) : PSt := bs.foldl (fun P b => (takeP P b).st) P
theorem runP_snoc (P : PSt) (bs : List Bat) (b : Bat) : runP P (bs ++ [b]) = (takeP (runP P bs) b).st := by unfold runP; rw [List.foldl_append]; rfl
def okFence (x : Pl × Int × Nat) : Prop := nameB x.1.1 = true ∧ nameB x.1.2 = true ∧ 1 ≤ x.2.1 ∧ x.2.1 ≤ 1099511627776
structure PInv (i : Nat) (P : PSt) : Prop where
  inv : InvS (7200000 * i) P.S
  lenF : P.F.length ≤ i
  lenS : P.S.length ≤ 1200 * i
  fen : ∀ x ∈ P.F, okFence x
  okF : MOk P.F P.kf
  okS : MOk P.S P.kg
theorem PInv.zero : PInv 0 st0 := ⟨(fun x hx => by cases hx), Nat.le_refl _, Nat.le_refl _, (fun x hx => by cases hx), .nil, .nil⟩
theorem mset_len {κ ν : Type} [DecidableEq κ] (L : List (κ × ν × Nat)) (ck : Nat) (k : κ) (v : ν) : (mset L ck k v).length ≤ L.length + 1 := by
  unfold mset
  split
  · rw [List.length_modify]; omega
  · rw [List.length_append]; exact Nat.le_refl _
structure TInv (N m : Nat) (R : TSt) : Prop where
  inv : InvS N R.S
  len : R.S.length ≤ m
  ok : MOk R.S R.ck
theorem foldT_inv {ten : ByteArray} (hn : nameB ten = true) : ∀ (ss : List Ser) (R : TSt) (N m : Nat), (∀ s ∈ ss, mayB s.1 = true ∧ Small s) → TInv N m R → TInv (N + 6000 * ss.length) (m + ss.length) (foldT ten R ss) := by
  intro ss
  induction ss with
  | nil => intro R N m _ q; exact q
  | cons s ss ih =>
    intro R N m hs q
    have h1 := hs s (List.mem_cons_self ..)
    have := ih (stepT ten R s) (N + 6000) (m + 1) (fun x hx => hs x (List.mem_cons_of_mem _ hx)) (by
      refine ⟨q.inv.put hn h1.1 h1.2, ?_, ?_⟩
      · show (pS R.S R.ck ten s).length ≤ _
        unfold pS
        split
        · have := q.len; omega
        · have := mset_len R.S R.ck (ten, keyA s.1) (s.1, (pPut R.S ten s).1); have := q.len; omega
      · show MOk (pS R.S R.ck ten s) (pCk R.S R.ck ten s)
        unfold pS pCk
        split
        · exact q.ok
        · exact q.ok.set _ _)
    rw [List.length_cons, show N + 6000 * (ss.length + 1) = N + 6000 + 6000 * ss.length by omega, show m + (ss.length + 1) = m + 1 + ss.length by omega]
    exact this
theorem InvS.up {N M : Nat} {S : SP} (q : InvS N S) (h : N ≤ M) : InvS M S := fun x hx => by
  obtain ⟨a, b, c⟩ := q x hx
  exact ⟨a, by omega, c⟩
theorem haB_parts {b : Bat} (h : mayBat b = true) (hc : ¬ b.clu = ⟨#[]⟩) : nameB b.clu = true ∧ 1 ≤ b.epo ∧ b.epo ≤ 1099511627776 := by
  unfold mayBat haB at h
  simp only [Bool.and_eq_true, Bool.or_eq_true, decide_eq_true_eq] at h
  rcases h.1.2 with q | q
  · exact ⟨q.1, q.2.1, q.2.2⟩
  · exact absurd q.1 hc
theorem PInv.step {i : Nat} {P : PSt} (q : PInv i P) {b : Bat} (hs : Smalls b.ser) : PInv (i + 1) (takeP P b).st := by
  have up : PInv (i + 1) P := ⟨q.inv.up (by omega), by have := q.lenF; omega, by have := q.lenS; omega, q.fen, q.okF, q.okS⟩
  unfold takeP takeR
  split
  · exact up
  · rename_i hm
    have hm : mayBat b = true := by simpa using hm
    have hp := mayBat_parts hm
    have ht := foldT_inv hp.1 b.ser ⟨P.S, P.kg, [], 0⟩ (7200000 * i) (1200 * i) (fun s hs2 => ⟨(hp.2 s hs2).1, hs.2 s hs2⟩) ⟨q.inv, q.lenS, q.okS⟩
    have hl := hs.1
    split
    · exact ⟨ht.inv.up (by omega), by have := q.lenF; show P.F.length ≤ _; omega, by have := ht.len; show (foldT _ _ _).S.length ≤ _; omega, q.fen, q.okF, ht.ok⟩
    · rename_i hc
      split
      · exact up
      · refine ⟨ht.inv.up (by omega), ?_, by have := ht.len; show (foldT _ _ _).S.length ≤ _; omega, ?_, q.okF.set _ _, ht.ok⟩
        · show (mset _ _ _ _).length ≤ _
          have := mset_len P.F P.kf (b.ten, b.clu) b.epo; have := q.lenF; omega
        · intro x hx
          rcases mset_mem hx with hx | ⟨e1, e2⟩
          · exact q.fen x hx
          · obtain ⟨a1, a2, a3⟩ := haB_parts hm hc
            exact ⟨by rw [e1]; exact hp.1, by rw [e1]; exact a1, by rw [e2]; exact a2, by rw [e2]; exact a3⟩
theorem SersIs.one {h : Heap} {r : RSer} {s : Ser} (q : SerIs h r s) : SersIs h [r] [s] := by
  refine ⟨rfl, fun i r' s' a b => ?_⟩
  cases i with
  | zero => simp at a b; subst a; subst b; exact q
  | succ i => simp at a
/-! The examples. -/
def bT : ByteArray := ⟨#[116]⟩
def bX : ByteArray := ⟨#[120]⟩
def labAB : List Lab := [(⟨#[97]⟩, ⟨#[98]⟩)]
def aB1 : Bat := ⟨bT, bX, 2, [(labAB, [(10, 1)])]⟩
def aB2 : Bat := ⟨bT, bX, 1, [(labAB, [(30, 1)])]⟩
def aB3 : Bat := ⟨bT, bX, 2, [(labAB, [(10, 1), (10, 2), (5, 1), (20, 1)])]⟩
def aB4 : Bat := ⟨bT, ⟨#[]⟩, 0, [(labAB, [(20, 1)])]⟩
def aS1 : SP := [((bT, keyA labAB), (labAB, [(10, 1)]), 0)]
def aS2 : SP := [((bT, keyA labAB), (labAB, [(10, 1), (20, 1)]), 0)]
def aF : FM := [((bT, bX), 2, 0)]
def aR1 : TkR := ⟨0, aF, 1, aS1, 1, aB1, 0, true⟩
def aR2 : TkR := ⟨61, aF, 1, aS1, 1, ⟨⟨#[]⟩, ⟨#[]⟩, 0, []⟩, 0, false⟩
def aR3 : TkR := ⟨0, aF, 1, aS2, 1, ⟨bT, bX, 2, [(labAB, [(20, 1)])]⟩, 2, false⟩
def aR4 : TkR := ⟨0, aF, 1, aS2, 1, ⟨bT, ⟨#[]⟩, 0, []⟩, 0, false⟩
theorem aw1 : aR1 = takeP st0 aB1 := by kernel_rfl
theorem aw2 : aR2 = takeP aR1.st aB2 := by kernel_rfl
theorem aw3 : aR3 = takeP aR2.st aB3 := by kernel_rfl
theorem aw4 : aR4 = takeP aR3.st aB4 := by kernel_rfl
theorem smalls1 {xs : List Samp} (h : xs.length < 6000) : Smalls [(labAB, xs)] := ⟨by simp, fun s hs => by
  rw [List.mem_singleton] at hs
  subst hs
  refine ⟨by simp [labAB], h, fun x hx => ?_⟩
  simp only [labAB, List.mem_singleton] at hx
  subst hx
  exact ⟨by decide, by decide⟩⟩
theorem pi1 : PInv 1 aR1.st := by rw [aw1]; exact PInv.zero.step (smalls1 (by decide))
theorem pi2 : PInv 2 aR2.st := by rw [aw2]; exact pi1.step (smalls1 (by decide))
theorem pi3 : PInv 3 aR3.st := by rw [aw3]; exact pi2.step (smalls1 (by decide))
theorem allFz {h : Heap} {n : Nat} {b f g kf kg : Nat} {c : CI} (F : FM) (G : SM) (S : SP) (hb_ : h.get b = some (.cells [.map (some f), .map (some g)] true c)) (hf_ : h.get f = some (.map (mapE plV intV F) kf)) (hg_ : h.get g = some (.map (mapE plV ownV G) kg)) (okF : MOk F kf) (okG : MOk G kg) (hS : SMIs h G S) (ne_f_g : f ≠ g) {N : Nat} (hlen : S.length ≤ 1000000000000) (hinv : InvS N S) (hN : N < 1000000000000) :
    Makes Tryd.prog 15 [.pointer (some ⟨b, 0, none⟩)] h n [] fun v h2 _ => ∃ os, FRow encOwn h2 v os ∧ FOwns h2 os (allV S) := by
  refine makes_weaken (allX_spec F G S hb_ hf_ hg_ okF okG hS ne_f_g (by rw [hS.1]; exact hlen) hinv hN) ?_
  rintro v h2 n2 hs hn hf ⟨os, q, d⟩
  obtain ⟨h3, w3, fr, k3, s3⟩ := q.freeze
  exact ⟨h3, w3, q.fresh hs s3, os, fr, d.keep k3⟩
theorem batch_spec {h : Heap} {n : Nat} {a : Option Addr} {cp : Nat} (clu : ByteArray) (epo : Int) (xs : List Samp) (hx : IsRow encSmp h (.slice a xs.length cp) xs) :
    Makes Tryd.prog 25 [.string (clu), .int .i64 (epo), .slice a (xs.length) cp] h n ([]) (fun v h2 _ => ∃ w r, v = .agg #[.string bT, .string clu, .int .i64 epo, w] ∧ IsRow encSer h2 w [r] ∧ SersIs h2 [r] [(labAB, xs)]) := by
 refine Makes.free fun hf => ?_
 have hs : SubBut h h ([]) := .refl _ _
 have hn : n ≤ n := Nat.le_refl _
 have hf0 := hf
 refine Makes.of_bodyV (args := [.string (clu), .int .i64 (epo), .slice a (xs.length) cp]) (vs := [.string (clu), .int .i64 (epo), .slice a (xs.length) cp, undef, undef, undef, undef, undef, undef, undef, undef, undef, undef, undef, undef]) Tryd.func25 rfl rfl ?_
 refine AWp.seq (AWp.rowV (l := _) pok ?_)
 have z_n : h.get n = none := hf0 _ hn
 refine sq.op rfl rfl (Does.alloc (cs := [.string (⟨#[]⟩), .string (⟨#[]⟩), .int .i64 (0), .slice none (0) (0)]) hf (z := .agg #[.string (⟨#[]⟩), .string (⟨#[]⟩), .int .i64 (0), .slice none (0) (0)]) (by kernel_rfl) rfl) ?_
 rintro _ h2 n3 ⟨rfl, hb1⟩ s4 hn2 hf
 refine sq.w ?_
 have hs := hs.trans s4
 have hn := Nat.le_trans hn hn2
 refine sq.e (AWp.seq (AWp.rowV (l := _) pok ?_))
 refine sq.c (v := .string (clu)) rfl rfl rfl rfl ?_
 refine sq.c (v := .int .i64 (epo)) rfl rfl rfl rfl ?_
 refine sq.c (v := .agg #[.string (⟨#[97]⟩), .string (⟨#[98]⟩)]) rfl rfl (by kernel_rfl) rfl ?_
 have e_n_n3 : n ≠ n3 := hf.ne hb1
 refine sq.op rfl rfl (Does.build (e := 61) (cs := [.string (⟨#[97]⟩), .string (⟨#[98]⟩)]) hf (fun _ _ => by kernel_rfl)) ?_
 rintro _ h6 n7 ⟨rfl, hb5⟩ s8 hn2 hf
 refine sq.w ?_
 have hb1 := s8.sub _ _ hb1
 have hs := hs.trans s8
 have hn := Nat.le_trans hn hn2
 refine sq.c (v := .slice a (xs.length) cp) rfl rfl rfl rfl ?_
 refine sq.c (v := .agg #[.slice (some ⟨n3, 0, none⟩) (1) (1), .slice a (xs.length) cp]) rfl rfl (by kernel_rfl) rfl ?_
 have e_n_n7 : n ≠ n7 := hf.ne hb1
 refine sq.op rfl rfl (Does.build (e := 43) (cs := [.slice (some ⟨n3, 0, none⟩) (1) (1), .slice a (xs.length) cp]) hf (fun _ _ => by kernel_rfl)) ?_
 rintro _ h10 n11 ⟨rfl, hb9⟩ s12 hn2 hf
 refine sq.w ?_
 have hb1 := s12.sub _ _ hb1
 have hb5 := s12.sub _ _ hb5
 have hs := hs.trans s12
 have hn := Nat.le_trans hn hn2
 refine sq.c (v := .agg #[.string (⟨#[116]⟩), .string (clu), .int .i64 (epo), .slice (some ⟨n7, 0, none⟩) (1) (1)]) rfl rfl (by kernel_rfl) rfl ?_
 refine sq.op rfl rfl (Does.store (k := 4) (xs := [.string (⟨#[116]⟩), .string (clu), .int .i64 (epo), .slice (some ⟨n7, 0, none⟩) (1) (1)]) (cs' := [.string (⟨#[116]⟩), .string (clu), .int .i64 (epo), .slice (some ⟨n7, 0, none⟩) (1) (1)]) hf (by kernel_rfl) rfl rfl rfl hb1 rfl rfl (Nat.le_of_ble_eq_true rfl) rfl) ?_
 rintro _ h14 n15 ⟨rfl, hb13⟩ s16 hn2 hf
 refine sq.w0 ?_
 have hb5 := s16.get1 (Ne.symm e_n_n3) hb5
 have hb9 := s16.get1 (Ne.symm e_n_n7) hb9
 have hs := hs.fresh z_n s16
 have hn := Nat.le_trans hn hn2
 refine sq.e ?_
 refine AWp.ret ?_
 refine ⟨rfl, [.agg #[.string (⟨#[116]⟩), .string (clu), .int .i64 (epo), .slice (some ⟨n7, 0, none⟩) (1) (1)]], (res_cell (ldA (P := Tryd.prog) (t := 31) (p := 0) (k := 4) (xs := [.string (⟨#[116]⟩), .string (clu), .int .i64 (epo), .slice (some ⟨n7, 0, none⟩) (1) (1)]) (by kernel_rfl) (by kernel_rfl) hb13 rfl (Nat.le_of_ble_eq_true rfl))), .agg #[.string (⟨#[116]⟩), .string (clu), .int .i64 (epo), .slice (some ⟨n7, 0, none⟩) (1) (1)], rfl, hs, hn, ?_⟩
 refine ⟨_, (.slice (some ⟨n3, 0, none⟩) (1) (1), .slice a (xs.length) cp), rfl, IsRow.of (E := encSer) (xs := [(.slice (some ⟨n3, 0, none⟩) (1) (1), .slice a (xs.length) cp)]) (cap := 1) hb9 (Nat.le_refl _), SersIs.one ⟨?_, (hx.keep hs)⟩⟩
 exact IsRow.of (E := encLab) (xs := labAB) (cap := 1) hb5 (Nat.le_refl _)
theorem awake_spec {h : Heap} {n : Nat} (hld : Laid0 h) :
    Tells Tryd.prog 10 [] h n (.bool true) := by
 refine Makes.tells (Makes.free fun hf => ?_)
 have hs : SubBut h h ([]) := .refl _ _
 have hn : n ≤ n := Nat.le_refl _
 have hf0 := hf
 refine Makes.of_bodyV (args := []) (vs := [undef, undef, undef, undef, undef, undef, undef, undef, undef, undef, undef, undef, undef, undef, undef, undef, undef, undef, undef, undef, undef, undef, undef, undef, undef, undef, undef, undef, undef, undef, undef, undef, undef, undef, undef, undef, undef, undef, undef, undef, undef, undef, undef, undef, undef, undef, undef, undef, undef, undef, undef, undef, undef, undef, undef, undef, undef, undef, undef, undef, undef, undef, undef, undef, undef, undef, undef, undef, undef, undef, undef, undef, undef, undef, undef, undef, undef, undef, undef, undef, undef, undef, undef, undef, undef, undef, undef, undef, undef, undef, undef, undef, undef, undef, undef, undef, undef, undef, undef, undef, undef, undef, undef, undef, undef, undef, undef, undef, undef, undef, undef, undef, undef, undef, undef, undef, undef, undef, undef, undef, undef, undef, undef]) Tryd.func10 rfl rfl ?_
 refine AWp.seq (AWp.rowV (l := _) pok ?_)
 refine sq.c (v := .bool false) rfl rfl rfl rfl ?_
 refine sq.e (AWp.seq (AWp.rowV (l := _) pok ?_))
 refine sq.k rfl (CallsF.fn rfl (by kernel_rfl) rfl rfl) (new_spec) ?_
 rintro _ h1 n2 ⟨b, f, g, rfl, hb_, hf_, hg_, y_b, y_f, y_g, ne_f_g⟩ s3 hn2 hf
 have z_f := sub_none hs y_f
 have z_g := sub_none hs y_g
 have ne_b_f : b ≠ f := by intro e; subst e; rw [hb_] at hf_; cases hf_
 have ne_b_g : b ≠ g := by intro e; subst e; rw [hb_] at hg_; cases hg_
 have okF : MOk ([] : FM) 0 := .nil
 have okG : MOk ([] : SM) 0 := .nil
 refine sq.w ?_
 have hs := hs.trans s3
 have hn := Nat.le_trans hn hn2
 have hS : SMIs h1 ([] : SM) ([] : SP) := SMIs.nil _
 refine sq.c (v := .pointer (some ⟨b, 0, none⟩)) rfl rfl rfl rfl ?_
 refine sq.e (AWp.seq (AWp.rowV (l := _) pok ?_))
 refine sq.c (v := .pointer (some ⟨b, 0, none⟩)) rfl rfl rfl rfl ?_
 refine sq.c (v := .agg #[.int .i64 (10), .int .u64 (1)]) rfl rfl (by kernel_rfl) rfl ?_
 refine sq.op rfl rfl (Does.build (e := 53) (cs := [.int .i64 (10), .int .u64 (1)]) hf (fun _ _ => by kernel_rfl)) ?_
 rintro _ h5 n6 ⟨rfl, hb4⟩ s7 hn2 hf
 refine sq.w ?_
 have hS := hS.keep (.of0 s7)
 have hb_ := s7.sub _ _ hb_
 have hf_ := s7.sub _ _ hf_
 have hg_ := s7.sub _ _ hg_
 have hs := hs.trans s7
 have hn := Nat.le_trans hn hn2
 refine sq.k rfl (CallsF.fn rfl (by kernel_rfl) rfl rfl) (batch_spec (⟨#[120]⟩ : ByteArray) 2 [(10, 1)] (IsRow.of (E := encSmp) (xs := [(10, 1)]) (cap := 1) hb4 (Nat.le_refl _))) ?_
 rintro _ h8 n9 ⟨w_b7, r_b7, rfl, R_b7, E_b7⟩ s10 hn2 hf
 obtain ⟨a_b7, c_b7, e_b7⟩ := R_b7.slice
 cases e_b7
 change IsRow encSer _ (.slice a_b7 1 c_b7) [r_b7] at R_b7
 refine sq.w ?_
 have hS := hS.keep (.of0 s10)
 have hb_ := s10.sub _ _ hb_
 have hf_ := s10.sub _ _ hf_
 have hg_ := s10.sub _ _ hg_
 have hs := hs.trans s10
 have hn := Nat.le_trans hn hn2
 refine sq.k rfl (CallsF.fn rfl (by kernel_rfl) rfl rfl) (takeSt (R := aR1) _ _ _ hb_ hf_ hg_ okF okG hS (ne_f_g) _ _ _ _ _ R_b7 E_b7 (hld.keep hs) (smalls1 (by decide)) (by decide) (by decide) (InvS.up PInv.zero.inv (Nat.le_refl 0)) (by omega) aw1) ?_
 rintro _ h11 n12 ⟨w_t1, os_t1, G_t1, rfl, W_t1, D_t1, hf_t1, hg_t1, okF_t1, okG_t1, hS_t1⟩ s13 hn2 hf
 obtain ⟨a_t1, c_t1, rfl⟩ := W_t1.slice
 refine sq.w ?_
 have nc_s13 : NoCells _ [f, g] := .cons hf_ (.cons hg_ (.nil _))
 have E_b7 := E_b7.noc s13 nc_s13
 have hb_ := s13.get2 (ne_b_f) (ne_b_g) hb_
 have hs := hs.fresh2 z_f z_g s13
 have hn := Nat.le_trans hn hn2
 have hS := hS_t1
 refine sq.c (v := .tuple #[.agg #[.string (bT), .string (bX), .int .i64 (2), .slice a_t1 (os_t1.length) c_t1, .int .i64 (0), .bool true], .int .i64 (0)]) rfl rfl rfl rfl ?_
 refine sq.c (v := .agg #[.string (bT), .string (bX), .int .i64 (2), .slice a_t1 (os_t1.length) c_t1, .int .i64 (0), .bool true]) rfl rfl rfl rfl ?_
 refine sq.c (v := .int .i64 (0)) rfl rfl rfl rfl ?_
 have e_b_n12 : b ≠ n12 := hf.ne hb_
 have e_f_n12 : f ≠ n12 := hf.ne hf_t1
 have e_g_n12 : g ≠ n12 := hf.ne hg_t1
 have z_n12 : h.get n12 = none := hf0 _ hn
 refine sq.op rfl rfl (Does.alloc (cs := [.string (⟨#[]⟩), .string (⟨#[]⟩), .int .i64 (0), .slice none (0) (0), .int .i64 (0), .bool false]) hf (z := .agg #[.string (⟨#[]⟩), .string (⟨#[]⟩), .int .i64 (0), .slice none (0) (0), .int .i64 (0), .bool false]) (by kernel_rfl) rfl) ?_
 rintro _ h15 n16 ⟨rfl, hb14⟩ s17 hn2 hf
 refine sq.w ?_
 have hS := hS.keep (.of0 s17)
 have W_t1 := W_t1.keep (.of0 s17)
 have D_t1 := D_t1.keep (.of0 s17)
 have hb_ := s17.sub _ _ hb_
 have hf_t1 := s17.sub _ _ hf_t1
 have hg_t1 := s17.sub _ _ hg_t1
 have hs := hs.trans s17
 have hn := Nat.le_trans hn hn2
 refine sq.op rfl rfl (Does.store (k := 6) (xs := [.string (bT), .string (bX), .int .i64 (2), .slice a_t1 (os_t1.length) c_t1, .int .i64 (0), .bool true]) (cs' := [.string (bT), .string (bX), .int .i64 (2), .slice a_t1 (os_t1.length) c_t1, .int .i64 (0), .bool true]) hf (by kernel_rfl) rfl rfl rfl hb14 rfl rfl (Nat.le_of_ble_eq_true rfl) rfl) ?_
 rintro _ h19 n20 ⟨rfl, hb18⟩ s21 hn2 hf
 refine sq.w0 ?_
 have hS := hS.keep (.own s21 hb14 rfl)
 have W_t1 := W_t1.keep (.own s21 hb14 rfl)
 have D_t1 := D_t1.keep (.own s21 hb14 rfl)
 have hb_ := s21.get1 (e_b_n12) hb_
 have hf_t1 := s21.get1 (e_f_n12) hf_t1
 have hg_t1 := s21.get1 (e_g_n12) hg_t1
 have hs := hs.fresh z_n12 s21
 have hn := Nat.le_trans hn hn2
 refine sq.c (v := .int .i64 (0)) rfl rfl rfl rfl ?_
 refine sq.e (AWp.seq (AWp.rowV (l := _) pok ?_))
 refine sq.c (v := .pointer (some ⟨b, 0, none⟩)) rfl rfl rfl rfl ?_
 refine sq.c (v := .agg #[.int .i64 (30), .int .u64 (1)]) rfl rfl (by kernel_rfl) rfl ?_
 refine sq.op rfl rfl (Does.build (e := 53) (cs := [.int .i64 (30), .int .u64 (1)]) hf (fun _ _ => by kernel_rfl)) ?_
 rintro _ h23 n24 ⟨rfl, hb22⟩ s25 hn2 hf
 refine sq.w ?_
 have hS := hS.keep (.of0 s25)
 have W_t1 := W_t1.keep (.of0 s25)
 have D_t1 := D_t1.keep (.of0 s25)
 have hb_ := s25.sub _ _ hb_
 have hf_t1 := s25.sub _ _ hf_t1
 have hg_t1 := s25.sub _ _ hg_t1
 have hb18 := s25.sub _ _ hb18
 have hs := hs.trans s25
 have hn := Nat.le_trans hn hn2
 refine sq.k rfl (CallsF.fn rfl (by kernel_rfl) rfl rfl) (batch_spec (⟨#[120]⟩ : ByteArray) 1 [(30, 1)] (IsRow.of (E := encSmp) (xs := [(30, 1)]) (cap := 1) hb22 (Nat.le_refl _))) ?_
 rintro _ h26 n27 ⟨w_b25, r_b25, rfl, R_b25, E_b25⟩ s28 hn2 hf
 obtain ⟨a_b25, c_b25, e_b25⟩ := R_b25.slice
 cases e_b25
 change IsRow encSer _ (.slice a_b25 1 c_b25) [r_b25] at R_b25
 refine sq.w ?_
 have hS := hS.keep (.of0 s28)
 have W_t1 := W_t1.keep (.of0 s28)
 have D_t1 := D_t1.keep (.of0 s28)
 have hb_ := s28.sub _ _ hb_
 have hf_t1 := s28.sub _ _ hf_t1
 have hg_t1 := s28.sub _ _ hg_t1
 have hb18 := s28.sub _ _ hb18
 have hs := hs.trans s28
 have hn := Nat.le_trans hn hn2
 refine sq.k rfl (CallsF.fn rfl (by kernel_rfl) rfl rfl) (takeSt (R := aR2) _ _ _ hb_ hf_t1 hg_t1 okF_t1 okG_t1 hS (ne_f_g) _ _ _ _ _ R_b25 E_b25 (hld.keep hs) (smalls1 (by decide)) (by decide) (by decide) pi1.inv (by omega) aw2) ?_
 rintro _ h29 n30 ⟨w_t2, os_t2, G_t2, rfl, W_t2, D_t2, hf_t2, hg_t2, okF_t2, okG_t2, hS_t2⟩ s31 hn2 hf
 obtain ⟨a_t2, c_t2, rfl⟩ := W_t2.slice
 refine sq.w ?_
 have ours_s31 : Ours _ [f, g] := .cons hf_t1 rfl (.cons hg_t1 rfl (.nil _))
 have nc_s31 : NoCells _ [f, g] := .cons hf_t1 (.cons hg_t1 (.nil _))
 have W_t1 := W_t1.keep (.of s31 ours_s31)
 have D_t1 := D_t1.keep (.of s31 ours_s31)
 have E_b25 := E_b25.noc s31 nc_s31
 have hb_ := s31.get2 (ne_b_f) (ne_b_g) hb_
 have hb18 := s31.get2 (Ne.symm e_f_n12) (Ne.symm e_g_n12) hb18
 have hs := hs.fresh2 z_f z_g s31
 have hn := Nat.le_trans hn hn2
 have hS := hS_t2
 refine sq.c (v := .tuple #[.agg #[.string (⟨#[]⟩), .string (⟨#[]⟩), .int .i64 (0), .slice a_t2 (os_t2.length) c_t2, .int .i64 (0), .bool false], .int .i64 (61)]) rfl rfl rfl rfl ?_
 refine sq.c (v := .agg #[.string (⟨#[]⟩), .string (⟨#[]⟩), .int .i64 (0), .slice a_t2 (os_t2.length) c_t2, .int .i64 (0), .bool false]) rfl rfl rfl rfl ?_
 refine sq.c (v := .int .i64 (61)) rfl rfl rfl rfl ?_
 have e_b_n30 : b ≠ n30 := hf.ne hb_
 have e_f_n30 : f ≠ n30 := hf.ne hf_t2
 have e_g_n30 : g ≠ n30 := hf.ne hg_t2
 have e_n12_n30 : n12 ≠ n30 := hf.ne hb18
 have z_n30 : h.get n30 = none := hf0 _ hn
 refine sq.op rfl rfl (Does.alloc (cs := [.string (⟨#[]⟩), .string (⟨#[]⟩), .int .i64 (0), .slice none (0) (0), .int .i64 (0), .bool false]) hf (z := .agg #[.string (⟨#[]⟩), .string (⟨#[]⟩), .int .i64 (0), .slice none (0) (0), .int .i64 (0), .bool false]) (by kernel_rfl) rfl) ?_
 rintro _ h33 n34 ⟨rfl, hb32⟩ s35 hn2 hf
 refine sq.w ?_
 have W_t1 := W_t1.keep (.of0 s35)
 have D_t1 := D_t1.keep (.of0 s35)
 have hS := hS.keep (.of0 s35)
 have hb_ := s35.sub _ _ hb_
 have hf_t2 := s35.sub _ _ hf_t2
 have hg_t2 := s35.sub _ _ hg_t2
 have hb18 := s35.sub _ _ hb18
 have hs := hs.trans s35
 have hn := Nat.le_trans hn hn2
 refine sq.op rfl rfl (Does.store (k := 6) (xs := [.string (⟨#[]⟩), .string (⟨#[]⟩), .int .i64 (0), .slice a_t2 (os_t2.length) c_t2, .int .i64 (0), .bool false]) (cs' := [.string (⟨#[]⟩), .string (⟨#[]⟩), .int .i64 (0), .slice a_t2 (os_t2.length) c_t2, .int .i64 (0), .bool false]) hf (by kernel_rfl) rfl rfl rfl hb32 rfl rfl (Nat.le_of_ble_eq_true rfl) rfl) ?_
 rintro _ h37 n38 ⟨rfl, hb36⟩ s39 hn2 hf
 refine sq.w0 ?_
 have W_t1 := W_t1.keep (.own s39 hb32 rfl)
 have D_t1 := D_t1.keep (.own s39 hb32 rfl)
 have hS := hS.keep (.own s39 hb32 rfl)
 have hb_ := s39.get1 (e_b_n30) hb_
 have hf_t2 := s39.get1 (e_f_n30) hf_t2
 have hg_t2 := s39.get1 (e_g_n30) hg_t2
 have hb18 := s39.get1 (e_n12_n30) hb18
 have hs := hs.fresh z_n30 s39
 have hn := Nat.le_trans hn hn2
 refine sq.c (v := .int .i64 (61)) rfl rfl rfl rfl ?_
 refine sq.e (AWp.seq (AWp.rowV (l := _) pok ?_))
 refine sq.c (v := .pointer (some ⟨b, 0, none⟩)) rfl rfl rfl rfl ?_
 refine sq.c (v := .agg #[.int .i64 (10), .int .u64 (1)]) rfl rfl (by kernel_rfl) rfl ?_
 refine sq.c (v := .agg #[.int .i64 (10), .int .u64 (2)]) rfl rfl (by kernel_rfl) rfl ?_
 refine sq.c (v := .agg #[.int .i64 (5), .int .u64 (1)]) rfl rfl (by kernel_rfl) rfl ?_
 refine sq.c (v := .agg #[.int .i64 (20), .int .u64 (1)]) rfl rfl (by kernel_rfl) rfl ?_
 refine sq.op rfl rfl (Does.build (e := 53) (cs := [.int .i64 (10), .int .u64 (1), .int .i64 (10), .int .u64 (2), .int .i64 (5), .int .u64 (1), .int .i64 (20), .int .u64 (1)]) hf (fun _ _ => by kernel_rfl)) ?_
 rintro _ h41 n42 ⟨rfl, hb40⟩ s43 hn2 hf
 refine sq.w ?_
 have W_t1 := W_t1.keep (.of0 s43)
 have D_t1 := D_t1.keep (.of0 s43)
 have hS := hS.keep (.of0 s43)
 have hb_ := s43.sub _ _ hb_
 have hf_t2 := s43.sub _ _ hf_t2
 have hg_t2 := s43.sub _ _ hg_t2
 have hb18 := s43.sub _ _ hb18
 have hs := hs.trans s43
 have hn := Nat.le_trans hn hn2
 refine sq.k rfl (CallsF.fn rfl (by kernel_rfl) rfl rfl) (batch_spec (⟨#[120]⟩ : ByteArray) 2 [(10, 1), (10, 2), (5, 1), (20, 1)] (IsRow.of (E := encSmp) (xs := [(10, 1), (10, 2), (5, 1), (20, 1)]) (cap := 4) hb40 (Nat.le_refl _))) ?_
 rintro _ h44 n45 ⟨w_b43, r_b43, rfl, R_b43, E_b43⟩ s46 hn2 hf
 obtain ⟨a_b43, c_b43, e_b43⟩ := R_b43.slice
 cases e_b43
 change IsRow encSer _ (.slice a_b43 1 c_b43) [r_b43] at R_b43
 refine sq.w ?_
 have W_t1 := W_t1.keep (.of0 s46)
 have D_t1 := D_t1.keep (.of0 s46)
 have hS := hS.keep (.of0 s46)
 have hb_ := s46.sub _ _ hb_
 have hf_t2 := s46.sub _ _ hf_t2
 have hg_t2 := s46.sub _ _ hg_t2
 have hb18 := s46.sub _ _ hb18
 have hs := hs.trans s46
 have hn := Nat.le_trans hn hn2
 refine sq.k rfl (CallsF.fn rfl (by kernel_rfl) rfl rfl) (takeSt (R := aR3) _ _ _ hb_ hf_t2 hg_t2 okF_t2 okG_t2 hS (ne_f_g) _ _ _ _ _ R_b43 E_b43 (hld.keep hs) (smalls1 (by decide)) (by decide) (by decide) pi2.inv (by omega) aw3) ?_
 rintro _ h47 n48 ⟨w_t3, os_t3, G_t3, rfl, W_t3, D_t3, hf_t3, hg_t3, okF_t3, okG_t3, hS_t3⟩ s49 hn2 hf
 obtain ⟨a_t3, c_t3, rfl⟩ := W_t3.slice
 refine sq.w ?_
 have ours_s49 : Ours _ [f, g] := .cons hf_t2 rfl (.cons hg_t2 rfl (.nil _))
 have nc_s49 : NoCells _ [f, g] := .cons hf_t2 (.cons hg_t2 (.nil _))
 have W_t1 := W_t1.keep (.of s49 ours_s49)
 have D_t1 := D_t1.keep (.of s49 ours_s49)
 have E_b43 := E_b43.noc s49 nc_s49
 have hb_ := s49.get2 (ne_b_f) (ne_b_g) hb_
 have hb18 := s49.get2 (Ne.symm e_f_n12) (Ne.symm e_g_n12) hb18
 have hs := hs.fresh2 z_f z_g s49
 have hn := Nat.le_trans hn hn2
 have hS := hS_t3
 refine sq.c (v := .tuple #[.agg #[.string (bT), .string (bX), .int .i64 (2), .slice a_t3 (os_t3.length) c_t3, .int .i64 (2), .bool false], .int .i64 (0)]) rfl rfl rfl rfl ?_
 refine sq.c (v := .agg #[.string (bT), .string (bX), .int .i64 (2), .slice a_t3 (os_t3.length) c_t3, .int .i64 (2), .bool false]) rfl rfl rfl rfl ?_
 refine sq.c (v := .int .i64 (0)) rfl rfl rfl rfl ?_
 have e_b_n48 : b ≠ n48 := hf.ne hb_
 have e_f_n48 : f ≠ n48 := hf.ne hf_t3
 have e_g_n48 : g ≠ n48 := hf.ne hg_t3
 have e_n12_n48 : n12 ≠ n48 := hf.ne hb18
 have z_n48 : h.get n48 = none := hf0 _ hn
 refine sq.op rfl rfl (Does.alloc (cs := [.string (⟨#[]⟩), .string (⟨#[]⟩), .int .i64 (0), .slice none (0) (0), .int .i64 (0), .bool false]) hf (z := .agg #[.string (⟨#[]⟩), .string (⟨#[]⟩), .int .i64 (0), .slice none (0) (0), .int .i64 (0), .bool false]) (by kernel_rfl) rfl) ?_
 rintro _ h51 n52 ⟨rfl, hb50⟩ s53 hn2 hf
 refine sq.w ?_
 have W_t1 := W_t1.keep (.of0 s53)
 have D_t1 := D_t1.keep (.of0 s53)
 have hS := hS.keep (.of0 s53)
 have W_t3 := W_t3.keep (.of0 s53)
 have D_t3 := D_t3.keep (.of0 s53)
 have hb_ := s53.sub _ _ hb_
 have hf_t3 := s53.sub _ _ hf_t3
 have hg_t3 := s53.sub _ _ hg_t3
 have hb18 := s53.sub _ _ hb18
 have hs := hs.trans s53
 have hn := Nat.le_trans hn hn2
 refine sq.op rfl rfl (Does.store (k := 6) (xs := [.string (bT), .string (bX), .int .i64 (2), .slice a_t3 (os_t3.length) c_t3, .int .i64 (2), .bool false]) (cs' := [.string (bT), .string (bX), .int .i64 (2), .slice a_t3 (os_t3.length) c_t3, .int .i64 (2), .bool false]) hf (by kernel_rfl) rfl rfl rfl hb50 rfl rfl (Nat.le_of_ble_eq_true rfl) rfl) ?_
 rintro _ h55 n56 ⟨rfl, hb54⟩ s57 hn2 hf
 refine sq.w0 ?_
 have W_t1 := W_t1.keep (.own s57 hb50 rfl)
 have D_t1 := D_t1.keep (.own s57 hb50 rfl)
 have hS := hS.keep (.own s57 hb50 rfl)
 have W_t3 := W_t3.keep (.own s57 hb50 rfl)
 have D_t3 := D_t3.keep (.own s57 hb50 rfl)
 have hb_ := s57.get1 (e_b_n48) hb_
 have hf_t3 := s57.get1 (e_f_n48) hf_t3
 have hg_t3 := s57.get1 (e_g_n48) hg_t3
 have hb18 := s57.get1 (e_n12_n48) hb18
 have hs := hs.fresh z_n48 s57
 have hn := Nat.le_trans hn hn2
 refine sq.c (v := .int .i64 (0)) rfl rfl rfl rfl ?_
 refine sq.e (AWp.seq (AWp.rowV (l := _) pok ?_))
 refine sq.c (v := .pointer (some ⟨b, 0, none⟩)) rfl rfl rfl rfl ?_
 refine sq.c (v := .agg #[.int .i64 (20), .int .u64 (1)]) rfl rfl (by kernel_rfl) rfl ?_
 refine sq.op rfl rfl (Does.build (e := 53) (cs := [.int .i64 (20), .int .u64 (1)]) hf (fun _ _ => by kernel_rfl)) ?_
 rintro _ h59 n60 ⟨rfl, hb58⟩ s61 hn2 hf
 refine sq.w ?_
 have W_t1 := W_t1.keep (.of0 s61)
 have D_t1 := D_t1.keep (.of0 s61)
 have hS := hS.keep (.of0 s61)
 have W_t3 := W_t3.keep (.of0 s61)
 have D_t3 := D_t3.keep (.of0 s61)
 have hb_ := s61.sub _ _ hb_
 have hf_t3 := s61.sub _ _ hf_t3
 have hg_t3 := s61.sub _ _ hg_t3
 have hb18 := s61.sub _ _ hb18
 have hb54 := s61.sub _ _ hb54
 have hs := hs.trans s61
 have hn := Nat.le_trans hn hn2
 refine sq.k rfl (CallsF.fn rfl (by kernel_rfl) rfl rfl) (batch_spec (⟨#[]⟩ : ByteArray) 0 [(20, 1)] (IsRow.of (E := encSmp) (xs := [(20, 1)]) (cap := 1) hb58 (Nat.le_refl _))) ?_
 rintro _ h62 n63 ⟨w_b61, r_b61, rfl, R_b61, E_b61⟩ s64 hn2 hf
 obtain ⟨a_b61, c_b61, e_b61⟩ := R_b61.slice
 cases e_b61
 change IsRow encSer _ (.slice a_b61 1 c_b61) [r_b61] at R_b61
 refine sq.w ?_
 have W_t1 := W_t1.keep (.of0 s64)
 have D_t1 := D_t1.keep (.of0 s64)
 have hS := hS.keep (.of0 s64)
 have W_t3 := W_t3.keep (.of0 s64)
 have D_t3 := D_t3.keep (.of0 s64)
 have hb_ := s64.sub _ _ hb_
 have hf_t3 := s64.sub _ _ hf_t3
 have hg_t3 := s64.sub _ _ hg_t3
 have hb18 := s64.sub _ _ hb18
 have hb54 := s64.sub _ _ hb54
 have hs := hs.trans s64
 have hn := Nat.le_trans hn hn2
 refine sq.k rfl (CallsF.fn rfl (by kernel_rfl) rfl rfl) (takeSt (R := aR4) _ _ _ hb_ hf_t3 hg_t3 okF_t3 okG_t3 hS (ne_f_g) _ _ _ _ _ R_b61 E_b61 (hld.keep hs) (smalls1 (by decide)) (by decide) (by decide) pi3.inv (by omega) aw4) ?_
 rintro _ h65 n66 ⟨w_t4, os_t4, G_t4, rfl, W_t4, D_t4, hf_t4, hg_t4, okF_t4, okG_t4, hS_t4⟩ s67 hn2 hf
 obtain ⟨a_t4, c_t4, rfl⟩ := W_t4.slice
 refine sq.w ?_
 have ours_s67 : Ours _ [f, g] := .cons hf_t3 rfl (.cons hg_t3 rfl (.nil _))
 have nc_s67 : NoCells _ [f, g] := .cons hf_t3 (.cons hg_t3 (.nil _))
 have W_t1 := W_t1.keep (.of s67 ours_s67)
 have D_t1 := D_t1.keep (.of s67 ours_s67)
 have W_t3 := W_t3.keep (.of s67 ours_s67)
 have D_t3 := D_t3.keep (.of s67 ours_s67)
 have E_b61 := E_b61.noc s67 nc_s67
 have hb_ := s67.get2 (ne_b_f) (ne_b_g) hb_
 have hb18 := s67.get2 (Ne.symm e_f_n12) (Ne.symm e_g_n12) hb18
 have hb54 := s67.get2 (Ne.symm e_f_n48) (Ne.symm e_g_n48) hb54
 have hs := hs.fresh2 z_f z_g s67
 have hn := Nat.le_trans hn hn2
 have hS := hS_t4
 refine sq.c (v := .tuple #[.agg #[.string (bT), .string (⟨#[]⟩), .int .i64 (0), .slice a_t4 (os_t4.length) c_t4, .int .i64 (0), .bool false], .int .i64 (0)]) rfl rfl rfl rfl ?_
 refine sq.c (v := .agg #[.string (bT), .string (⟨#[]⟩), .int .i64 (0), .slice a_t4 (os_t4.length) c_t4, .int .i64 (0), .bool false]) rfl rfl rfl rfl ?_
 refine sq.c (v := .int .i64 (0)) rfl rfl rfl rfl ?_
 have e_b_n66 : b ≠ n66 := hf.ne hb_
 have e_f_n66 : f ≠ n66 := hf.ne hf_t4
 have e_g_n66 : g ≠ n66 := hf.ne hg_t4
 have e_n12_n66 : n12 ≠ n66 := hf.ne hb18
 have e_n48_n66 : n48 ≠ n66 := hf.ne hb54
 have z_n66 : h.get n66 = none := hf0 _ hn
 refine sq.op rfl rfl (Does.alloc (cs := [.string (⟨#[]⟩), .string (⟨#[]⟩), .int .i64 (0), .slice none (0) (0), .int .i64 (0), .bool false]) hf (z := .agg #[.string (⟨#[]⟩), .string (⟨#[]⟩), .int .i64 (0), .slice none (0) (0), .int .i64 (0), .bool false]) (by kernel_rfl) rfl) ?_
 rintro _ h69 n70 ⟨rfl, hb68⟩ s71 hn2 hf
 refine sq.w ?_
 have W_t1 := W_t1.keep (.of0 s71)
 have D_t1 := D_t1.keep (.of0 s71)
 have W_t3 := W_t3.keep (.of0 s71)
 have D_t3 := D_t3.keep (.of0 s71)
 have hS := hS.keep (.of0 s71)
 have D_t4 := D_t4.keep (.of0 s71)
 have hb_ := s71.sub _ _ hb_
 have hf_t4 := s71.sub _ _ hf_t4
 have hg_t4 := s71.sub _ _ hg_t4
 have hb18 := s71.sub _ _ hb18
 have hb54 := s71.sub _ _ hb54
 have hs := hs.trans s71
 have hn := Nat.le_trans hn hn2
 refine sq.op rfl rfl (Does.store (k := 6) (xs := [.string (bT), .string (⟨#[]⟩), .int .i64 (0), .slice a_t4 (os_t4.length) c_t4, .int .i64 (0), .bool false]) (cs' := [.string (bT), .string (⟨#[]⟩), .int .i64 (0), .slice a_t4 (os_t4.length) c_t4, .int .i64 (0), .bool false]) hf (by kernel_rfl) rfl rfl rfl hb68 rfl rfl (Nat.le_of_ble_eq_true rfl) rfl) ?_
 rintro _ h73 n74 ⟨rfl, hb72⟩ s75 hn2 hf
 refine sq.w0 ?_
 have W_t1 := W_t1.keep (.own s75 hb68 rfl)
 have D_t1 := D_t1.keep (.own s75 hb68 rfl)
 have W_t3 := W_t3.keep (.own s75 hb68 rfl)
 have D_t3 := D_t3.keep (.own s75 hb68 rfl)
 have hS := hS.keep (.own s75 hb68 rfl)
 have D_t4 := D_t4.keep (.own s75 hb68 rfl)
 have hb_ := s75.get1 (e_b_n66) hb_
 have hf_t4 := s75.get1 (e_f_n66) hf_t4
 have hg_t4 := s75.get1 (e_g_n66) hg_t4
 have hb18 := s75.get1 (e_n12_n66) hb18
 have hb54 := s75.get1 (e_n48_n66) hb54
 have hs := hs.fresh z_n66 s75
 have hn := Nat.le_trans hn hn2
 refine sq.c (v := .int .i64 (0)) rfl rfl rfl rfl ?_
 refine sq.e (AWp.seq ?_)
 refine AWp.anyK pok [0, 1, 2, 3, 4, 5, 6, 7, 8, 9, 10, 11, 12, 13, 14, 15, 16, 17, 18, 19, 20, 21, 22, 23, 24, 25, 26, 27, 28, 29, 30, 31, 32, 33, 34, 35, 36, 37, 38, 39, 40, 41, 42, 43, 44, 45, 46, 47, 48, 49, 50, 51, 52, 53, 54, 55, 56, 57, 58, 59, 60, 61, 62, 63, 64, 65, 66, 67, 68, 69, 70, 71, 72, 73, 74, 75, 76, 77] (by kernel_rfl) (by kernel_rfl) rfl (fun x fr fr' h n hd _ q => ⟨hd ▸ q.1, q.2⟩) ?_
 refine dk.c (v := .int .i64 (0)) rfl (by kernel_rfl) rfl rfl rfl rfl ?_
 refine dk.c (v := .bool true) rfl (by kernel_rfl) rfl rfl rfl rfl ?_
 refine dk.c (v := .bool true) rfl (by kernel_rfl) rfl rfl rfl rfl ?_
 refine dk.c (v := .pointer (some ⟨n12, 5, none⟩)) rfl (by kernel_rfl) (wantT (g := 2) (d := 48) rfl rfl rfl) rfl (by kernel_rfl) rfl ?_
 refine dk.gB (v := .bool true) n12 rfl (by kernel_rfl) (wantT (g := 2) (d := 48) rfl rfl rfl) rfl (fun _ q_ => (ld1 (P := Tryd.prog) (t := 4) (p := 5) (v := .bool true) (by kernel_rfl) (by kernel_rfl) (q_ _ hb18) rfl)) rfl ?_
 refine dk.c (v := .bool true) rfl (by kernel_rfl) rfl rfl rfl rfl ?_
 refine dk.c (v := .bool true) rfl (by kernel_rfl) rfl rfl rfl rfl ?_
 refine dk.c (v := .pointer (some ⟨n12, 4, none⟩)) rfl (by kernel_rfl) (wantT (g := 6) (d := 52) rfl rfl rfl) rfl (by kernel_rfl) rfl ?_
 refine dk.gB (v := .int .i64 (0)) n12 rfl (by kernel_rfl) (wantT (g := 6) (d := 52) rfl rfl rfl) rfl (fun _ q_ => (ld1 (P := Tryd.prog) (t := 3) (p := 4) (v := .int .i64 (0)) (by kernel_rfl) (by kernel_rfl) (q_ _ hb18) rfl)) rfl ?_
 refine dk.c (v := .bool true) rfl (by kernel_rfl) (wantT (g := 6) (d := 52) rfl rfl rfl) rfl rfl rfl ?_
 refine dk.c (v := .bool true) rfl (by kernel_rfl) rfl rfl rfl rfl ?_
 refine dk.c (v := .bool true) rfl (by kernel_rfl) rfl rfl rfl rfl ?_
 refine dk.c (v := .pointer (some ⟨n12, 0, none⟩)) rfl (by kernel_rfl) (wantT (g := 11) (d := 57) rfl rfl rfl) rfl (by kernel_rfl) rfl ?_
 refine dk.gB (v := .agg #[.string (bT), .string (bX), .int .i64 (2), .slice a_t1 (os_t1.length) c_t1]) n12 rfl (by kernel_rfl) (wantT (g := 11) (d := 57) rfl rfl rfl) rfl (fun _ q_ => (ldA (P := Tryd.prog) (t := 31) (p := 0) (k := 4) (xs := [.string (bT), .string (bX), .int .i64 (2), .slice a_t1 (os_t1.length) c_t1]) (by kernel_rfl) (by kernel_rfl) (q_ _ hb18) rfl (Nat.le_of_ble_eq_true rfl))) rfl ?_
 refine dk.c (v := .agg #[.int .i64 (10), .int .u64 (1)]) rfl (by kernel_rfl) (wantT (g := 11) (d := 57) rfl rfl rfl) rfl (by kernel_rfl) rfl ?_
 refine dk.op rfl (by kernel_rfl) (wantT (g := 11) (d := 57) rfl rfl rfl) rfl (Does.build (e := 53) (cs := [.int .i64 (10), .int .u64 (1)]) hf (fun _ _ => by kernel_rfl)) (keepC (by simp) (keepC (by simp) (keepC (by simp) keepN))) ?_
 rintro _ h77 n78 ⟨rfl, hb76⟩ s79 hn2 hf
 refine dk.w ?_
 have W_t1 := W_t1.keep (.of0 s79)
 have D_t1 := D_t1.keep (.of0 s79)
 have W_t3 := W_t3.keep (.of0 s79)
 have D_t3 := D_t3.keep (.of0 s79)
 have hS := hS.keep (.of0 s79)
 have D_t4 := D_t4.keep (.of0 s79)
 have hb_ := s79.sub _ _ hb_
 have hf_t4 := s79.sub _ _ hf_t4
 have hg_t4 := s79.sub _ _ hg_t4
 have hb54 := s79.sub _ _ hb54
 have hb72 := s79.sub _ _ hb72
 have hs := hs.trans s79
 have hn := Nat.le_trans hn hn2
 refine dk.k rfl (by kernel_rfl) (wantT (g := 11) (d := 57) rfl rfl rfl) (CallsF.fn rfl (by kernel_rfl) rfl rfl) (batch_spec (⟨#[120]⟩ : ByteArray) 2 [(10, 1)] (IsRow.of (E := encSmp) (xs := [(10, 1)]) (cap := 1) hb76 (Nat.le_refl _))) (keepC (by simp) (keepC (by simp) (keepC (by simp) keepN))) ?_
 rintro _ h80 n81 ⟨w_b79, r_b79, rfl, R_b79, E_b79⟩ s82 hn2 hf
 obtain ⟨a_b79, c_b79, e_b79⟩ := R_b79.slice
 cases e_b79
 change IsRow encSer _ (.slice a_b79 1 c_b79) [r_b79] at R_b79
 refine dk.w ?_
 have W_t1 := W_t1.keep (.of0 s82)
 have D_t1 := D_t1.keep (.of0 s82)
 have W_t3 := W_t3.keep (.of0 s82)
 have D_t3 := D_t3.keep (.of0 s82)
 have hS := hS.keep (.of0 s82)
 have D_t4 := D_t4.keep (.of0 s82)
 have hb_ := s82.sub _ _ hb_
 have hf_t4 := s82.sub _ _ hf_t4
 have hg_t4 := s82.sub _ _ hg_t4
 have hb54 := s82.sub _ _ hb54
 have hb72 := s82.sub _ _ hb72
 have hs := hs.trans s82
 have hn := Nat.le_trans hn hn2
 refine dk.t (v := .bool (decide (bT = bT ∧ bX = ⟨#[120]⟩ ∧ (2 : Int) = 2 ∧ aR1.kb.ser = [(labAB, [(10, 1)])]))) rfl (by kernel_rfl) (wantT (g := 11) (d := 57) rfl rfl rfl) (CallsF.fn rfl (by kernel_rfl) rfl rfl) (fun hf => sameBat_spec bT bX bT ⟨#[120]⟩ 2 2 _ _ aR1.kb.ser [(labAB, [(10, 1)])] W_t1.is D_t1.is R_b79 E_b79 (by rw [D_t1.1]; decide) (by decide)) hf rfl ?_
 intro n83 hn2 hf
 have hn := Nat.le_trans hn hn2
 refine dk.c (v := .bool (decide (bT = bT ∧ bX = ⟨#[120]⟩ ∧ (2 : Int) = 2 ∧ aR1.kb.ser = [(labAB, [(10, 1)])]))) rfl (by kernel_rfl) rfl rfl rfl rfl ?_
 refine dk.c (v := .bool (decide (bT = bT ∧ bX = ⟨#[120]⟩ ∧ (2 : Int) = 2 ∧ aR1.kb.ser = [(labAB, [(10, 1)])]))) rfl (by kernel_rfl) rfl rfl rfl rfl ?_
 rcases Bool.eq_false_or_eq_true (decide (bT = bT ∧ bX = ⟨#[120]⟩ ∧ (2 : Int) = 2 ∧ aR1.kb.ser = [(labAB, [(10, 1)])])) with c6_17 | c6_17
 ·rw [c6_17]
  refine dk.c (v := .pointer (some ⟨b, 0, none⟩)) rfl (by kernel_rfl) (wantT (g := 19) (d := 65) rfl rfl rfl) rfl rfl rfl ?_
  refine dk.t (v := .int .i64 (((mget aR4.F (⟨#[116]⟩, ⟨#[120]⟩)).getD 0))) rfl (by kernel_rfl) (wantT (g := 19) (d := 65) rfl rfl rfl) (CallsF.fn rfl (by kernel_rfl) rfl rfl) (fun hf => fence_spec aR4.F G_t4 aR4.S hb_ hf_t4 hg_t4 okF_t4 okG_t4 hS (ne_f_g) (⟨#[116]⟩ : ByteArray) (⟨#[120]⟩ : ByteArray)) hf rfl ?_
  intro n84 hn2 hf
  have hn := Nat.le_trans hn hn2
  refine dk.c (v := .bool (decide ((((mget aR4.F (⟨#[116]⟩, ⟨#[120]⟩)).getD 0)) = (2 : Int)))) rfl (by kernel_rfl) (wantT (g := 19) (d := 65) rfl rfl rfl) rfl rfl rfl ?_
  refine dk.c (v := .bool (decide ((((mget aR4.F (⟨#[116]⟩, ⟨#[120]⟩)).getD 0)) = (2 : Int)))) rfl (by kernel_rfl) rfl rfl rfl rfl ?_
  refine dk.c (v := .bool (decide ((((mget aR4.F (⟨#[116]⟩, ⟨#[120]⟩)).getD 0)) = (2 : Int)))) rfl (by kernel_rfl) rfl rfl rfl rfl ?_
  by_cases c6_22 : (((mget aR4.F (⟨#[116]⟩, ⟨#[120]⟩)).getD 0)) = (2 : Int)
  ·rw [decide_eq_true c6_22]
   refine dk.c (v := .int .i64 (61)) rfl (by kernel_rfl) (wantT (g := 24) (d := 70) rfl rfl rfl) rfl rfl rfl ?_
   refine dk.c (v := .bool true) rfl (by kernel_rfl) (wantT (g := 24) (d := 70) rfl rfl rfl) rfl rfl rfl ?_
   refine dk.c (v := .bool true) rfl (by kernel_rfl) rfl rfl rfl rfl ?_
   refine dk.c (v := .bool true) rfl (by kernel_rfl) rfl rfl rfl rfl ?_
   refine dk.c (v := .int .i64 (0)) rfl (by kernel_rfl) (wantT (g := 28) (d := 74) rfl rfl rfl) rfl rfl rfl ?_
   refine dk.c (v := .bool true) rfl (by kernel_rfl) (wantT (g := 28) (d := 74) rfl rfl rfl) rfl rfl rfl ?_
   refine dk.c (v := .bool true) rfl (by kernel_rfl) rfl rfl rfl rfl ?_
   refine dk.c (v := .bool true) rfl (by kernel_rfl) rfl rfl rfl rfl ?_
   refine dk.c (v := .pointer (some ⟨n48, 5, none⟩)) rfl (by kernel_rfl) (wantT (g := 32) (d := 78) rfl rfl rfl) rfl (by kernel_rfl) rfl ?_
   refine dk.gB (v := .bool false) n48 rfl (by kernel_rfl) (wantT (g := 32) (d := 78) rfl rfl rfl) rfl (fun _ q_ => (ld1 (P := Tryd.prog) (t := 4) (p := 5) (v := .bool false) (by kernel_rfl) (by kernel_rfl) (q_ _ hb54) rfl)) rfl ?_
   refine dk.c (v := .bool true) rfl (by kernel_rfl) (wantT (g := 32) (d := 78) rfl rfl rfl) rfl rfl rfl ?_
   refine dk.c (v := .bool true) rfl (by kernel_rfl) rfl rfl rfl rfl ?_
   refine dk.c (v := .bool true) rfl (by kernel_rfl) rfl rfl rfl rfl ?_
   refine dk.c (v := .pointer (some ⟨n48, 4, none⟩)) rfl (by kernel_rfl) (wantT (g := 37) (d := 83) rfl rfl rfl) rfl (by kernel_rfl) rfl ?_
   refine dk.gB (v := .int .i64 (2)) n48 rfl (by kernel_rfl) (wantT (g := 37) (d := 83) rfl rfl rfl) rfl (fun _ q_ => (ld1 (P := Tryd.prog) (t := 3) (p := 4) (v := .int .i64 (2)) (by kernel_rfl) (by kernel_rfl) (q_ _ hb54) rfl)) rfl ?_
   refine dk.c (v := .bool true) rfl (by kernel_rfl) (wantT (g := 37) (d := 83) rfl rfl rfl) rfl rfl rfl ?_
   refine dk.c (v := .bool true) rfl (by kernel_rfl) rfl rfl rfl rfl ?_
   refine dk.c (v := .bool true) rfl (by kernel_rfl) rfl rfl rfl rfl ?_
   refine dk.c (v := .pointer (some ⟨n48, 0, none⟩)) rfl (by kernel_rfl) (wantT (g := 42) (d := 88) rfl rfl rfl) rfl (by kernel_rfl) rfl ?_
   refine dk.gB (v := .agg #[.string (bT), .string (bX), .int .i64 (2), .slice a_t3 (os_t3.length) c_t3]) n48 rfl (by kernel_rfl) (wantT (g := 42) (d := 88) rfl rfl rfl) rfl (fun _ q_ => (ldA (P := Tryd.prog) (t := 31) (p := 0) (k := 4) (xs := [.string (bT), .string (bX), .int .i64 (2), .slice a_t3 (os_t3.length) c_t3]) (by kernel_rfl) (by kernel_rfl) (q_ _ hb54) rfl (Nat.le_of_ble_eq_true rfl))) rfl ?_
   refine dk.c (v := .agg #[.int .i64 (20), .int .u64 (1)]) rfl (by kernel_rfl) (wantT (g := 42) (d := 88) rfl rfl rfl) rfl (by kernel_rfl) rfl ?_
   refine dk.op rfl (by kernel_rfl) (wantT (g := 42) (d := 88) rfl rfl rfl) rfl (Does.build (e := 53) (cs := [.int .i64 (20), .int .u64 (1)]) hf (fun _ _ => by kernel_rfl)) (keepC (by simp) (keepC (by simp) (keepC (by simp) (keepC (by simp) (keepC (by simp) (keepC (by simp) keepN)))))) ?_
   rintro _ h86 n87 ⟨rfl, hb85⟩ s88 hn2 hf
   refine dk.w ?_
   have W_t3 := W_t3.keep (.of0 s88)
   have D_t3 := D_t3.keep (.of0 s88)
   have hS := hS.keep (.of0 s88)
   have D_t4 := D_t4.keep (.of0 s88)
   have hb_ := s88.sub _ _ hb_
   have hf_t4 := s88.sub _ _ hf_t4
   have hg_t4 := s88.sub _ _ hg_t4
   have hb72 := s88.sub _ _ hb72
   have hs := hs.trans s88
   have hn := Nat.le_trans hn hn2
   refine dk.k rfl (by kernel_rfl) (wantT (g := 42) (d := 88) rfl rfl rfl) (CallsF.fn rfl (by kernel_rfl) rfl rfl) (batch_spec (⟨#[120]⟩ : ByteArray) 2 [(20, 1)] (IsRow.of (E := encSmp) (xs := [(20, 1)]) (cap := 1) hb85 (Nat.le_refl _))) (keepC (by simp) (keepC (by simp) (keepC (by simp) (keepC (by simp) (keepC (by simp) (keepC (by simp) keepN)))))) ?_
   rintro _ h89 n90 ⟨w_b88, r_b88, rfl, R_b88, E_b88⟩ s91 hn2 hf
   obtain ⟨a_b88, c_b88, e_b88⟩ := R_b88.slice
   cases e_b88
   change IsRow encSer _ (.slice a_b88 1 c_b88) [r_b88] at R_b88
   refine dk.w ?_
   have W_t3 := W_t3.keep (.of0 s91)
   have D_t3 := D_t3.keep (.of0 s91)
   have hS := hS.keep (.of0 s91)
   have D_t4 := D_t4.keep (.of0 s91)
   have hb_ := s91.sub _ _ hb_
   have hf_t4 := s91.sub _ _ hf_t4
   have hg_t4 := s91.sub _ _ hg_t4
   have hb72 := s91.sub _ _ hb72
   have hs := hs.trans s91
   have hn := Nat.le_trans hn hn2
   refine dk.t (v := .bool (decide (bT = bT ∧ bX = ⟨#[120]⟩ ∧ (2 : Int) = 2 ∧ aR3.kb.ser = [(labAB, [(20, 1)])]))) rfl (by kernel_rfl) (wantT (g := 42) (d := 88) rfl rfl rfl) (CallsF.fn rfl (by kernel_rfl) rfl rfl) (fun hf => sameBat_spec bT bX bT ⟨#[120]⟩ 2 2 _ _ aR3.kb.ser [(labAB, [(20, 1)])] W_t3.is D_t3.is R_b88 E_b88 (by rw [D_t3.1]; decide) (by decide)) hf rfl ?_
   intro n92 hn2 hf
   have hn := Nat.le_trans hn hn2
   refine dk.c (v := .bool (decide (bT = bT ∧ bX = ⟨#[120]⟩ ∧ (2 : Int) = 2 ∧ aR3.kb.ser = [(labAB, [(20, 1)])]))) rfl (by kernel_rfl) rfl rfl rfl rfl ?_
   refine dk.c (v := .bool (decide (bT = bT ∧ bX = ⟨#[120]⟩ ∧ (2 : Int) = 2 ∧ aR3.kb.ser = [(labAB, [(20, 1)])]))) rfl (by kernel_rfl) rfl rfl rfl rfl ?_
   rcases Bool.eq_false_or_eq_true (decide (bT = bT ∧ bX = ⟨#[120]⟩ ∧ (2 : Int) = 2 ∧ aR3.kb.ser = [(labAB, [(20, 1)])])) with c6_48 | c6_48
   ·rw [c6_48]
    refine dk.c (v := .int .i64 (0)) rfl (by kernel_rfl) (wantT (g := 50) (d := 96) rfl rfl rfl) rfl rfl rfl ?_
    refine dk.c (v := .bool true) rfl (by kernel_rfl) (wantT (g := 50) (d := 96) rfl rfl rfl) rfl rfl rfl ?_
    refine dk.c (v := .bool true) rfl (by kernel_rfl) rfl rfl rfl rfl ?_
    refine dk.c (v := .bool true) rfl (by kernel_rfl) rfl rfl rfl rfl ?_
    refine dk.c (v := .pointer (some ⟨n66, 5, none⟩)) rfl (by kernel_rfl) (wantT (g := 54) (d := 100) rfl rfl rfl) rfl (by kernel_rfl) rfl ?_
    refine dk.gB (v := .bool false) n66 rfl (by kernel_rfl) (wantT (g := 54) (d := 100) rfl rfl rfl) rfl (fun _ q_ => (ld1 (P := Tryd.prog) (t := 4) (p := 5) (v := .bool false) (by kernel_rfl) (by kernel_rfl) (q_ _ hb72) rfl)) rfl ?_
    refine dk.c (v := .bool true) rfl (by kernel_rfl) (wantT (g := 54) (d := 100) rfl rfl rfl) rfl rfl rfl ?_
    refine dk.c (v := .bool true) rfl (by kernel_rfl) rfl rfl rfl rfl ?_
    refine dk.c (v := .bool true) rfl (by kernel_rfl) rfl rfl rfl rfl ?_
    refine dk.c (v := .pointer (some ⟨n66, 4, none⟩)) rfl (by kernel_rfl) (wantT (g := 59) (d := 105) rfl rfl rfl) rfl (by kernel_rfl) rfl ?_
    refine dk.gB (v := .int .i64 (0)) n66 rfl (by kernel_rfl) (wantT (g := 59) (d := 105) rfl rfl rfl) rfl (fun _ q_ => (ld1 (P := Tryd.prog) (t := 3) (p := 4) (v := .int .i64 (0)) (by kernel_rfl) (by kernel_rfl) (q_ _ hb72) rfl)) rfl ?_
    refine dk.c (v := .bool true) rfl (by kernel_rfl) (wantT (g := 59) (d := 105) rfl rfl rfl) rfl rfl rfl ?_
    refine dk.c (v := .bool true) rfl (by kernel_rfl) rfl rfl rfl rfl ?_
    refine dk.c (v := .bool true) rfl (by kernel_rfl) rfl rfl rfl rfl ?_
    refine dk.c (v := .pointer (some ⟨n66, 0, none⟩)) rfl (by kernel_rfl) (wantT (g := 64) (d := 110) rfl rfl rfl) rfl (by kernel_rfl) rfl ?_
    refine dk.c (v := .pointer (some ⟨n66, 3, none⟩)) rfl (by kernel_rfl) (wantT (g := 64) (d := 110) rfl rfl rfl) rfl (by kernel_rfl) rfl ?_
    refine dk.gB (v := .slice a_t4 (os_t4.length) c_t4) n66 rfl (by kernel_rfl) (wantT (g := 64) (d := 110) rfl rfl rfl) rfl (fun _ q_ => (ld1 (P := Tryd.prog) (t := 29) (p := 3) (v := .slice a_t4 (os_t4.length) c_t4) (by kernel_rfl) (by kernel_rfl) (q_ _ hb72) rfl)) rfl ?_
    refine dk.c (v := .int .i64 (((os_t4.length : Nat) : Int))) rfl (by kernel_rfl) (wantT (g := 64) (d := 110) rfl rfl rfl) rfl (by kernel_rfl) rfl ?_
    refine dk.c (v := .bool (decide ((((os_t4.length : Nat) : Int)) = (0 : Int)))) rfl (by kernel_rfl) (wantT (g := 64) (d := 110) rfl rfl rfl) rfl rfl rfl ?_
    refine dk.c (v := .bool (decide ((((os_t4.length : Nat) : Int)) = (0 : Int)))) rfl (by kernel_rfl) rfl rfl rfl rfl ?_
    refine dk.c (v := .bool (decide ((((os_t4.length : Nat) : Int)) = (0 : Int)))) rfl (by kernel_rfl) rfl rfl rfl rfl ?_
    by_cases c6_69 : (((os_t4.length : Nat) : Int)) = (0 : Int)
    ·rw [decide_eq_true c6_69]
     refine dk.c (v := .pointer (some ⟨b, 0, none⟩)) rfl (by kernel_rfl) (wantT (g := 71) (d := 117) rfl rfl rfl) rfl rfl rfl ?_
     refine dk.k rfl (by kernel_rfl) (wantT (g := 71) (d := 117) rfl rfl rfl) (CallsF.fn rfl (by kernel_rfl) rfl rfl) (makes_fz (fencesX_spec aR4.F G_t4 aR4.S hb_ hf_t4 hg_t4 okF_t4 okG_t4 hS (ne_f_g) (by decide))) (keepC (by simp) (keepC (by simp) (keepC (by simp) (keepC (by simp) (keepC (by simp) (keepC (by simp) (keepC (by simp) (keepC (by simp) (keepC (by simp) keepN))))))))) ?_
     rintro v_e92 h93 n94 R_e92 s95 hn2 hf
     obtain ⟨a_e92, c_e92, rfl⟩ := R_e92.slice
     refine dk.w ?_
     have hs := hs.trans s95
     have hn := Nat.le_trans hn hn2
     refine dk.c (v := .int .i64 ((((fencesV aR4.F).length : Nat) : Int))) rfl (by kernel_rfl) (wantT (g := 71) (d := 117) rfl rfl rfl) rfl (by kernel_rfl) rfl ?_
     refine dk.c (v := .bool (decide (((((fencesV aR4.F).length : Nat) : Int)) = (1 : Int)))) rfl (by kernel_rfl) (wantT (g := 71) (d := 117) rfl rfl rfl) rfl rfl rfl ?_
     refine dk.c (v := .bool (decide (((((fencesV aR4.F).length : Nat) : Int)) = (1 : Int)))) rfl (by kernel_rfl) rfl rfl rfl rfl ?_
     refine dk.c (v := .bool (decide (((((fencesV aR4.F).length : Nat) : Int)) = (1 : Int)))) rfl (by kernel_rfl) rfl rfl rfl rfl ?_
     refine dk.e ?_
     refine AWp.ret ?_
     refine ⟨rfl, [.bool (decide (((((fencesV aR4.F).length : Nat) : Int)) = (1 : Int)))], rfl, .bool (decide (((((fencesV aR4.F).length : Nat) : Int)) = (1 : Int))), rfl, hs, hn, ?_⟩
     exact congrArg Value.bool (decide_eq_true (by unfold fencesV; rw [List.length_map, keysP_len]; rfl))
    ·exfalso
     exact c6_69 (by rw [D_t4.1]; rfl)
   ·exfalso
    exact absurd (c6_48.symm.trans (show _ = true by kernel_rfl)) Bool.false_ne_true
  ·exfalso
   exact c6_22 (by kernel_rfl)
 ·exfalso
  exact absurd (c6_17.symm.trans (show _ = true by kernel_rfl)) Bool.false_ne_true
end Go.Proofs.YtkpaklofdkjinaaDoor
namespace Go.Proofs.YtkpaklofdkjinaaDoor
open Go Go.Abs Go.RowKit Go.Shelf
set_option maxHeartbeats 4000000
theorem keptV_ones : ∀ (xs : List Samp), keptV xs (xs.map fun _ => 1) = xs
  | [] => rfl
  | x :: xs => by simp [keptV, keptV_ones xs]
theorem putS_again : ∀ (ys xs : List Samp), putS xs (keptV ys (putS xs ys).2) = ((putS xs ys).1, (keptV ys (putS xs ys).2).map fun _ => 1)
  | [], xs => by simp [putS, keptV]
  | y :: ys, xs => by
    by_cases h : judge xs y = 1
    · have e : putS xs (y :: ys) = ((putS (xs ++ [y]) ys).1, 1 :: (putS (xs ++ [y]) ys).2) := by simp [putS, h]
      rw [e]
      simp only [keptV, if_pos]
      have ih := putS_again ys (xs ++ [y])
      simp only [putS, h, if_true, ih, List.map_cons]
    · have e : putS xs (y :: ys) = ((putS xs ys).1, judge xs y :: (putS xs ys).2) := by simp [putS, h]
      rw [e]
      simp only [keptV, if_neg h]
      exact putS_again ys xs
theorem keptV_mem : ∀ (ys : List Samp) (vs : List Int) (x : Samp), x ∈ keptV ys vs → x ∈ ys
  | [], _, x, h => by simp [keptV] at h
  | _ :: _, [], x, h => by simp [keptV] at h
  | y :: ys, v :: vs, x, h => by
    simp only [keptV] at h
    split at h
    · rcases List.mem_cons.1 h with rfl | h
      · exact List.mem_cons_self ..
      · exact List.mem_cons_of_mem _ (keptV_mem ys vs x h)
    · exact List.mem_cons_of_mem _ (keptV_mem ys vs x h)
theorem pPut_again (S : SP) (ten : ByteArray) (s : Ser) : pPut S ten (s.1, pKept S ten s) = ((pPut S ten s).1, (pKept S ten s).map fun _ => 1) := putS_again s.2 _
theorem pKept_again (S : SP) (ten : ByteArray) (s : Ser) : pKept S ten (s.1, pKept S ten s) = pKept S ten s := by
  show keptV (pKept S ten s) (pPut S ten (s.1, pKept S ten s)).2 = _
  rw [pPut_again]
  exact keptV_ones _
theorem badV_ones (xs : List Samp) : badV (xs.map fun _ => 1) = 0 := by
  unfold badV
  rw [List.filter_eq_nil_iff.2]
  · rfl
  · intro x hx
    obtain ⟨_, _, rfl⟩ := List.mem_map.1 hx
    simp
theorem pBad_again (S : SP) (ten : ByteArray) (s : Ser) : pBad S ten (s.1, pKept S ten s) = 0 := by
  show badV (pPut S ten (s.1, pKept S ten s)).2 = 0
  rw [pPut_again]
  exact badV_ones _
theorem step_again (ten : ByteArray) (S : SP) (ck : Nat) (s : Ser) (ks : List Ser) (h : ¬ pKept S ten s = []) : stepT ten ⟨S, ck, ks, 0⟩ (s.1, pKept S ten s) = ⟨pS S ck ten s, pCk S ck ten s, ks ++ [(s.1, pKept S ten s)], 0⟩ := by
  unfold stepT
  simp only [pKept_again, pBad_again, if_neg h]
  congr 1
  · unfold pS
    rw [pKept_again, if_neg h, if_neg h, pPut_again]
  · unfold pCk
    rw [pKept_again, if_neg h]
theorem foldT_again (ten : ByteArray) : ∀ (ss : List Ser) (S : SP) (ck : Nat) (ks ls : List Ser) (bad : Int), ∃ ms, (foldT ten ⟨S, ck, ks, bad⟩ ss).ks = ks ++ ms ∧
    foldT ten ⟨S, ck, ls, 0⟩ ms = ⟨(foldT ten ⟨S, ck, ks, bad⟩ ss).S, (foldT ten ⟨S, ck, ks, bad⟩ ss).ck, ls ++ ms, 0⟩ := by
  intro ss
  induction ss with
  | nil => intro S ck ks ls bad; exact ⟨[], by simp [foldT], by simp [foldT]⟩
  | cons s ss ih =>
    intro S ck ks ls bad
    have e : ∀ R, foldT ten R (s :: ss) = foldT ten (stepT ten R s) ss := fun _ => rfl
    by_cases h : pKept S ten s = []
    · have e1 : stepT ten ⟨S, ck, ks, bad⟩ s = ⟨S, ck, ks, bad + pBad S ten s⟩ := by
        unfold stepT pS pCk
        simp [h]
      rw [e, e1]
      exact ih S ck ks ls _
    · have e1 : stepT ten ⟨S, ck, ks, bad⟩ s = ⟨pS S ck ten s, pCk S ck ten s, ks ++ [(s.1, pKept S ten s)], bad + pBad S ten s⟩ := by
        unfold stepT
        simp [h]
      obtain ⟨ms, h1, h2⟩ := ih (pS S ck ten s) (pCk S ck ten s) (ks ++ [(s.1, pKept S ten s)]) (ls ++ [(s.1, pKept S ten s)]) (bad + pBad S ten s)
      refine ⟨(s.1, pKept S ten s) :: ms, ?_, ?_⟩
      · rw [e, e1, h1, List.append_assoc]; rfl
      · rw [e, e1]
        show foldT ten (stepT ten ⟨S, ck, ls, 0⟩ (s.1, pKept S ten s)) ms = _
        rw [step_again _ _ _ _ _ h, h2, List.append_assoc]; rfl
theorem foldT_ks_mem (ten : ByteArray) : ∀ (ss : List Ser) (R : TSt) (k : Ser), k ∈ (foldT ten R ss).ks → k ∈ R.ks ∨ ∃ s ∈ ss, k.1 = s.1 ∧ (∀ x ∈ k.2, x ∈ s.2) ∧ k.2.length ≤ s.2.length := by
  intro ss
  induction ss with
  | nil => intro R k h; exact .inl h
  | cons s ss ih =>
    intro R k h
    rcases ih (stepT ten R s) k h with h | ⟨s', hs', q⟩
    · unfold stepT at h
      simp only at h
      split at h
      · exact .inl h
      · rcases List.mem_append.1 h with h | h
        · exact .inl h
        · rw [List.mem_singleton] at h
          subst h
          exact .inr ⟨s, List.mem_cons_self .., rfl, fun x hx => keptV_mem _ _ x hx, keptV_le _ _⟩
    · exact .inr ⟨s', List.mem_cons_of_mem _ hs', q⟩
theorem foldT_ks_len (ten : ByteArray) : ∀ (ss : List Ser) (R : TSt), (foldT ten R ss).ks.length ≤ R.ks.length + ss.length := by
  intro ss
  induction ss with
  | nil => intro R; exact Nat.le_refl _
  | cons s ss ih =>
    intro R
    have h1 := ih (stepT ten R s)
    have h2 : (stepT ten R s).ks.length ≤ R.ks.length + 1 := by
      unfold stepT
      simp only
      split
      · omega
      · rw [List.length_append]; exact Nat.le_refl _
    show (foldT ten (stepT ten R s) ss).ks.length ≤ _
    rw [List.length_cons]; omega
theorem takeP_no {P : PSt} {b : Bat} (h : ¬ (takeP P b).e = 0) : (takeP P b).bad = 0 ∧ (takeP P b).rose = false ∧ (takeP P b).kb.ser = [] ∧ (takeP P b).st = P := by
  unfold takeP takeR at *
  split
  · exact ⟨rfl, rfl, rfl, rfl⟩
  · rename_i hm
    rw [if_neg hm] at h
    split
    · rename_i hc
      rw [if_pos hc] at h
      exact absurd rfl h
    · rename_i hc
      rw [if_neg hc] at h
      split
      · exact ⟨rfl, rfl, rfl, rfl⟩
      · rename_i hl
        rw [if_neg hl] at h
        exact absurd rfl h
theorem mayBat_kept {b : Bat} (h : mayBat b = true) {ks : List Ser} (hk : ∀ k ∈ ks, ∃ s ∈ b.ser, k.1 = s.1 ∧ ∀ x ∈ k.2, x ∈ s.2) : mayBat ⟨b.ten, b.clu, b.epo, ks⟩ = true := by
  unfold mayBat at *
  simp only [Bool.and_eq_true, List.all_eq_true] at *
  refine ⟨h.1, fun k hk2 => ?_⟩
  obtain ⟨s, hs, e1, e2⟩ := hk k hk2
  have := h.2 s hs
  unfold okSer at *
  simp only [Bool.and_eq_true, List.all_eq_true] at *
  exact ⟨by rw [e1]; exact this.1, fun x hx => this.2 x (e2 x hx)⟩
theorem takeP_1 {P : PSt} {b : Bat} (hm : mayBat b = true) (hc : b.clu = ⟨#[]⟩) : takeP P b = takeOk P.F P.kf b (foldT b.ten ⟨P.S, P.kg, [], 0⟩ b.ser) false := by
  unfold takeP takeR
  rw [if_neg (by rw [hm]; simp), if_pos hc]
theorem takeP_2 {P : PSt} {b : Bat} (hm : mayBat b = true) (hc : ¬ b.clu = ⟨#[]⟩) (hl : b.epo < (mget P.F (b.ten, b.clu)).getD 0) : takeP P b = takeNo 61 P.F P.kf P.S P.kg := by
  unfold takeP takeR
  rw [if_neg (by rw [hm]; simp), if_neg hc, if_pos hl]
theorem takeP_3 {P : PSt} {b : Bat} (hm : mayBat b = true) (hc : ¬ b.clu = ⟨#[]⟩) (hl : ¬ b.epo < (mget P.F (b.ten, b.clu)).getD 0) : takeP P b = takeOk (mset P.F P.kf (b.ten, b.clu) b.epo) (mck P.F P.kf (b.ten, b.clu)) b (foldT b.ten ⟨P.S, P.kg, [], 0⟩ b.ser) (decide ((mget P.F (b.ten, b.clu)).getD 0 < b.epo)) := by
  unfold takeP takeR
  rw [if_neg (by rw [hm]; simp), if_neg hc, if_neg hl]
theorem takeP_0 {P : PSt} {b : Bat} (hm : mayBat b = false) : takeP P b = takeNo 4 P.F P.kf P.S P.kg := by
  unfold takeP takeR
  rw [if_pos hm]
theorem take_kept {P : PSt} {b : Bat} (h : (takeP P b).e = 0) : takeP P (takeP P b).kb = ⟨0, (takeP P b).F, (takeP P b).kf, (takeP P b).S, (takeP P b).kg, (takeP P b).kb, 0, (takeP P b).rose⟩ := by
  obtain ⟨ms, h1, h2⟩ := foldT_again b.ten b.ser P.S P.kg [] [] 0
  rw [List.nil_append] at h1
  have hmem : ∀ k ∈ (foldT b.ten ⟨P.S, P.kg, [], 0⟩ b.ser).ks, ∃ s ∈ b.ser, k.1 = s.1 ∧ ∀ x ∈ k.2, x ∈ s.2 := fun k hk => by
    rcases foldT_ks_mem _ _ _ _ hk with hk | ⟨s, hs, a, c, _⟩
    · cases hk
    · exact ⟨s, hs, a, c⟩
  cases hm : mayBat b with
  | false => rw [takeP_0 hm] at h; cases h
  | true =>
    have hk := mayBat_kept hm hmem
    by_cases hc : b.clu = ⟨#[]⟩
    · rw [takeP_1 hm hc]
      show takeP P ⟨b.ten, b.clu, b.epo, (foldT b.ten ⟨P.S, P.kg, [], 0⟩ b.ser).ks⟩ = _
      rw [takeP_1 hk hc]
      simp only [takeOk]
      rw [h1, h2]; rfl
    · by_cases hl : b.epo < (mget P.F (b.ten, b.clu)).getD 0
      · rw [takeP_2 hm hc hl] at h; cases h
      · rw [takeP_3 hm hc hl]
        show takeP P ⟨b.ten, b.clu, b.epo, (foldT b.ten ⟨P.S, P.kg, [], 0⟩ b.ser).ks⟩ = _
        rw [takeP_3 hk hc hl]
        simp only [takeOk]
        rw [h1, h2]; rfl
theorem kb_small {P : PSt} {b : Bat} (h : SmallB b) : SmallB (takeP P b).kb := by
  unfold takeP takeR
  have hno : SmallB ⟨⟨#[]⟩, ⟨#[]⟩, 0, []⟩ := ⟨by decide, by decide, by decide, fun s hs => by cases hs⟩
  have hok : SmallB ⟨b.ten, b.clu, b.epo, (foldT b.ten ⟨P.S, P.kg, [], 0⟩ b.ser).ks⟩ := by
    refine ⟨h.1, h.2.1, ?_, fun k hk => ?_⟩
    · have := foldT_ks_len b.ten b.ser ⟨P.S, P.kg, [], 0⟩
      have := h.2.2.1
      simp only [List.length_nil] at *
      omega
    · rcases foldT_ks_mem _ _ _ _ hk with hk | ⟨s, hs, a, c, e⟩
      · cases hk
      · obtain ⟨q1, q2, q3⟩ := h.2.2.2 s hs
        exact ⟨by rw [a]; exact q1, by omega, by rw [a]; exact q3⟩
  split
  · exact hno
  · split
    · exact hok
    · split
      · exact hno
      · exact hok
/-! The same states. -/
theorem mget_of {κ ν : Type} [DecidableEq κ] {L : List (κ × ν × Nat)} (hn : (L.map fun x => x.1).Nodup) {x : κ × ν × Nat} (hx : x ∈ L) : mget L x.1 = some x.2.1 := by
  unfold mget
  induction L with
  | nil => cases hx
  | cons a L ih =>
    simp only [List.map_cons, List.nodup_cons] at hn
    rcases List.mem_cons.1 hx with rfl | hx
    · rw [List.find?_cons_of_pos (by simp)]; rfl
    · have : ¬ a.1 = x.1 := fun e => hn.1 (e ▸ List.mem_map.2 ⟨x, hx, rfl⟩)
      rw [List.find?_cons_of_neg (by simpa using this)]
      exact ih hn.2 hx
theorem eqM_of {A B : FM} (hn : (A.map fun x => x.1).Nodup) (hl : A.length = B.length) (h : ∀ k, mget A k = mget B k) : eqM A B = true := by
  unfold eqM
  rw [decide_eq_true hl, Bool.true_and, List.all_eq_true]
  intro x hx
  rw [← h, mget_of hn hx]
  simp
theorem eqSt_of {A B : SP} (hn : (A.map fun x => x.1).Nodup) (hl : A.length = B.length) (h : ∀ k, mget A k = mget B k) : eqSt A B = true := by
  unfold eqSt
  rw [decide_eq_true hl, Bool.true_and, List.all_eq_true]
  intro x hx
  rw [← h, mget_of hn hx]
  simp
theorem same_refl {i : Nat} {P : PSt} (q : PInv i P) : (eqM P.F P.F && eqSt P.S P.S) = true := by
  rw [eqM_of q.okF.keys rfl fun _ => rfl, eqSt_of q.okS.keys rfl fun _ => rfl]; rfl
theorem mset_new_len {κ ν : Type} [DecidableEq κ] {L : List (κ × ν × Nat)} {ck : Nat} {k : κ} {v : ν} (h : ∀ x ∈ L, x.1 ≠ k) : mset L ck k v = L ++ [(k, v, ck)] := by
  have : midx L k = none := by
    unfold midx
    rw [List.findIdx?_eq_none_iff]
    intro x hx
    simpa using h x hx
  unfold mset
  rw [this]
theorem build_get {α ν : Type} (k : α → Pl) (v : α → ν) : ∀ (xs : List α) (M : List (Pl × ν × Nat) × Nat), (xs.map k).Nodup → (∀ x ∈ xs, ∀ y ∈ M.1, y.1 ≠ k x) →
    (xs.foldl (fun M x => (mset M.1 M.2 (k x) (v x), mck M.1 M.2 (k x))) M).1.length = M.1.length + xs.length ∧
    (∀ x ∈ xs, mget (xs.foldl (fun M x => (mset M.1 M.2 (k x) (v x), mck M.1 M.2 (k x))) M).1 (k x) = some (v x)) ∧
    (∀ p, (∀ x ∈ xs, k x ≠ p) → mget (xs.foldl (fun M x => (mset M.1 M.2 (k x) (v x), mck M.1 M.2 (k x))) M).1 p = mget M.1 p) := by
  intro xs
  induction xs with
  | nil => intro M _ _; exact ⟨rfl, (fun x hx => by cases hx), fun p _ => rfl⟩
  | cons a xs ih =>
    intro M hn hd
    simp only [List.map_cons, List.nodup_cons] at hn
    have hna : ∀ x ∈ xs, k x ≠ k a := fun x hx e => hn.1 (e ▸ List.mem_map.2 ⟨x, hx, rfl⟩)
    have e := mset_new_len (ck := M.2) (v := v a) (hd a (List.mem_cons_self ..))
    obtain ⟨h1, h2, h3⟩ := ih (mset M.1 M.2 (k a) (v a), mck M.1 M.2 (k a)) hn.2 (fun x hx y hy => by
      rw [e] at hy
      rcases List.mem_append.1 hy with hy | hy
      · exact hd x (List.mem_cons_of_mem _ hx) y hy
      · rw [List.mem_singleton] at hy; subst hy; exact fun e => hna x hx e.symm)
    simp only [List.foldl_cons]
    refine ⟨?_, ?_, ?_⟩
    · rw [h1, e, List.length_append, List.length_cons]; simp; omega
    · intro x hx
      rcases List.mem_cons.1 hx with rfl | hx
      · rw [h3 _ hna, mget_mset, if_pos rfl]
      · exact h2 x hx
    · intro p hp
      rw [h3 p fun x hx => hp x (List.mem_cons_of_mem _ hx), mget_mset, if_neg (fun e => hp a (List.mem_cons_self ..) e.symm)]
theorem keysP_mem {ν : Type} (L : List (Pl × ν × Nat)) (p : Pl) : p ∈ keysP L ↔ ∃ x ∈ L, x.1 = p := by
  unfold keysP
  rw [(sortP_perm _).mem_iff, List.mem_map]
theorem keysP_rising {ν : Type} {L : List (Pl × ν × Nat)} {ck : Nat} (o : MOk L ck) : Rising (keysP L) := sortP_rising o.keys
theorem keysP_nodup {ν : Type} {L : List (Pl × ν × Nat)} {ck : Nat} (o : MOk L ck) : (keysP L).Nodup := (sortP_perm _).nodup_iff.2 o.keys
theorem mget_none {κ ν : Type} [DecidableEq κ] {L : List (κ × ν × Nat)} {k : κ} (h : ∀ x ∈ L, x.1 ≠ k) : mget L k = none := by
  unfold mget
  rw [List.find?_eq_none.2 (fun x hx => by simpa using h x hx)]; rfl
theorem fencesV_keys (F : FM) : (fencesV F).map plF = keysP F := by
  unfold fencesV
  rw [List.map_map]
  exact (List.map_congr_left fun p _ => rfl).trans (List.map_id _)
theorem allV_keys {N : Nat} {S : SP} (q : InvS N S) : (allV S).map plO = keysP S := by
  unfold allV
  rw [List.map_map]
  refine (List.map_congr_left fun p hp => ?_).trans (List.map_id _)
  obtain ⟨x, hx, rfl⟩ := (keysP_mem S p).1 hp
  show (x.1.1, keyA ((mget S x.1).getD ([], [])).1) = x.1
  cases e : mget S x.1 with
  | none =>
    unfold mget at e
    simp only [Option.map_eq_none_iff, List.find?_eq_none] at e
    exact absurd (decide_eq_true rfl) (e x hx)
  | some v =>
    obtain ⟨s, hs⟩ := mget_mem e
    have := (q _ hs).2.2.2.2.2.1
    show (x.1.1, keyA v.1) = x.1
    rw [← this]
theorem mget_some {κ ν : Type} [DecidableEq κ] {L : List (κ × ν × Nat)} {x : κ × ν × Nat} (hx : x ∈ L) : ∃ v, mget L x.1 = some v := by
  cases e : mget L x.1 with
  | none =>
    unfold mget at e
    simp only [Option.map_eq_none_iff, List.find?_eq_none] at e
    exact absurd (decide_eq_true rfl) (e x hx)
  | some v => exact ⟨v, rfl⟩
theorem fences_ok {i : Nat} {P : PSt} (q : PInv i P) : okRow fmayB plF (fencesV P.F) := by
  refine ⟨fun x hx => ?_, by rw [fencesV_keys]; exact keysP_rising q.okF⟩
  obtain ⟨p, hp, rfl⟩ := List.mem_map.1 hx
  obtain ⟨y, hy, rfl⟩ := (keysP_mem _ _).1 hp
  obtain ⟨v, e⟩ := mget_some hy
  obtain ⟨s, hs⟩ := mget_mem e
  obtain ⟨a, b, c, d⟩ := q.fen _ hs
  unfold fmayB fenAt
  rw [e]
  simp only [Option.getD_some]
  rw [a, b, decide_eq_true ⟨c, d⟩]; rfl
theorem all_ok {i : Nat} {P : PSt} (q : PInv i P) : okRow omayB plO (allV P.S) := by
  refine ⟨fun x hx => ?_, by rw [allV_keys q.inv]; exact keysP_rising q.okS⟩
  obtain ⟨p, hp, rfl⟩ := List.mem_map.1 hx
  obtain ⟨y, hy, rfl⟩ := (keysP_mem _ _).1 hp
  obtain ⟨v, e⟩ := mget_some hy
  obtain ⟨s, hs⟩ := mget_mem e
  obtain ⟨a, _, _, d, f, _, g⟩ := q.inv _ hs
  unfold omayB ownAt
  rw [e]
  simp only [Option.getD_some]
  rw [g, f, a, decide_eq_true d]; rfl
theorem buildF_get {i : Nat} {P : PSt} (q : PInv i P) : (buildF (fencesV P.F)).1.length = P.F.length ∧ ∀ k, mget (buildF (fencesV P.F)).1 k = mget P.F k := by
  obtain ⟨h1, h2, h3⟩ := build_get plF (fun x : Fen => x.2.2) (fencesV P.F) ([], 0) (by rw [fencesV_keys]; exact keysP_nodup q.okF) (fun x _ y hy => by cases hy)
  refine ⟨by rw [show (buildF (fencesV P.F)).1.length = _ from h1]; unfold fencesV; rw [List.length_map, keysP_len]; simp, fun k => ?_⟩
  by_cases hk : k ∈ keysP P.F
  · have := h2 (fenAt P.F k) (List.mem_map.2 ⟨k, hk, rfl⟩)
    obtain ⟨y, hy, rfl⟩ := (keysP_mem _ _).1 hk
    obtain ⟨v, e⟩ := mget_some hy
    rw [e]
    refine this.trans ?_
    show some ((mget P.F y.1).getD 0) = _
    rw [e]; rfl
  · have h4 : ∀ x ∈ P.F, x.1 ≠ k := fun x hx e => hk ((keysP_mem _ _).2 ⟨x, hx, e⟩)
    rw [mget_none h4]
    refine (h3 k fun x hx e => ?_).trans rfl
    obtain ⟨p, hp, rfl⟩ := List.mem_map.1 hx
    exact hk (e ▸ hp)
theorem buildO_get {i : Nat} {P : PSt} (q : PInv i P) : (buildO (allV P.S)).1.length = P.S.length ∧ ∀ k, mget (buildO (allV P.S)).1 k = mget P.S k := by
  have hkeys := allV_keys q.inv
  obtain ⟨h1, h2, h3⟩ := build_get plO (fun x : POwn => x.2) (allV P.S) ([], 0) (by rw [hkeys]; exact keysP_nodup q.okS) (fun x _ y hy => by cases hy)
  refine ⟨by rw [show (buildO (allV P.S)).1.length = _ from h1]; unfold allV; rw [List.length_map, keysP_len]; simp, fun k => ?_⟩
  by_cases hk : k ∈ keysP P.S
  · have hk2 := hk
    rw [← hkeys] at hk2
    obtain ⟨z, hz, hzk⟩ := List.mem_map.1 hk2
    have := h2 z hz
    rw [hzk] at this
    refine this.trans ?_
    obtain ⟨p, hp, rfl⟩ := List.mem_map.1 hz
    have hpk : p = k := by
      rw [← hzk]
      obtain ⟨y, hy, rfl⟩ := (keysP_mem _ _).1 hp
      obtain ⟨v, e⟩ := mget_some hy
      obtain ⟨s, hs⟩ := mget_mem e
      have hq := (q.inv _ hs).2.2.2.2.2.1
      show y.1 = (y.1.1, keyA ((mget P.S y.1).getD ([], [])).1)
      rw [e]
      exact Prod.ext rfl hq
    subst hpk
    obtain ⟨y, hy, rfl⟩ := (keysP_mem _ _).1 hp
    obtain ⟨v, e⟩ := mget_some hy
    show some ((mget P.S y.1).getD ([], [])) = _
    rw [e]; rfl
  · have h4 : ∀ x ∈ P.S, x.1 ≠ k := fun x hx e => hk ((keysP_mem _ _).2 ⟨x, hx, e⟩)
    rw [mget_none h4]
    refine (h3 k fun x hx e => hk ?_).trans rfl
    rw [← hkeys, ← e]
    exact List.mem_map.2 ⟨x, hx, rfl⟩
end Go.Proofs.YtkpaklofdkjinaaDoor
namespace Go.Abs
open Go
def Apt (a b : Nat) : Prop := a ≠ b
theorem got_apt {h : Heap} {a b : Nat} {o : AObj} (e : h.get a = some o) (z : h.get b = none) : Apt a b := fun q => by rw [q, z] at e; cases e
end Go.Abs
namespace Go.Proofs.YtkpaklofdkjinaaDoor
open Go Go.Abs Go.RowKit Go.Shelf
set_option maxRecDepth 100000
set_option maxHeartbeats 8000000
theorem ofOk {h : Heap} {n : Nat} {a a2 : Option Addr} {cp cp2 : Nat} (fs : List Fen) (rs : List ROwn) (os : List POwn) (hr : IsRow encFen h (.slice a fs.length cp) fs) (ho : FRow encOwn h (.slice a2 rs.length cp2) rs) (hd : FOwns h rs os) (hld : Laid0 h) (hq : ∀ x ∈ fs, x.1.data.toList.length < 9223372036854775808 ∧ x.2.1.data.toList.length < 9223372036854775808) (hsm : ∀ x ∈ os, x.2.1.length ≤ 1200 ∧ (∀ y ∈ x.2.1, y.1.data.toList.length < 6000 ∧ y.2.data.toList.length < 6000) ∧ x.2.2.length < 1000000000000 ∧ x.1.data.toList.length < 9223372036854775808) (hl1 : fs.length < 1000000000000) (hl2 : rs.length < 1000000000000) (k1 : okRow fmayB plF fs) (k2 : okRow omayB plO os) :
    Makes Tryd.prog 23 [.slice a fs.length cp, .slice a2 rs.length cp2] h n [] fun v h2 _ => ∃ b f g G, v = .tuple #[.pointer (some ⟨b, 0, none⟩), .int .i64 0] ∧ h2.get b = some (.cells [.map (some f), .map (some g)] true ⟨69, 0, true⟩) ∧ h2.get f = some (.map (mapE plV intV (buildF fs).1) (buildF fs).2) ∧ h2.get g = some (.map (mapE plV ownV G) (buildO os).2) ∧ MOk (buildF fs).1 (buildF fs).2 ∧ MOk G (buildO os).2 ∧ SMIs h2 G (buildO os).1 ∧ h.get b = none ∧ h.get f = none ∧ h.get g = none ∧ f ≠ g :=
  makes_weaken (ofS_spec fs rs os hr ho hd hld hq hsm hl1 hl2) fun _ h2 _ hs _ _ q => ⟨h2, .refl _, hs, q.2 ⟨k1, k2⟩⟩
theorem buildF_ok (fs : List Fen) : MOk (buildF fs).1 (buildF fs).2 := by
  have : ∀ (fs : List Fen) (M : FM × Nat), MOk M.1 M.2 → MOk (fs.foldl stepF M).1 (fs.foldl stepF M).2 := by
    intro fs
    induction fs with
    | nil => intro M q; exact q
    | cons x fs ih => intro M q; exact ih _ (q.set _ _)
  exact this fs ([], 0) .nil
theorem buildO_ok (fs : List POwn) : MOk (buildO fs).1 (buildO fs).2 := by
  have : ∀ (fs : List POwn) (M : SP × Nat), MOk M.1 M.2 → MOk (fs.foldl stepO M).1 (fs.foldl stepO M).2 := by
    intro fs
    induction fs with
    | nil => intro M q; exact q
    | cons x fs ih => intro M q; exact ih _ (q.set _ _)
  exact this fs ([], 0) .nil
theorem build_same1 {i : Nat} {P : PSt} (q : PInv i P) : (eqM (buildF (fencesV P.F)).1 P.F && eqSt (buildO (allV P.S)).1 P.S) = true := by
  obtain ⟨a1, a2⟩ := buildF_get q
  obtain ⟨b1, b2⟩ := buildO_get q
  rw [eqM_of (buildF_ok _).keys a1 a2, eqSt_of (buildO_ok _).keys b1 b2]; rfl
theorem build_same2 {i : Nat} {P : PSt} (q : PInv i P) : (eqM P.F (buildF (fencesV P.F)).1 && eqSt P.S (buildO (allV P.S)).1) = true := by
  obtain ⟨a1, a2⟩ := buildF_get q
  obtain ⟨b1, b2⟩ := buildO_get q
  rw [eqM_of q.okF.keys a1.symm fun k => (a2 k).symm, eqSt_of q.okS.keys b1.symm fun k => (b2 k).symm]; rfl
theorem name_len {s : ByteArray} (h : nameB s = true) : s.data.toList.length < 9223372036854775808 := by
  unfold nameB at h
  simp only [Bool.and_eq_true, decide_eq_true_eq] at h
  omega
theorem fences_len {i : Nat} {P : PSt} (q : PInv i P) : ∀ x ∈ fencesV P.F, x.1.data.toList.length < 9223372036854775808 ∧ x.2.1.data.toList.length < 9223372036854775808 := fun x hx => by
  have := (fences_ok q).1 x hx
  unfold fmayB at this
  simp only [Bool.and_eq_true] at this
  exact ⟨name_len this.1.1, name_len this.1.2⟩
theorem all_in {S : SP} {x : POwn} (hx : x ∈ allV S) : ∃ k s, (k, x.2, s) ∈ S ∧ x.1 = k.1 := by
  unfold allV at hx
  obtain ⟨p, hp, rfl⟩ := List.mem_map.1 hx
  obtain ⟨y, hy, rfl⟩ := (keysP_mem _ _).1 hp
  obtain ⟨v, e⟩ := mget_some hy
  obtain ⟨s, hs⟩ := mget_mem e
  refine ⟨y.1, s, ?_, rfl⟩
  unfold ownAt
  rw [e]
  exact hs
theorem all_one {N : Nat} {S : SP} (q : InvS N S) {x : POwn} (hx : x ∈ allV S) : OneS N (plO x) x.2 := by
  obtain ⟨k, s, h1, h2⟩ := all_in hx
  have := q _ h1
  have e : k = plO x := Prod.ext h2.symm this.2.2.2.2.2.1
  rw [← e]; exact this
theorem all_small {i : Nat} {P : PSt} (q : PInv i P) (hi : i ≤ 100) : ∀ x ∈ allV P.S, x.2.1.length ≤ 1200 ∧ (∀ y ∈ x.2.1, y.1.data.toList.length < 6000 ∧ y.2.data.toList.length < 6000) ∧ x.2.2.length < 1000000000000 ∧ x.1.data.toList.length < 9223372036854775808 := fun x hx => by
  obtain ⟨_, b, c, _, _, _, g⟩ := all_one q.inv hx
  exact ⟨c.1, c.2, by omega, name_len g⟩
theorem allV_len (S : SP) : (allV S).length = S.length := by unfold allV; rw [List.length_map, keysP_len]
theorem fencesV_len (F : FM) : (fencesV F).length = F.length := by unfold fencesV; rw [List.length_map, keysP_len]
structure At (h : Heap) (P : PSt) (b f g : Nat) (c : CI) (G : SM) : Prop where
  hb : h.get b = some (.cells [.map (some f), .map (some g)] true c)
  hf : h.get f = some (.map (mapE plV intV P.F) P.kf)
  hg : h.get g = some (.map (mapE plV ownV G) P.kg)
  okF : MOk P.F P.kf
  okG : MOk G P.kg
  hS : SMIs h G P.S
  ne : f ≠ g
section
variable {h : Heap} {n b f g i : Nat} {c : CI} {P : PSt} {G : SM}
theorem takeOn (s : At h P b f g c G) {a : Option Addr} {cp : Nat} (y : Bat) (rs : List RSer) (hr : IsRow encSer h (.slice a rs.length cp) rs) (hd : SersIs h rs y.ser) (hld : Laid0 h) (q : PInv i P) (hi : i ≤ 100) (hsb : SmallB y) {R : TkR} (hR : R = takeP P y) :
    Makes Tryd.prog 13 [.pointer (some ⟨b, 0, none⟩), .agg #[.string y.ten, .string y.clu, .int .i64 y.epo, .slice a rs.length cp]] h n [f, g] fun v h2 _ => ∃ w os G2, v = .tuple #[.agg #[.string R.kb.ten, .string R.kb.clu, .int .i64 R.kb.epo, w, .int .i64 R.bad, .bool R.rose], .int .i64 R.e] ∧ FRow encSer h2 w os ∧ FSers h2 os R.kb.ser ∧ h2.get f = some (.map (mapE plV intV R.F) R.kf) ∧ h2.get g = some (.map (mapE plV ownV G2) R.kg) ∧ MOk R.F R.kf ∧ MOk G2 R.kg ∧ SMIs h2 G2 R.S := by
  have h1 := hsb.1
  have h2 := hsb.2.1
  exact takeSt P.F G P.S s.hb s.hf s.hg s.okF s.okG s.hS s.ne y.ten y.clu y.epo rs y.ser hr hd hld hsb.2.2 (by omega) (by omega) q.inv (by omega) hR
theorem takeAgain (s : At h P b f g c G) {a : Option Addr} {cp : Nat} {y : Bat} (rs : List RSer) {R : TkR} (hr : IsRow encSer h (.slice a rs.length cp) rs) (hd : SersIs h rs R.kb.ser) (hld : Laid0 h) (q : PInv i P) (hi : i ≤ 100) (hsb : SmallB y) (hR : R = takeP P y) (he : R.e = 0) :
    Makes Tryd.prog 13 [.pointer (some ⟨b, 0, none⟩), .agg #[.string R.kb.ten, .string R.kb.clu, .int .i64 R.kb.epo, .slice a rs.length cp]] h n [f, g] fun v h2 _ => ∃ w os G2, v = .tuple #[.agg #[.string R.kb.ten, .string R.kb.clu, .int .i64 R.kb.epo, w, .int .i64 0, .bool R.rose], .int .i64 0] ∧ FRow encSer h2 w os ∧ FSers h2 os R.kb.ser ∧ h2.get f = some (.map (mapE plV intV R.F) R.kf) ∧ h2.get g = some (.map (mapE plV ownV G2) R.kg) ∧ MOk R.F R.kf ∧ MOk G2 R.kg ∧ SMIs h2 G2 R.S := by
  have e := take_kept (P := P) (b := y) (by rw [← hR]; exact he)
  rw [← hR] at e
  exact takeOn (R := ⟨0, R.F, R.kf, R.S, R.kg, R.kb, 0, R.rose⟩) s R.kb rs hr hd hld q hi (by rw [hR]; exact kb_small hsb) e.symm
theorem fencesOn (s : At h P b f g c G) (q : PInv i P) (hi : i ≤ 100) : Makes Tryd.prog 12 [.pointer (some ⟨b, 0, none⟩)] h n [] fun v h2 _ => FRow encFen h2 v (fencesV P.F) :=
  makes_fz (fencesX_spec P.F G P.S s.hb s.hf s.hg s.okF s.okG s.hS s.ne (by have := q.lenF; omega))
theorem allOn (s : At h P b f g c G) (q : PInv i P) (hi : i ≤ 100) : Makes Tryd.prog 15 [.pointer (some ⟨b, 0, none⟩)] h n [] fun v h2 _ => ∃ os, FRow encOwn h2 v os ∧ FOwns h2 os (allV P.S) :=
  allFz P.F G P.S s.hb s.hf s.hg s.okF s.okG s.hS s.ne (by have := q.lenS; omega) q.inv (by omega)
theorem sameOn {b' f' g' j : Nat} {c' : CI} {P' : PSt} {G' : SM} (s : At h P b f g c G) (s' : At h P' b' f' g' c' G') (q : PInv i P) (hi : i ≤ 100) (q' : PInv j P') (hj : j ≤ 100) :
    Tells Tryd.prog 22 [.pointer (some ⟨b, 0, none⟩), .pointer (some ⟨b', 0, none⟩)] h n (.bool (eqM P.F P'.F && eqSt P.S P'.S)) := by
  have h1 := q.lenF
  have h2 := q'.lenF
  have h3 := q.lenS
  have h4 := q'.lenS
  exact same_spec P.F G P.S s.hb s.hf s.hg s.okF s.okG s.hS s.ne P'.F G' P'.S s'.hb s'.hf s'.hg s'.okF s'.okG s'.hS s'.ne (by omega) (by omega) (by rw [s.hS.1]; omega) (by rw [s'.hS.1]; omega) (fun x hx => by have := (q.inv x hx).2.1; omega)
theorem ofSelf {a a2 : Option Addr} {cp cp2 : Nat} (rs : List ROwn) (hr : IsRow encFen h (.slice a (fencesV P.F).length cp) (fencesV P.F)) (ho : FRow encOwn h (.slice a2 rs.length cp2) rs) (hd : FOwns h rs (allV P.S)) (hld : Laid0 h) (q : PInv i P) (hi : i ≤ 100) :
    Makes Tryd.prog 23 [.slice a (fencesV P.F).length cp, .slice a2 rs.length cp2] h n [] fun v h2 _ => ∃ b f g G, ∃ P' : PSt, v = .tuple #[.pointer (some ⟨b, 0, none⟩), .int .i64 0] ∧ h2.get b = some (.cells [.map (some f), .map (some g)] true ⟨69, 0, true⟩) ∧ h2.get f = some (.map (mapE plV intV P'.F) P'.kf) ∧ h2.get g = some (.map (mapE plV ownV G) P'.kg) ∧ MOk P'.F P'.kf ∧ MOk G P'.kg ∧ SMIs h2 G P'.S ∧ h.get b = none ∧ h.get f = none ∧ h.get g = none ∧ f ≠ g ∧ PInv i P' ∧ (eqM P'.F P.F && eqSt P'.S P.S) = true ∧ (eqM P.F P'.F && eqSt P.S P'.S) = true := by
  have hl := hd.1
  rw [allV_len] at hl
  have h1 := q.lenF
  have h2 := q.lenS
  refine makes_weaken (ofOk (fencesV P.F) rs (allV P.S) hr ho hd hld (fences_len q) (all_small q hi) (by rw [fencesV_len]; omega) (by omega) (fences_ok q) (all_ok q)) ?_
  rintro v h2 _ hs _ _ ⟨b, f, g, G, rfl, x1, x2, x3, x4, x5, x6, x7⟩
  have ⟨f1, f2⟩ := buildF_get q
  have ⟨o1, o2⟩ := buildO_get q
  refine ⟨h2, .refl _, hs, b, f, g, G, ⟨(buildF (fencesV P.F)).1, (buildF (fencesV P.F)).2, (buildO (allV P.S)).1, (buildO (allV P.S)).2⟩, rfl, x1, x2, x3, x4, x5, x6, x7.1, x7.2.1, x7.2.2.1, x7.2.2.2, ?_, build_same1 q, build_same2 q⟩
  refine ⟨fun x hx => ?_, by show (buildF _).1.length ≤ _; omega, by show (buildO _).1.length ≤ _; omega, fun x hx => ?_, x4, x6.ok x5⟩
  · have e := mget_of (buildO_ok (allV P.S)).keys hx
    rw [o2] at e
    obtain ⟨s, hs⟩ := mget_mem e
    exact q.inv (x.1, x.2.1, s) hs
  · have e := mget_of (buildF_ok (fencesV P.F)).keys hx
    rw [f2] at e
    obtain ⟨s, hs⟩ := mget_mem e
    exact q.fen (x.1, x.2.1, s) hs
end
theorem PInv.up {i j : Nat} {P : PSt} (q : PInv i P) (h : i ≤ j) : PInv j P := ⟨q.inv.up (by omega), by have := q.lenF; omega, by have := q.lenS; omega, q.fen, q.okF, q.okS⟩
end Go.Proofs.YtkpaklofdkjinaaDoor
namespace Go.Proofs.YtkpaklofdkjinaaDoor
open Go Go.Abs Go.RowKit Go.Shelf
set_option maxRecDepth 100000
set_option maxHeartbeats 8000000
theorem kept_spec {h : Heap} {n : Nat} {a : Option Addr} {cp : Nat} (rs : List RBat) (bs : List Bat) (hr : FRow encBat h (.slice a rs.length cp) rs) (hd : FBats h rs bs) (hld : Laid0 h) (hlen : rs.length < 9223372036854775808) :
    Tells Tryd.prog 7 [.slice a (rs.length) cp] h n (.bool true) := by
 refine Makes.tells (Makes.free fun hf => ?_)
 have hs : SubBut h h ([]) := .refl _ _
 have hn : n ≤ n := Nat.le_refl _
 have hf0 := hf
 refine Makes.of_bodyV (args := [.slice a (rs.length) cp]) (vs := [.slice a (rs.length) cp, undef, undef, undef, undef, undef, undef, undef, undef, undef, undef, undef, undef, undef, undef, undef, undef, undef, undef, undef, undef, undef, undef, undef, undef, undef, undef, undef, undef, undef, undef, undef, undef, undef, undef, undef, undef, undef, undef, undef, undef, undef, undef, undef, undef, undef, undef, undef, undef, undef, undef, undef, undef, undef, undef, undef, undef, undef, undef, undef, undef, undef, undef, undef, undef, undef, undef, undef, undef, undef, undef, undef, undef, undef, undef, undef, undef, undef, undef, undef, undef, undef, undef, undef, undef, undef, undef, undef, undef, undef, undef, undef, undef, undef, undef, undef, undef, undef, undef, undef, undef, undef, undef, undef, undef, undef, undef]) Tryd.func7 rfl rfl ?_
 refine AWp.seq (AWp.rowV (l := _) pok ?_)
 refine sq.c (v := .bool false) rfl rfl rfl rfl ?_
 refine sq.e (AWp.seq (AWp.seq (AWp.rowV (l := _) pok ?_)))
 refine sq.c (v := .slice a (rs.length) cp) rfl rfl rfl rfl ?_
 refine sq.k rfl (CallsF.fn rfl (by kernel_rfl) rfl rfl) (long_spec _ _ (hr.keep (.of0 hs)).is (hd.keep (.of0 hs)).is hlen) ?_
 rintro _ h1 n2 ⟨z_lo, rfl, hz_lo⟩ s3 hn2 hf
 refine sq.w ?_
 have hs := hs.trans s3
 have hn := Nat.le_trans hn hn2
 refine sq.c (v := .bool (z_lo)) rfl rfl rfl rfl ?_
 rcases Bool.eq_false_or_eq_true (z_lo) with c_lo | c_lo
 ·rw [c_lo]
  refine sq.s (wantF (g := 2) (d := 14) rfl rfl rfl) rfl ?_
  refine sq.s (wantF (g := 2) (d := 14) rfl rfl rfl) rfl ?_
  refine sq.c (v := .bool true) rfl rfl rfl rfl ?_
  refine sq.e ?_
  refine AWp.condT rfl rfl ?_
  refine AWp.seq (AWp.rowV (l := _) pok ?_)
  refine sq.t (v := .bool true) rfl (CallsF.fn rfl (by kernel_rfl) rfl rfl) (fun hf => awake_spec (hld.keep hs)) hf rfl ?_
  intro n4 hn2 hf
  have hn := Nat.le_trans hn hn2
  refine sq.c (v := .bool true) rfl rfl rfl rfl ?_
  refine sq.e ?_
  refine AWp.ret ?_
  refine ⟨rfl, [.bool true], rfl, .bool true, rfl, hs, hn, ?_⟩
  rfl
 ·rw [c_lo]
  refine sq.t (v := .bool true) (wantT (g := 2) (d := 14) rfl rfl rfl) (CallsF.fn rfl (by kernel_rfl) rfl rfl) (fun hf => awake_spec (hld.keep hs)) hf rfl ?_
  intro n5 hn2 hf
  have hn := Nat.le_trans hn hn2
  refine sq.c (v := .bool false) (wantT (g := 2) (d := 14) rfl rfl rfl) rfl rfl rfl ?_
  refine sq.c (v := .bool false) rfl rfl rfl rfl ?_
  refine sq.e ?_
  refine AWp.condF rfl rfl ?_
  refine AWp.skip (AWp.seq (AWp.rowV (l := _) pok ?_))
  refine sq.k rfl (CallsF.fn rfl (by kernel_rfl) rfl rfl) (new_spec) ?_
  rintro _ h6 n7 ⟨bp, fp, gp, rfl, hb_bp, hb_fp, hb_gp, y_bp, y_fp, y_gp, ne_fp_gp⟩ s8 hn2 hf
  have z_fp := sub_none hs y_fp
  have z_gp := sub_none hs y_gp
  change Apt fp gp at ne_fp_gp
  have ne_bp_fp : Apt bp fp := by intro e; rw [e] at hb_bp; rw [hb_bp] at hb_fp; cases hb_fp
  have ne_bp_gp : Apt bp gp := by intro e; rw [e] at hb_bp; rw [hb_bp] at hb_gp; cases hb_gp
  have ok_fp : MOk ([] : FM) 0 := .nil
  have ok_gp : MOk ([] : SM) 0 := .nil
  refine sq.w ?_
  have hs := hs.trans s8
  have hn := Nat.le_trans hn hn2
  have hSp : SMIs h6 ([] : SM) ([] : SP) := SMIs.nil _
  refine sq.k rfl (CallsF.fn rfl (by kernel_rfl) rfl rfl) (new_spec) ?_
  rintro _ h9 n10 ⟨bq, fq, gq, rfl, hb_bq, hb_fq, hb_gq, y_bq, y_fq, y_gq, ne_fq_gq⟩ s11 hn2 hf
  have e_fp_bq : Apt fp bq := got_apt hb_fp y_bq
  have e_gp_bq : Apt gp bq := got_apt hb_gp y_bq
  have e_bp_fq : Apt bp fq := got_apt hb_bp y_fq
  have e_fp_fq : Apt fp fq := got_apt hb_fp y_fq
  have e_gp_fq : Apt gp fq := got_apt hb_gp y_fq
  have z_fq := sub_none hs y_fq
  have e_bp_gq : Apt bp gq := got_apt hb_bp y_gq
  have e_fp_gq : Apt fp gq := got_apt hb_fp y_gq
  have e_gp_gq : Apt gp gq := got_apt hb_gp y_gq
  have z_gq := sub_none hs y_gq
  change Apt fq gq at ne_fq_gq
  have ne_bq_fq : Apt bq fq := by intro e; rw [e] at hb_bq; rw [hb_bq] at hb_fq; cases hb_fq
  have ne_bq_gq : Apt bq gq := by intro e; rw [e] at hb_bq; rw [hb_bq] at hb_gq; cases hb_gq
  have ok_fq : MOk ([] : FM) 0 := .nil
  have ok_gq : MOk ([] : SM) 0 := .nil
  refine sq.w ?_
  have hSp := hSp.keep (.of0 s11)
  have hb_bp := s11.sub _ _ hb_bp
  have hb_fp := s11.sub _ _ hb_fp
  have hb_gp := s11.sub _ _ hb_gp
  have hs := hs.trans s11
  have hn := Nat.le_trans hn hn2
  have hSq : SMIs h9 ([] : SM) ([] : SP) := SMIs.nil _
  refine sq.c (v := .pointer (some ⟨bp, 0, none⟩)) rfl rfl rfl rfl ?_
  refine sq.c (v := .pointer (some ⟨bq, 0, none⟩)) rfl rfl rfl rfl ?_
  refine sq.e (AWp.seq (AWp.seq (AWp.rowV (l := _) pok ?_)))
  refine sq.c (v := .int .i64 (0)) rfl rfl rfl rfl ?_
  refine sq.e (AWp.block ?_)
  have hlo := hz_lo c_lo
  have hb60 := hlo.1
  have hrl : rs.length = bs.length := hd.1
  refine AWp.loopV (fun d vs h13 n14 => ∃ (i : Int) (P : PSt) (Gp Gq : SM), d = ((rs.length : Nat) - i + 1).toNat ∧ SubBut h h13 ([]) ∧ n ≤ n14 ∧ Free h13 n14 ∧ h13.get bp = some (.cells [.map (some fp), .map (some gp)] true ⟨69, 0, true⟩) ∧ h13.get fp = some (.map (mapE plV intV P.F) P.kf) ∧ h13.get gp = some (.map (mapE plV ownV Gp) P.kg) ∧ SMIs h13 Gp P.S ∧ h13.get bq = some (.cells [.map (some fq), .map (some gq)] true ⟨69, 0, true⟩) ∧ h13.get fq = some (.map (mapE plV intV P.F) P.kf) ∧ h13.get gq = some (.map (mapE plV ownV Gq) P.kg) ∧ SMIs h13 Gq P.S ∧ MOk P.F P.kf ∧ MOk Gp P.kg ∧ MOk P.F P.kf ∧ MOk Gq P.kg ∧ (0 ≤ i) ∧ (i ≤ (rs.length : Nat)) ∧ (PInv i.toNat P) ∧ (P = runP st0 (bs.take i.toNat)) ∧ ∃ y12 : Nat → Value, vs = [.slice a (rs.length) cp, undef, (y12 2), .pointer (some ⟨bp, 0, none⟩), .pointer (some ⟨bq, 0, none⟩), .int .i64 (i), (y12 6), (y12 7), (y12 8), (y12 9), undef, undef, .slice a (rs.length) cp, .bool false, .bool false, .bool true, .bool false, .bool false, undef, .pointer (some ⟨bp, 0, none⟩), .pointer (some ⟨bq, 0, none⟩), (y12 21), (y12 22), (y12 23), (y12 24), (y12 25), (y12 26), (y12 27), (y12 28), (y12 29), (y12 30), (y12 31), (y12 32), (y12 33), (y12 34), (y12 35), (y12 36), (y12 37), (y12 38), (y12 39), (y12 40), (y12 41), (y12 42), (y12 43), (y12 44), (y12 45), (y12 46), (y12 47), (y12 48), (y12 49), (y12 50), (y12 51), (y12 52), (y12 53), (y12 54), (y12 55), (y12 56), (y12 57), (y12 58), (y12 59), (y12 60), (y12 61), (y12 62), (y12 63), (y12 64), (y12 65), (y12 66), (y12 67), (y12 68), (y12 69), (y12 70), (y12 71), (y12 72), (y12 73), (y12 74), (y12 75), (y12 76), (y12 77), (y12 78), (y12 79), (y12 80), (y12 81), (y12 82), (y12 83), (y12 84), (y12 85), (y12 86), undef, undef, undef, undef, undef, undef, undef, undef, undef, undef, undef, undef, undef, undef, undef, undef, undef, undef, undef, undef]) (((rs.length : Nat) - (0 : Int) + 1).toNat) ⟨0, st0, [], [], rfl, hs, hn, hf, hb_bp, hb_fp, hb_gp, hSp, hb_bq, hb_fq, hb_gq, hSq, ok_fp, ok_gp, ok_fq, ok_gq, (by omega), (by omega), (PInv.zero), (rfl), getV [undef, undef, .bool false, undef, undef, undef, undef, undef, undef, undef, undef, undef, undef, undef, undef, undef, undef, undef, undef, undef, undef, undef, undef, undef, undef, undef, undef, undef, undef, undef, undef, undef, undef, undef, undef, undef, undef, undef, undef, undef, undef, undef, undef, undef, undef, undef, undef, undef, undef, undef, undef, undef, undef, undef, undef, undef, undef, undef, undef, undef, undef, undef, undef, undef, undef, undef, undef, undef, undef, undef, undef, undef, undef, undef, undef, undef, undef, undef, undef, undef, undef, undef, undef, undef, undef, undef, undef], rfl⟩ ?_
  rintro d vs h13 n14 ⟨i, P, Gp, Gq, rfl, hs, hn, hf, hb_bp, hb_fp, hb_gp, hSp, hb_bq, hb_fq, hb_gq, hSq, okfp, okgp, okfq, okgq, hi0, hi1, hPi, hP, y12, rfl⟩
  have hi60 : i.toNat ≤ 100 := by omega
  refine AWp.seq (AWp.seq (AWp.rowV (l := _) pok ?_))
  refine sq.c (v := .int .i64 (i)) rfl rfl rfl rfl ?_
  refine sq.c (v := .slice a (rs.length) cp) rfl rfl rfl rfl ?_
  refine sq.c (v := .int .i64 (((rs.length : Nat) : Int))) rfl rfl (by kernel_rfl) rfl ?_
  refine sq.c (v := .bool (decide (i < (((rs.length : Nat) : Int))))) rfl rfl rfl rfl ?_
  refine sq.e ?_
  by_cases c5_3 : i < (((rs.length : Nat) : Int))
  ·rw [decide_eq_true c5_3]
   refine AWp.condT rfl rfl ?_
   refine AWp.skip (AWp.seq (AWp.block (AWp.seq (AWp.rowV (l := _) pok ?_))))
   refine sq.c (v := .pointer (some ⟨bp, 0, none⟩)) rfl rfl rfl rfl ?_
   refine sq.c (v := .slice a (rs.length) cp) rfl rfl rfl rfl ?_
   refine sq.c (v := .int .i64 (i)) rfl rfl rfl rfl ?_
   have i21 : (0 : Int) ≤ (i : Int) := by omega
   obtain ⟨x22, hx_x22⟩ : ∃ x, (rs)[((i : Int)).toNat]? = some x := ⟨_, List.getElem?_eq_getElem (by omega)⟩
   obtain ⟨y_x22, hy_x22, hb_x22⟩ := hd.at hx_x22
   obtain ⟨t_x22, c_x22, e_x22, v_x22⟩ := x22
   obtain ⟨rfl, rfl, rfl, rs_x22, R_x22, D_x22⟩ := hb_x22
   obtain ⟨a_x22, c_x22, rfl⟩ := (show FRow encSer _ v_x22 rs_x22 from R_x22).slice
   obtain ⟨b15, o16, cs_b15, ow_b15, ci_b15, ie20, hb17, hc18, hr19⟩ := IsRow.at (P := Tryd.prog) (t := 22) (e := 31) (k := .i64) (by kernel_rfl) (by kernel_rfl) (hr.keep (.of0 hs)).is i21 hx_x22
   refine sq.c (v := .pointer (some ⟨b15, o16, none⟩)) rfl rfl ie20 rfl ?_
   refine sq.c (v := .agg #[.string (y_x22.ten), .string (y_x22.clu), .int .i64 (y_x22.epo), .slice a_x22 (rs_x22.length) c_x22]) rfl rfl (ldR (P := Tryd.prog) (t := 31) (k := 4) (xs := [.string (y_x22.ten), .string (y_x22.clu), .int .i64 (y_x22.epo), .slice a_x22 (rs_x22.length) c_x22]) (by kernel_rfl) (by kernel_rfl) hr19) rfl ?_
   have hsb := hlo.2 _ (List.mem_of_getElem? hy_x22)
   obtain ⟨R, hR⟩ : ∃ R, R = takeP P y_x22 := ⟨_, rfl⟩
   have hPi2 : PInv (i.toNat + 1) R.st := by rw [hR]; exact hPi.step hsb.2.2
   have hi61 : i.toNat + 1 ≤ 100 := by omega
   refine sq.k rfl (CallsF.fn rfl (by kernel_rfl) rfl rfl) (takeOn (⟨hb_bp, hb_fp, hb_gp, okfp, okgp, hSp, ne_fp_gp⟩ : At _ P _ _ _ _ Gp) y_x22 _ (R_x22.keep (.of0 hs)).is (D_x22.keep (.of0 hs)).is (hld.keep hs) hPi hi60 hsb hR) ?_
   rintro _ h23 n24 ⟨w_x, os_x, G_x, rfl, W_x, D_x, hf_x, hg_x, okF_x, okG_x, hS_x⟩ s25 hn2 hf
   obtain ⟨a_x, c_x, rfl⟩ := W_x.slice
   refine sq.w ?_
   have ours_s25 : Ours _ [fp, gp] := .cons hb_fp rfl (.cons hb_gp rfl (.nil _))
   have hSq := hSq.keep (.of s25 ours_s25)
   have hb_bp := s25.get2 (ne_bp_fp) (ne_bp_gp) hb_bp
   have hb_bq := s25.get2 (Ne.symm e_fp_bq) (Ne.symm e_gp_bq) hb_bq
   have hb_fq := s25.get2 (Ne.symm e_fp_fq) (Ne.symm e_gp_fq) hb_fq
   have hb_gq := s25.get2 (Ne.symm e_fp_gq) (Ne.symm e_gp_gq) hb_gq
   have hs := hs.fresh2 z_fp z_gp s25
   have hn := Nat.le_trans hn hn2
   have hSp := hS_x
   refine sq.c (v := .tuple #[.agg #[.string (R.kb.ten), .string (R.kb.clu), .int .i64 (R.kb.epo), .slice a_x (os_x.length) c_x, .int .i64 (R.bad), .bool (R.rose)], .int .i64 (R.e)]) rfl rfl rfl rfl ?_
   refine sq.c (v := .agg #[.string (R.kb.ten), .string (R.kb.clu), .int .i64 (R.kb.epo), .slice a_x (os_x.length) c_x, .int .i64 (R.bad), .bool (R.rose)]) rfl rfl rfl rfl ?_
   refine sq.c (v := .int .i64 (R.e)) rfl rfl rfl rfl ?_
   have e_bp_n24 : Apt bp n24 := hf.ne hb_bp
   have e_fp_n24 : Apt fp n24 := hf.ne hf_x
   have e_gp_n24 : Apt gp n24 := hf.ne hg_x
   have e_bq_n24 : Apt bq n24 := hf.ne hb_bq
   have e_fq_n24 : Apt fq n24 := hf.ne hb_fq
   have e_gq_n24 : Apt gq n24 := hf.ne hb_gq
   have z_n24 : h.get n24 = none := hf0 _ hn
   refine sq.op rfl rfl (Does.alloc (cs := [.string (⟨#[]⟩), .string (⟨#[]⟩), .int .i64 (0), .slice none (0) (0), .int .i64 (0), .bool false]) hf (z := .agg #[.string (⟨#[]⟩), .string (⟨#[]⟩), .int .i64 (0), .slice none (0) (0), .int .i64 (0), .bool false]) (by kernel_rfl) rfl) ?_
   rintro _ h27 n28 ⟨rfl, hb26⟩ s29 hn2 hf
   refine sq.w ?_
   have hSq := hSq.keep (.of0 s29)
   have hSp := hSp.keep (.of0 s29)
   have W_x := W_x.keep (.of0 s29)
   have D_x := D_x.keep (.of0 s29)
   have hb_bp := s29.sub _ _ hb_bp
   have hf_x := s29.sub _ _ hf_x
   have hg_x := s29.sub _ _ hg_x
   have hb_bq := s29.sub _ _ hb_bq
   have hb_fq := s29.sub _ _ hb_fq
   have hb_gq := s29.sub _ _ hb_gq
   have hs := hs.trans s29
   have hn := Nat.le_trans hn hn2
   refine sq.op rfl rfl (Does.store (k := 6) (xs := [.string (R.kb.ten), .string (R.kb.clu), .int .i64 (R.kb.epo), .slice a_x (os_x.length) c_x, .int .i64 (R.bad), .bool (R.rose)]) (cs' := [.string (R.kb.ten), .string (R.kb.clu), .int .i64 (R.kb.epo), .slice a_x (os_x.length) c_x, .int .i64 (R.bad), .bool (R.rose)]) hf (by kernel_rfl) rfl rfl rfl hb26 rfl rfl (Nat.le_of_ble_eq_true rfl) rfl) ?_
   rintro _ h31 n32 ⟨rfl, hb30⟩ s33 hn2 hf
   refine sq.w0 ?_
   have hSq := hSq.keep (.own s33 hb26 rfl)
   have hSp := hSp.keep (.own s33 hb26 rfl)
   have W_x := W_x.keep (.own s33 hb26 rfl)
   have D_x := D_x.keep (.own s33 hb26 rfl)
   have hb_bp := s33.get1 (e_bp_n24) hb_bp
   have hf_x := s33.get1 (e_fp_n24) hf_x
   have hg_x := s33.get1 (e_gp_n24) hg_x
   have hb_bq := s33.get1 (e_bq_n24) hb_bq
   have hb_fq := s33.get1 (e_fq_n24) hb_fq
   have hb_gq := s33.get1 (e_gq_n24) hb_gq
   have hs := hs.fresh z_n24 s33
   have hn := Nat.le_trans hn hn2
   refine sq.c (v := .int .i64 (R.e)) rfl rfl rfl rfl ?_
   refine sq.e (AWp.seq (AWp.seq (AWp.rowV (l := _) pok ?_)))
   refine sq.c (v := .int .i64 (R.e)) rfl rfl rfl rfl ?_
   refine sq.c (v := .bool (!decide (R.e = (0 : Int)))) rfl rfl rfl rfl ?_
   refine sq.e ?_
   by_cases c8_1 : R.e = (0 : Int)
   ·rw [decide_eq_true c8_1]
    refine AWp.condF rfl rfl ?_
    refine AWp.skip (AWp.seq (AWp.rowV (l := _) pok ?_))
    refine sq.c (v := .pointer (some ⟨bq, 0, none⟩)) rfl rfl rfl rfl ?_
    refine sq.c (v := .pointer (some ⟨n24, 0, none⟩)) rfl rfl (by kernel_rfl) rfl ?_
    refine sq.c (v := .agg #[.string (R.kb.ten), .string (R.kb.clu), .int .i64 (R.kb.epo), .slice a_x (os_x.length) c_x]) rfl rfl (ldA (P := Tryd.prog) (t := 31) (p := 0) (k := 4) (xs := [.string (R.kb.ten), .string (R.kb.clu), .int .i64 (R.kb.epo), .slice a_x (os_x.length) c_x]) (by kernel_rfl) (by kernel_rfl) hb30 rfl (Nat.le_of_ble_eq_true rfl)) rfl ?_
    have hkb : SmallB R.kb := by rw [hR]; exact kb_small hsb
    refine sq.k rfl (CallsF.fn rfl (by kernel_rfl) rfl rfl) (takeAgain (⟨hb_bq, hb_fq, hb_gq, okfq, okgq, hSq, ne_fq_gq⟩ : At _ P _ _ _ _ Gq) _ W_x.is D_x.is (hld.keep hs) hPi hi60 hsb hR c8_1) ?_
    rintro _ h34 n35 ⟨w_y, os_y, G_y, rfl, W_y, D_y, hf_y, hg_y, okF_y, okG_y, hS_y⟩ s36 hn2 hf
    obtain ⟨a_y, c_y, rfl⟩ := W_y.slice
    refine sq.w ?_
    have ours_s36 : Ours _ [fq, gq] := .cons hb_fq rfl (.cons hb_gq rfl (.nil _))
    have hSp := hSp.keep (.of s36 ours_s36)
    have W_x := W_x.keep (.of s36 ours_s36)
    have D_x := D_x.keep (.of s36 ours_s36)
    have hb_bp := s36.get2 (e_bp_fq) (e_bp_gq) hb_bp
    have hf_x := s36.get2 (e_fp_fq) (e_fp_gq) hf_x
    have hg_x := s36.get2 (e_gp_fq) (e_gp_gq) hg_x
    have hb_bq := s36.get2 (ne_bq_fq) (ne_bq_gq) hb_bq
    have hb30 := s36.get2 (Ne.symm e_fq_n24) (Ne.symm e_gq_n24) hb30
    have hs := hs.fresh2 z_fq z_gq s36
    have hn := Nat.le_trans hn hn2
    have hSq := hS_y
    refine sq.c (v := .tuple #[.agg #[.string (R.kb.ten), .string (R.kb.clu), .int .i64 (R.kb.epo), .slice a_y (os_y.length) c_y, .int .i64 (0), .bool (R.rose)], .int .i64 (0)]) rfl rfl rfl rfl ?_
    refine sq.c (v := .agg #[.string (R.kb.ten), .string (R.kb.clu), .int .i64 (R.kb.epo), .slice a_y (os_y.length) c_y, .int .i64 (0), .bool (R.rose)]) rfl rfl rfl rfl ?_
    refine sq.c (v := .int .i64 (0)) rfl rfl rfl rfl ?_
    have e_bp_n35 : Apt bp n35 := hf.ne hb_bp
    have e_fp_n35 : Apt fp n35 := hf.ne hf_x
    have e_gp_n35 : Apt gp n35 := hf.ne hg_x
    have e_bq_n35 : Apt bq n35 := hf.ne hb_bq
    have e_fq_n35 : Apt fq n35 := hf.ne hf_y
    have e_gq_n35 : Apt gq n35 := hf.ne hg_y
    have e_n24_n35 : Apt n24 n35 := hf.ne hb30
    have z_n35 : h.get n35 = none := hf0 _ hn
    refine sq.op rfl rfl (Does.alloc (cs := [.string (⟨#[]⟩), .string (⟨#[]⟩), .int .i64 (0), .slice none (0) (0), .int .i64 (0), .bool false]) hf (z := .agg #[.string (⟨#[]⟩), .string (⟨#[]⟩), .int .i64 (0), .slice none (0) (0), .int .i64 (0), .bool false]) (by kernel_rfl) rfl) ?_
    rintro _ h38 n39 ⟨rfl, hb37⟩ s40 hn2 hf
    refine sq.w ?_
    have hSp := hSp.keep (.of0 s40)
    have W_x := W_x.keep (.of0 s40)
    have D_x := D_x.keep (.of0 s40)
    have hSq := hSq.keep (.of0 s40)
    have W_y := W_y.keep (.of0 s40)
    have D_y := D_y.keep (.of0 s40)
    have hb_bp := s40.sub _ _ hb_bp
    have hf_x := s40.sub _ _ hf_x
    have hg_x := s40.sub _ _ hg_x
    have hb_bq := s40.sub _ _ hb_bq
    have hf_y := s40.sub _ _ hf_y
    have hg_y := s40.sub _ _ hg_y
    have hb30 := s40.sub _ _ hb30
    have hs := hs.trans s40
    have hn := Nat.le_trans hn hn2
    refine sq.op rfl rfl (Does.store (k := 6) (xs := [.string (R.kb.ten), .string (R.kb.clu), .int .i64 (R.kb.epo), .slice a_y (os_y.length) c_y, .int .i64 (0), .bool (R.rose)]) (cs' := [.string (R.kb.ten), .string (R.kb.clu), .int .i64 (R.kb.epo), .slice a_y (os_y.length) c_y, .int .i64 (0), .bool (R.rose)]) hf (by kernel_rfl) rfl rfl rfl hb37 rfl rfl (Nat.le_of_ble_eq_true rfl) rfl) ?_
    rintro _ h42 n43 ⟨rfl, hb41⟩ s44 hn2 hf
    refine sq.w0 ?_
    have hSp := hSp.keep (.own s44 hb37 rfl)
    have W_x := W_x.keep (.own s44 hb37 rfl)
    have D_x := D_x.keep (.own s44 hb37 rfl)
    have hSq := hSq.keep (.own s44 hb37 rfl)
    have W_y := W_y.keep (.own s44 hb37 rfl)
    have D_y := D_y.keep (.own s44 hb37 rfl)
    have hb_bp := s44.get1 (e_bp_n35) hb_bp
    have hf_x := s44.get1 (e_fp_n35) hf_x
    have hg_x := s44.get1 (e_gp_n35) hg_x
    have hb_bq := s44.get1 (e_bq_n35) hb_bq
    have hf_y := s44.get1 (e_fq_n35) hf_y
    have hg_y := s44.get1 (e_gq_n35) hg_y
    have hb30 := s44.get1 (e_n24_n35) hb30
    have hs := hs.fresh z_n35 s44
    have hn := Nat.le_trans hn hn2
    refine sq.c (v := .int .i64 (0)) rfl rfl rfl rfl ?_
    refine sq.e (AWp.seq (AWp.rowV (l := _) pok ?_))
    refine sq.c (v := .int .i64 (0)) rfl rfl rfl rfl ?_
    refine sq.c (v := .bool false) rfl rfl rfl rfl ?_
    refine sq.c (v := .bool false) rfl rfl rfl rfl ?_
    refine sq.c (v := .pointer (some ⟨n35, 4, none⟩)) (wantT (g := 2) (d := 61) rfl rfl rfl) rfl (by kernel_rfl) rfl ?_
    refine sq.c (v := .int .i64 (0)) (wantT (g := 2) (d := 61) rfl rfl rfl) rfl (ld1 (P := Tryd.prog) (t := 3) (p := 4) (v := .int .i64 (0)) (by kernel_rfl) (by kernel_rfl) hb41 rfl) rfl ?_
    refine sq.c (v := .bool false) (wantT (g := 2) (d := 61) rfl rfl rfl) rfl rfl rfl ?_
    refine sq.c (v := .bool false) rfl rfl rfl rfl ?_
    refine sq.c (v := .bool false) rfl rfl rfl rfl ?_
    refine sq.c (v := .pointer (some ⟨n35, 5, none⟩)) (wantT (g := 7) (d := 66) rfl rfl rfl) rfl (by kernel_rfl) rfl ?_
    refine sq.c (v := .bool (R.rose)) (wantT (g := 7) (d := 66) rfl rfl rfl) rfl (ld1 (P := Tryd.prog) (t := 4) (p := 5) (v := .bool (R.rose)) (by kernel_rfl) (by kernel_rfl) hb41 rfl) rfl ?_
    refine sq.c (v := .pointer (some ⟨n24, 5, none⟩)) (wantT (g := 7) (d := 66) rfl rfl rfl) rfl (by kernel_rfl) rfl ?_
    refine sq.c (v := .bool (R.rose)) (wantT (g := 7) (d := 66) rfl rfl rfl) rfl (ld1 (P := Tryd.prog) (t := 4) (p := 5) (v := .bool (R.rose)) (by kernel_rfl) (by kernel_rfl) hb30 rfl) rfl ?_
    refine sq.c (v := .bool ((R.rose) != (R.rose))) (wantT (g := 7) (d := 66) rfl rfl rfl) rfl (boolNeq _ _) rfl ?_
    refine sq.c (v := .bool ((R.rose) != (R.rose))) rfl rfl rfl rfl ?_
    refine sq.c (v := .bool ((R.rose) != (R.rose))) rfl rfl rfl rfl ?_
    rcases Bool.eq_false_or_eq_true ((R.rose) != (R.rose)) with c12_12 | c12_12
    ·exfalso
     simp at c12_12
    ·rw [c12_12]
     refine sq.c (v := .pointer (some ⟨n35, 0, none⟩)) (wantT (g := 14) (d := 73) rfl rfl rfl) rfl (by kernel_rfl) rfl ?_
     refine sq.c (v := .agg #[.string (R.kb.ten), .string (R.kb.clu), .int .i64 (R.kb.epo), .slice a_y (os_y.length) c_y]) (wantT (g := 14) (d := 73) rfl rfl rfl) rfl (ldA (P := Tryd.prog) (t := 31) (p := 0) (k := 4) (xs := [.string (R.kb.ten), .string (R.kb.clu), .int .i64 (R.kb.epo), .slice a_y (os_y.length) c_y]) (by kernel_rfl) (by kernel_rfl) hb41 rfl (Nat.le_of_ble_eq_true rfl)) rfl ?_
     refine sq.c (v := .pointer (some ⟨n24, 0, none⟩)) (wantT (g := 14) (d := 73) rfl rfl rfl) rfl (by kernel_rfl) rfl ?_
     refine sq.c (v := .agg #[.string (R.kb.ten), .string (R.kb.clu), .int .i64 (R.kb.epo), .slice a_x (os_x.length) c_x]) (wantT (g := 14) (d := 73) rfl rfl rfl) rfl (ldA (P := Tryd.prog) (t := 31) (p := 0) (k := 4) (xs := [.string (R.kb.ten), .string (R.kb.clu), .int .i64 (R.kb.epo), .slice a_x (os_x.length) c_x]) (by kernel_rfl) (by kernel_rfl) hb30 rfl (Nat.le_of_ble_eq_true rfl)) rfl ?_
     refine sq.t (v := .bool (decide (R.kb.ten = R.kb.ten ∧ R.kb.clu = R.kb.clu ∧ (R.kb.epo : Int) = R.kb.epo ∧ R.kb.ser = R.kb.ser))) (wantT (g := 14) (d := 73) rfl rfl rfl) (CallsF.fn rfl (by kernel_rfl) rfl rfl) (fun hf => sameBat_spec R.kb.ten R.kb.clu R.kb.ten R.kb.clu R.kb.epo R.kb.epo _ _ R.kb.ser R.kb.ser W_y.is D_y.is W_x.is D_x.is (by rw [D_y.1]; exact Nat.lt_of_le_of_lt hkb.2.2.1 (by decide)) (fun s hs9 => ⟨Nat.lt_of_le_of_lt (hkb.2.2.2 s hs9).1 (by decide), Nat.lt_trans (hkb.2.2.2 s hs9).2.1 (by decide)⟩)) hf rfl ?_
     intro n45 hn2 hf
     have hn := Nat.le_trans hn hn2
     rcases Bool.eq_false_or_eq_true (decide (R.kb.ten = R.kb.ten ∧ R.kb.clu = R.kb.clu ∧ (R.kb.epo : Int) = R.kb.epo ∧ R.kb.ser = R.kb.ser)) with c12_19 | c12_19
     ·rw [c12_19]
      refine sq.c (v := .bool false) (wantT (g := 14) (d := 73) rfl rfl rfl) rfl rfl rfl ?_
      refine sq.c (v := .bool false) rfl rfl rfl rfl ?_
      refine sq.c (v := .bool false) rfl rfl rfl rfl ?_
      refine sq.c (v := .pointer (some ⟨bp, 0, none⟩)) (wantT (g := 22) (d := 81) rfl rfl rfl) rfl rfl rfl ?_
      refine sq.c (v := .pointer (some ⟨bq, 0, none⟩)) (wantT (g := 22) (d := 81) rfl rfl rfl) rfl rfl rfl ?_
      refine sq.t (v := .bool ((eqM R.F R.F && eqSt R.S R.S))) (wantT (g := 22) (d := 81) rfl rfl rfl) (CallsF.fn rfl (by kernel_rfl) rfl rfl) (fun hf => sameOn (⟨hb_bp, hf_x, hg_x, okF_x, okG_x, hSp, ne_fp_gp⟩ : At _ R.st _ _ _ _ G_x) (⟨hb_bq, hf_y, hg_y, okF_y, okG_y, hSq, ne_fq_gq⟩ : At _ R.st _ _ _ _ G_y) hPi2 hi61 hPi2 hi61) hf rfl ?_
      intro n46 hn2 hf
      have hn := Nat.le_trans hn hn2
      rcases Bool.eq_false_or_eq_true ((eqM R.F R.F && eqSt R.S R.S)) with c12_25 | c12_25
      ·rw [c12_25]
       refine sq.c (v := .bool false) (wantT (g := 22) (d := 81) rfl rfl rfl) rfl rfl rfl ?_
       refine sq.c (v := .bool false) rfl rfl rfl rfl ?_
       refine sq.e ?_
       refine AWp.condF rfl rfl ?_
       refine AWp.skip (AWp.rowV (l := _) pok ?_)
       refine sq.c (v := .int .i64 (i)) rfl rfl rfl rfl ?_
       refine sq.c (v := .int .i64 (i + 1)) rfl rfl (okI (wrap_i64 (by omega) (by omega))) rfl ?_
       refine sq.c (v := .int .i64 (i + 1)) rfl rfl rfl rfl ?_
       refine sq.e ?_
       
       refine ⟨_, _, rfl, (by omega), i + 1, R.st, G_x, G_y, rfl, hs, hn, hf, hb_bp, hf_x, hg_x, hSp, hb_bq, hf_y, hg_y, hSq, okF_x, okG_x, okF_y, okG_y, (by omega), (by omega), (by rw [show (i + 1).toNat = i.toNat + 1 by omega]; exact hPi2), (by rw [take_snoc hi0 hy_x22, runP_snoc, ← hP, ← hR]), getV [undef, undef, (y12 2), undef, undef, undef, .pointer (some ⟨n24, 0, none⟩), .int .i64 (R.e), .pointer (some ⟨n35, 0, none⟩), .int .i64 (0), undef, undef, undef, undef, undef, undef, undef, undef, undef, undef, undef, .int .i64 (i), .slice a (rs.length) cp, .int .i64 (((rs.length : Nat) : Int)), .bool true, .int .i64 (i), .int .i64 (i + 1), .tuple #[.agg #[.string (R.kb.ten), .string (R.kb.clu), .int .i64 (R.kb.epo), .slice a_x (os_x.length) c_x, .int .i64 (R.bad), .bool (R.rose)], .int .i64 (R.e)], .pointer (some ⟨bp, 0, none⟩), .slice a (rs.length) cp, .int .i64 (i), .pointer (some ⟨b15, o16, none⟩), .agg #[.string (y_x22.ten), .string (y_x22.clu), .int .i64 (y_x22.epo), .slice a_x22 (rs_x22.length) c_x22], .tuple #[.agg #[.string (R.kb.ten), .string (R.kb.clu), .int .i64 (R.kb.epo), .slice a_x (os_x.length) c_x, .int .i64 (R.bad), .bool (R.rose)], .int .i64 (R.e)], .agg #[.string (R.kb.ten), .string (R.kb.clu), .int .i64 (R.kb.epo), .slice a_x (os_x.length) c_x, .int .i64 (R.bad), .bool (R.rose)], .int .i64 (R.e), .int .i64 (R.e), .bool false, (y12 38), (y12 39), (y12 40), (y12 41), (y12 42), (y12 43), (y12 44), (y12 45), (y12 46), (y12 47), (y12 48), (y12 49), (y12 50), (y12 51), .tuple #[.agg #[.string (R.kb.ten), .string (R.kb.clu), .int .i64 (R.kb.epo), .slice a_y (os_y.length) c_y, .int .i64 (0), .bool (R.rose)], .int .i64 (0)], .pointer (some ⟨bq, 0, none⟩), .pointer (some ⟨n24, 0, none⟩), .agg #[.string (R.kb.ten), .string (R.kb.clu), .int .i64 (R.kb.epo), .slice a_x (os_x.length) c_x], .tuple #[.agg #[.string (R.kb.ten), .string (R.kb.clu), .int .i64 (R.kb.epo), .slice a_y (os_y.length) c_y, .int .i64 (0), .bool (R.rose)], .int .i64 (0)], .agg #[.string (R.kb.ten), .string (R.kb.clu), .int .i64 (R.kb.epo), .slice a_y (os_y.length) c_y, .int .i64 (0), .bool (R.rose)], .int .i64 (0), .int .i64 (0), .bool false, .bool false, .pointer (some ⟨n35, 4, none⟩), .int .i64 (0), .bool false, .bool false, .bool false, .pointer (some ⟨n35, 5, none⟩), .bool (R.rose), .pointer (some ⟨n24, 5, none⟩), .bool (R.rose), .bool false, .bool false, .bool false, .pointer (some ⟨n35, 0, none⟩), .agg #[.string (R.kb.ten), .string (R.kb.clu), .int .i64 (R.kb.epo), .slice a_y (os_y.length) c_y], .pointer (some ⟨n24, 0, none⟩), .agg #[.string (R.kb.ten), .string (R.kb.clu), .int .i64 (R.kb.epo), .slice a_x (os_x.length) c_x], .bool true, .bool false, .bool false, .bool false, .pointer (some ⟨bp, 0, none⟩), .pointer (some ⟨bq, 0, none⟩), .bool true, .bool false, .bool false], rfl⟩
      ·exfalso
       exact absurd (c12_25.symm.trans (same_refl hPi2)) Bool.false_ne_true
     ·exfalso
      simp at c12_19
   ·rw [decide_eq_false c8_1]
    refine AWp.condT rfl rfl ?_
    refine AWp.seq (AWp.seq (AWp.rowV (l := _) pok ?_))
    refine sq.c (v := .pointer (some ⟨n24, 4, none⟩)) rfl rfl (by kernel_rfl) rfl ?_
    refine sq.c (v := .int .i64 (R.bad)) rfl rfl (ld1 (P := Tryd.prog) (t := 3) (p := 4) (v := .int .i64 (R.bad)) (by kernel_rfl) (by kernel_rfl) hb30 rfl) rfl ?_
    refine sq.c (v := .bool (!decide (R.bad = (0 : Int)))) rfl rfl rfl rfl ?_
    refine sq.c (v := .bool (!decide (R.bad = (0 : Int)))) rfl rfl rfl rfl ?_
    by_cases c9_2 : R.bad = (0 : Int)
    ·rw [decide_eq_true c9_2]
     refine sq.c (v := .pointer (some ⟨n24, 5, none⟩)) (wantT (g := 3) (d := 41) rfl rfl rfl) rfl (by kernel_rfl) rfl ?_
     refine sq.c (v := .bool (R.rose)) (wantT (g := 3) (d := 41) rfl rfl rfl) rfl (ld1 (P := Tryd.prog) (t := 4) (p := 5) (v := .bool (R.rose)) (by kernel_rfl) (by kernel_rfl) hb30 rfl) rfl ?_
     refine sq.c (v := .bool (R.rose)) rfl rfl rfl rfl ?_
     refine sq.c (v := .bool (R.rose)) rfl rfl rfl rfl ?_
     rcases Bool.eq_false_or_eq_true (R.rose) with cr_x | cr_x
     ·exfalso
      rw [hR, (takeP_no (by rw [← hR]; exact c8_1)).2.1] at cr_x
      cases cr_x
     ·rw [cr_x]
      refine sq.c (v := .pointer (some ⟨n24, 0, none⟩)) (wantT (g := 7) (d := 45) rfl rfl rfl) rfl (by kernel_rfl) rfl ?_
      refine sq.c (v := .pointer (some ⟨n24, 3, none⟩)) (wantT (g := 7) (d := 45) rfl rfl rfl) rfl (by kernel_rfl) rfl ?_
      refine sq.c (v := .slice a_x (os_x.length) c_x) (wantT (g := 7) (d := 45) rfl rfl rfl) rfl (ld1 (P := Tryd.prog) (t := 29) (p := 3) (v := .slice a_x (os_x.length) c_x) (by kernel_rfl) (by kernel_rfl) hb30 rfl) rfl ?_
      refine sq.c (v := .int .i64 (((os_x.length : Nat) : Int))) (wantT (g := 7) (d := 45) rfl rfl rfl) rfl (by kernel_rfl) rfl ?_
      refine sq.c (v := .bool (decide ((0 : Int) < (((os_x.length : Nat) : Int))))) (wantT (g := 7) (d := 45) rfl rfl rfl) rfl rfl rfl ?_
      refine sq.c (v := .bool (decide ((0 : Int) < (((os_x.length : Nat) : Int))))) rfl rfl rfl rfl ?_
      refine sq.e ?_
      by_cases c9_12 : (0 : Int) < (((os_x.length : Nat) : Int))
      ·exfalso
       rw [D_x.1, hR, (takeP_no (by rw [← hR]; exact c8_1)).2.2.1] at c9_12
       simp at c9_12
      ·rw [decide_eq_false c9_12]
       refine AWp.condF rfl rfl ?_
       refine AWp.skip ?_
       refine AWp.exit ?_
       refine AWp.rowV (l := _) pok ?_
       refine sq.c (v := .int .i64 (i)) rfl rfl rfl rfl ?_
       refine sq.c (v := .int .i64 (i + 1)) rfl rfl (okI (wrap_i64 (by omega) (by omega))) rfl ?_
       refine sq.c (v := .int .i64 (i + 1)) rfl rfl rfl rfl ?_
       refine sq.e ?_
       have e0 : R.st = P := by rw [hR]; exact (takeP_no (by rw [← hR]; exact c8_1)).2.2.2
       have e1 : R.F = P.F := congrArg PSt.F e0
       have e2 : R.kf = P.kf := congrArg PSt.kf e0
       have e3 : R.S = P.S := congrArg PSt.S e0
       have e4 : R.kg = P.kg := congrArg PSt.kg e0
       rw [e1, e2] at hf_x okF_x
       rw [e4] at hg_x okG_x
       rw [e3] at hSp
       refine ⟨_, _, rfl, (by omega), i + 1, P, G_x, Gq, rfl, hs, hn, hf, hb_bp, hf_x, hg_x, hSp, hb_bq, hb_fq, hb_gq, hSq, okF_x, okG_x, okfq, okgq, (by omega), (by omega), (by rw [show (i + 1).toNat = i.toNat + 1 by omega, ← e0]; exact hPi2), (by rw [take_snoc hi0 hy_x22, runP_snoc, ← hP, ← hR, e0]), getV [undef, undef, (y12 2), undef, undef, undef, .pointer (some ⟨n24, 0, none⟩), .int .i64 (R.e), (y12 8), (y12 9), undef, undef, undef, undef, undef, undef, undef, undef, undef, undef, undef, .int .i64 (i), .slice a (rs.length) cp, .int .i64 (((rs.length : Nat) : Int)), .bool true, .int .i64 (i), .int .i64 (i + 1), .tuple #[.agg #[.string (R.kb.ten), .string (R.kb.clu), .int .i64 (R.kb.epo), .slice a_x (os_x.length) c_x, .int .i64 (R.bad), .bool false], .int .i64 (R.e)], .pointer (some ⟨bp, 0, none⟩), .slice a (rs.length) cp, .int .i64 (i), .pointer (some ⟨b15, o16, none⟩), .agg #[.string (y_x22.ten), .string (y_x22.clu), .int .i64 (y_x22.epo), .slice a_x22 (rs_x22.length) c_x22], .tuple #[.agg #[.string (R.kb.ten), .string (R.kb.clu), .int .i64 (R.kb.epo), .slice a_x (os_x.length) c_x, .int .i64 (R.bad), .bool false], .int .i64 (R.e)], .agg #[.string (R.kb.ten), .string (R.kb.clu), .int .i64 (R.kb.epo), .slice a_x (os_x.length) c_x, .int .i64 (R.bad), .bool false], .int .i64 (R.e), .int .i64 (R.e), .bool true, .pointer (some ⟨n24, 4, none⟩), .int .i64 (R.bad), .bool false, .bool false, .pointer (some ⟨n24, 5, none⟩), .bool false, .bool false, .bool false, .pointer (some ⟨n24, 0, none⟩), .pointer (some ⟨n24, 3, none⟩), .slice a_x (os_x.length) c_x, .int .i64 (((os_x.length : Nat) : Int)), .bool false, .bool false, (y12 52), (y12 53), (y12 54), (y12 55), (y12 56), (y12 57), (y12 58), (y12 59), (y12 60), (y12 61), (y12 62), (y12 63), (y12 64), (y12 65), (y12 66), (y12 67), (y12 68), (y12 69), (y12 70), (y12 71), (y12 72), (y12 73), (y12 74), (y12 75), (y12 76), (y12 77), (y12 78), (y12 79), (y12 80), (y12 81), (y12 82), (y12 83), (y12 84), (y12 85), (y12 86)], rfl⟩
    ·exfalso
     exact c9_2 (by rw [hR]; exact (takeP_no (by rw [← hR]; exact c8_1)).1)
  ·rw [decide_eq_false c5_3]
   refine AWp.condF rfl rfl ?_
   refine AWp.exit ?_
   refine AWp.seq (AWp.rowV (l := _) pok ?_)
   refine sq.c (v := .pointer (some ⟨bp, 0, none⟩)) rfl rfl rfl rfl ?_
   refine sq.k rfl (CallsF.fn rfl (by kernel_rfl) rfl rfl) (fencesOn (⟨hb_bp, hb_fp, hb_gp, okfp, okgp, hSp, ne_fp_gp⟩ : At _ P _ _ _ _ Gp) hPi hi60) ?_
   rintro v_e46 h47 n48 R_e46 s49 hn2 hf
   obtain ⟨a_e46, c_e46, e_e46⟩ := R_e46.slice
   subst e_e46
   change FRow encFen _ (.slice a_e46 (fencesV P.F).length c_e46) (fencesV P.F) at R_e46
   refine sq.w ?_
   have hSp := hSp.keep (.of0 s49)
   have hb_bp := s49.sub _ _ hb_bp
   have hb_fp := s49.sub _ _ hb_fp
   have hb_gp := s49.sub _ _ hb_gp
   have hs := hs.trans s49
   have hn := Nat.le_trans hn hn2
   refine sq.c (v := .pointer (some ⟨bp, 0, none⟩)) rfl rfl rfl rfl ?_
   refine sq.k rfl (CallsF.fn rfl (by kernel_rfl) rfl rfl) (allOn (⟨hb_bp, hb_fp, hb_gp, okfp, okgp, hSp, ne_fp_gp⟩ : At _ P _ _ _ _ Gp) hPi hi60) ?_
   rintro _ h50 n51 ⟨ro_o49, R_o49, D_o49⟩ s52 hn2 hf
   obtain ⟨a_o49, c_o49, rfl⟩ := R_o49.slice
   refine sq.w ?_
   have hSp := hSp.keep (.of0 s52)
   have R_e46 := R_e46.keep (.of0 s52)
   have hb_bp := s52.sub _ _ hb_bp
   have hb_fp := s52.sub _ _ hb_fp
   have hb_gp := s52.sub _ _ hb_gp
   have hs := hs.trans s52
   have hn := Nat.le_trans hn hn2
   change FOwns _ ro_o49 (allV P.S) at D_o49
   refine sq.k rfl (CallsF.fn rfl (by kernel_rfl) rfl rfl) (ofSelf (P := P) _ R_e46.is R_o49 D_o49 (hld.keep hs) hPi hi60) ?_
   rintro _ h53 n54 ⟨bu, fu, gu, Gu, Pu, rfl, hb_bu, hb_fu, hb_gu, okfu, okgu, hSu, y_bu, y_fu, y_gu, ne_fu_gu, hPu, hsu1, hsu2⟩ s55 hn2 hf
   change Apt fu gu at ne_fu_gu
   have ne_bu_fu : Apt bu fu := by intro e; rw [e] at hb_bu; rw [hb_bu] at hb_fu; cases hb_fu
   have ne_bu_gu : Apt bu gu := by intro e; rw [e] at hb_bu; rw [hb_bu] at hb_gu; cases hb_gu
   refine sq.w ?_
   have hSp := hSp.keep (.of0 s55)
   have hb_bp := s55.sub _ _ hb_bp
   have hb_fp := s55.sub _ _ hb_fp
   have hb_gp := s55.sub _ _ hb_gp
   have hs := hs.trans s55
   have hn := Nat.le_trans hn hn2
   refine sq.c (v := .tuple #[.pointer (some ⟨bu, 0, none⟩), .int .i64 (0)]) rfl rfl rfl rfl ?_
   refine sq.c (v := .pointer (some ⟨bu, 0, none⟩)) rfl rfl rfl rfl ?_
   refine sq.c (v := .int .i64 (0)) rfl rfl rfl rfl ?_
   refine sq.c (v := .pointer (some ⟨bu, 0, none⟩)) rfl rfl rfl rfl ?_
   refine sq.c (v := .int .i64 (0)) rfl rfl rfl rfl ?_
   refine sq.e (AWp.seq (AWp.rowV (l := _) pok ?_))
   refine sq.c (v := .int .i64 (0)) rfl rfl rfl rfl ?_
   refine sq.c (v := .bool true) rfl rfl rfl rfl ?_
   refine sq.c (v := .bool true) rfl rfl rfl rfl ?_
   refine sq.c (v := .pointer (some ⟨bu, 0, none⟩)) (wantT (g := 2) (d := 97) rfl rfl rfl) rfl rfl rfl ?_
   refine sq.c (v := .pointer (some ⟨bp, 0, none⟩)) (wantT (g := 2) (d := 97) rfl rfl rfl) rfl rfl rfl ?_
   refine sq.t (v := .bool ((eqM Pu.F P.F && eqSt Pu.S P.S))) (wantT (g := 2) (d := 97) rfl rfl rfl) (CallsF.fn rfl (by kernel_rfl) rfl rfl) (fun hf => sameOn (⟨hb_bu, hb_fu, hb_gu, okfu, okgu, hSu, ne_fu_gu⟩ : At _ Pu _ _ _ _ Gu) (⟨hb_bp, hb_fp, hb_gp, okfp, okgp, hSp, ne_fp_gp⟩ : At _ P _ _ _ _ Gp) hPu hi60 hPi hi60) hf rfl ?_
   intro n56 hn2 hf
   have hn := Nat.le_trans hn hn2
   refine sq.c (v := .bool ((eqM Pu.F P.F && eqSt Pu.S P.S))) rfl rfl rfl rfl ?_
   refine sq.c (v := .bool ((eqM Pu.F P.F && eqSt Pu.S P.S))) rfl rfl rfl rfl ?_
   rcases Bool.eq_false_or_eq_true ((eqM Pu.F P.F && eqSt Pu.S P.S)) with c15_5 | c15_5
   ·rw [c15_5]
    refine sq.c (v := .pointer (some ⟨bp, 0, none⟩)) (wantT (g := 7) (d := 102) rfl rfl rfl) rfl rfl rfl ?_
    refine sq.c (v := .pointer (some ⟨bu, 0, none⟩)) (wantT (g := 7) (d := 102) rfl rfl rfl) rfl rfl rfl ?_
    refine sq.t (v := .bool ((eqM P.F Pu.F && eqSt P.S Pu.S))) (wantT (g := 7) (d := 102) rfl rfl rfl) (CallsF.fn rfl (by kernel_rfl) rfl rfl) (fun hf => sameOn (⟨hb_bp, hb_fp, hb_gp, okfp, okgp, hSp, ne_fp_gp⟩ : At _ P _ _ _ _ Gp) (⟨hb_bu, hb_fu, hb_gu, okfu, okgu, hSu, ne_fu_gu⟩ : At _ Pu _ _ _ _ Gu) hPi hi60 hPu hi60) hf rfl ?_
    intro n57 hn2 hf
    have hn := Nat.le_trans hn hn2
    refine sq.c (v := .bool ((eqM P.F Pu.F && eqSt P.S Pu.S))) rfl rfl rfl rfl ?_
    refine sq.c (v := .bool ((eqM P.F Pu.F && eqSt P.S Pu.S))) rfl rfl rfl rfl ?_
    refine sq.e ?_
    refine AWp.ret ?_
    refine ⟨rfl, [.bool ((eqM P.F Pu.F && eqSt P.S Pu.S))], rfl, .bool ((eqM P.F Pu.F && eqSt P.S Pu.S)), rfl, hs, hn, ?_⟩
    exact congrArg Value.bool hsu2
   ·exfalso
    exact absurd (c15_5.symm.trans hsu1) Bool.false_ne_true
end Go.Proofs.YtkpaklofdkjinaaDoor
namespace Go.Proofs.YtkpaklofdkjinaaDoor
open Go Go.Abs Go.ChangeShapes Go.RowKit Go.WideShapes
set_option maxRecDepth 100000
set_option maxHeartbeats 1000000
theorem exists_list {α : Type} {Q : Nat → α → Prop} : ∀ (len : Nat), (∀ i, i < len → ∃ x, Q i x) → ∃ ls : List α, ls.length = len ∧ ∀ i x, ls[i]? = some x → Q i x := by
  intro len
  induction len with
  | zero => intro _; exact ⟨[], rfl, fun i x h => by simp at h⟩
  | succ len ih =>
    intro h
    obtain ⟨ls, hl, hq⟩ := ih fun i hi => h i (by omega)
    obtain ⟨x, hx⟩ := h len (by omega)
    refine ⟨ls ++ [x], by simp [hl], fun i y hy => ?_⟩
    by_cases hi : i < ls.length
    · rw [List.getElem?_append_left hi] at hy; exact hq i y hy
    · rw [List.getElem?_append_right (by omega)] at hy
      have : i - ls.length = 0 := by
        cases hc : i - ls.length with
        | zero => rfl
        | succ k => rw [hc] at hy; simp at hy
      rw [this] at hy
      simp at hy
      subst hy
      rw [show i = len by omega]
      exact hx
theorem choose_list {β γ : Type} {O : β → γ → Prop} {bs : List β} (h : ∀ b ∈ bs, ∃ c, O b c) : ∃ cs : List γ, cs.length = bs.length ∧ ∀ (i : Nat) b c, bs[i]? = some b → cs[i]? = some c → O b c := by
  obtain ⟨cs, hl, hq⟩ := exists_list (Q := fun i c => ∀ b, bs[i]? = some b → O b c) bs.length fun i hi => by
    obtain ⟨c, hc⟩ := h _ (List.getElem_mem hi)
    refine ⟨c, fun b hb => ?_⟩
    rw [List.getElem?_eq_getElem hi] at hb
    cases hb; exact hc
  exact ⟨cs, hl, fun i b c hb hc => hq i c hc b hb⟩
theorem row_cell {α : Type} (E : Enc α) {xs : List α} {i : Nat} {y : Value} (h : (E.row xs)[i]? = some y) : ∃ x, xs[i / E.k]? = some x ∧ (E.cells x)[i % E.k]? = some y ∧ i / E.k < xs.length := by
  have hi := (List.getElem?_eq_some_iff.1 h).1
  rw [E.row_length] at hi
  have hq : i / E.k < xs.length := by rw [Nat.div_lt_iff_lt_mul E.pos, Nat.mul_comm]; exact hi
  refine ⟨xs[i / E.k], List.getElem?_eq_getElem hq, ?_, hq⟩
  have hr : i % E.k < (E.cells xs[i / E.k]).length := by rw [E.len]; exact Nat.mod_lt _ E.pos
  have e := E.row_get xs (i / E.k) _ (List.getElem?_eq_getElem hq) (i % E.k) _ (List.getElem?_eq_getElem hr)
  rw [Nat.div_add_mod] at e
  rw [h] at e
  rw [List.getElem?_eq_getElem hr]
  exact e.symm
def OSl {α : Type} (E : Enc α) (W : World) (v : Value) (ls : List α) : Prop :=
  (v = .slice none 0 0 ∧ ls = []) ∨ (∃ a, v = .slice (some a) 0 0 ∧ ls = []) ∨
  ∃ (bk off cap : Nat) (c : Array Value) (el : TypeId) (fr : Nat × Nat), v = .slice (some ⟨bk, off, none⟩) ls.length cap ∧ ls.length ≤ cap ∧ cap ≤ maxLen ∧ W.heap[bk]? = some (.cells c el fr) ∧ off + E.k * ls.length ≤ c.size ∧ ∀ i y, (E.row ls)[i]? = some y → c[off + i]? = some y
theorem cell_at {W : World} {a : Addr} {z : Value} (h : W.cell? a = some z) : ∃ bk off c el fr, a = ⟨bk, off, none⟩ ∧ W.heap[bk]? = some (.cells c el fr) ∧ off < c.size := by
  have hs := World.cell?_spot h
  obtain ⟨bk, off, sp⟩ := a
  simp only at hs
  subst hs
  unfold World.cell? at h
  split at h
  · rename_i c el fr hh
    simp at h
    exact ⟨bk, off, c, el, fr, rfl, hh, (Array.getElem?_eq_some_iff.1 h).1⟩
  · cases h
theorem cells_at {W : World} {base n : Nat} {a : Addr} {cs : List Value} (h : W.cells? base a n = some cs) : ∀ j, j < n → ∃ z, cs[j]? = some z ∧ W.cell? (a.add j) = some z := by
  intro j hj
  unfold World.cells? at h
  split at h
  · exact Lib.mapM_at h j j (by rw [List.getElem?_range hj])
  · cases h
theorem open_sl {α : Type} {E : Enc α} {Q : α → Prop} {H : Type} {enc : TypeId × Value → H} {W : World} {base : Nat} {held : Bool} {t e : TypeId} (ut : Tryd.prog.underlying t = some (.slice e)) (hk : Tryd.prog.cellsOf e = E.k)
    (one : ∀ {n : Nat} {cs : List Value} {x : DataW H × List MemPlace}, DataW.trod enc Tryd.prog W base (fun _ => true) held n e cs = some x → ∃ a : α, cs = E.cells a ∧ Q a)
    {fuel : Nat} {v : Value} {x : DataW H × List MemPlace} (h : DataW.trod enc Tryd.prog W base (fun _ => true) held fuel t [v] = some x) : ∃ ls, OSl E W v ls ∧ ∀ a ∈ ls, Q a := by
  rcases DataW.trod_slice ut h with ⟨h1, _⟩ | ⟨a, len, cap, elems, rest, n, rfl, h1, _, _, hl, hm, hlen, hel, hr, _⟩
  · cases h1
    exact ⟨[], .inl ⟨rfl, rfl⟩, fun a ha => by cases ha⟩
  · cases h1
    by_cases hc : cap = 0
    · have h0 : len = 0 := by omega
      subst hc; subst h0
      exact ⟨[], .inr (.inl ⟨a, rfl, rfl⟩), fun a ha => by cases ha⟩
    · rw [hk] at hel
      obtain ⟨hr1, hr2⟩ := hr rfl
      rw [hk] at hr2
      have hkp := E.pos
      have add0 : a.add 0 = a := by unfold Addr.add; rfl
      have key : ∃ z, W.cell? a = some z := by
        by_cases h0 : len = 0
        · have e1 := hr2 0 (by omega)
          obtain ⟨y, hy⟩ : ∃ y, rest[0]? = some y := ⟨rest[0]'(by omega), List.getElem?_eq_getElem _⟩
          rw [hy, Option.bind_eq_some_iff] at e1
          obtain ⟨cs, hcs, _⟩ := e1
          obtain ⟨z, _, hz⟩ := cells_at hcs 0 hkp
          rw [h0, Nat.zero_add, Nat.zero_mul, add0, add0] at hz
          exact ⟨z, hz⟩
        · have e1 := hel 0 (by omega)
          obtain ⟨y, hy⟩ : ∃ y, elems[0]? = some y := ⟨elems[0]'(by omega), List.getElem?_eq_getElem _⟩
          rw [hy, Option.bind_eq_some_iff] at e1
          obtain ⟨cs, hcs, _⟩ := e1
          obtain ⟨z, _, hz⟩ := cells_at hcs 0 hkp
          rw [Nat.zero_mul, add0, add0] at hz
          exact ⟨z, hz⟩
      obtain ⟨z, hz⟩ := key
      obtain ⟨bk, off, c, el, fr, rfl, hheap, hoff⟩ := cell_at hz
      have hcell : ∀ i, i < len → ∃ x : α, Q x ∧ ∀ j y, (E.cells x)[j]? = some y → c[off + (E.k * i + j)]? = some y := by
        intro i hi
        have h2 := hel i hi
        obtain ⟨y, hy⟩ : ∃ y, elems[i]? = some y := ⟨elems[i]'(by omega), List.getElem?_eq_getElem _⟩
        rw [hy, Option.bind_eq_some_iff] at h2
        obtain ⟨cs, hcs, htr⟩ := h2
        obtain ⟨x, rfl, hx⟩ := one htr
        refine ⟨x, hx, fun j y hj => ?_⟩
        have hjl : j < E.k := by have := (List.getElem?_eq_some_iff.1 hj).1; rw [E.len] at this; exact this
        obtain ⟨z, f0, g0⟩ := cells_at hcs j hjl
        rw [hj] at f0
        cases f0
        rw [Addr.add_plain, Addr.add_plain, cell_of_block hheap] at g0
        rw [← g0]; congr 1; rw [Nat.mul_comm]; omega
      obtain ⟨ls, hll, hq⟩ := exists_list len hcell
      subst hll
      have hcells : ∀ i y, (E.row ls)[i]? = some y → c[off + i]? = some y := by
        intro i y hy
        obtain ⟨x, hx, hj, _⟩ := row_cell E hy
        have := (hq _ _ hx).2 _ _ hj
        rw [Nat.div_add_mod] at this
        exact this
      refine ⟨ls, .inr (.inr ⟨bk, off, cap, c, el, fr, rfl, hl, hm, hheap, ?_, hcells⟩), fun x hx => ?_⟩
      · rcases Nat.eq_zero_or_pos (E.k * ls.length) with h0 | h0
        · omega
        · have hlt : E.k * ls.length - 1 < (E.row ls).length := by rw [E.row_length]; omega
          have := hcells _ _ (List.getElem?_eq_getElem hlt)
          have := (Array.getElem?_eq_some_iff.1 this).1
          omega
      · obtain ⟨i, hi⟩ := List.getElem?_of_mem hx
        exact (hq i x hi).1
theorem add_sl {α β : Type} (E : Enc α) (E' : Enc β) (hkk : E.k = E'.k) {μ : Mu} {h : Heap} {n : Nat} {W : World} {v : Value} {ws : List β} (hr : Rel Tryd.prog μ h n W) (ro : ∀ b o, h.get b = some o → o.excl = false) (o : OSl E' W v ws)
    {xs : List α} (hlen : xs.length = ws.length) (hrel : ∀ (i : Nat) y y', (E.row xs)[i]? = some y → (E'.row ws)[i]? = some y' → VRel μ y y') :
    ∃ (μ' : Mu) (h' : Heap) (n' : Nat) (a : Option Addr) (cp : Nat), Rel Tryd.prog μ' h' n' W ∧ (∀ b o, h'.get b = some o → o.excl = false) ∧ h.sub h' ∧ μ.le μ' ∧ VRel μ' (.slice a xs.length cp) v ∧ FRow E h' (.slice a xs.length cp) xs ∧ xs.length < 9223372036854775808 ∧ xs.length ≤ cp ∧ cp < U := by
  rcases o with ⟨rfl, rfl⟩ | ⟨a, rfl, rfl⟩ | ⟨bk, off, cap, c, el, fr, rfl, hlc, hcm, hb, hoff, hcells⟩
  · obtain rfl : xs = [] := List.eq_nil_of_length_eq_zero hlen
    exact ⟨μ, h, n, none, 0, hr, ro, Heap.sub_refl _, μ.le_refl, .snil, .nil, by simp, by simp, by decide⟩
  · obtain rfl : xs = [] := List.eq_nil_of_length_eq_zero hlen
    exact ⟨μ, h, n, some ⟨0, 0, none⟩, 0, hr, ro, Heap.sub_refl _, μ.le_refl, .szero _ _ _, .inl ⟨rfl, .inr ⟨0, 0, 0, rfl⟩⟩, by simp, by simp, by decide⟩
  · have hl1 : (E.row xs).length = E'.k * ws.length := by rw [E.row_length, hkk, hlen]
    have hle : μ.le (μ.set n ⟨bk, off, c.size, 0⟩) := by
      intro b m hbm
      unfold Mu.set
      by_cases e : b = n
      · subst e; rw [hr.bound _ (Nat.le_refl _)] at hbm; cases hbm
      · simp [e, hbm]
    obtain ⟨hr1, ro1⟩ := hr.addRO ro (o := .cells (E.row xs) false ⟨el, 0, false⟩) (x := .cells c el fr) (m := ⟨bk, off, c.size, 0⟩) rfl hb
      ⟨rfl, by rw [hl1]; exact hoff, fun i y hy => by
        have hi : i < (E'.row ws).length := by rw [E'.row_length, ← hl1]; exact (List.getElem?_eq_some_iff.1 hy).1
        exact ⟨(E'.row ws)[i], hcells _ _ (List.getElem?_eq_getElem hi), (hrel i y _ hy (List.getElem?_eq_getElem hi)).mono hle⟩, by simp, rfl, rfl, by simp⟩
    have hmax : maxLen < U := by decide
    have hm : xs.length < 9223372036854775808 := by rw [hlen]; exact Nat.lt_of_le_of_lt (Nat.le_trans hlc hcm) (by decide)
    have hf : Free h n := fun b hb => hr.below hb
    refine ⟨_, _, _, some ⟨n, 0, none⟩, cap, hr1, ro1, sub_alloc hf, hle, ?_, ?_, hm, by rw [hlen]; exact hlc, Nat.lt_of_le_of_lt hcm hmax⟩
    · rw [hlen]
      exact VRel.slice (b := n) 0 ws.length cap cap (Mu.set_same _ _ _) (.inl ⟨by omega, rfl⟩)
    · refine .inr ⟨n, 0, cap, _, ⟨el, 0, false⟩, rfl, by rw [hlen]; exact hlc, Trie.get_set_same _ _ _, ?_, ?_⟩
      · rw [List.drop_zero, ← E.row_length, List.take_length]
      · rw [E.row_length]; omega
theorem row_rel {α β : Type} (E : Enc α) (E' : Enc β) (hkk : E.k = E'.k) {μ : Mu} {xs : List α} {ws : List β} (h : ∀ (i : Nat) a b, xs[i]? = some a → ws[i]? = some b → ∀ (j : Nat) y y', (E.cells a)[j]? = some y → (E'.cells b)[j]? = some y' → VRel μ y y') :
    ∀ (i : Nat) y y', (E.row xs)[i]? = some y → (E'.row ws)[i]? = some y' → VRel μ y y' := fun i y y' hy hy' => by
  obtain ⟨x, hx, hj, _⟩ := row_cell E hy
  obtain ⟨w, hw, hj', _⟩ := row_cell E' hy'
  rw [hkk] at hx hj
  exact h _ _ _ hx hw _ _ _ hj hj'
theorem row_flat {α : Type} (E : Enc α) (hfl : ∀ x, ((E.cells x).all flat) = true) {μ : Mu} {xs : List α} : ∀ (i : Nat) y y', (E.row xs)[i]? = some y → (E.row xs)[i]? = some y' → VRel μ y y' := fun i y y' hy hy' => by
  rw [hy] at hy'
  cases hy'
  obtain ⟨x, _, hj, _⟩ := row_cell E hy
  exact .flat_self (List.all_eq_true.1 (hfl x) y (List.mem_of_getElem? hj))
theorem add_list {β γ α : Type} {W : World} (O : β → γ → Prop) (R : Mu → α → β → Prop) (Fa : Heap → α → γ → Prop) (hRm : ∀ μ μ' a b, μ.le μ' → R μ a b → R μ' a b) (hFm : ∀ (h h' : Heap) a c, h.sub h' → Fa h a c → Fa h' a c)
    (one : ∀ (μ : Mu) (h : Heap) (n : Nat) b c, Rel Tryd.prog μ h n W → (∀ b o, h.get b = some o → o.excl = false) → O b c → ∃ (μ' : Mu) (h' : Heap) (n' : Nat) (a : α), Rel Tryd.prog μ' h' n' W ∧ (∀ b o, h'.get b = some o → o.excl = false) ∧ h.sub h' ∧ μ.le μ' ∧ R μ' a b ∧ Fa h' a c) :
    ∀ (bs : List β) (cs : List γ) (μ : Mu) (h : Heap) (n : Nat), cs.length = bs.length → (∀ (i : Nat) b c, bs[i]? = some b → cs[i]? = some c → O b c) → Rel Tryd.prog μ h n W → (∀ b o, h.get b = some o → o.excl = false) →
      ∃ (μ' : Mu) (h' : Heap) (n' : Nat) (az : List α), Rel Tryd.prog μ' h' n' W ∧ (∀ b o, h'.get b = some o → o.excl = false) ∧ h.sub h' ∧ μ.le μ' ∧ az.length = bs.length ∧ (∀ (i : Nat) a b, az[i]? = some a → bs[i]? = some b → R μ' a b) ∧ (∀ (i : Nat) a c, az[i]? = some a → cs[i]? = some c → Fa h' a c) := by
  intro bs
  induction bs with
  | nil =>
    intro cs μ h n hl hO hr ro
    exact ⟨μ, h, n, [], hr, ro, Heap.sub_refl _, μ.le_refl, rfl, (fun i a b ha => by simp at ha), (fun i a b ha => by simp at ha)⟩
  | cons b bs ih =>
    intro cs μ h n hl hO hr ro
    cases cs with
    | nil => simp at hl
    | cons c cs =>
      obtain ⟨m1, k1, n1, a, r1, ro1, s1, l1, x1, y1⟩ := one μ h n b c hr ro (hO 0 b c rfl rfl)
      obtain ⟨m2, k2, n2, az, r2, ro2, s2, l2, e2, x2, y2⟩ := ih cs m1 k1 n1 (by simpa using hl) (fun i b c hb hc => hO (i + 1) b c (by simpa using hb) (by simpa using hc)) r1 ro1
      refine ⟨m2, k2, n2, a :: az, r2, ro2, Heap.sub_trans s1 s2, Mu.le_trans l1 l2, by simp [e2], fun i a' b' ha hb => ?_, fun i a' c' ha hc => ?_⟩
      · cases i with
        | zero => simp at ha hb; subst ha; subst hb; exact hRm _ _ _ _ l2 x1
        | succ i => exact x2 i a' b' (by simpa using ha) (by simpa using hb)
      · cases i with
        | zero => simp at ha hc; subst ha; subst hc; exact hFm _ _ _ _ s2 y1
        | succ i => exact y2 i a' c' (by simpa using ha) (by simpa using hc)
/-! Series, batches. -/
def OSer (W : World) (r : RSer) (s : Ser) : Prop := OSl encLab W r.1 s.1 ∧ OSl encSmp W r.2 s.2
def OSers (W : World) (v : Value) (ss : List Ser) : Prop := ∃ ws, OSl encSer W v ws ∧ ss.length = ws.length ∧ ∀ (i : Nat) r s, ws[i]? = some r → ss[i]? = some s → OSer W r s
def OBat (W : World) (r : RBat) (b : Bat) : Prop := r.ten = b.ten ∧ r.clu = b.clu ∧ r.epo = b.epo ∧ OSers W r.ser b.ser
def OBats (W : World) (v : Value) (bs : List Bat) : Prop := ∃ ws, OSl encBat W v ws ∧ bs.length = ws.length ∧ ∀ (i : Nat) r b, ws[i]? = some r → bs[i]? = some b → OBat W r b
section
variable {H : Type} {enc : TypeId × Value → H} {W : World} {base : Nat} {held : Bool}
theorem ut_str : Tryd.prog.underlying 9 = some .string := by kernel_rfl
theorem open_lab {n : Nat} {cs : List Value} {x : DataW H × List MemPlace} (h : DataW.trod enc Tryd.prog W base (fun _ => true) held n 61 cs = some x) : ∃ a : Lab, cs = encLab.cells a ∧ True := by
  obtain ⟨y0, y1, n, _, hl, h0, h1⟩ := trod_struct2 Tryd.underlying61 h
  rw [show Tryd.prog.cellsOf 61 = 2 by kernel_rfl] at hl
  match cs, hl with
  | [a, b], _ =>
    obtain ⟨s, hs, _⟩ := DataW.trod_string ut_str h0
    obtain ⟨t, ht, _⟩ := DataW.trod_string ut_str h1
    rw [show Tryd.prog.cellsOf 9 = 1 by kernel_rfl] at hs ht
    have hs' : [a] = [Value.string s] := hs
    have ht' : [b] = [Value.string t] := ht
    cases hs'; cases ht'
    exact ⟨(s, t), rfl, trivial⟩
theorem open_smp {n : Nat} {cs : List Value} {x : DataW H × List MemPlace} (h : DataW.trod enc Tryd.prog W base (fun _ => true) held n 53 cs = some x) : ∃ a : Samp, cs = encSmp.cells a ∧ True := by
  obtain ⟨y0, y1, n, _, hl, h0, h1⟩ := trod_struct2 Tryd.underlying53 h
  rw [show Tryd.prog.cellsOf 53 = 2 by kernel_rfl] at hl
  match cs, hl with
  | [a, b], _ =>
    obtain ⟨s, hs, _⟩ := DataW.trod_int (k := .i64) (by kernel_rfl) h0
    obtain ⟨t, ht, _⟩ := DataW.trod_int (k := .u64) (by kernel_rfl) h1
    rw [show Tryd.prog.cellsOf 2 = 1 by kernel_rfl] at hs
    rw [show Tryd.prog.cellsOf 51 = 1 by kernel_rfl] at ht
    have hs' : [a] = [Value.int .i64 s] := hs
    have ht' : [b] = [Value.int .u64 t] := ht
    cases hs'; cases ht'
    exact ⟨(s, t), rfl, trivial⟩
theorem open_ser {n : Nat} {cs : List Value} {x : DataW H × List MemPlace} (h : DataW.trod enc Tryd.prog W base (fun _ => true) held n 43 cs = some x) : ∃ a : RSer, cs = encSer.cells a ∧ ∃ s : Ser, OSer W a s := by
  obtain ⟨y0, y1, n, _, hl, h0, h1⟩ := trod_struct2 Tryd.underlying43 h
  rw [show Tryd.prog.cellsOf 43 = 2 by kernel_rfl] at hl
  match cs, hl with
  | [a, b], _ =>
    rw [show Tryd.prog.cellsOf 40 = 1 by kernel_rfl] at h0
    rw [show Tryd.prog.cellsOf 41 = 1 by kernel_rfl] at h1
    obtain ⟨ls, o1, _⟩ := open_sl (E := encLab) (Q := fun _ => True) Tryd.underlying40 (by kernel_rfl) open_lab (v := a) h0
    obtain ⟨xs, o2, _⟩ := open_sl (E := encSmp) (Q := fun _ => True) Tryd.underlying41 (by kernel_rfl) open_smp (v := b) h1
    exact ⟨(a, b), rfl, (ls, xs), o1, o2⟩
theorem open_sers {n : Nat} {v : Value} {x : DataW H × List MemPlace} (h : DataW.trod enc Tryd.prog W base (fun _ => true) held n 29 [v] = some x) : ∃ ss, OSers W v ss := by
  obtain ⟨ws, o, q⟩ := open_sl (E := encSer) (Q := fun a => ∃ s, OSer W a s) Tryd.underlying29 (by kernel_rfl) open_ser h
  obtain ⟨ss, hl, hq⟩ := choose_list q
  exact ⟨ss, ws, o, hl, hq⟩
theorem open_bat {n : Nat} {cs : List Value} {x : DataW H × List MemPlace} (h : DataW.trod enc Tryd.prog W base (fun _ => true) held n 31 cs = some x) : ∃ a : RBat, cs = encBat.cells a ∧ ∃ b : Bat, OBat W a b := by
  obtain ⟨xs, n, _, _, hl, hxl, hall⟩ := DataW.trod_struct Tryd.underlying31 h
  rw [show Tryd.prog.cellsOf 31 = 4 by kernel_rfl] at hl
  match cs, hl, xs, hxl with
  | [a, b, c, d], _, [y0, y1, y2, y3], _ =>
    have h0 := hall 0 _ rfl
    have h1 := hall 1 _ rfl
    have h2 := hall 2 _ rfl
    have h3 := hall 3 _ rfl
    have k0 : DataW.trod enc Tryd.prog W base (fun _ => true) held n 9 (([a, b, c, d].drop 0).take (Tryd.prog.cellsOf 9)) = some y0 := h0
    have k1 : DataW.trod enc Tryd.prog W base (fun _ => true) held n 9 (([a, b, c, d].drop 1).take (Tryd.prog.cellsOf 9)) = some y1 := h1
    have k2 : DataW.trod enc Tryd.prog W base (fun _ => true) held n 2 (([a, b, c, d].drop 2).take (Tryd.prog.cellsOf 2)) = some y2 := h2
    have k3 : DataW.trod enc Tryd.prog W base (fun _ => true) held n 29 (([a, b, c, d].drop 3).take (Tryd.prog.cellsOf 29)) = some y3 := h3
    rw [show Tryd.prog.cellsOf 9 = 1 by kernel_rfl] at k0 k1
    rw [show Tryd.prog.cellsOf 2 = 1 by kernel_rfl] at k2
    rw [show Tryd.prog.cellsOf 29 = 1 by kernel_rfl] at k3
    obtain ⟨s, hs, _⟩ := DataW.trod_string ut_str k0
    obtain ⟨t, ht, _⟩ := DataW.trod_string ut_str k1
    obtain ⟨e, he, _⟩ := DataW.trod_int (k := .i64) (by kernel_rfl) k2
    obtain ⟨ss, o⟩ := open_sers (v := d) k3
    have hs' : [a] = [Value.string s] := hs
    have ht' : [b] = [Value.string t] := ht
    have he' : [c] = [Value.int .i64 e] := he
    cases hs'; cases ht'; cases he'
    exact ⟨⟨s, t, e, d⟩, rfl, ⟨s, t, e, ss⟩, rfl, rfl, rfl, o⟩
theorem open_bats {n : Nat} {v : Value} {x : DataW H × List MemPlace} (h : DataW.trod enc Tryd.prog W base (fun _ => true) held n 22 [v] = some x) : ∃ bs, OBats W v bs := by
  obtain ⟨ws, o, q⟩ := open_sl (E := encBat) (Q := fun a => ∃ b, OBat W a b) Tryd.underlying22 (by kernel_rfl) open_bat h
  obtain ⟨bs, hl, hq⟩ := choose_list q
  exact ⟨bs, ws, o, hl, hq⟩
end
theorem flat_lab (x : Lab) : ((encLab.cells x).all flat) = true := by
  simp only [encLab, List.all_cons, List.all_nil, Bool.and_true, Bool.and_eq_true]
  exact ⟨rfl, rfl⟩
theorem flat_smp (x : Samp) : ((encSmp.cells x).all flat) = true := by
  simp only [encSmp, List.all_cons, List.all_nil, Bool.and_true, Bool.and_eq_true]
  exact ⟨rfl, rfl⟩
section
variable {μ : Mu} {h : Heap} {n : Nat} {W : World} {v : Value}
theorem add_sers (hr : Rel Tryd.prog μ h n W) (ro : ∀ b o, h.get b = some o → o.excl = false) {ss : List Ser} (o : OSers W v ss) :
    ∃ (μ' : Mu) (h' : Heap) (n' : Nat) (a : Option Addr) (cp : Nat) (rs : List RSer), Rel Tryd.prog μ' h' n' W ∧ (∀ b o, h'.get b = some o → o.excl = false) ∧ h.sub h' ∧ μ.le μ' ∧ VRel μ' (.slice a rs.length cp) v ∧ FRow encSer h' (.slice a rs.length cp) rs ∧ FSers h' rs ss ∧ rs.length < 9223372036854775808 := by
  obtain ⟨ws, o1, hl, hO⟩ := o
  obtain ⟨m1, k1, n1, az, r1, ro1, s1, l1, e1, x1, y1⟩ := add_list (α := RSer) (W := W) (OSer W) (fun μ (a : RSer) (b : RSer) => VRel μ a.1 b.1 ∧ VRel μ a.2 b.2) FSer (fun μ μ' a b l q => ⟨q.1.mono l, q.2.mono l⟩) (fun h h' a c s q => q.keep (.sub s)) (fun μ h n b c hr ro q => by
    obtain ⟨m1, k1, n1, a1, p1, r1, ro1, s1, l1, x1, y1, _⟩ := add_sl encLab encLab rfl hr ro q.1 rfl (row_flat encLab flat_lab)
    obtain ⟨m2, k2, n2, a2, p2, r2, ro2, s2, l2, x2, y2, _⟩ := add_sl encSmp encSmp rfl r1 ro1 q.2 rfl (row_flat encSmp flat_smp)
    exact ⟨m2, k2, n2, (.slice a1 c.1.length p1, .slice a2 c.2.length p2), r2, ro2, Heap.sub_trans s1 s2, Mu.le_trans l1 l2, ⟨x1.mono l2, x2⟩, y1.keep (.sub s2), y2⟩) ws ss μ h n hl hO hr ro
  obtain ⟨m2, k2, n2, a, cp, r2, ro2, s2, l2, x2, y2, z2, _⟩ := add_sl encSer encSer rfl r1 ro1 o1 e1 (row_rel encSer encSer rfl fun i a b ha hb j y y' hy hy' => by
    have q := x1 i a b ha hb
    match j, hy, hy' with
    | 0, hy, hy' => cases hy; cases hy'; exact q.1
    | 1, hy, hy' => cases hy; cases hy'; exact q.2
    | j + 2, hy, _ => simp [encSer] at hy)
  exact ⟨m2, k2, n2, a, cp, az, r2, ro2, Heap.sub_trans s1 s2, Mu.le_trans l1 l2, x2, y2, ⟨by rw [e1, hl], fun i r s a b => (y1 i r s a b).keep (.sub s2)⟩, z2⟩
theorem add_bats (hr : Rel Tryd.prog μ h n W) (ro : ∀ b o, h.get b = some o → o.excl = false) {bs : List Bat} (o : OBats W v bs) :
    ∃ (μ' : Mu) (h' : Heap) (n' : Nat) (a : Option Addr) (cp : Nat) (rs : List RBat), Rel Tryd.prog μ' h' n' W ∧ (∀ b o, h'.get b = some o → o.excl = false) ∧ h.sub h' ∧ μ.le μ' ∧ VRel μ' (.slice a rs.length cp) v ∧ FRow encBat h' (.slice a rs.length cp) rs ∧ FBats h' rs bs ∧ rs.length < 9223372036854775808 := by
  obtain ⟨ws, o1, hl, hO⟩ := o
  obtain ⟨m1, k1, n1, az, r1, ro1, s1, l1, e1, x1, y1⟩ := add_list (α := RBat) (W := W) (OBat W) (fun μ (a : RBat) (b : RBat) => a.ten = b.ten ∧ a.clu = b.clu ∧ a.epo = b.epo ∧ VRel μ a.ser b.ser) FBat (fun μ μ' a b l q => ⟨q.1, q.2.1, q.2.2.1, q.2.2.2.mono l⟩) (fun h h' a c s q => q.keep (.sub s)) (fun μ h n b c hr ro q => by
    obtain ⟨m1, k1, n1, a1, p1, rs, r1, ro1, s1, l1, x1, y1, z1, _⟩ := add_sers hr ro q.2.2.2
    exact ⟨m1, k1, n1, ⟨b.ten, b.clu, b.epo, .slice a1 rs.length p1⟩, r1, ro1, s1, l1, ⟨rfl, rfl, rfl, x1⟩, q.1, q.2.1, q.2.2.1, rs, y1, z1⟩) ws bs μ h n hl hO hr ro
  obtain ⟨m2, k2, n2, a, cp, r2, ro2, s2, l2, x2, y2, z2, _⟩ := add_sl encBat encBat rfl r1 ro1 o1 e1 (row_rel encBat encBat rfl fun i a b ha hb j y y' hy hy' => by
    obtain ⟨q1, q2, q3, q4⟩ := x1 i a b ha hb
    match j, hy, hy' with
    | 0, hy, hy' => cases hy; cases hy'; rw [q1]; exact .string _
    | 1, hy, hy' => cases hy; cases hy'; rw [q2]; exact .string _
    | 2, hy, hy' => cases hy; cases hy'; rw [q3]; exact .int _ _
    | 3, hy, hy' => cases hy; cases hy'; exact q4
    | j + 4, hy, _ => simp [encBat] at hy)
  exact ⟨m2, k2, n2, a, cp, az, r2, ro2, Heap.sub_trans s1 s2, Mu.le_trans l1 l2, x2, y2, ⟨by rw [e1, hl], fun i r s a b => (y1 i r s a b).keep (.sub s2)⟩, z2⟩
end
theorem law_calls {W : World} {f : FuncId} {args args' : Array Value} {μ : Mu} {h : Heap} {n : Nat} (ro : ∀ b o, h.get b = some o → o.excl = false) (hr : Rel Tryd.prog μ h n W) (ha : ARel μ args args') (c : Tells Tryd.prog f args.toList h n (.bool true)) :
    Calls Tryd.prog f args' W fun e W' => e = .returned (.bool true) ∧ Below W.heap.size W W' :=
  calls_of_acall ro hr ha rfl (ACall.mono c fun _ h' _ _ _ ⟨e, _, _⟩ => ⟨h', Heap.sub_refl _, e⟩)
end Go.Proofs.YtkpaklofdkjinaaDoor
