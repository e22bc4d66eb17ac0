/- texts of the claim, part 8: FenT14 FenOpn. -/
import Derived.Test.YtkpaklofdkjinaaDoorPn7
import Derived.SevenTiedAt
import Derived.ChangeSame
set_option linter.unusedVariables false
set_option linter.unusedSimpArgs false
set_option linter.unusedSectionVars false
namespace Go.Proofs.YtkpaklofdkjinaaDoor
open Go Go.Abs Go.RowKit Go.Shelf
set_option maxRecDepth 100000
set_option maxHeartbeats 8000000
theorem ofBad {h : Heap} {n : Nat} {a a2 : Option Addr} {l l2 cp cp2 : Nat} (fs : List Fen) (rs : List ROwn) (os : List POwn) (hr : IsRow encFen h (.slice a l cp) fs) (ho : IsRow encOwn h (.slice a2 l2 cp2) rs) (hd : IOwns h rs os) (hld : Laid0 h) (e1 : l = fs.length) (e2 : l2 = rs.length) (hq : ∀ x ∈ fs, x.1.data.toList.length < 9223372036854775808 ∧ x.2.1.data.toList.length < 9223372036854775808) (hsm : ∀ x ∈ os, x.2.1.length ≤ 1200 ∧ (∀ y ∈ x.2.1, y.1.data.toList.length < 6000 ∧ y.2.data.toList.length < 6000) ∧ x.2.2.length < 1000000000000 ∧ x.1.data.toList.length < 9223372036854775808) (hl1 : fs.length < 1000000000000) (hl2 : os.length < 1000000000000) (k : ¬ (okRow fmayB plF fs ∧ okRow omayB plO os)) :
    Makes Tryd.prog 23 [.slice a l cp, .slice a2 l2 cp2] h n [] fun v h2 _ => v = .tuple #[.pointer none, .int .i64 4] := by
  subst e1 e2
  exact makes_weaken (ofI_spec fs rs os hr ho hd hld hq hsm hl1 (by rw [hd.1]; exact hl2)) fun _ h2 _ hs _ _ q => ⟨h2, .refl _, hs, q.1 k⟩
def nmA : List Lab := [(⟨#[97]⟩, ⟨#[98]⟩)]
def nmB : List Lab := [(⟨#[98]⟩, ⟨#[98]⟩)]
def nmF : List Fen := [(⟨#[116]⟩, ⟨#[120]⟩, 3), (⟨#[116]⟩, ⟨#[121]⟩, 1), (⟨#[117]⟩, ⟨#[97]⟩, 1099511627776)]
def nmO : List POwn := [(⟨#[116]⟩, (nmA, [(1, 0)])), (⟨#[116]⟩, (nmB, [(1, 0)])), (⟨#[117]⟩, (nmA, [(1, 0)]))]
def nmP : PSt := ⟨(buildF nmF).1, (buildF nmF).2, (buildO nmO).1, (buildO nmO).2⟩
instance (N : Nat) (k : Pl) (s : Ser) : Decidable (OneS N k s) := by unfold OneS; infer_instance
instance (N : Nat) (S : SP) : Decidable (InvS N S) := by unfold InvS; infer_instance
instance (x : Pl × Int × Nat) : Decidable (okFence x) := by unfold okFence; infer_instance
theorem nmP_inv : PInv 3 nmP := ⟨by decide +kernel, by decide +kernel, by decide +kernel, by decide +kernel, buildF_ok nmF, buildO_ok nmO⟩
theorem ofNm {h : Heap} {n : Nat} {a a2 : Option Addr} {cp cp2 : Nat} (rs : List ROwn) (hr : IsRow encFen h (.slice a 3 cp) nmF) (ho : IsRow encOwn h (.slice a2 3 cp2) rs) (hd : IOwns h rs nmO) (hld : Laid0 h) :
    Makes Tryd.prog 23 [.slice a 3 cp, .slice a2 3 cp2] h n [] fun v h2 _ => ∃ b f g G, v = .tuple #[.pointer (some ⟨b, 0, none⟩), .int .i64 0] ∧ h2.get b = some (.cells [.map (some f), .map (some g)] true ⟨69, 0, true⟩) ∧ h2.get f = some (.map (mapE plV intV nmP.F) nmP.kf) ∧ h2.get g = some (.map (mapE plV ownV G) nmP.kg) ∧ MOk nmP.F nmP.kf ∧ MOk G nmP.kg ∧ SMIs h2 G nmP.S ∧ h.get b = none ∧ h.get f = none ∧ h.get g = none ∧ f ≠ g := by
  have hl : rs.length = 3 := hd.1
  have ho2 : IsRow encOwn h (.slice a2 rs.length cp2) rs := by rw [hl]; exact ho
  have := ofI_spec (n := n) nmF rs nmO (a := a) (cp := cp) hr ho2 hd hld (by decide) (by decide) (by decide) (by omega)
  rw [hl] at this
  exact makes_weaken this fun _ h2 _ hs _ _ q => ⟨h2, .refl _, hs, q.2 ⟨by decide +kernel, by decide +kernel⟩⟩
theorem nmTake {e : Int} {h : Heap} {n b f g : Nat} {c : CI} {G : SM} (s : At h nmP b f g c G) (y : Bat) (hld : Laid0 h) (hy : y.ser = []) (hsb : y.ten.data.toList.length < 6000 ∧ y.clu.data.toList.length < 6000) (he : takeNo e nmP.F nmP.kf nmP.S nmP.kg = takeP nmP y) :
    Makes Tryd.prog 13 [.pointer (some ⟨b, 0, none⟩), .agg #[.string y.ten, .string y.clu, .int .i64 y.epo, .slice none 0 0]] h n [f, g] fun v h2 _ => ∃ a cp G2, v = .tuple #[.agg #[.string ⟨#[]⟩, .string ⟨#[]⟩, .int .i64 0, .slice a 0 cp, .int .i64 0, .bool false], .int .i64 e] ∧ h2.get f = some (.map (mapE plV intV nmP.F) nmP.kf) ∧ h2.get g = some (.map (mapE plV ownV G2) nmP.kg) ∧ MOk nmP.F nmP.kf ∧ MOk G2 nmP.kg ∧ SMIs h2 G2 nmP.S := by
  have hd : SersIs h [] y.ser := by rw [hy]; exact ⟨rfl, fun i r s a => by simp at a⟩
  have hsb2 : SmallB y := ⟨hsb.1, hsb.2, by rw [hy]; exact ⟨by decide, fun s hs => by cases hs⟩⟩
  refine makes_weaken (takeOn (R := takeNo e nmP.F nmP.kf nmP.S nmP.kg) s (a := none) (cp := 0) y [] IsRow.nil hd hld nmP_inv (by decide) hsb2 he) ?_
  rintro v h2 n2 hs hn hf ⟨w, os, G2, rfl, W, D, h3, h4, h5, h6, h7⟩
  refine ⟨h2, .refl _, hs, ?_⟩
  obtain ⟨a, cp, rfl⟩ := W.slice
  have hl : os.length = 0 := D.1
  exact ⟨a, cp, G2, by rw [hl]; rfl, h3, h4, h5, h6, h7⟩
theorem names_spec {h : Heap} {n : Nat} (hld : Laid0 h) :
    Tells Tryd.prog 8 [] h n (.bool true) := by
 refine Makes.tells (Makes.free fun hf => ?_)
 have hs : SubBut h h ([]) := .refl _ _
 have hn : n ≤ n := Nat.le_refl _
 have hf0 := hf
 refine Makes.of_bodyV (args := []) (vs := [undef, undef, undef, undef, undef, undef, undef, undef, undef, undef, undef, undef, undef, undef, undef, undef, undef, undef, undef, undef, undef, undef, undef, undef, undef, undef, undef, undef, undef, undef, undef, undef, undef, undef, undef, undef, undef, undef, undef, undef, undef, undef, undef, undef, undef, undef, undef, undef, undef, undef, undef, undef, undef, undef, undef, undef, undef, undef, undef, undef, undef, undef, undef, undef, undef, undef, undef, undef, undef, undef, undef, undef, undef, undef, undef, undef, undef, undef, undef, undef, undef, undef, undef, undef, undef, undef, undef, undef, undef, undef, undef, undef, undef, undef, undef, undef, undef, undef, undef, undef, undef, undef, undef, undef, undef, undef, undef, undef, undef, undef, undef, undef, undef, undef, undef, undef, undef, undef, undef, undef, undef, undef, undef, undef, undef, undef, undef, undef, undef, undef, undef, undef, undef, undef, undef, undef, undef, undef, undef, undef, undef, undef, undef, undef, undef, undef, undef, undef, undef, undef, undef, undef, undef, undef, undef, undef, undef, undef, undef, undef, undef, undef, undef, undef, undef, undef, undef, undef, undef, undef, undef, undef, undef, undef, undef, undef, undef, undef, undef, undef, undef, undef, undef, undef, undef, undef, undef, undef, undef, undef, undef, undef, undef, undef, undef, undef, undef, undef, undef, undef, undef, undef, undef, undef, undef, undef, undef, undef, undef, undef, undef, undef, undef, undef, undef, undef, undef, undef, undef, undef, undef, undef, undef, undef, undef, undef, undef, undef]) Tryd.func8 rfl rfl ?_
 refine AWp.seq (AWp.rowV (l := _) pok ?_)
 refine sq.c (v := .bool false) rfl rfl rfl rfl ?_
 refine sq.e (AWp.seq (AWp.seq (AWp.rowV (l := _) pok ?_)))
 refine sq.t (v := .bool true) rfl (CallsF.fn rfl (by kernel_rfl) rfl rfl) (fun hf => awake_spec (hld.keep hs)) hf rfl ?_
 intro n1 hn2 hf
 have hn := Nat.le_trans hn hn2
 refine sq.c (v := .bool false) rfl rfl rfl rfl ?_
 refine sq.e ?_
 refine AWp.condF rfl rfl ?_
 refine AWp.skip (AWp.seq (AWp.rowV (l := _) pok ?_))
 refine sq.c (v := .agg #[.int .i64 (1), .int .u64 (0)]) rfl rfl (by kernel_rfl) rfl ?_
 refine sq.op rfl rfl (Does.build (e := 53) (cs := [.int .i64 (1), .int .u64 (0)]) hf (fun _ _ => by kernel_rfl)) ?_
 rintro _ h3 n4 ⟨rfl, hb2⟩ s5 hn2 hf
 refine sq.w ?_
 have hs := hs.trans s5
 have hn := Nat.le_trans hn hn2
 refine sq.c (v := .slice (some ⟨n1, 0, none⟩) (1) (1)) rfl rfl rfl rfl ?_
 refine sq.e (AWp.seq (AWp.rowV (l := _) pok ?_))
 refine sq.c (v := .agg #[.string (⟨#[97]⟩), .string (⟨#[98]⟩)]) rfl rfl (by kernel_rfl) rfl ?_
 refine sq.op rfl rfl (Does.build (e := 61) (cs := [.string (⟨#[97]⟩), .string (⟨#[98]⟩)]) hf (fun _ _ => by kernel_rfl)) ?_
 rintro _ h7 n8 ⟨rfl, hb6⟩ s9 hn2 hf
 refine sq.w ?_
 have hb2 := s9.sub _ _ hb2
 have hs := hs.trans s9
 have hn := Nat.le_trans hn hn2
 refine sq.c (v := .agg #[.string (⟨#[98]⟩), .string (⟨#[98]⟩)]) rfl rfl (by kernel_rfl) rfl ?_
 refine sq.op rfl rfl (Does.build (e := 61) (cs := [.string (⟨#[98]⟩), .string (⟨#[98]⟩)]) hf (fun _ _ => by kernel_rfl)) ?_
 rintro _ h11 n12 ⟨rfl, hb10⟩ s13 hn2 hf
 refine sq.w ?_
 have hb2 := s13.sub _ _ hb2
 have hb6 := s13.sub _ _ hb6
 have hs := hs.trans s13
 have hn := Nat.le_trans hn hn2
 refine sq.c (v := .slice (some ⟨n4, 0, none⟩) (1) (1)) rfl rfl rfl rfl ?_
 refine sq.c (v := .slice (some ⟨n8, 0, none⟩) (1) (1)) rfl rfl rfl rfl ?_
 refine sq.e (AWp.seq (AWp.seq (AWp.rowV (l := _) pok ?_)))
 refine sq.c (v := .agg #[.string (⟨#[116]⟩), .string (⟨#[120]⟩), .int .i64 (0)]) rfl rfl (by kernel_rfl) rfl ?_
 refine sq.op rfl rfl (Does.build (e := 56) (cs := [.string (⟨#[116]⟩), .string (⟨#[120]⟩), .int .i64 (0)]) hf (fun _ _ => by kernel_rfl)) ?_
 rintro _ h15 n16 ⟨rfl, hb14⟩ s17 hn2 hf
 refine sq.w ?_
 have hb2 := s17.sub _ _ hb2
 have hb6 := s17.sub _ _ hb6
 have hb10 := s17.sub _ _ hb10
 have hs := hs.trans s17
 have hn := Nat.le_trans hn hn2
 refine sq.c (v := .agg #[.slice (some ⟨n12, 0, none⟩) (1) (1), .slice none (0) (0)]) rfl rfl (by kernel_rfl) rfl ?_
 refine sq.c (v := .agg #[.string (⟨#[116]⟩), .string (⟨#[120]⟩), .int .i64 (1099511627777)]) rfl rfl (by kernel_rfl) rfl ?_
 refine sq.op rfl rfl (Does.build (e := 56) (cs := [.string (⟨#[116]⟩), .string (⟨#[120]⟩), .int .i64 (1099511627777)]) hf (fun _ _ => by kernel_rfl)) ?_
 rintro _ h19 n20 ⟨rfl, hb18⟩ s21 hn2 hf
 refine sq.w ?_
 have hb2 := s21.sub _ _ hb2
 have hb6 := s21.sub _ _ hb6
 have hb10 := s21.sub _ _ hb10
 have hb14 := s21.sub _ _ hb14
 have hs := hs.trans s21
 have hn := Nat.le_trans hn hn2
 refine sq.c (v := .agg #[.slice (some ⟨n16, 0, none⟩) (1) (1), .slice none (0) (0)]) rfl rfl (by kernel_rfl) rfl ?_
 refine sq.c (v := .agg #[.string (⟨#[116]⟩), .string (⟨#[]⟩), .int .i64 (1)]) rfl rfl (by kernel_rfl) rfl ?_
 refine sq.op rfl rfl (Does.build (e := 56) (cs := [.string (⟨#[116]⟩), .string (⟨#[]⟩), .int .i64 (1)]) hf (fun _ _ => by kernel_rfl)) ?_
 rintro _ h23 n24 ⟨rfl, hb22⟩ s25 hn2 hf
 refine sq.w ?_
 have hb2 := s25.sub _ _ hb2
 have hb6 := s25.sub _ _ hb6
 have hb10 := s25.sub _ _ hb10
 have hb14 := s25.sub _ _ hb14
 have hb18 := s25.sub _ _ hb18
 have hs := hs.trans s25
 have hn := Nat.le_trans hn hn2
 refine sq.c (v := .agg #[.slice (some ⟨n20, 0, none⟩) (1) (1), .slice none (0) (0)]) rfl rfl (by kernel_rfl) rfl ?_
 refine sq.c (v := .agg #[.string (⟨#[]⟩), .string (⟨#[120]⟩), .int .i64 (1)]) rfl rfl (by kernel_rfl) rfl ?_
 refine sq.op rfl rfl (Does.build (e := 56) (cs := [.string (⟨#[]⟩), .string (⟨#[120]⟩), .int .i64 (1)]) hf (fun _ _ => by kernel_rfl)) ?_
 rintro _ h27 n28 ⟨rfl, hb26⟩ s29 hn2 hf
 refine sq.w ?_
 have hb2 := s29.sub _ _ hb2
 have hb6 := s29.sub _ _ hb6
 have hb10 := s29.sub _ _ hb10
 have hb14 := s29.sub _ _ hb14
 have hb18 := s29.sub _ _ hb18
 have hb22 := s29.sub _ _ hb22
 have hs := hs.trans s29
 have hn := Nat.le_trans hn hn2
 refine sq.c (v := .agg #[.slice (some ⟨n24, 0, none⟩) (1) (1), .slice none (0) (0)]) rfl rfl (by kernel_rfl) rfl ?_
 refine sq.c (v := .agg #[.string (⟨#[116]⟩), .string (⟨#[120]⟩), .int .i64 (1)]) rfl rfl (by kernel_rfl) rfl ?_
 refine sq.c (v := .agg #[.string (⟨#[116]⟩), .string (⟨#[120]⟩), .int .i64 (2)]) rfl rfl (by kernel_rfl) rfl ?_
 refine sq.op rfl rfl (Does.build (e := 56) (cs := [.string (⟨#[116]⟩), .string (⟨#[120]⟩), .int .i64 (1), .string (⟨#[116]⟩), .string (⟨#[120]⟩), .int .i64 (2)]) hf (fun _ _ => by kernel_rfl)) ?_
 rintro _ h31 n32 ⟨rfl, hb30⟩ s33 hn2 hf
 refine sq.w ?_
 have hb2 := s33.sub _ _ hb2
 have hb6 := s33.sub _ _ hb6
 have hb10 := s33.sub _ _ hb10
 have hb14 := s33.sub _ _ hb14
 have hb18 := s33.sub _ _ hb18
 have hb22 := s33.sub _ _ hb22
 have hb26 := s33.sub _ _ hb26
 have hs := hs.trans s33
 have hn := Nat.le_trans hn hn2
 refine sq.c (v := .agg #[.slice (some ⟨n28, 0, none⟩) (2) (2), .slice none (0) (0)]) rfl rfl (by kernel_rfl) rfl ?_
 refine sq.c (v := .agg #[.string (⟨#[117]⟩), .string (⟨#[120]⟩), .int .i64 (1)]) rfl rfl (by kernel_rfl) rfl ?_
 refine sq.c (v := .agg #[.string (⟨#[116]⟩), .string (⟨#[121]⟩), .int .i64 (2)]) rfl rfl (by kernel_rfl) rfl ?_
 refine sq.op rfl rfl (Does.build (e := 56) (cs := [.string (⟨#[117]⟩), .string (⟨#[120]⟩), .int .i64 (1), .string (⟨#[116]⟩), .string (⟨#[121]⟩), .int .i64 (2)]) hf (fun _ _ => by kernel_rfl)) ?_
 rintro _ h35 n36 ⟨rfl, hb34⟩ s37 hn2 hf
 refine sq.w ?_
 have hb2 := s37.sub _ _ hb2
 have hb6 := s37.sub _ _ hb6
 have hb10 := s37.sub _ _ hb10
 have hb14 := s37.sub _ _ hb14
 have hb18 := s37.sub _ _ hb18
 have hb22 := s37.sub _ _ hb22
 have hb26 := s37.sub _ _ hb26
 have hb30 := s37.sub _ _ hb30
 have hs := hs.trans s37
 have hn := Nat.le_trans hn hn2
 refine sq.c (v := .agg #[.slice (some ⟨n32, 0, none⟩) (2) (2), .slice none (0) (0)]) rfl rfl (by kernel_rfl) rfl ?_
 refine sq.c (v := .slice (some ⟨n4, 0, none⟩) (1) (1)) rfl rfl rfl rfl ?_
 refine sq.c (v := .agg #[.slice (some ⟨n4, 0, none⟩) (1) (1), .slice none (0) (0)]) rfl rfl (by kernel_rfl) rfl ?_
 refine sq.c (v := .agg #[.string (⟨#[116]⟩), .slice (some ⟨n4, 0, none⟩) (1) (1), .slice none (0) (0)]) rfl rfl (by kernel_rfl) rfl ?_
 refine sq.op rfl rfl (Does.build (e := 45) (cs := [.string (⟨#[116]⟩), .slice (some ⟨n4, 0, none⟩) (1) (1), .slice none (0) (0)]) hf (fun _ _ => by kernel_rfl)) ?_
 rintro _ h39 n40 ⟨rfl, hb38⟩ s41 hn2 hf
 refine sq.w ?_
 have hb2 := s41.sub _ _ hb2
 have hb6 := s41.sub _ _ hb6
 have hb10 := s41.sub _ _ hb10
 have hb14 := s41.sub _ _ hb14
 have hb18 := s41.sub _ _ hb18
 have hb22 := s41.sub _ _ hb22
 have hb26 := s41.sub _ _ hb26
 have hb30 := s41.sub _ _ hb30
 have hb34 := s41.sub _ _ hb34
 have hs := hs.trans s41
 have hn := Nat.le_trans hn hn2
 refine sq.c (v := .agg #[.slice none (0) (0), .slice (some ⟨n36, 0, none⟩) (1) (1)]) rfl rfl (by kernel_rfl) rfl ?_
 refine sq.c (v := .slice (some ⟨n1, 0, none⟩) (1) (1)) rfl rfl rfl rfl ?_
 refine sq.c (v := .agg #[.slice none (0) (0), .slice (some ⟨n1, 0, none⟩) (1) (1)]) rfl rfl (by kernel_rfl) rfl ?_
 refine sq.c (v := .agg #[.string (⟨#[116]⟩), .slice none (0) (0), .slice (some ⟨n1, 0, none⟩) (1) (1)]) rfl rfl (by kernel_rfl) rfl ?_
 refine sq.op rfl rfl (Does.build (e := 45) (cs := [.string (⟨#[116]⟩), .slice none (0) (0), .slice (some ⟨n1, 0, none⟩) (1) (1)]) hf (fun _ _ => by kernel_rfl)) ?_
 rintro _ h43 n44 ⟨rfl, hb42⟩ s45 hn2 hf
 refine sq.w ?_
 have hb2 := s45.sub _ _ hb2
 have hb6 := s45.sub _ _ hb6
 have hb10 := s45.sub _ _ hb10
 have hb14 := s45.sub _ _ hb14
 have hb18 := s45.sub _ _ hb18
 have hb22 := s45.sub _ _ hb22
 have hb26 := s45.sub _ _ hb26
 have hb30 := s45.sub _ _ hb30
 have hb34 := s45.sub _ _ hb34
 have hb38 := s45.sub _ _ hb38
 have hs := hs.trans s45
 have hn := Nat.le_trans hn hn2
 refine sq.c (v := .agg #[.slice none (0) (0), .slice (some ⟨n40, 0, none⟩) (1) (1)]) rfl rfl (by kernel_rfl) rfl ?_
 refine sq.c (v := .slice (some ⟨n4, 0, none⟩) (1) (1)) rfl rfl rfl rfl ?_
 refine sq.c (v := .slice (some ⟨n1, 0, none⟩) (1) (1)) rfl rfl rfl rfl ?_
 refine sq.c (v := .agg #[.slice (some ⟨n4, 0, none⟩) (1) (1), .slice (some ⟨n1, 0, none⟩) (1) (1)]) rfl rfl (by kernel_rfl) rfl ?_
 refine sq.c (v := .agg #[.string (⟨#[]⟩), .slice (some ⟨n4, 0, none⟩) (1) (1), .slice (some ⟨n1, 0, none⟩) (1) (1)]) rfl rfl (by kernel_rfl) rfl ?_
 refine sq.op rfl rfl (Does.build (e := 45) (cs := [.string (⟨#[]⟩), .slice (some ⟨n4, 0, none⟩) (1) (1), .slice (some ⟨n1, 0, none⟩) (1) (1)]) hf (fun _ _ => by kernel_rfl)) ?_
 rintro _ h47 n48 ⟨rfl, hb46⟩ s49 hn2 hf
 refine sq.w ?_
 have hb2 := s49.sub _ _ hb2
 have hb6 := s49.sub _ _ hb6
 have hb10 := s49.sub _ _ hb10
 have hb14 := s49.sub _ _ hb14
 have hb18 := s49.sub _ _ hb18
 have hb22 := s49.sub _ _ hb22
 have hb26 := s49.sub _ _ hb26
 have hb30 := s49.sub _ _ hb30
 have hb34 := s49.sub _ _ hb34
 have hb38 := s49.sub _ _ hb38
 have hb42 := s49.sub _ _ hb42
 have hs := hs.trans s49
 have hn := Nat.le_trans hn hn2
 refine sq.c (v := .agg #[.slice none (0) (0), .slice (some ⟨n44, 0, none⟩) (1) (1)]) rfl rfl (by kernel_rfl) rfl ?_
 refine sq.c (v := .slice (some ⟨n4, 0, none⟩) (1) (1)) rfl rfl rfl rfl ?_
 refine sq.c (v := .agg #[.int .i64 (1), .int .u64 (0)]) rfl rfl (by kernel_rfl) rfl ?_
 refine sq.c (v := .agg #[.int .i64 (1), .int .u64 (0)]) rfl rfl (by kernel_rfl) rfl ?_
 refine sq.op rfl rfl (Does.build (e := 53) (cs := [.int .i64 (1), .int .u64 (0), .int .i64 (1), .int .u64 (0)]) hf (fun _ _ => by kernel_rfl)) ?_
 rintro _ h51 n52 ⟨rfl, hb50⟩ s53 hn2 hf
 refine sq.w ?_
 have hb2 := s53.sub _ _ hb2
 have hb6 := s53.sub _ _ hb6
 have hb10 := s53.sub _ _ hb10
 have hb14 := s53.sub _ _ hb14
 have hb18 := s53.sub _ _ hb18
 have hb22 := s53.sub _ _ hb22
 have hb26 := s53.sub _ _ hb26
 have hb30 := s53.sub _ _ hb30
 have hb34 := s53.sub _ _ hb34
 have hb38 := s53.sub _ _ hb38
 have hb42 := s53.sub _ _ hb42
 have hb46 := s53.sub _ _ hb46
 have hs := hs.trans s53
 have hn := Nat.le_trans hn hn2
 refine sq.c (v := .agg #[.slice (some ⟨n4, 0, none⟩) (1) (1), .slice (some ⟨n48, 0, none⟩) (2) (2)]) rfl rfl (by kernel_rfl) rfl ?_
 refine sq.c (v := .agg #[.string (⟨#[116]⟩), .slice (some ⟨n4, 0, none⟩) (1) (1), .slice (some ⟨n48, 0, none⟩) (2) (2)]) rfl rfl (by kernel_rfl) rfl ?_
 refine sq.op rfl rfl (Does.build (e := 45) (cs := [.string (⟨#[116]⟩), .slice (some ⟨n4, 0, none⟩) (1) (1), .slice (some ⟨n48, 0, none⟩) (2) (2)]) hf (fun _ _ => by kernel_rfl)) ?_
 rintro _ h55 n56 ⟨rfl, hb54⟩ s57 hn2 hf
 refine sq.w ?_
 have hb2 := s57.sub _ _ hb2
 have hb6 := s57.sub _ _ hb6
 have hb10 := s57.sub _ _ hb10
 have hb14 := s57.sub _ _ hb14
 have hb18 := s57.sub _ _ hb18
 have hb22 := s57.sub _ _ hb22
 have hb26 := s57.sub _ _ hb26
 have hb30 := s57.sub _ _ hb30
 have hb34 := s57.sub _ _ hb34
 have hb38 := s57.sub _ _ hb38
 have hb42 := s57.sub _ _ hb42
 have hb46 := s57.sub _ _ hb46
 have hb50 := s57.sub _ _ hb50
 have hs := hs.trans s57
 have hn := Nat.le_trans hn hn2
 refine sq.c (v := .agg #[.slice none (0) (0), .slice (some ⟨n52, 0, none⟩) (1) (1)]) rfl rfl (by kernel_rfl) rfl ?_
 refine sq.c (v := .slice (some ⟨n8, 0, none⟩) (1) (1)) rfl rfl rfl rfl ?_
 refine sq.c (v := .slice (some ⟨n1, 0, none⟩) (1) (1)) rfl rfl rfl rfl ?_
 refine sq.c (v := .agg #[.slice (some ⟨n8, 0, none⟩) (1) (1), .slice (some ⟨n1, 0, none⟩) (1) (1)]) rfl rfl (by kernel_rfl) rfl ?_
 refine sq.c (v := .agg #[.string (⟨#[116]⟩), .slice (some ⟨n8, 0, none⟩) (1) (1), .slice (some ⟨n1, 0, none⟩) (1) (1)]) rfl rfl (by kernel_rfl) rfl ?_
 refine sq.c (v := .slice (some ⟨n4, 0, none⟩) (1) (1)) rfl rfl rfl rfl ?_
 refine sq.c (v := .slice (some ⟨n1, 0, none⟩) (1) (1)) rfl rfl rfl rfl ?_
 refine sq.c (v := .agg #[.slice (some ⟨n4, 0, none⟩) (1) (1), .slice (some ⟨n1, 0, none⟩) (1) (1)]) rfl rfl (by kernel_rfl) rfl ?_
 refine sq.c (v := .agg #[.string (⟨#[116]⟩), .slice (some ⟨n4, 0, none⟩) (1) (1), .slice (some ⟨n1, 0, none⟩) (1) (1)]) rfl rfl (by kernel_rfl) rfl ?_
 refine sq.op rfl rfl (Does.build (e := 45) (cs := [.string (⟨#[116]⟩), .slice (some ⟨n8, 0, none⟩) (1) (1), .slice (some ⟨n1, 0, none⟩) (1) (1), .string (⟨#[116]⟩), .slice (some ⟨n4, 0, none⟩) (1) (1), .slice (some ⟨n1, 0, none⟩) (1) (1)]) hf (fun _ _ => by kernel_rfl)) ?_
 rintro _ h59 n60 ⟨rfl, hb58⟩ s61 hn2 hf
 refine sq.w ?_
 have hb2 := s61.sub _ _ hb2
 have hb6 := s61.sub _ _ hb6
 have hb10 := s61.sub _ _ hb10
 have hb14 := s61.sub _ _ hb14
 have hb18 := s61.sub _ _ hb18
 have hb22 := s61.sub _ _ hb22
 have hb26 := s61.sub _ _ hb26
 have hb30 := s61.sub _ _ hb30
 have hb34 := s61.sub _ _ hb34
 have hb38 := s61.sub _ _ hb38
 have hb42 := s61.sub _ _ hb42
 have hb46 := s61.sub _ _ hb46
 have hb50 := s61.sub _ _ hb50
 have hb54 := s61.sub _ _ hb54
 have hs := hs.trans s61
 have hn := Nat.le_trans hn hn2
 refine sq.c (v := .agg #[.slice none (0) (0), .slice (some ⟨n56, 0, none⟩) (2) (2)]) rfl rfl (by kernel_rfl) rfl ?_
 refine sq.c (v := .slice (some ⟨n4, 0, none⟩) (1) (1)) rfl rfl rfl rfl ?_
 refine sq.c (v := .slice (some ⟨n1, 0, none⟩) (1) (1)) rfl rfl rfl rfl ?_
 refine sq.c (v := .agg #[.slice (some ⟨n4, 0, none⟩) (1) (1), .slice (some ⟨n1, 0, none⟩) (1) (1)]) rfl rfl (by kernel_rfl) rfl ?_
 refine sq.c (v := .agg #[.string (⟨#[116]⟩), .slice (some ⟨n4, 0, none⟩) (1) (1), .slice (some ⟨n1, 0, none⟩) (1) (1)]) rfl rfl (by kernel_rfl) rfl ?_
 refine sq.c (v := .slice (some ⟨n4, 0, none⟩) (1) (1)) rfl rfl rfl rfl ?_
 refine sq.c (v := .slice (some ⟨n1, 0, none⟩) (1) (1)) rfl rfl rfl rfl ?_
 refine sq.c (v := .agg #[.slice (some ⟨n4, 0, none⟩) (1) (1), .slice (some ⟨n1, 0, none⟩) (1) (1)]) rfl rfl (by kernel_rfl) rfl ?_
 refine sq.c (v := .agg #[.string (⟨#[116]⟩), .slice (some ⟨n4, 0, none⟩) (1) (1), .slice (some ⟨n1, 0, none⟩) (1) (1)]) rfl rfl (by kernel_rfl) rfl ?_
 refine sq.op rfl rfl (Does.build (e := 45) (cs := [.string (⟨#[116]⟩), .slice (some ⟨n4, 0, none⟩) (1) (1), .slice (some ⟨n1, 0, none⟩) (1) (1), .string (⟨#[116]⟩), .slice (some ⟨n4, 0, none⟩) (1) (1), .slice (some ⟨n1, 0, none⟩) (1) (1)]) hf (fun _ _ => by kernel_rfl)) ?_
 rintro _ h63 n64 ⟨rfl, hb62⟩ s65 hn2 hf
 refine sq.w ?_
 have hb2 := s65.sub _ _ hb2
 have hb6 := s65.sub _ _ hb6
 have hb10 := s65.sub _ _ hb10
 have hb14 := s65.sub _ _ hb14
 have hb18 := s65.sub _ _ hb18
 have hb22 := s65.sub _ _ hb22
 have hb26 := s65.sub _ _ hb26
 have hb30 := s65.sub _ _ hb30
 have hb34 := s65.sub _ _ hb34
 have hb38 := s65.sub _ _ hb38
 have hb42 := s65.sub _ _ hb42
 have hb46 := s65.sub _ _ hb46
 have hb50 := s65.sub _ _ hb50
 have hb54 := s65.sub _ _ hb54
 have hb58 := s65.sub _ _ hb58
 have hs := hs.trans s65
 have hn := Nat.le_trans hn hn2
 refine sq.c (v := .agg #[.slice none (0) (0), .slice (some ⟨n60, 0, none⟩) (2) (2)]) rfl rfl (by kernel_rfl) rfl ?_
 refine sq.op rfl rfl (Does.build (e := 62) (cs := [.slice (some ⟨n12, 0, none⟩) (1) (1), .slice none (0) (0), .slice (some ⟨n16, 0, none⟩) (1) (1), .slice none (0) (0), .slice (some ⟨n20, 0, none⟩) (1) (1), .slice none (0) (0), .slice (some ⟨n24, 0, none⟩) (1) (1), .slice none (0) (0), .slice (some ⟨n28, 0, none⟩) (2) (2), .slice none (0) (0), .slice (some ⟨n32, 0, none⟩) (2) (2), .slice none (0) (0), .slice none (0) (0), .slice (some ⟨n36, 0, none⟩) (1) (1), .slice none (0) (0), .slice (some ⟨n40, 0, none⟩) (1) (1), .slice none (0) (0), .slice (some ⟨n44, 0, none⟩) (1) (1), .slice none (0) (0), .slice (some ⟨n52, 0, none⟩) (1) (1), .slice none (0) (0), .slice (some ⟨n56, 0, none⟩) (2) (2), .slice none (0) (0), .slice (some ⟨n60, 0, none⟩) (2) (2)]) hf (fun _ _ => by kernel_rfl)) ?_
 rintro _ h67 n68 ⟨rfl, hb66⟩ s69 hn2 hf
 refine sq.w ?_
 have hb2 := s69.sub _ _ hb2
 have hb6 := s69.sub _ _ hb6
 have hb10 := s69.sub _ _ hb10
 have hb14 := s69.sub _ _ hb14
 have hb18 := s69.sub _ _ hb18
 have hb22 := s69.sub _ _ hb22
 have hb26 := s69.sub _ _ hb26
 have hb30 := s69.sub _ _ hb30
 have hb34 := s69.sub _ _ hb34
 have hb38 := s69.sub _ _ hb38
 have hb42 := s69.sub _ _ hb42
 have hb46 := s69.sub _ _ hb46
 have hb50 := s69.sub _ _ hb50
 have hb54 := s69.sub _ _ hb54
 have hb58 := s69.sub _ _ hb58
 have hb62 := s69.sub _ _ hb62
 have hs := hs.trans s69
 have hn := Nat.le_trans hn hn2
 refine sq.c (v := .int .i64 (12)) rfl rfl (by kernel_rfl) rfl ?_
 refine sq.c (v := .int .i64 (0)) rfl rfl rfl rfl ?_
 refine sq.e (AWp.block ?_)
 refine AWp.loopV (fun d vs h71 n72 => ∃ (i : Int), d = (13 - i).toNat ∧ SubBut h h71 ([]) ∧ n ≤ n72 ∧ Free h71 n72 ∧ h71.get n1 = some (.cells [.int .i64 (1), .int .u64 (0)] true ⟨53, 0, true⟩) ∧ h71.get n4 = some (.cells [.string (⟨#[97]⟩), .string (⟨#[98]⟩)] true ⟨61, 0, true⟩) ∧ h71.get n8 = some (.cells [.string (⟨#[98]⟩), .string (⟨#[98]⟩)] true ⟨61, 0, true⟩) ∧ h71.get n12 = some (.cells [.string (⟨#[116]⟩), .string (⟨#[120]⟩), .int .i64 (0)] true ⟨56, 0, true⟩) ∧ h71.get n16 = some (.cells [.string (⟨#[116]⟩), .string (⟨#[120]⟩), .int .i64 (1099511627777)] true ⟨56, 0, true⟩) ∧ h71.get n20 = some (.cells [.string (⟨#[116]⟩), .string (⟨#[]⟩), .int .i64 (1)] true ⟨56, 0, true⟩) ∧ h71.get n24 = some (.cells [.string (⟨#[]⟩), .string (⟨#[120]⟩), .int .i64 (1)] true ⟨56, 0, true⟩) ∧ h71.get n28 = some (.cells [.string (⟨#[116]⟩), .string (⟨#[120]⟩), .int .i64 (1), .string (⟨#[116]⟩), .string (⟨#[120]⟩), .int .i64 (2)] true ⟨56, 0, true⟩) ∧ h71.get n32 = some (.cells [.string (⟨#[117]⟩), .string (⟨#[120]⟩), .int .i64 (1), .string (⟨#[116]⟩), .string (⟨#[121]⟩), .int .i64 (2)] true ⟨56, 0, true⟩) ∧ h71.get n36 = some (.cells [.string (⟨#[116]⟩), .slice (some ⟨n4, 0, none⟩) (1) (1), .slice none (0) (0)] true ⟨45, 0, true⟩) ∧ h71.get n40 = some (.cells [.string (⟨#[116]⟩), .slice none (0) (0), .slice (some ⟨n1, 0, none⟩) (1) (1)] true ⟨45, 0, true⟩) ∧ h71.get n44 = some (.cells [.string (⟨#[]⟩), .slice (some ⟨n4, 0, none⟩) (1) (1), .slice (some ⟨n1, 0, none⟩) (1) (1)] true ⟨45, 0, true⟩) ∧ h71.get n48 = some (.cells [.int .i64 (1), .int .u64 (0), .int .i64 (1), .int .u64 (0)] true ⟨53, 0, true⟩) ∧ h71.get n52 = some (.cells [.string (⟨#[116]⟩), .slice (some ⟨n4, 0, none⟩) (1) (1), .slice (some ⟨n48, 0, none⟩) (2) (2)] true ⟨45, 0, true⟩) ∧ h71.get n56 = some (.cells [.string (⟨#[116]⟩), .slice (some ⟨n8, 0, none⟩) (1) (1), .slice (some ⟨n1, 0, none⟩) (1) (1), .string (⟨#[116]⟩), .slice (some ⟨n4, 0, none⟩) (1) (1), .slice (some ⟨n1, 0, none⟩) (1) (1)] true ⟨45, 0, true⟩) ∧ h71.get n60 = some (.cells [.string (⟨#[116]⟩), .slice (some ⟨n4, 0, none⟩) (1) (1), .slice (some ⟨n1, 0, none⟩) (1) (1), .string (⟨#[116]⟩), .slice (some ⟨n4, 0, none⟩) (1) (1), .slice (some ⟨n1, 0, none⟩) (1) (1)] true ⟨45, 0, true⟩) ∧ h71.get n64 = some (.cells [.slice (some ⟨n12, 0, none⟩) (1) (1), .slice none (0) (0), .slice (some ⟨n16, 0, none⟩) (1) (1), .slice none (0) (0), .slice (some ⟨n20, 0, none⟩) (1) (1), .slice none (0) (0), .slice (some ⟨n24, 0, none⟩) (1) (1), .slice none (0) (0), .slice (some ⟨n28, 0, none⟩) (2) (2), .slice none (0) (0), .slice (some ⟨n32, 0, none⟩) (2) (2), .slice none (0) (0), .slice none (0) (0), .slice (some ⟨n36, 0, none⟩) (1) (1), .slice none (0) (0), .slice (some ⟨n40, 0, none⟩) (1) (1), .slice none (0) (0), .slice (some ⟨n44, 0, none⟩) (1) (1), .slice none (0) (0), .slice (some ⟨n52, 0, none⟩) (1) (1), .slice none (0) (0), .slice (some ⟨n56, 0, none⟩) (2) (2), .slice none (0) (0), .slice (some ⟨n60, 0, none⟩) (2) (2)] true ⟨62, 0, true⟩) ∧ (0 ≤ i) ∧ (i ≤ 12) ∧ ∃ y70 : Nat → Value, vs = [(y70 0), .slice (some ⟨n1, 0, none⟩) (1) (1), .slice (some ⟨n4, 0, none⟩) (1) (1), .slice (some ⟨n8, 0, none⟩) (1) (1), undef, (y70 5), (y70 6), (y70 7), undef, undef, undef, undef, undef, undef, undef, undef, undef, undef, undef, .bool true, .bool false, .agg #[.int .i64 (1), .int .u64 (0)], .slice (some ⟨n1, 0, none⟩) (1) (1), .agg #[.string (⟨#[97]⟩), .string (⟨#[98]⟩)], .slice (some ⟨n4, 0, none⟩) (1) (1), .agg #[.string (⟨#[98]⟩), .string (⟨#[98]⟩)], .slice (some ⟨n8, 0, none⟩) (1) (1), .agg #[.string (⟨#[116]⟩), .string (⟨#[120]⟩), .int .i64 (0)], .slice (some ⟨n12, 0, none⟩) (1) (1), .agg #[.slice (some ⟨n12, 0, none⟩) (1) (1), .slice none (0) (0)], .agg #[.string (⟨#[116]⟩), .string (⟨#[120]⟩), .int .i64 (1099511627777)], .slice (some ⟨n16, 0, none⟩) (1) (1), .agg #[.slice (some ⟨n16, 0, none⟩) (1) (1), .slice none (0) (0)], .agg #[.string (⟨#[116]⟩), .string (⟨#[]⟩), .int .i64 (1)], .slice (some ⟨n20, 0, none⟩) (1) (1), .agg #[.slice (some ⟨n20, 0, none⟩) (1) (1), .slice none (0) (0)], .agg #[.string (⟨#[]⟩), .string (⟨#[120]⟩), .int .i64 (1)], .slice (some ⟨n24, 0, none⟩) (1) (1), .agg #[.slice (some ⟨n24, 0, none⟩) (1) (1), .slice none (0) (0)], .agg #[.string (⟨#[116]⟩), .string (⟨#[120]⟩), .int .i64 (1)], .agg #[.string (⟨#[116]⟩), .string (⟨#[120]⟩), .int .i64 (2)], .slice (some ⟨n28, 0, none⟩) (2) (2), .agg #[.slice (some ⟨n28, 0, none⟩) (2) (2), .slice none (0) (0)], .agg #[.string (⟨#[117]⟩), .string (⟨#[120]⟩), .int .i64 (1)], .agg #[.string (⟨#[116]⟩), .string (⟨#[121]⟩), .int .i64 (2)], .slice (some ⟨n32, 0, none⟩) (2) (2), .agg #[.slice (some ⟨n32, 0, none⟩) (2) (2), .slice none (0) (0)], .slice (some ⟨n4, 0, none⟩) (1) (1), .agg #[.slice (some ⟨n4, 0, none⟩) (1) (1), .slice none (0) (0)], .agg #[.string (⟨#[116]⟩), .slice (some ⟨n4, 0, none⟩) (1) (1), .slice none (0) (0)], .slice (some ⟨n36, 0, none⟩) (1) (1), .agg #[.slice none (0) (0), .slice (some ⟨n36, 0, none⟩) (1) (1)], .slice (some ⟨n1, 0, none⟩) (1) (1), .agg #[.slice none (0) (0), .slice (some ⟨n1, 0, none⟩) (1) (1)], .agg #[.string (⟨#[116]⟩), .slice none (0) (0), .slice (some ⟨n1, 0, none⟩) (1) (1)], .slice (some ⟨n40, 0, none⟩) (1) (1), .agg #[.slice none (0) (0), .slice (some ⟨n40, 0, none⟩) (1) (1)], .slice (some ⟨n4, 0, none⟩) (1) (1), .slice (some ⟨n1, 0, none⟩) (1) (1), .agg #[.slice (some ⟨n4, 0, none⟩) (1) (1), .slice (some ⟨n1, 0, none⟩) (1) (1)], .agg #[.string (⟨#[]⟩), .slice (some ⟨n4, 0, none⟩) (1) (1), .slice (some ⟨n1, 0, none⟩) (1) (1)], .slice (some ⟨n44, 0, none⟩) (1) (1), .agg #[.slice none (0) (0), .slice (some ⟨n44, 0, none⟩) (1) (1)], .slice (some ⟨n4, 0, none⟩) (1) (1), .agg #[.int .i64 (1), .int .u64 (0)], .agg #[.int .i64 (1), .int .u64 (0)], .slice (some ⟨n48, 0, none⟩) (2) (2), .agg #[.slice (some ⟨n4, 0, none⟩) (1) (1), .slice (some ⟨n48, 0, none⟩) (2) (2)], .agg #[.string (⟨#[116]⟩), .slice (some ⟨n4, 0, none⟩) (1) (1), .slice (some ⟨n48, 0, none⟩) (2) (2)], .slice (some ⟨n52, 0, none⟩) (1) (1), .agg #[.slice none (0) (0), .slice (some ⟨n52, 0, none⟩) (1) (1)], .slice (some ⟨n8, 0, none⟩) (1) (1), .slice (some ⟨n1, 0, none⟩) (1) (1), .agg #[.slice (some ⟨n8, 0, none⟩) (1) (1), .slice (some ⟨n1, 0, none⟩) (1) (1)], .agg #[.string (⟨#[116]⟩), .slice (some ⟨n8, 0, none⟩) (1) (1), .slice (some ⟨n1, 0, none⟩) (1) (1)], .slice (some ⟨n4, 0, none⟩) (1) (1), .slice (some ⟨n1, 0, none⟩) (1) (1), .agg #[.slice (some ⟨n4, 0, none⟩) (1) (1), .slice (some ⟨n1, 0, none⟩) (1) (1)], .agg #[.string (⟨#[116]⟩), .slice (some ⟨n4, 0, none⟩) (1) (1), .slice (some ⟨n1, 0, none⟩) (1) (1)], .slice (some ⟨n56, 0, none⟩) (2) (2), .agg #[.slice none (0) (0), .slice (some ⟨n56, 0, none⟩) (2) (2)], .slice (some ⟨n4, 0, none⟩) (1) (1), .slice (some ⟨n1, 0, none⟩) (1) (1), .agg #[.slice (some ⟨n4, 0, none⟩) (1) (1), .slice (some ⟨n1, 0, none⟩) (1) (1)], .agg #[.string (⟨#[116]⟩), .slice (some ⟨n4, 0, none⟩) (1) (1), .slice (some ⟨n1, 0, none⟩) (1) (1)], .slice (some ⟨n4, 0, none⟩) (1) (1), .slice (some ⟨n1, 0, none⟩) (1) (1), .agg #[.slice (some ⟨n4, 0, none⟩) (1) (1), .slice (some ⟨n1, 0, none⟩) (1) (1)], .agg #[.string (⟨#[116]⟩), .slice (some ⟨n4, 0, none⟩) (1) (1), .slice (some ⟨n1, 0, none⟩) (1) (1)], .slice (some ⟨n60, 0, none⟩) (2) (2), .agg #[.slice none (0) (0), .slice (some ⟨n60, 0, none⟩) (2) (2)], .slice (some ⟨n64, 0, none⟩) (12) (12), .int .i64 (12), .int .i64 (i), (y70 94), (y70 95), (y70 96), (y70 97), (y70 98), (y70 99), (y70 100), (y70 101), (y70 102), (y70 103), (y70 104), (y70 105), (y70 106), (y70 107), (y70 108), (y70 109), (y70 110), (y70 111), undef, undef, undef, undef, undef, undef, undef, undef, undef, undef, undef, undef, undef, undef, undef, undef, undef, undef, undef, undef, undef, undef, undef, undef, undef, undef, undef, undef, undef, undef, undef, undef, undef, undef, undef, undef, undef, undef, undef, undef, undef, undef, undef, undef, undef, undef, undef, undef, undef, undef, undef, undef, undef, undef, undef, undef, undef, undef, undef, undef, undef, undef, undef, undef, undef, undef, undef, undef, undef, undef, undef, undef, undef, undef, undef, undef, undef, undef, undef, undef, undef, undef, undef, undef, undef, undef, undef, undef, undef, undef, undef, undef, undef, undef, undef, undef, undef, undef, undef, undef, undef, undef, undef, undef, undef, undef, undef, undef, undef, undef, undef, undef, undef, undef, undef, undef]) ((13 - (0 : Int)).toNat) ⟨0, rfl, hs, hn, hf, hb2, hb6, hb10, hb14, hb18, hb22, hb26, hb30, hb34, hb38, hb42, hb46, hb50, hb54, hb58, hb62, hb66, (by omega), (by omega), getV [.bool false, undef, undef, undef, undef, undef, undef, undef, undef, undef, undef, undef, undef, undef, undef, undef, undef, undef, undef, undef, undef, undef, undef, undef, undef, undef, undef, undef, undef, undef, undef, undef, undef, undef, undef, undef, undef, undef, undef, undef, undef, undef, undef, undef, undef, undef, undef, undef, undef, undef, undef, undef, undef, undef, undef, undef, undef, undef, undef, undef, undef, undef, undef, undef, undef, undef, undef, undef, undef, undef, undef, undef, undef, undef, undef, undef, undef, undef, undef, undef, undef, undef, undef, undef, undef, undef, undef, undef, undef, undef, undef, undef, undef, undef, undef, undef, undef, undef, undef, undef, undef, undef, undef, undef, undef, undef, undef, undef, undef, undef, undef, undef], rfl⟩ ?_
 rintro d vs h71 n72 ⟨i, rfl, hs, hn, hf, hb2, hb6, hb10, hb14, hb18, hb22, hb26, hb30, hb34, hb38, hb42, hb46, hb50, hb54, hb58, hb62, hb66, hi0, hi1, y70, rfl⟩
 rcases (by omega : i = 0 ∨ i = 1 ∨ i = 2 ∨ i = 3 ∨ i = 4 ∨ i = 5 ∨ i = 6 ∨ i = 7 ∨ i = 8 ∨ i = 9 ∨ i = 10 ∨ i = 11 ∨ i = 12) with rfl | rfl | rfl | rfl | rfl | rfl | rfl | rfl | rfl | rfl | rfl | rfl | rfl
 ·skip
  refine AWp.seq (AWp.rowV (l := _) pok ?_)
  refine sq.c (v := .bool true) rfl rfl rfl rfl ?_
  refine sq.e (AWp.seq ?_)
  refine AWp.condT rfl rfl ?_
  refine AWp.skip (AWp.seq (AWp.block (AWp.seq (AWp.rowV (l := _) pok ?_))))
  refine sq.c (v := .pointer (some ⟨n64, 0, none⟩)) rfl rfl (by kernel_rfl) rfl ?_
  refine sq.c (v := .agg #[.slice (some ⟨n12, 0, none⟩) (1) (1), .slice none (0) (0)]) rfl rfl (ldA (P := Tryd.prog) (t := 62) (p := 0) (k := 2) (xs := [.slice (some ⟨n12, 0, none⟩) (1) (1), .slice none (0) (0)]) (by kernel_rfl) (by kernel_rfl) hb66 rfl (Nat.le_of_ble_eq_true rfl)) rfl ?_
  have e_n1_n72 : Apt n1 n72 := hf.ne hb2
  have e_n4_n72 : Apt n4 n72 := hf.ne hb6
  have e_n8_n72 : Apt n8 n72 := hf.ne hb10
  have e_n12_n72 : Apt n12 n72 := hf.ne hb14
  have e_n16_n72 : Apt n16 n72 := hf.ne hb18
  have e_n20_n72 : Apt n20 n72 := hf.ne hb22
  have e_n24_n72 : Apt n24 n72 := hf.ne hb26
  have e_n28_n72 : Apt n28 n72 := hf.ne hb30
  have e_n32_n72 : Apt n32 n72 := hf.ne hb34
  have e_n36_n72 : Apt n36 n72 := hf.ne hb38
  have e_n40_n72 : Apt n40 n72 := hf.ne hb42
  have e_n44_n72 : Apt n44 n72 := hf.ne hb46
  have e_n48_n72 : Apt n48 n72 := hf.ne hb50
  have e_n52_n72 : Apt n52 n72 := hf.ne hb54
  have e_n56_n72 : Apt n56 n72 := hf.ne hb58
  have e_n60_n72 : Apt n60 n72 := hf.ne hb62
  have e_n64_n72 : Apt n64 n72 := hf.ne hb66
  have z_n72 : h.get n72 = none := hf0 _ hn
  refine sq.op rfl rfl (Does.alloc (cs := [.slice none (0) (0), .slice none (0) (0)]) hf (z := .agg #[.slice none (0) (0), .slice none (0) (0)]) (by kernel_rfl) rfl) ?_
  rintro _ h74 n75 ⟨rfl, hb73⟩ s76 hn2 hf
  refine sq.w ?_
  have hb2 := s76.sub _ _ hb2
  have hb6 := s76.sub _ _ hb6
  have hb10 := s76.sub _ _ hb10
  have hb14 := s76.sub _ _ hb14
  have hb18 := s76.sub _ _ hb18
  have hb22 := s76.sub _ _ hb22
  have hb26 := s76.sub _ _ hb26
  have hb30 := s76.sub _ _ hb30
  have hb34 := s76.sub _ _ hb34
  have hb38 := s76.sub _ _ hb38
  have hb42 := s76.sub _ _ hb42
  have hb46 := s76.sub _ _ hb46
  have hb50 := s76.sub _ _ hb50
  have hb54 := s76.sub _ _ hb54
  have hb58 := s76.sub _ _ hb58
  have hb62 := s76.sub _ _ hb62
  have hb66 := s76.sub _ _ hb66
  have hs := hs.trans s76
  have hn := Nat.le_trans hn hn2
  refine sq.op rfl rfl (Does.store (k := 2) (xs := [.slice (some ⟨n12, 0, none⟩) (1) (1), .slice none (0) (0)]) (cs' := [.slice (some ⟨n12, 0, none⟩) (1) (1), .slice none (0) (0)]) hf (by kernel_rfl) rfl rfl rfl hb73 rfl rfl (Nat.le_of_ble_eq_true rfl) rfl) ?_
  rintro _ h78 n79 ⟨rfl, hb77⟩ s80 hn2 hf
  refine sq.w0 ?_
  have hb2 := s80.get1 (e_n1_n72) hb2
  have hb6 := s80.get1 (e_n4_n72) hb6
  have hb10 := s80.get1 (e_n8_n72) hb10
  have hb14 := s80.get1 (e_n12_n72) hb14
  have hb18 := s80.get1 (e_n16_n72) hb18
  have hb22 := s80.get1 (e_n20_n72) hb22
  have hb26 := s80.get1 (e_n24_n72) hb26
  have hb30 := s80.get1 (e_n28_n72) hb30
  have hb34 := s80.get1 (e_n32_n72) hb34
  have hb38 := s80.get1 (e_n36_n72) hb38
  have hb42 := s80.get1 (e_n40_n72) hb42
  have hb46 := s80.get1 (e_n44_n72) hb46
  have hb50 := s80.get1 (e_n48_n72) hb50
  have hb54 := s80.get1 (e_n52_n72) hb54
  have hb58 := s80.get1 (e_n56_n72) hb58
  have hb62 := s80.get1 (e_n60_n72) hb62
  have hb66 := s80.get1 (e_n64_n72) hb66
  have hs := hs.fresh z_n72 s80
  have hn := Nat.le_trans hn hn2
  refine sq.e (AWp.seq (AWp.rowV (l := _) pok ?_))
  refine sq.c (v := .pointer (some ⟨n72, 0, none⟩)) rfl rfl (by kernel_rfl) rfl ?_
  refine sq.c (v := .slice (some ⟨n12, 0, none⟩) (1) (1)) rfl rfl (ld1 (P := Tryd.prog) (t := 27) (p := 0) (v := .slice (some ⟨n12, 0, none⟩) (1) (1)) (by kernel_rfl) (by kernel_rfl) hb77 rfl) rfl ?_
  refine sq.c (v := .pointer (some ⟨n72, 1, none⟩)) rfl rfl (by kernel_rfl) rfl ?_
  refine sq.c (v := .slice none (0) (0)) rfl rfl (ld1 (P := Tryd.prog) (t := 38) (p := 1) (v := .slice none (0) (0)) (by kernel_rfl) (by kernel_rfl) hb77 rfl) rfl ?_
  refine sq.k rfl (CallsF.fn rfl (by kernel_rfl) rfl rfl) (ofBad ([(⟨#[116]⟩, ⟨#[120]⟩, 0)] : List Fen) (([] : List ROwn) : List ROwn) (([] : List POwn) : List POwn) (IsRow.of (E := encFen) (xs := [(⟨#[116]⟩, ⟨#[120]⟩, 0)]) (cap := 1) hb14 (Nat.le_refl _)) IsRow.nil (IOwns.nil _) (hld.keep hs) rfl rfl (by decide) (by decide) (by decide) (by decide) (by decide +kernel)) ?_
  rintro _ h81 n82 rfl s83 hn2 hf
  refine sq.w ?_
  have hb2 := s83.sub _ _ hb2
  have hb6 := s83.sub _ _ hb6
  have hb10 := s83.sub _ _ hb10
  have hb14 := s83.sub _ _ hb14
  have hb18 := s83.sub _ _ hb18
  have hb22 := s83.sub _ _ hb22
  have hb26 := s83.sub _ _ hb26
  have hb30 := s83.sub _ _ hb30
  have hb34 := s83.sub _ _ hb34
  have hb38 := s83.sub _ _ hb38
  have hb42 := s83.sub _ _ hb42
  have hb46 := s83.sub _ _ hb46
  have hb50 := s83.sub _ _ hb50
  have hb54 := s83.sub _ _ hb54
  have hb58 := s83.sub _ _ hb58
  have hb62 := s83.sub _ _ hb62
  have hb66 := s83.sub _ _ hb66
  have hs := hs.trans s83
  have hn := Nat.le_trans hn hn2
  refine sq.c (v := .tuple #[.pointer none, .int .i64 (4)]) rfl rfl rfl rfl ?_
  refine sq.c (v := .pointer none) rfl rfl rfl rfl ?_
  refine sq.c (v := .int .i64 (4)) rfl rfl rfl rfl ?_
  refine sq.c (v := .pointer none) rfl rfl rfl rfl ?_
  refine sq.c (v := .int .i64 (4)) rfl rfl rfl rfl ?_
  refine sq.e (AWp.seq (AWp.rowV (l := _) pok ?_))
  refine sq.c (v := .pointer none) rfl rfl rfl rfl ?_
  refine sq.c (v := .bool false) rfl rfl (by kernel_rfl) rfl ?_
  refine sq.c (v := .bool false) rfl rfl rfl rfl ?_
  refine sq.c (v := .int .i64 (4)) (wantT (g := 2) (d := 107) rfl rfl rfl) rfl rfl rfl ?_
  refine sq.c (v := .bool false) (wantT (g := 2) (d := 107) rfl rfl rfl) rfl rfl rfl ?_
  refine sq.c (v := .bool false) rfl rfl rfl rfl ?_
  refine sq.e ?_
  refine AWp.condF rfl rfl ?_
  refine AWp.skip (AWp.rowV (l := _) pok ?_)
  refine sq.c (v := .int .i64 (1)) rfl rfl rfl rfl ?_
  refine sq.c (v := .int .i64 (1)) rfl rfl rfl rfl ?_
  refine sq.e ?_
  refine ⟨_, _, rfl, (by decide), 1, rfl, hs, hn, hf, hb2, hb6, hb10, hb14, hb18, hb22, hb26, hb30, hb34, hb38, hb42, hb46, hb50, hb54, hb58, hb62, hb66, (by omega), (by omega), getV [(y70 0), undef, undef, undef, undef, .pointer (some ⟨n72, 0, none⟩), .pointer none, .int .i64 (4), undef, undef, undef, undef, undef, undef, undef, undef, undef, undef, undef, undef, undef, undef, undef, undef, undef, undef, undef, undef, undef, undef, undef, undef, undef, undef, undef, undef, undef, undef, undef, undef, undef, undef, undef, undef, undef, undef, undef, undef, undef, undef, undef, undef, undef, undef, undef, undef, undef, undef, undef, undef, undef, undef, undef, undef, undef, undef, undef, undef, undef, undef, undef, undef, undef, undef, undef, undef, undef, undef, undef, undef, undef, undef, undef, undef, undef, undef, undef, undef, undef, undef, undef, undef, undef, undef, .bool true, .pointer (some ⟨n64, 0, none⟩), .agg #[.slice (some ⟨n12, 0, none⟩) (1) (1), .slice none (0) (0)], .tuple #[.pointer none, .int .i64 (4)], .pointer (some ⟨n72, 0, none⟩), .slice (some ⟨n12, 0, none⟩) (1) (1), .pointer (some ⟨n72, 1, none⟩), .slice none (0) (0), .tuple #[.pointer none, .int .i64 (4)], .pointer none, .int .i64 (4), .pointer none, .bool false, .bool false, .int .i64 (4), .bool false, .bool false, .int .i64 (1)], rfl⟩
 ·skip
  refine AWp.seq (AWp.rowV (l := _) pok ?_)
  refine sq.c (v := .bool true) rfl rfl rfl rfl ?_
  refine sq.e (AWp.seq ?_)
  refine AWp.condT rfl rfl ?_
  refine AWp.skip (AWp.seq (AWp.block (AWp.seq (AWp.rowV (l := _) pok ?_))))
  refine sq.c (v := .pointer (some ⟨n64, 2, none⟩)) rfl rfl (by kernel_rfl) rfl ?_
  refine sq.c (v := .agg #[.slice (some ⟨n16, 0, none⟩) (1) (1), .slice none (0) (0)]) rfl rfl (ldA (P := Tryd.prog) (t := 62) (p := 2) (k := 2) (xs := [.slice (some ⟨n16, 0, none⟩) (1) (1), .slice none (0) (0)]) (by kernel_rfl) (by kernel_rfl) hb66 rfl (Nat.le_of_ble_eq_true rfl)) rfl ?_
  have e_n1_n72 : Apt n1 n72 := hf.ne hb2
  have e_n4_n72 : Apt n4 n72 := hf.ne hb6
  have e_n8_n72 : Apt n8 n72 := hf.ne hb10
  have e_n12_n72 : Apt n12 n72 := hf.ne hb14
  have e_n16_n72 : Apt n16 n72 := hf.ne hb18
  have e_n20_n72 : Apt n20 n72 := hf.ne hb22
  have e_n24_n72 : Apt n24 n72 := hf.ne hb26
  have e_n28_n72 : Apt n28 n72 := hf.ne hb30
  have e_n32_n72 : Apt n32 n72 := hf.ne hb34
  have e_n36_n72 : Apt n36 n72 := hf.ne hb38
  have e_n40_n72 : Apt n40 n72 := hf.ne hb42
  have e_n44_n72 : Apt n44 n72 := hf.ne hb46
  have e_n48_n72 : Apt n48 n72 := hf.ne hb50
  have e_n52_n72 : Apt n52 n72 := hf.ne hb54
  have e_n56_n72 : Apt n56 n72 := hf.ne hb58
  have e_n60_n72 : Apt n60 n72 := hf.ne hb62
  have e_n64_n72 : Apt n64 n72 := hf.ne hb66
  have z_n72 : h.get n72 = none := hf0 _ hn
  refine sq.op rfl rfl (Does.alloc (cs := [.slice none (0) (0), .slice none (0) (0)]) hf (z := .agg #[.slice none (0) (0), .slice none (0) (0)]) (by kernel_rfl) rfl) ?_
  rintro _ h85 n86 ⟨rfl, hb84⟩ s87 hn2 hf
  refine sq.w ?_
  have hb2 := s87.sub _ _ hb2
  have hb6 := s87.sub _ _ hb6
  have hb10 := s87.sub _ _ hb10
  have hb14 := s87.sub _ _ hb14
  have hb18 := s87.sub _ _ hb18
  have hb22 := s87.sub _ _ hb22
  have hb26 := s87.sub _ _ hb26
  have hb30 := s87.sub _ _ hb30
  have hb34 := s87.sub _ _ hb34
  have hb38 := s87.sub _ _ hb38
  have hb42 := s87.sub _ _ hb42
  have hb46 := s87.sub _ _ hb46
  have hb50 := s87.sub _ _ hb50
  have hb54 := s87.sub _ _ hb54
  have hb58 := s87.sub _ _ hb58
  have hb62 := s87.sub _ _ hb62
  have hb66 := s87.sub _ _ hb66
  have hs := hs.trans s87
  have hn := Nat.le_trans hn hn2
  refine sq.op rfl rfl (Does.store (k := 2) (xs := [.slice (some ⟨n16, 0, none⟩) (1) (1), .slice none (0) (0)]) (cs' := [.slice (some ⟨n16, 0, none⟩) (1) (1), .slice none (0) (0)]) hf (by kernel_rfl) rfl rfl rfl hb84 rfl rfl (Nat.le_of_ble_eq_true rfl) rfl) ?_
  rintro _ h89 n90 ⟨rfl, hb88⟩ s91 hn2 hf
  refine sq.w0 ?_
  have hb2 := s91.get1 (e_n1_n72) hb2
  have hb6 := s91.get1 (e_n4_n72) hb6
  have hb10 := s91.get1 (e_n8_n72) hb10
  have hb14 := s91.get1 (e_n12_n72) hb14
  have hb18 := s91.get1 (e_n16_n72) hb18
  have hb22 := s91.get1 (e_n20_n72) hb22
  have hb26 := s91.get1 (e_n24_n72) hb26
  have hb30 := s91.get1 (e_n28_n72) hb30
  have hb34 := s91.get1 (e_n32_n72) hb34
  have hb38 := s91.get1 (e_n36_n72) hb38
  have hb42 := s91.get1 (e_n40_n72) hb42
  have hb46 := s91.get1 (e_n44_n72) hb46
  have hb50 := s91.get1 (e_n48_n72) hb50
  have hb54 := s91.get1 (e_n52_n72) hb54
  have hb58 := s91.get1 (e_n56_n72) hb58
  have hb62 := s91.get1 (e_n60_n72) hb62
  have hb66 := s91.get1 (e_n64_n72) hb66
  have hs := hs.fresh z_n72 s91
  have hn := Nat.le_trans hn hn2
  refine sq.e (AWp.seq (AWp.rowV (l := _) pok ?_))
  refine sq.c (v := .pointer (some ⟨n72, 0, none⟩)) rfl rfl (by kernel_rfl) rfl ?_
  refine sq.c (v := .slice (some ⟨n16, 0, none⟩) (1) (1)) rfl rfl (ld1 (P := Tryd.prog) (t := 27) (p := 0) (v := .slice (some ⟨n16, 0, none⟩) (1) (1)) (by kernel_rfl) (by kernel_rfl) hb88 rfl) rfl ?_
  refine sq.c (v := .pointer (some ⟨n72, 1, none⟩)) rfl rfl (by kernel_rfl) rfl ?_
  refine sq.c (v := .slice none (0) (0)) rfl rfl (ld1 (P := Tryd.prog) (t := 38) (p := 1) (v := .slice none (0) (0)) (by kernel_rfl) (by kernel_rfl) hb88 rfl) rfl ?_
  refine sq.k rfl (CallsF.fn rfl (by kernel_rfl) rfl rfl) (ofBad ([(⟨#[116]⟩, ⟨#[120]⟩, 1099511627777)] : List Fen) (([] : List ROwn) : List ROwn) (([] : List POwn) : List POwn) (IsRow.of (E := encFen) (xs := [(⟨#[116]⟩, ⟨#[120]⟩, 1099511627777)]) (cap := 1) hb18 (Nat.le_refl _)) IsRow.nil (IOwns.nil _) (hld.keep hs) rfl rfl (by decide) (by decide) (by decide) (by decide) (by decide +kernel)) ?_
  rintro _ h92 n93 rfl s94 hn2 hf
  refine sq.w ?_
  have hb2 := s94.sub _ _ hb2
  have hb6 := s94.sub _ _ hb6
  have hb10 := s94.sub _ _ hb10
  have hb14 := s94.sub _ _ hb14
  have hb18 := s94.sub _ _ hb18
  have hb22 := s94.sub _ _ hb22
  have hb26 := s94.sub _ _ hb26
  have hb30 := s94.sub _ _ hb30
  have hb34 := s94.sub _ _ hb34
  have hb38 := s94.sub _ _ hb38
  have hb42 := s94.sub _ _ hb42
  have hb46 := s94.sub _ _ hb46
  have hb50 := s94.sub _ _ hb50
  have hb54 := s94.sub _ _ hb54
  have hb58 := s94.sub _ _ hb58
  have hb62 := s94.sub _ _ hb62
  have hb66 := s94.sub _ _ hb66
  have hs := hs.trans s94
  have hn := Nat.le_trans hn hn2
  refine sq.c (v := .tuple #[.pointer none, .int .i64 (4)]) rfl rfl rfl rfl ?_
  refine sq.c (v := .pointer none) rfl rfl rfl rfl ?_
  refine sq.c (v := .int .i64 (4)) rfl rfl rfl rfl ?_
  refine sq.c (v := .pointer none) rfl rfl rfl rfl ?_
  refine sq.c (v := .int .i64 (4)) rfl rfl rfl rfl ?_
  refine sq.e (AWp.seq (AWp.rowV (l := _) pok ?_))
  refine sq.c (v := .pointer none) rfl rfl rfl rfl ?_
  refine sq.c (v := .bool false) rfl rfl (by kernel_rfl) rfl ?_
  refine sq.c (v := .bool false) rfl rfl rfl rfl ?_
  refine sq.c (v := .int .i64 (4)) (wantT (g := 2) (d := 107) rfl rfl rfl) rfl rfl rfl ?_
  refine sq.c (v := .bool false) (wantT (g := 2) (d := 107) rfl rfl rfl) rfl rfl rfl ?_
  refine sq.c (v := .bool false) rfl rfl rfl rfl ?_
  refine sq.e ?_
  refine AWp.condF rfl rfl ?_
  refine AWp.skip (AWp.rowV (l := _) pok ?_)
  refine sq.c (v := .int .i64 (2)) rfl rfl rfl rfl ?_
  refine sq.c (v := .int .i64 (2)) rfl rfl rfl rfl ?_
  refine sq.e ?_
  refine ⟨_, _, rfl, (by decide), 2, rfl, hs, hn, hf, hb2, hb6, hb10, hb14, hb18, hb22, hb26, hb30, hb34, hb38, hb42, hb46, hb50, hb54, hb58, hb62, hb66, (by omega), (by omega), getV [(y70 0), undef, undef, undef, undef, .pointer (some ⟨n72, 0, none⟩), .pointer none, .int .i64 (4), undef, undef, undef, undef, undef, undef, undef, undef, undef, undef, undef, undef, undef, undef, undef, undef, undef, undef, undef, undef, undef, undef, undef, undef, undef, undef, undef, undef, undef, undef, undef, undef, undef, undef, undef, undef, undef, undef, undef, undef, undef, undef, undef, undef, undef, undef, undef, undef, undef, undef, undef, undef, undef, undef, undef, undef, undef, undef, undef, undef, undef, undef, undef, undef, undef, undef, undef, undef, undef, undef, undef, undef, undef, undef, undef, undef, undef, undef, undef, undef, undef, undef, undef, undef, undef, undef, .bool true, .pointer (some ⟨n64, 2, none⟩), .agg #[.slice (some ⟨n16, 0, none⟩) (1) (1), .slice none (0) (0)], .tuple #[.pointer none, .int .i64 (4)], .pointer (some ⟨n72, 0, none⟩), .slice (some ⟨n16, 0, none⟩) (1) (1), .pointer (some ⟨n72, 1, none⟩), .slice none (0) (0), .tuple #[.pointer none, .int .i64 (4)], .pointer none, .int .i64 (4), .pointer none, .bool false, .bool false, .int .i64 (4), .bool false, .bool false, .int .i64 (2)], rfl⟩
 ·skip
  refine AWp.seq (AWp.rowV (l := _) pok ?_)
  refine sq.c (v := .bool true) rfl rfl rfl rfl ?_
  refine sq.e (AWp.seq ?_)
  refine AWp.condT rfl rfl ?_
  refine AWp.skip (AWp.seq (AWp.block (AWp.seq (AWp.rowV (l := _) pok ?_))))
  refine sq.c (v := .pointer (some ⟨n64, 4, none⟩)) rfl rfl (by kernel_rfl) rfl ?_
  refine sq.c (v := .agg #[.slice (some ⟨n20, 0, none⟩) (1) (1), .slice none (0) (0)]) rfl rfl (ldA (P := Tryd.prog) (t := 62) (p := 4) (k := 2) (xs := [.slice (some ⟨n20, 0, none⟩) (1) (1), .slice none (0) (0)]) (by kernel_rfl) (by kernel_rfl) hb66 rfl (Nat.le_of_ble_eq_true rfl)) rfl ?_
  have e_n1_n72 : Apt n1 n72 := hf.ne hb2
  have e_n4_n72 : Apt n4 n72 := hf.ne hb6
  have e_n8_n72 : Apt n8 n72 := hf.ne hb10
  have e_n12_n72 : Apt n12 n72 := hf.ne hb14
  have e_n16_n72 : Apt n16 n72 := hf.ne hb18
  have e_n20_n72 : Apt n20 n72 := hf.ne hb22
  have e_n24_n72 : Apt n24 n72 := hf.ne hb26
  have e_n28_n72 : Apt n28 n72 := hf.ne hb30
  have e_n32_n72 : Apt n32 n72 := hf.ne hb34
  have e_n36_n72 : Apt n36 n72 := hf.ne hb38
  have e_n40_n72 : Apt n40 n72 := hf.ne hb42
  have e_n44_n72 : Apt n44 n72 := hf.ne hb46
  have e_n48_n72 : Apt n48 n72 := hf.ne hb50
  have e_n52_n72 : Apt n52 n72 := hf.ne hb54
  have e_n56_n72 : Apt n56 n72 := hf.ne hb58
  have e_n60_n72 : Apt n60 n72 := hf.ne hb62
  have e_n64_n72 : Apt n64 n72 := hf.ne hb66
  have z_n72 : h.get n72 = none := hf0 _ hn
  refine sq.op rfl rfl (Does.alloc (cs := [.slice none (0) (0), .slice none (0) (0)]) hf (z := .agg #[.slice none (0) (0), .slice none (0) (0)]) (by kernel_rfl) rfl) ?_
  rintro _ h96 n97 ⟨rfl, hb95⟩ s98 hn2 hf
  refine sq.w ?_
  have hb2 := s98.sub _ _ hb2
  have hb6 := s98.sub _ _ hb6
  have hb10 := s98.sub _ _ hb10
  have hb14 := s98.sub _ _ hb14
  have hb18 := s98.sub _ _ hb18
  have hb22 := s98.sub _ _ hb22
  have hb26 := s98.sub _ _ hb26
  have hb30 := s98.sub _ _ hb30
  have hb34 := s98.sub _ _ hb34
  have hb38 := s98.sub _ _ hb38
  have hb42 := s98.sub _ _ hb42
  have hb46 := s98.sub _ _ hb46
  have hb50 := s98.sub _ _ hb50
  have hb54 := s98.sub _ _ hb54
  have hb58 := s98.sub _ _ hb58
  have hb62 := s98.sub _ _ hb62
  have hb66 := s98.sub _ _ hb66
  have hs := hs.trans s98
  have hn := Nat.le_trans hn hn2
  refine sq.op rfl rfl (Does.store (k := 2) (xs := [.slice (some ⟨n20, 0, none⟩) (1) (1), .slice none (0) (0)]) (cs' := [.slice (some ⟨n20, 0, none⟩) (1) (1), .slice none (0) (0)]) hf (by kernel_rfl) rfl rfl rfl hb95 rfl rfl (Nat.le_of_ble_eq_true rfl) rfl) ?_
  rintro _ h100 n101 ⟨rfl, hb99⟩ s102 hn2 hf
  refine sq.w0 ?_
  have hb2 := s102.get1 (e_n1_n72) hb2
  have hb6 := s102.get1 (e_n4_n72) hb6
  have hb10 := s102.get1 (e_n8_n72) hb10
  have hb14 := s102.get1 (e_n12_n72) hb14
  have hb18 := s102.get1 (e_n16_n72) hb18
  have hb22 := s102.get1 (e_n20_n72) hb22
  have hb26 := s102.get1 (e_n24_n72) hb26
  have hb30 := s102.get1 (e_n28_n72) hb30
  have hb34 := s102.get1 (e_n32_n72) hb34
  have hb38 := s102.get1 (e_n36_n72) hb38
  have hb42 := s102.get1 (e_n40_n72) hb42
  have hb46 := s102.get1 (e_n44_n72) hb46
  have hb50 := s102.get1 (e_n48_n72) hb50
  have hb54 := s102.get1 (e_n52_n72) hb54
  have hb58 := s102.get1 (e_n56_n72) hb58
  have hb62 := s102.get1 (e_n60_n72) hb62
  have hb66 := s102.get1 (e_n64_n72) hb66
  have hs := hs.fresh z_n72 s102
  have hn := Nat.le_trans hn hn2
  refine sq.e (AWp.seq (AWp.rowV (l := _) pok ?_))
  refine sq.c (v := .pointer (some ⟨n72, 0, none⟩)) rfl rfl (by kernel_rfl) rfl ?_
  refine sq.c (v := .slice (some ⟨n20, 0, none⟩) (1) (1)) rfl rfl (ld1 (P := Tryd.prog) (t := 27) (p := 0) (v := .slice (some ⟨n20, 0, none⟩) (1) (1)) (by kernel_rfl) (by kernel_rfl) hb99 rfl) rfl ?_
  refine sq.c (v := .pointer (some ⟨n72, 1, none⟩)) rfl rfl (by kernel_rfl) rfl ?_
  refine sq.c (v := .slice none (0) (0)) rfl rfl (ld1 (P := Tryd.prog) (t := 38) (p := 1) (v := .slice none (0) (0)) (by kernel_rfl) (by kernel_rfl) hb99 rfl) rfl ?_
  refine sq.k rfl (CallsF.fn rfl (by kernel_rfl) rfl rfl) (ofBad ([(⟨#[116]⟩, ⟨#[]⟩, 1)] : List Fen) (([] : List ROwn) : List ROwn) (([] : List POwn) : List POwn) (IsRow.of (E := encFen) (xs := [(⟨#[116]⟩, ⟨#[]⟩, 1)]) (cap := 1) hb22 (Nat.le_refl _)) IsRow.nil (IOwns.nil _) (hld.keep hs) rfl rfl (by decide) (by decide) (by decide) (by decide) (by decide +kernel)) ?_
  rintro _ h103 n104 rfl s105 hn2 hf
  refine sq.w ?_
  have hb2 := s105.sub _ _ hb2
  have hb6 := s105.sub _ _ hb6
  have hb10 := s105.sub _ _ hb10
  have hb14 := s105.sub _ _ hb14
  have hb18 := s105.sub _ _ hb18
  have hb22 := s105.sub _ _ hb22
  have hb26 := s105.sub _ _ hb26
  have hb30 := s105.sub _ _ hb30
  have hb34 := s105.sub _ _ hb34
  have hb38 := s105.sub _ _ hb38
  have hb42 := s105.sub _ _ hb42
  have hb46 := s105.sub _ _ hb46
  have hb50 := s105.sub _ _ hb50
  have hb54 := s105.sub _ _ hb54
  have hb58 := s105.sub _ _ hb58
  have hb62 := s105.sub _ _ hb62
  have hb66 := s105.sub _ _ hb66
  have hs := hs.trans s105
  have hn := Nat.le_trans hn hn2
  refine sq.c (v := .tuple #[.pointer none, .int .i64 (4)]) rfl rfl rfl rfl ?_
  refine sq.c (v := .pointer none) rfl rfl rfl rfl ?_
  refine sq.c (v := .int .i64 (4)) rfl rfl rfl rfl ?_
  refine sq.c (v := .pointer none) rfl rfl rfl rfl ?_
  refine sq.c (v := .int .i64 (4)) rfl rfl rfl rfl ?_
  refine sq.e (AWp.seq (AWp.rowV (l := _) pok ?_))
  refine sq.c (v := .pointer none) rfl rfl rfl rfl ?_
  refine sq.c (v := .bool false) rfl rfl (by kernel_rfl) rfl ?_
  refine sq.c (v := .bool false) rfl rfl rfl rfl ?_
  refine sq.c (v := .int .i64 (4)) (wantT (g := 2) (d := 107) rfl rfl rfl) rfl rfl rfl ?_
  refine sq.c (v := .bool false) (wantT (g := 2) (d := 107) rfl rfl rfl) rfl rfl rfl ?_
  refine sq.c (v := .bool false) rfl rfl rfl rfl ?_
  refine sq.e ?_
  refine AWp.condF rfl rfl ?_
  refine AWp.skip (AWp.rowV (l := _) pok ?_)
  refine sq.c (v := .int .i64 (3)) rfl rfl rfl rfl ?_
  refine sq.c (v := .int .i64 (3)) rfl rfl rfl rfl ?_
  refine sq.e ?_
  refine ⟨_, _, rfl, (by decide), 3, rfl, hs, hn, hf, hb2, hb6, hb10, hb14, hb18, hb22, hb26, hb30, hb34, hb38, hb42, hb46, hb50, hb54, hb58, hb62, hb66, (by omega), (by omega), getV [(y70 0), undef, undef, undef, undef, .pointer (some ⟨n72, 0, none⟩), .pointer none, .int .i64 (4), undef, undef, undef, undef, undef, undef, undef, undef, undef, undef, undef, undef, undef, undef, undef, undef, undef, undef, undef, undef, undef, undef, undef, undef, undef, undef, undef, undef, undef, undef, undef, undef, undef, undef, undef, undef, undef, undef, undef, undef, undef, undef, undef, undef, undef, undef, undef, undef, undef, undef, undef, undef, undef, undef, undef, undef, undef, undef, undef, undef, undef, undef, undef, undef, undef, undef, undef, undef, undef, undef, undef, undef, undef, undef, undef, undef, undef, undef, undef, undef, undef, undef, undef, undef, undef, undef, .bool true, .pointer (some ⟨n64, 4, none⟩), .agg #[.slice (some ⟨n20, 0, none⟩) (1) (1), .slice none (0) (0)], .tuple #[.pointer none, .int .i64 (4)], .pointer (some ⟨n72, 0, none⟩), .slice (some ⟨n20, 0, none⟩) (1) (1), .pointer (some ⟨n72, 1, none⟩), .slice none (0) (0), .tuple #[.pointer none, .int .i64 (4)], .pointer none, .int .i64 (4), .pointer none, .bool false, .bool false, .int .i64 (4), .bool false, .bool false, .int .i64 (3)], rfl⟩
 ·skip
  refine AWp.seq (AWp.rowV (l := _) pok ?_)
  refine sq.c (v := .bool true) rfl rfl rfl rfl ?_
  refine sq.e (AWp.seq ?_)
  refine AWp.condT rfl rfl ?_
  refine AWp.skip (AWp.seq (AWp.block (AWp.seq (AWp.rowV (l := _) pok ?_))))
  refine sq.c (v := .pointer (some ⟨n64, 6, none⟩)) rfl rfl (by kernel_rfl) rfl ?_
  refine sq.c (v := .agg #[.slice (some ⟨n24, 0, none⟩) (1) (1), .slice none (0) (0)]) rfl rfl (ldA (P := Tryd.prog) (t := 62) (p := 6) (k := 2) (xs := [.slice (some ⟨n24, 0, none⟩) (1) (1), .slice none (0) (0)]) (by kernel_rfl) (by kernel_rfl) hb66 rfl (Nat.le_of_ble_eq_true rfl)) rfl ?_
  have e_n1_n72 : Apt n1 n72 := hf.ne hb2
  have e_n4_n72 : Apt n4 n72 := hf.ne hb6
  have e_n8_n72 : Apt n8 n72 := hf.ne hb10
  have e_n12_n72 : Apt n12 n72 := hf.ne hb14
  have e_n16_n72 : Apt n16 n72 := hf.ne hb18
  have e_n20_n72 : Apt n20 n72 := hf.ne hb22
  have e_n24_n72 : Apt n24 n72 := hf.ne hb26
  have e_n28_n72 : Apt n28 n72 := hf.ne hb30
  have e_n32_n72 : Apt n32 n72 := hf.ne hb34
  have e_n36_n72 : Apt n36 n72 := hf.ne hb38
  have e_n40_n72 : Apt n40 n72 := hf.ne hb42
  have e_n44_n72 : Apt n44 n72 := hf.ne hb46
  have e_n48_n72 : Apt n48 n72 := hf.ne hb50
  have e_n52_n72 : Apt n52 n72 := hf.ne hb54
  have e_n56_n72 : Apt n56 n72 := hf.ne hb58
  have e_n60_n72 : Apt n60 n72 := hf.ne hb62
  have e_n64_n72 : Apt n64 n72 := hf.ne hb66
  have z_n72 : h.get n72 = none := hf0 _ hn
  refine sq.op rfl rfl (Does.alloc (cs := [.slice none (0) (0), .slice none (0) (0)]) hf (z := .agg #[.slice none (0) (0), .slice none (0) (0)]) (by kernel_rfl) rfl) ?_
  rintro _ h107 n108 ⟨rfl, hb106⟩ s109 hn2 hf
  refine sq.w ?_
  have hb2 := s109.sub _ _ hb2
  have hb6 := s109.sub _ _ hb6
  have hb10 := s109.sub _ _ hb10
  have hb14 := s109.sub _ _ hb14
  have hb18 := s109.sub _ _ hb18
  have hb22 := s109.sub _ _ hb22
  have hb26 := s109.sub _ _ hb26
  have hb30 := s109.sub _ _ hb30
  have hb34 := s109.sub _ _ hb34
  have hb38 := s109.sub _ _ hb38
  have hb42 := s109.sub _ _ hb42
  have hb46 := s109.sub _ _ hb46
  have hb50 := s109.sub _ _ hb50
  have hb54 := s109.sub _ _ hb54
  have hb58 := s109.sub _ _ hb58
  have hb62 := s109.sub _ _ hb62
  have hb66 := s109.sub _ _ hb66
  have hs := hs.trans s109
  have hn := Nat.le_trans hn hn2
  refine sq.op rfl rfl (Does.store (k := 2) (xs := [.slice (some ⟨n24, 0, none⟩) (1) (1), .slice none (0) (0)]) (cs' := [.slice (some ⟨n24, 0, none⟩) (1) (1), .slice none (0) (0)]) hf (by kernel_rfl) rfl rfl rfl hb106 rfl rfl (Nat.le_of_ble_eq_true rfl) rfl) ?_
  rintro _ h111 n112 ⟨rfl, hb110⟩ s113 hn2 hf
  refine sq.w0 ?_
  have hb2 := s113.get1 (e_n1_n72) hb2
  have hb6 := s113.get1 (e_n4_n72) hb6
  have hb10 := s113.get1 (e_n8_n72) hb10
  have hb14 := s113.get1 (e_n12_n72) hb14
  have hb18 := s113.get1 (e_n16_n72) hb18
  have hb22 := s113.get1 (e_n20_n72) hb22
  have hb26 := s113.get1 (e_n24_n72) hb26
  have hb30 := s113.get1 (e_n28_n72) hb30
  have hb34 := s113.get1 (e_n32_n72) hb34
  have hb38 := s113.get1 (e_n36_n72) hb38
  have hb42 := s113.get1 (e_n40_n72) hb42
  have hb46 := s113.get1 (e_n44_n72) hb46
  have hb50 := s113.get1 (e_n48_n72) hb50
  have hb54 := s113.get1 (e_n52_n72) hb54
  have hb58 := s113.get1 (e_n56_n72) hb58
  have hb62 := s113.get1 (e_n60_n72) hb62
  have hb66 := s113.get1 (e_n64_n72) hb66
  have hs := hs.fresh z_n72 s113
  have hn := Nat.le_trans hn hn2
  refine sq.e (AWp.seq (AWp.rowV (l := _) pok ?_))
  refine sq.c (v := .pointer (some ⟨n72, 0, none⟩)) rfl rfl (by kernel_rfl) rfl ?_
  refine sq.c (v := .slice (some ⟨n24, 0, none⟩) (1) (1)) rfl rfl (ld1 (P := Tryd.prog) (t := 27) (p := 0) (v := .slice (some ⟨n24, 0, none⟩) (1) (1)) (by kernel_rfl) (by kernel_rfl) hb110 rfl) rfl ?_
  refine sq.c (v := .pointer (some ⟨n72, 1, none⟩)) rfl rfl (by kernel_rfl) rfl ?_
  refine sq.c (v := .slice none (0) (0)) rfl rfl (ld1 (P := Tryd.prog) (t := 38) (p := 1) (v := .slice none (0) (0)) (by kernel_rfl) (by kernel_rfl) hb110 rfl) rfl ?_
  refine sq.k rfl (CallsF.fn rfl (by kernel_rfl) rfl rfl) (ofBad ([(⟨#[]⟩, ⟨#[120]⟩, 1)] : List Fen) (([] : List ROwn) : List ROwn) (([] : List POwn) : List POwn) (IsRow.of (E := encFen) (xs := [(⟨#[]⟩, ⟨#[120]⟩, 1)]) (cap := 1) hb26 (Nat.le_refl _)) IsRow.nil (IOwns.nil _) (hld.keep hs) rfl rfl (by decide) (by decide) (by decide) (by decide) (by decide +kernel)) ?_
  rintro _ h114 n115 rfl s116 hn2 hf
  refine sq.w ?_
  have hb2 := s116.sub _ _ hb2
  have hb6 := s116.sub _ _ hb6
  have hb10 := s116.sub _ _ hb10
  have hb14 := s116.sub _ _ hb14
  have hb18 := s116.sub _ _ hb18
  have hb22 := s116.sub _ _ hb22
  have hb26 := s116.sub _ _ hb26
  have hb30 := s116.sub _ _ hb30
  have hb34 := s116.sub _ _ hb34
  have hb38 := s116.sub _ _ hb38
  have hb42 := s116.sub _ _ hb42
  have hb46 := s116.sub _ _ hb46
  have hb50 := s116.sub _ _ hb50
  have hb54 := s116.sub _ _ hb54
  have hb58 := s116.sub _ _ hb58
  have hb62 := s116.sub _ _ hb62
  have hb66 := s116.sub _ _ hb66
  have hs := hs.trans s116
  have hn := Nat.le_trans hn hn2
  refine sq.c (v := .tuple #[.pointer none, .int .i64 (4)]) rfl rfl rfl rfl ?_
  refine sq.c (v := .pointer none) rfl rfl rfl rfl ?_
  refine sq.c (v := .int .i64 (4)) rfl rfl rfl rfl ?_
  refine sq.c (v := .pointer none) rfl rfl rfl rfl ?_
  refine sq.c (v := .int .i64 (4)) rfl rfl rfl rfl ?_
  refine sq.e (AWp.seq (AWp.rowV (l := _) pok ?_))
  refine sq.c (v := .pointer none) rfl rfl rfl rfl ?_
  refine sq.c (v := .bool false) rfl rfl (by kernel_rfl) rfl ?_
  refine sq.c (v := .bool false) rfl rfl rfl rfl ?_
  refine sq.c (v := .int .i64 (4)) (wantT (g := 2) (d := 107) rfl rfl rfl) rfl rfl rfl ?_
  refine sq.c (v := .bool false) (wantT (g := 2) (d := 107) rfl rfl rfl) rfl rfl rfl ?_
  refine sq.c (v := .bool false) rfl rfl rfl rfl ?_
  refine sq.e ?_
  refine AWp.condF rfl rfl ?_
  refine AWp.skip (AWp.rowV (l := _) pok ?_)
  refine sq.c (v := .int .i64 (4)) rfl rfl rfl rfl ?_
  refine sq.c (v := .int .i64 (4)) rfl rfl rfl rfl ?_
  refine sq.e ?_
  refine ⟨_, _, rfl, (by decide), 4, rfl, hs, hn, hf, hb2, hb6, hb10, hb14, hb18, hb22, hb26, hb30, hb34, hb38, hb42, hb46, hb50, hb54, hb58, hb62, hb66, (by omega), (by omega), getV [(y70 0), undef, undef, undef, undef, .pointer (some ⟨n72, 0, none⟩), .pointer none, .int .i64 (4), undef, undef, undef, undef, undef, undef, undef, undef, undef, undef, undef, undef, undef, undef, undef, undef, undef, undef, undef, undef, undef, undef, undef, undef, undef, undef, undef, undef, undef, undef, undef, undef, undef, undef, undef, undef, undef, undef, undef, undef, undef, undef, undef, undef, undef, undef, undef, undef, undef, undef, undef, undef, undef, undef, undef, undef, undef, undef, undef, undef, undef, undef, undef, undef, undef, undef, undef, undef, undef, undef, undef, undef, undef, undef, undef, undef, undef, undef, undef, undef, undef, undef, undef, undef, undef, undef, .bool true, .pointer (some ⟨n64, 6, none⟩), .agg #[.slice (some ⟨n24, 0, none⟩) (1) (1), .slice none (0) (0)], .tuple #[.pointer none, .int .i64 (4)], .pointer (some ⟨n72, 0, none⟩), .slice (some ⟨n24, 0, none⟩) (1) (1), .pointer (some ⟨n72, 1, none⟩), .slice none (0) (0), .tuple #[.pointer none, .int .i64 (4)], .pointer none, .int .i64 (4), .pointer none, .bool false, .bool false, .int .i64 (4), .bool false, .bool false, .int .i64 (4)], rfl⟩
 ·skip
  refine AWp.seq (AWp.rowV (l := _) pok ?_)
  refine sq.c (v := .bool true) rfl rfl rfl rfl ?_
  refine sq.e (AWp.seq ?_)
  refine AWp.condT rfl rfl ?_
  refine AWp.skip (AWp.seq (AWp.block (AWp.seq (AWp.rowV (l := _) pok ?_))))
  refine sq.c (v := .pointer (some ⟨n64, 8, none⟩)) rfl rfl (by kernel_rfl) rfl ?_
  refine sq.c (v := .agg #[.slice (some ⟨n28, 0, none⟩) (2) (2), .slice none (0) (0)]) rfl rfl (ldA (P := Tryd.prog) (t := 62) (p := 8) (k := 2) (xs := [.slice (some ⟨n28, 0, none⟩) (2) (2), .slice none (0) (0)]) (by kernel_rfl) (by kernel_rfl) hb66 rfl (Nat.le_of_ble_eq_true rfl)) rfl ?_
  have e_n1_n72 : Apt n1 n72 := hf.ne hb2
  have e_n4_n72 : Apt n4 n72 := hf.ne hb6
  have e_n8_n72 : Apt n8 n72 := hf.ne hb10
  have e_n12_n72 : Apt n12 n72 := hf.ne hb14
  have e_n16_n72 : Apt n16 n72 := hf.ne hb18
  have e_n20_n72 : Apt n20 n72 := hf.ne hb22
  have e_n24_n72 : Apt n24 n72 := hf.ne hb26
  have e_n28_n72 : Apt n28 n72 := hf.ne hb30
  have e_n32_n72 : Apt n32 n72 := hf.ne hb34
  have e_n36_n72 : Apt n36 n72 := hf.ne hb38
  have e_n40_n72 : Apt n40 n72 := hf.ne hb42
  have e_n44_n72 : Apt n44 n72 := hf.ne hb46
  have e_n48_n72 : Apt n48 n72 := hf.ne hb50
  have e_n52_n72 : Apt n52 n72 := hf.ne hb54
  have e_n56_n72 : Apt n56 n72 := hf.ne hb58
  have e_n60_n72 : Apt n60 n72 := hf.ne hb62
  have e_n64_n72 : Apt n64 n72 := hf.ne hb66
  have z_n72 : h.get n72 = none := hf0 _ hn
  refine sq.op rfl rfl (Does.alloc (cs := [.slice none (0) (0), .slice none (0) (0)]) hf (z := .agg #[.slice none (0) (0), .slice none (0) (0)]) (by kernel_rfl) rfl) ?_
  rintro _ h118 n119 ⟨rfl, hb117⟩ s120 hn2 hf
  refine sq.w ?_
  have hb2 := s120.sub _ _ hb2
  have hb6 := s120.sub _ _ hb6
  have hb10 := s120.sub _ _ hb10
  have hb14 := s120.sub _ _ hb14
  have hb18 := s120.sub _ _ hb18
  have hb22 := s120.sub _ _ hb22
  have hb26 := s120.sub _ _ hb26
  have hb30 := s120.sub _ _ hb30
  have hb34 := s120.sub _ _ hb34
  have hb38 := s120.sub _ _ hb38
  have hb42 := s120.sub _ _ hb42
  have hb46 := s120.sub _ _ hb46
  have hb50 := s120.sub _ _ hb50
  have hb54 := s120.sub _ _ hb54
  have hb58 := s120.sub _ _ hb58
  have hb62 := s120.sub _ _ hb62
  have hb66 := s120.sub _ _ hb66
  have hs := hs.trans s120
  have hn := Nat.le_trans hn hn2
  refine sq.op rfl rfl (Does.store (k := 2) (xs := [.slice (some ⟨n28, 0, none⟩) (2) (2), .slice none (0) (0)]) (cs' := [.slice (some ⟨n28, 0, none⟩) (2) (2), .slice none (0) (0)]) hf (by kernel_rfl) rfl rfl rfl hb117 rfl rfl (Nat.le_of_ble_eq_true rfl) rfl) ?_
  rintro _ h122 n123 ⟨rfl, hb121⟩ s124 hn2 hf
  refine sq.w0 ?_
  have hb2 := s124.get1 (e_n1_n72) hb2
  have hb6 := s124.get1 (e_n4_n72) hb6
  have hb10 := s124.get1 (e_n8_n72) hb10
  have hb14 := s124.get1 (e_n12_n72) hb14
  have hb18 := s124.get1 (e_n16_n72) hb18
  have hb22 := s124.get1 (e_n20_n72) hb22
  have hb26 := s124.get1 (e_n24_n72) hb26
  have hb30 := s124.get1 (e_n28_n72) hb30
  have hb34 := s124.get1 (e_n32_n72) hb34
  have hb38 := s124.get1 (e_n36_n72) hb38
  have hb42 := s124.get1 (e_n40_n72) hb42
  have hb46 := s124.get1 (e_n44_n72) hb46
  have hb50 := s124.get1 (e_n48_n72) hb50
  have hb54 := s124.get1 (e_n52_n72) hb54
  have hb58 := s124.get1 (e_n56_n72) hb58
  have hb62 := s124.get1 (e_n60_n72) hb62
  have hb66 := s124.get1 (e_n64_n72) hb66
  have hs := hs.fresh z_n72 s124
  have hn := Nat.le_trans hn hn2
  refine sq.e (AWp.seq (AWp.rowV (l := _) pok ?_))
  refine sq.c (v := .pointer (some ⟨n72, 0, none⟩)) rfl rfl (by kernel_rfl) rfl ?_
  refine sq.c (v := .slice (some ⟨n28, 0, none⟩) (2) (2)) rfl rfl (ld1 (P := Tryd.prog) (t := 27) (p := 0) (v := .slice (some ⟨n28, 0, none⟩) (2) (2)) (by kernel_rfl) (by kernel_rfl) hb121 rfl) rfl ?_
  refine sq.c (v := .pointer (some ⟨n72, 1, none⟩)) rfl rfl (by kernel_rfl) rfl ?_
  refine sq.c (v := .slice none (0) (0)) rfl rfl (ld1 (P := Tryd.prog) (t := 38) (p := 1) (v := .slice none (0) (0)) (by kernel_rfl) (by kernel_rfl) hb121 rfl) rfl ?_
  refine sq.k rfl (CallsF.fn rfl (by kernel_rfl) rfl rfl) (ofBad ([(⟨#[116]⟩, ⟨#[120]⟩, 1), (⟨#[116]⟩, ⟨#[120]⟩, 2)] : List Fen) (([] : List ROwn) : List ROwn) (([] : List POwn) : List POwn) (IsRow.of (E := encFen) (xs := [(⟨#[116]⟩, ⟨#[120]⟩, 1), (⟨#[116]⟩, ⟨#[120]⟩, 2)]) (cap := 2) hb30 (Nat.le_refl _)) IsRow.nil (IOwns.nil _) (hld.keep hs) rfl rfl (by decide) (by decide) (by decide) (by decide) (by decide +kernel)) ?_
  rintro _ h125 n126 rfl s127 hn2 hf
  refine sq.w ?_
  have hb2 := s127.sub _ _ hb2
  have hb6 := s127.sub _ _ hb6
  have hb10 := s127.sub _ _ hb10
  have hb14 := s127.sub _ _ hb14
  have hb18 := s127.sub _ _ hb18
  have hb22 := s127.sub _ _ hb22
  have hb26 := s127.sub _ _ hb26
  have hb30 := s127.sub _ _ hb30
  have hb34 := s127.sub _ _ hb34
  have hb38 := s127.sub _ _ hb38
  have hb42 := s127.sub _ _ hb42
  have hb46 := s127.sub _ _ hb46
  have hb50 := s127.sub _ _ hb50
  have hb54 := s127.sub _ _ hb54
  have hb58 := s127.sub _ _ hb58
  have hb62 := s127.sub _ _ hb62
  have hb66 := s127.sub _ _ hb66
  have hs := hs.trans s127
  have hn := Nat.le_trans hn hn2
  refine sq.c (v := .tuple #[.pointer none, .int .i64 (4)]) rfl rfl rfl rfl ?_
  refine sq.c (v := .pointer none) rfl rfl rfl rfl ?_
  refine sq.c (v := .int .i64 (4)) rfl rfl rfl rfl ?_
  refine sq.c (v := .pointer none) rfl rfl rfl rfl ?_
  refine sq.c (v := .int .i64 (4)) rfl rfl rfl rfl ?_
  refine sq.e (AWp.seq (AWp.rowV (l := _) pok ?_))
  refine sq.c (v := .pointer none) rfl rfl rfl rfl ?_
  refine sq.c (v := .bool false) rfl rfl (by kernel_rfl) rfl ?_
  refine sq.c (v := .bool false) rfl rfl rfl rfl ?_
  refine sq.c (v := .int .i64 (4)) (wantT (g := 2) (d := 107) rfl rfl rfl) rfl rfl rfl ?_
  refine sq.c (v := .bool false) (wantT (g := 2) (d := 107) rfl rfl rfl) rfl rfl rfl ?_
  refine sq.c (v := .bool false) rfl rfl rfl rfl ?_
  refine sq.e ?_
  refine AWp.condF rfl rfl ?_
  refine AWp.skip (AWp.rowV (l := _) pok ?_)
  refine sq.c (v := .int .i64 (5)) rfl rfl rfl rfl ?_
  refine sq.c (v := .int .i64 (5)) rfl rfl rfl rfl ?_
  refine sq.e ?_
  refine ⟨_, _, rfl, (by decide), 5, rfl, hs, hn, hf, hb2, hb6, hb10, hb14, hb18, hb22, hb26, hb30, hb34, hb38, hb42, hb46, hb50, hb54, hb58, hb62, hb66, (by omega), (by omega), getV [(y70 0), undef, undef, undef, undef, .pointer (some ⟨n72, 0, none⟩), .pointer none, .int .i64 (4), undef, undef, undef, undef, undef, undef, undef, undef, undef, undef, undef, undef, undef, undef, undef, undef, undef, undef, undef, undef, undef, undef, undef, undef, undef, undef, undef, undef, undef, undef, undef, undef, undef, undef, undef, undef, undef, undef, undef, undef, undef, undef, undef, undef, undef, undef, undef, undef, undef, undef, undef, undef, undef, undef, undef, undef, undef, undef, undef, undef, undef, undef, undef, undef, undef, undef, undef, undef, undef, undef, undef, undef, undef, undef, undef, undef, undef, undef, undef, undef, undef, undef, undef, undef, undef, undef, .bool true, .pointer (some ⟨n64, 8, none⟩), .agg #[.slice (some ⟨n28, 0, none⟩) (2) (2), .slice none (0) (0)], .tuple #[.pointer none, .int .i64 (4)], .pointer (some ⟨n72, 0, none⟩), .slice (some ⟨n28, 0, none⟩) (2) (2), .pointer (some ⟨n72, 1, none⟩), .slice none (0) (0), .tuple #[.pointer none, .int .i64 (4)], .pointer none, .int .i64 (4), .pointer none, .bool false, .bool false, .int .i64 (4), .bool false, .bool false, .int .i64 (5)], rfl⟩
 ·skip
  refine AWp.seq (AWp.rowV (l := _) pok ?_)
  refine sq.c (v := .bool true) rfl rfl rfl rfl ?_
  refine sq.e (AWp.seq ?_)
  refine AWp.condT rfl rfl ?_
  refine AWp.skip (AWp.seq (AWp.block (AWp.seq (AWp.rowV (l := _) pok ?_))))
  refine sq.c (v := .pointer (some ⟨n64, 10, none⟩)) rfl rfl (by kernel_rfl) rfl ?_
  refine sq.c (v := .agg #[.slice (some ⟨n32, 0, none⟩) (2) (2), .slice none (0) (0)]) rfl rfl (ldA (P := Tryd.prog) (t := 62) (p := 10) (k := 2) (xs := [.slice (some ⟨n32, 0, none⟩) (2) (2), .slice none (0) (0)]) (by kernel_rfl) (by kernel_rfl) hb66 rfl (Nat.le_of_ble_eq_true rfl)) rfl ?_
  have e_n1_n72 : Apt n1 n72 := hf.ne hb2
  have e_n4_n72 : Apt n4 n72 := hf.ne hb6
  have e_n8_n72 : Apt n8 n72 := hf.ne hb10
  have e_n12_n72 : Apt n12 n72 := hf.ne hb14
  have e_n16_n72 : Apt n16 n72 := hf.ne hb18
  have e_n20_n72 : Apt n20 n72 := hf.ne hb22
  have e_n24_n72 : Apt n24 n72 := hf.ne hb26
  have e_n28_n72 : Apt n28 n72 := hf.ne hb30
  have e_n32_n72 : Apt n32 n72 := hf.ne hb34
  have e_n36_n72 : Apt n36 n72 := hf.ne hb38
  have e_n40_n72 : Apt n40 n72 := hf.ne hb42
  have e_n44_n72 : Apt n44 n72 := hf.ne hb46
  have e_n48_n72 : Apt n48 n72 := hf.ne hb50
  have e_n52_n72 : Apt n52 n72 := hf.ne hb54
  have e_n56_n72 : Apt n56 n72 := hf.ne hb58
  have e_n60_n72 : Apt n60 n72 := hf.ne hb62
  have e_n64_n72 : Apt n64 n72 := hf.ne hb66
  have z_n72 : h.get n72 = none := hf0 _ hn
  refine sq.op rfl rfl (Does.alloc (cs := [.slice none (0) (0), .slice none (0) (0)]) hf (z := .agg #[.slice none (0) (0), .slice none (0) (0)]) (by kernel_rfl) rfl) ?_
  rintro _ h129 n130 ⟨rfl, hb128⟩ s131 hn2 hf
  refine sq.w ?_
  have hb2 := s131.sub _ _ hb2
  have hb6 := s131.sub _ _ hb6
  have hb10 := s131.sub _ _ hb10
  have hb14 := s131.sub _ _ hb14
  have hb18 := s131.sub _ _ hb18
  have hb22 := s131.sub _ _ hb22
  have hb26 := s131.sub _ _ hb26
  have hb30 := s131.sub _ _ hb30
  have hb34 := s131.sub _ _ hb34
  have hb38 := s131.sub _ _ hb38
  have hb42 := s131.sub _ _ hb42
  have hb46 := s131.sub _ _ hb46
  have hb50 := s131.sub _ _ hb50
  have hb54 := s131.sub _ _ hb54
  have hb58 := s131.sub _ _ hb58
  have hb62 := s131.sub _ _ hb62
  have hb66 := s131.sub _ _ hb66
  have hs := hs.trans s131
  have hn := Nat.le_trans hn hn2
  refine sq.op rfl rfl (Does.store (k := 2) (xs := [.slice (some ⟨n32, 0, none⟩) (2) (2), .slice none (0) (0)]) (cs' := [.slice (some ⟨n32, 0, none⟩) (2) (2), .slice none (0) (0)]) hf (by kernel_rfl) rfl rfl rfl hb128 rfl rfl (Nat.le_of_ble_eq_true rfl) rfl) ?_
  rintro _ h133 n134 ⟨rfl, hb132⟩ s135 hn2 hf
  refine sq.w0 ?_
  have hb2 := s135.get1 (e_n1_n72) hb2
  have hb6 := s135.get1 (e_n4_n72) hb6
  have hb10 := s135.get1 (e_n8_n72) hb10
  have hb14 := s135.get1 (e_n12_n72) hb14
  have hb18 := s135.get1 (e_n16_n72) hb18
  have hb22 := s135.get1 (e_n20_n72) hb22
  have hb26 := s135.get1 (e_n24_n72) hb26
  have hb30 := s135.get1 (e_n28_n72) hb30
  have hb34 := s135.get1 (e_n32_n72) hb34
  have hb38 := s135.get1 (e_n36_n72) hb38
  have hb42 := s135.get1 (e_n40_n72) hb42
  have hb46 := s135.get1 (e_n44_n72) hb46
  have hb50 := s135.get1 (e_n48_n72) hb50
  have hb54 := s135.get1 (e_n52_n72) hb54
  have hb58 := s135.get1 (e_n56_n72) hb58
  have hb62 := s135.get1 (e_n60_n72) hb62
  have hb66 := s135.get1 (e_n64_n72) hb66
  have hs := hs.fresh z_n72 s135
  have hn := Nat.le_trans hn hn2
  refine sq.e (AWp.seq (AWp.rowV (l := _) pok ?_))
  refine sq.c (v := .pointer (some ⟨n72, 0, none⟩)) rfl rfl (by kernel_rfl) rfl ?_
  refine sq.c (v := .slice (some ⟨n32, 0, none⟩) (2) (2)) rfl rfl (ld1 (P := Tryd.prog) (t := 27) (p := 0) (v := .slice (some ⟨n32, 0, none⟩) (2) (2)) (by kernel_rfl) (by kernel_rfl) hb132 rfl) rfl ?_
  refine sq.c (v := .pointer (some ⟨n72, 1, none⟩)) rfl rfl (by kernel_rfl) rfl ?_
  refine sq.c (v := .slice none (0) (0)) rfl rfl (ld1 (P := Tryd.prog) (t := 38) (p := 1) (v := .slice none (0) (0)) (by kernel_rfl) (by kernel_rfl) hb132 rfl) rfl ?_
  refine sq.k rfl (CallsF.fn rfl (by kernel_rfl) rfl rfl) (ofBad ([(⟨#[117]⟩, ⟨#[120]⟩, 1), (⟨#[116]⟩, ⟨#[121]⟩, 2)] : List Fen) (([] : List ROwn) : List ROwn) (([] : List POwn) : List POwn) (IsRow.of (E := encFen) (xs := [(⟨#[117]⟩, ⟨#[120]⟩, 1), (⟨#[116]⟩, ⟨#[121]⟩, 2)]) (cap := 2) hb34 (Nat.le_refl _)) IsRow.nil (IOwns.nil _) (hld.keep hs) rfl rfl (by decide) (by decide) (by decide) (by decide) (by decide +kernel)) ?_
  rintro _ h136 n137 rfl s138 hn2 hf
  refine sq.w ?_
  have hb2 := s138.sub _ _ hb2
  have hb6 := s138.sub _ _ hb6
  have hb10 := s138.sub _ _ hb10
  have hb14 := s138.sub _ _ hb14
  have hb18 := s138.sub _ _ hb18
  have hb22 := s138.sub _ _ hb22
  have hb26 := s138.sub _ _ hb26
  have hb30 := s138.sub _ _ hb30
  have hb34 := s138.sub _ _ hb34
  have hb38 := s138.sub _ _ hb38
  have hb42 := s138.sub _ _ hb42
  have hb46 := s138.sub _ _ hb46
  have hb50 := s138.sub _ _ hb50
  have hb54 := s138.sub _ _ hb54
  have hb58 := s138.sub _ _ hb58
  have hb62 := s138.sub _ _ hb62
  have hb66 := s138.sub _ _ hb66
  have hs := hs.trans s138
  have hn := Nat.le_trans hn hn2
  refine sq.c (v := .tuple #[.pointer none, .int .i64 (4)]) rfl rfl rfl rfl ?_
  refine sq.c (v := .pointer none) rfl rfl rfl rfl ?_
  refine sq.c (v := .int .i64 (4)) rfl rfl rfl rfl ?_
  refine sq.c (v := .pointer none) rfl rfl rfl rfl ?_
  refine sq.c (v := .int .i64 (4)) rfl rfl rfl rfl ?_
  refine sq.e (AWp.seq (AWp.rowV (l := _) pok ?_))
  refine sq.c (v := .pointer none) rfl rfl rfl rfl ?_
  refine sq.c (v := .bool false) rfl rfl (by kernel_rfl) rfl ?_
  refine sq.c (v := .bool false) rfl rfl rfl rfl ?_
  refine sq.c (v := .int .i64 (4)) (wantT (g := 2) (d := 107) rfl rfl rfl) rfl rfl rfl ?_
  refine sq.c (v := .bool false) (wantT (g := 2) (d := 107) rfl rfl rfl) rfl rfl rfl ?_
  refine sq.c (v := .bool false) rfl rfl rfl rfl ?_
  refine sq.e ?_
  refine AWp.condF rfl rfl ?_
  refine AWp.skip (AWp.rowV (l := _) pok ?_)
  refine sq.c (v := .int .i64 (6)) rfl rfl rfl rfl ?_
  refine sq.c (v := .int .i64 (6)) rfl rfl rfl rfl ?_
  refine sq.e ?_
  refine ⟨_, _, rfl, (by decide), 6, rfl, hs, hn, hf, hb2, hb6, hb10, hb14, hb18, hb22, hb26, hb30, hb34, hb38, hb42, hb46, hb50, hb54, hb58, hb62, hb66, (by omega), (by omega), getV [(y70 0), undef, undef, undef, undef, .pointer (some ⟨n72, 0, none⟩), .pointer none, .int .i64 (4), undef, undef, undef, undef, undef, undef, undef, undef, undef, undef, undef, undef, undef, undef, undef, undef, undef, undef, undef, undef, undef, undef, undef, undef, undef, undef, undef, undef, undef, undef, undef, undef, undef, undef, undef, undef, undef, undef, undef, undef, undef, undef, undef, undef, undef, undef, undef, undef, undef, undef, undef, undef, undef, undef, undef, undef, undef, undef, undef, undef, undef, undef, undef, undef, undef, undef, undef, undef, undef, undef, undef, undef, undef, undef, undef, undef, undef, undef, undef, undef, undef, undef, undef, undef, undef, undef, .bool true, .pointer (some ⟨n64, 10, none⟩), .agg #[.slice (some ⟨n32, 0, none⟩) (2) (2), .slice none (0) (0)], .tuple #[.pointer none, .int .i64 (4)], .pointer (some ⟨n72, 0, none⟩), .slice (some ⟨n32, 0, none⟩) (2) (2), .pointer (some ⟨n72, 1, none⟩), .slice none (0) (0), .tuple #[.pointer none, .int .i64 (4)], .pointer none, .int .i64 (4), .pointer none, .bool false, .bool false, .int .i64 (4), .bool false, .bool false, .int .i64 (6)], rfl⟩
 ·skip
  refine AWp.seq (AWp.rowV (l := _) pok ?_)
  refine sq.c (v := .bool true) rfl rfl rfl rfl ?_
  refine sq.e (AWp.seq ?_)
  refine AWp.condT rfl rfl ?_
  refine AWp.skip (AWp.seq (AWp.block (AWp.seq (AWp.rowV (l := _) pok ?_))))
  refine sq.c (v := .pointer (some ⟨n64, 12, none⟩)) rfl rfl (by kernel_rfl) rfl ?_
  refine sq.c (v := .agg #[.slice none (0) (0), .slice (some ⟨n36, 0, none⟩) (1) (1)]) rfl rfl (ldA (P := Tryd.prog) (t := 62) (p := 12) (k := 2) (xs := [.slice none (0) (0), .slice (some ⟨n36, 0, none⟩) (1) (1)]) (by kernel_rfl) (by kernel_rfl) hb66 rfl (Nat.le_of_ble_eq_true rfl)) rfl ?_
  have e_n1_n72 : Apt n1 n72 := hf.ne hb2
  have e_n4_n72 : Apt n4 n72 := hf.ne hb6
  have e_n8_n72 : Apt n8 n72 := hf.ne hb10
  have e_n12_n72 : Apt n12 n72 := hf.ne hb14
  have e_n16_n72 : Apt n16 n72 := hf.ne hb18
  have e_n20_n72 : Apt n20 n72 := hf.ne hb22
  have e_n24_n72 : Apt n24 n72 := hf.ne hb26
  have e_n28_n72 : Apt n28 n72 := hf.ne hb30
  have e_n32_n72 : Apt n32 n72 := hf.ne hb34
  have e_n36_n72 : Apt n36 n72 := hf.ne hb38
  have e_n40_n72 : Apt n40 n72 := hf.ne hb42
  have e_n44_n72 : Apt n44 n72 := hf.ne hb46
  have e_n48_n72 : Apt n48 n72 := hf.ne hb50
  have e_n52_n72 : Apt n52 n72 := hf.ne hb54
  have e_n56_n72 : Apt n56 n72 := hf.ne hb58
  have e_n60_n72 : Apt n60 n72 := hf.ne hb62
  have e_n64_n72 : Apt n64 n72 := hf.ne hb66
  have z_n72 : h.get n72 = none := hf0 _ hn
  refine sq.op rfl rfl (Does.alloc (cs := [.slice none (0) (0), .slice none (0) (0)]) hf (z := .agg #[.slice none (0) (0), .slice none (0) (0)]) (by kernel_rfl) rfl) ?_
  rintro _ h140 n141 ⟨rfl, hb139⟩ s142 hn2 hf
  refine sq.w ?_
  have hb2 := s142.sub _ _ hb2
  have hb6 := s142.sub _ _ hb6
  have hb10 := s142.sub _ _ hb10
  have hb14 := s142.sub _ _ hb14
  have hb18 := s142.sub _ _ hb18
  have hb22 := s142.sub _ _ hb22
  have hb26 := s142.sub _ _ hb26
  have hb30 := s142.sub _ _ hb30
  have hb34 := s142.sub _ _ hb34
  have hb38 := s142.sub _ _ hb38
  have hb42 := s142.sub _ _ hb42
  have hb46 := s142.sub _ _ hb46
  have hb50 := s142.sub _ _ hb50
  have hb54 := s142.sub _ _ hb54
  have hb58 := s142.sub _ _ hb58
  have hb62 := s142.sub _ _ hb62
  have hb66 := s142.sub _ _ hb66
  have hs := hs.trans s142
  have hn := Nat.le_trans hn hn2
  refine sq.op rfl rfl (Does.store (k := 2) (xs := [.slice none (0) (0), .slice (some ⟨n36, 0, none⟩) (1) (1)]) (cs' := [.slice none (0) (0), .slice (some ⟨n36, 0, none⟩) (1) (1)]) hf (by kernel_rfl) rfl rfl rfl hb139 rfl rfl (Nat.le_of_ble_eq_true rfl) rfl) ?_
  rintro _ h144 n145 ⟨rfl, hb143⟩ s146 hn2 hf
  refine sq.w0 ?_
  have hb2 := s146.get1 (e_n1_n72) hb2
  have hb6 := s146.get1 (e_n4_n72) hb6
  have hb10 := s146.get1 (e_n8_n72) hb10
  have hb14 := s146.get1 (e_n12_n72) hb14
  have hb18 := s146.get1 (e_n16_n72) hb18
  have hb22 := s146.get1 (e_n20_n72) hb22
  have hb26 := s146.get1 (e_n24_n72) hb26
  have hb30 := s146.get1 (e_n28_n72) hb30
  have hb34 := s146.get1 (e_n32_n72) hb34
  have hb38 := s146.get1 (e_n36_n72) hb38
  have hb42 := s146.get1 (e_n40_n72) hb42
  have hb46 := s146.get1 (e_n44_n72) hb46
  have hb50 := s146.get1 (e_n48_n72) hb50
  have hb54 := s146.get1 (e_n52_n72) hb54
  have hb58 := s146.get1 (e_n56_n72) hb58
  have hb62 := s146.get1 (e_n60_n72) hb62
  have hb66 := s146.get1 (e_n64_n72) hb66
  have hs := hs.fresh z_n72 s146
  have hn := Nat.le_trans hn hn2
  refine sq.e (AWp.seq (AWp.rowV (l := _) pok ?_))
  refine sq.c (v := .pointer (some ⟨n72, 0, none⟩)) rfl rfl (by kernel_rfl) rfl ?_
  refine sq.c (v := .slice none (0) (0)) rfl rfl (ld1 (P := Tryd.prog) (t := 27) (p := 0) (v := .slice none (0) (0)) (by kernel_rfl) (by kernel_rfl) hb143 rfl) rfl ?_
  refine sq.c (v := .pointer (some ⟨n72, 1, none⟩)) rfl rfl (by kernel_rfl) rfl ?_
  refine sq.c (v := .slice (some ⟨n36, 0, none⟩) (1) (1)) rfl rfl (ld1 (P := Tryd.prog) (t := 38) (p := 1) (v := .slice (some ⟨n36, 0, none⟩) (1) (1)) (by kernel_rfl) (by kernel_rfl) hb143 rfl) rfl ?_
  refine sq.k rfl (CallsF.fn rfl (by kernel_rfl) rfl rfl) (ofBad ([] : List Fen) ([(⟨#[116]⟩, ((some ⟨n4, 0, none⟩), 1, 1), (none, 0, 0))] : List ROwn) ([(⟨#[116]⟩, ([(⟨#[97]⟩, ⟨#[98]⟩)], []))] : List POwn) IsRow.nil (IsRow.of (E := encOwn) (xs := [(⟨#[116]⟩, ((some ⟨n4, 0, none⟩), 1, 1), (none, 0, 0))]) (cap := 1) hb38 (Nat.le_refl _)) (IOwns.cons ⟨rfl, (IsRow.of (E := encLab) (xs := [(⟨#[97]⟩, ⟨#[98]⟩)]) (cap := 1) hb6 (Nat.le_refl _)), IsRow.nil⟩ (IOwns.nil _)) (hld.keep hs) rfl rfl (by decide) (by decide) (by decide) (by decide) (by decide +kernel)) ?_
  rintro _ h147 n148 rfl s149 hn2 hf
  refine sq.w ?_
  have hb2 := s149.sub _ _ hb2
  have hb6 := s149.sub _ _ hb6
  have hb10 := s149.sub _ _ hb10
  have hb14 := s149.sub _ _ hb14
  have hb18 := s149.sub _ _ hb18
  have hb22 := s149.sub _ _ hb22
  have hb26 := s149.sub _ _ hb26
  have hb30 := s149.sub _ _ hb30
  have hb34 := s149.sub _ _ hb34
  have hb38 := s149.sub _ _ hb38
  have hb42 := s149.sub _ _ hb42
  have hb46 := s149.sub _ _ hb46
  have hb50 := s149.sub _ _ hb50
  have hb54 := s149.sub _ _ hb54
  have hb58 := s149.sub _ _ hb58
  have hb62 := s149.sub _ _ hb62
  have hb66 := s149.sub _ _ hb66
  have hs := hs.trans s149
  have hn := Nat.le_trans hn hn2
  refine sq.c (v := .tuple #[.pointer none, .int .i64 (4)]) rfl rfl rfl rfl ?_
  refine sq.c (v := .pointer none) rfl rfl rfl rfl ?_
  refine sq.c (v := .int .i64 (4)) rfl rfl rfl rfl ?_
  refine sq.c (v := .pointer none) rfl rfl rfl rfl ?_
  refine sq.c (v := .int .i64 (4)) rfl rfl rfl rfl ?_
  refine sq.e (AWp.seq (AWp.rowV (l := _) pok ?_))
  refine sq.c (v := .pointer none) rfl rfl rfl rfl ?_
  refine sq.c (v := .bool false) rfl rfl (by kernel_rfl) rfl ?_
  refine sq.c (v := .bool false) rfl rfl rfl rfl ?_
  refine sq.c (v := .int .i64 (4)) (wantT (g := 2) (d := 107) rfl rfl rfl) rfl rfl rfl ?_
  refine sq.c (v := .bool false) (wantT (g := 2) (d := 107) rfl rfl rfl) rfl rfl rfl ?_
  refine sq.c (v := .bool false) rfl rfl rfl rfl ?_
  refine sq.e ?_
  refine AWp.condF rfl rfl ?_
  refine AWp.skip (AWp.rowV (l := _) pok ?_)
  refine sq.c (v := .int .i64 (7)) rfl rfl rfl rfl ?_
  refine sq.c (v := .int .i64 (7)) rfl rfl rfl rfl ?_
  refine sq.e ?_
  refine ⟨_, _, rfl, (by decide), 7, rfl, hs, hn, hf, hb2, hb6, hb10, hb14, hb18, hb22, hb26, hb30, hb34, hb38, hb42, hb46, hb50, hb54, hb58, hb62, hb66, (by omega), (by omega), getV [(y70 0), undef, undef, undef, undef, .pointer (some ⟨n72, 0, none⟩), .pointer none, .int .i64 (4), undef, undef, undef, undef, undef, undef, undef, undef, undef, undef, undef, undef, undef, undef, undef, undef, undef, undef, undef, undef, undef, undef, undef, undef, undef, undef, undef, undef, undef, undef, undef, undef, undef, undef, undef, undef, undef, undef, undef, undef, undef, undef, undef, undef, undef, undef, undef, undef, undef, undef, undef, undef, undef, undef, undef, undef, undef, undef, undef, undef, undef, undef, undef, undef, undef, undef, undef, undef, undef, undef, undef, undef, undef, undef, undef, undef, undef, undef, undef, undef, undef, undef, undef, undef, undef, undef, .bool true, .pointer (some ⟨n64, 12, none⟩), .agg #[.slice none (0) (0), .slice (some ⟨n36, 0, none⟩) (1) (1)], .tuple #[.pointer none, .int .i64 (4)], .pointer (some ⟨n72, 0, none⟩), .slice none (0) (0), .pointer (some ⟨n72, 1, none⟩), .slice (some ⟨n36, 0, none⟩) (1) (1), .tuple #[.pointer none, .int .i64 (4)], .pointer none, .int .i64 (4), .pointer none, .bool false, .bool false, .int .i64 (4), .bool false, .bool false, .int .i64 (7)], rfl⟩
 ·skip
  refine AWp.seq (AWp.rowV (l := _) pok ?_)
  refine sq.c (v := .bool true) rfl rfl rfl rfl ?_
  refine sq.e (AWp.seq ?_)
  refine AWp.condT rfl rfl ?_
  refine AWp.skip (AWp.seq (AWp.block (AWp.seq (AWp.rowV (l := _) pok ?_))))
  refine sq.c (v := .pointer (some ⟨n64, 14, none⟩)) rfl rfl (by kernel_rfl) rfl ?_
  refine sq.c (v := .agg #[.slice none (0) (0), .slice (some ⟨n40, 0, none⟩) (1) (1)]) rfl rfl (ldA (P := Tryd.prog) (t := 62) (p := 14) (k := 2) (xs := [.slice none (0) (0), .slice (some ⟨n40, 0, none⟩) (1) (1)]) (by kernel_rfl) (by kernel_rfl) hb66 rfl (Nat.le_of_ble_eq_true rfl)) rfl ?_
  have e_n1_n72 : Apt n1 n72 := hf.ne hb2
  have e_n4_n72 : Apt n4 n72 := hf.ne hb6
  have e_n8_n72 : Apt n8 n72 := hf.ne hb10
  have e_n12_n72 : Apt n12 n72 := hf.ne hb14
  have e_n16_n72 : Apt n16 n72 := hf.ne hb18
  have e_n20_n72 : Apt n20 n72 := hf.ne hb22
  have e_n24_n72 : Apt n24 n72 := hf.ne hb26
  have e_n28_n72 : Apt n28 n72 := hf.ne hb30
  have e_n32_n72 : Apt n32 n72 := hf.ne hb34
  have e_n36_n72 : Apt n36 n72 := hf.ne hb38
  have e_n40_n72 : Apt n40 n72 := hf.ne hb42
  have e_n44_n72 : Apt n44 n72 := hf.ne hb46
  have e_n48_n72 : Apt n48 n72 := hf.ne hb50
  have e_n52_n72 : Apt n52 n72 := hf.ne hb54
  have e_n56_n72 : Apt n56 n72 := hf.ne hb58
  have e_n60_n72 : Apt n60 n72 := hf.ne hb62
  have e_n64_n72 : Apt n64 n72 := hf.ne hb66
  have z_n72 : h.get n72 = none := hf0 _ hn
  refine sq.op rfl rfl (Does.alloc (cs := [.slice none (0) (0), .slice none (0) (0)]) hf (z := .agg #[.slice none (0) (0), .slice none (0) (0)]) (by kernel_rfl) rfl) ?_
  rintro _ h151 n152 ⟨rfl, hb150⟩ s153 hn2 hf
  refine sq.w ?_
  have hb2 := s153.sub _ _ hb2
  have hb6 := s153.sub _ _ hb6
  have hb10 := s153.sub _ _ hb10
  have hb14 := s153.sub _ _ hb14
  have hb18 := s153.sub _ _ hb18
  have hb22 := s153.sub _ _ hb22
  have hb26 := s153.sub _ _ hb26
  have hb30 := s153.sub _ _ hb30
  have hb34 := s153.sub _ _ hb34
  have hb38 := s153.sub _ _ hb38
  have hb42 := s153.sub _ _ hb42
  have hb46 := s153.sub _ _ hb46
  have hb50 := s153.sub _ _ hb50
  have hb54 := s153.sub _ _ hb54
  have hb58 := s153.sub _ _ hb58
  have hb62 := s153.sub _ _ hb62
  have hb66 := s153.sub _ _ hb66
  have hs := hs.trans s153
  have hn := Nat.le_trans hn hn2
  refine sq.op rfl rfl (Does.store (k := 2) (xs := [.slice none (0) (0), .slice (some ⟨n40, 0, none⟩) (1) (1)]) (cs' := [.slice none (0) (0), .slice (some ⟨n40, 0, none⟩) (1) (1)]) hf (by kernel_rfl) rfl rfl rfl hb150 rfl rfl (Nat.le_of_ble_eq_true rfl) rfl) ?_
  rintro _ h155 n156 ⟨rfl, hb154⟩ s157 hn2 hf
  refine sq.w0 ?_
  have hb2 := s157.get1 (e_n1_n72) hb2
  have hb6 := s157.get1 (e_n4_n72) hb6
  have hb10 := s157.get1 (e_n8_n72) hb10
  have hb14 := s157.get1 (e_n12_n72) hb14
  have hb18 := s157.get1 (e_n16_n72) hb18
  have hb22 := s157.get1 (e_n20_n72) hb22
  have hb26 := s157.get1 (e_n24_n72) hb26
  have hb30 := s157.get1 (e_n28_n72) hb30
  have hb34 := s157.get1 (e_n32_n72) hb34
  have hb38 := s157.get1 (e_n36_n72) hb38
  have hb42 := s157.get1 (e_n40_n72) hb42
  have hb46 := s157.get1 (e_n44_n72) hb46
  have hb50 := s157.get1 (e_n48_n72) hb50
  have hb54 := s157.get1 (e_n52_n72) hb54
  have hb58 := s157.get1 (e_n56_n72) hb58
  have hb62 := s157.get1 (e_n60_n72) hb62
  have hb66 := s157.get1 (e_n64_n72) hb66
  have hs := hs.fresh z_n72 s157
  have hn := Nat.le_trans hn hn2
  refine sq.e (AWp.seq (AWp.rowV (l := _) pok ?_))
  refine sq.c (v := .pointer (some ⟨n72, 0, none⟩)) rfl rfl (by kernel_rfl) rfl ?_
  refine sq.c (v := .slice none (0) (0)) rfl rfl (ld1 (P := Tryd.prog) (t := 27) (p := 0) (v := .slice none (0) (0)) (by kernel_rfl) (by kernel_rfl) hb154 rfl) rfl ?_
  refine sq.c (v := .pointer (some ⟨n72, 1, none⟩)) rfl rfl (by kernel_rfl) rfl ?_
  refine sq.c (v := .slice (some ⟨n40, 0, none⟩) (1) (1)) rfl rfl (ld1 (P := Tryd.prog) (t := 38) (p := 1) (v := .slice (some ⟨n40, 0, none⟩) (1) (1)) (by kernel_rfl) (by kernel_rfl) hb154 rfl) rfl ?_
  refine sq.k rfl (CallsF.fn rfl (by kernel_rfl) rfl rfl) (ofBad ([] : List Fen) ([(⟨#[116]⟩, (none, 0, 0), ((some ⟨n1, 0, none⟩), 1, 1))] : List ROwn) ([(⟨#[116]⟩, ([], [(1, 0)]))] : List POwn) IsRow.nil (IsRow.of (E := encOwn) (xs := [(⟨#[116]⟩, (none, 0, 0), ((some ⟨n1, 0, none⟩), 1, 1))]) (cap := 1) hb42 (Nat.le_refl _)) (IOwns.cons ⟨rfl, IsRow.nil, (IsRow.of (E := encSmp) (xs := [(1, 0)]) (cap := 1) hb2 (Nat.le_refl _))⟩ (IOwns.nil _)) (hld.keep hs) rfl rfl (by decide) (by decide) (by decide) (by decide) (by decide +kernel)) ?_
  rintro _ h158 n159 rfl s160 hn2 hf
  refine sq.w ?_
  have hb2 := s160.sub _ _ hb2
  have hb6 := s160.sub _ _ hb6
  have hb10 := s160.sub _ _ hb10
  have hb14 := s160.sub _ _ hb14
  have hb18 := s160.sub _ _ hb18
  have hb22 := s160.sub _ _ hb22
  have hb26 := s160.sub _ _ hb26
  have hb30 := s160.sub _ _ hb30
  have hb34 := s160.sub _ _ hb34
  have hb38 := s160.sub _ _ hb38
  have hb42 := s160.sub _ _ hb42
  have hb46 := s160.sub _ _ hb46
  have hb50 := s160.sub _ _ hb50
  have hb54 := s160.sub _ _ hb54
  have hb58 := s160.sub _ _ hb58
  have hb62 := s160.sub _ _ hb62
  have hb66 := s160.sub _ _ hb66
  have hs := hs.trans s160
  have hn := Nat.le_trans hn hn2
  refine sq.c (v := .tuple #[.pointer none, .int .i64 (4)]) rfl rfl rfl rfl ?_
  refine sq.c (v := .pointer none) rfl rfl rfl rfl ?_
  refine sq.c (v := .int .i64 (4)) rfl rfl rfl rfl ?_
  refine sq.c (v := .pointer none) rfl rfl rfl rfl ?_
  refine sq.c (v := .int .i64 (4)) rfl rfl rfl rfl ?_
  refine sq.e (AWp.seq (AWp.rowV (l := _) pok ?_))
  refine sq.c (v := .pointer none) rfl rfl rfl rfl ?_
  refine sq.c (v := .bool false) rfl rfl (by kernel_rfl) rfl ?_
  refine sq.c (v := .bool false) rfl rfl rfl rfl ?_
  refine sq.c (v := .int .i64 (4)) (wantT (g := 2) (d := 107) rfl rfl rfl) rfl rfl rfl ?_
  refine sq.c (v := .bool false) (wantT (g := 2) (d := 107) rfl rfl rfl) rfl rfl rfl ?_
  refine sq.c (v := .bool false) rfl rfl rfl rfl ?_
  refine sq.e ?_
  refine AWp.condF rfl rfl ?_
  refine AWp.skip (AWp.rowV (l := _) pok ?_)
  refine sq.c (v := .int .i64 (8)) rfl rfl rfl rfl ?_
  refine sq.c (v := .int .i64 (8)) rfl rfl rfl rfl ?_
  refine sq.e ?_
  refine ⟨_, _, rfl, (by decide), 8, rfl, hs, hn, hf, hb2, hb6, hb10, hb14, hb18, hb22, hb26, hb30, hb34, hb38, hb42, hb46, hb50, hb54, hb58, hb62, hb66, (by omega), (by omega), getV [(y70 0), undef, undef, undef, undef, .pointer (some ⟨n72, 0, none⟩), .pointer none, .int .i64 (4), undef, undef, undef, undef, undef, undef, undef, undef, undef, undef, undef, undef, undef, undef, undef, undef, undef, undef, undef, undef, undef, undef, undef, undef, undef, undef, undef, undef, undef, undef, undef, undef, undef, undef, undef, undef, undef, undef, undef, undef, undef, undef, undef, undef, undef, undef, undef, undef, undef, undef, undef, undef, undef, undef, undef, undef, undef, undef, undef, undef, undef, undef, undef, undef, undef, undef, undef, undef, undef, undef, undef, undef, undef, undef, undef, undef, undef, undef, undef, undef, undef, undef, undef, undef, undef, undef, .bool true, .pointer (some ⟨n64, 14, none⟩), .agg #[.slice none (0) (0), .slice (some ⟨n40, 0, none⟩) (1) (1)], .tuple #[.pointer none, .int .i64 (4)], .pointer (some ⟨n72, 0, none⟩), .slice none (0) (0), .pointer (some ⟨n72, 1, none⟩), .slice (some ⟨n40, 0, none⟩) (1) (1), .tuple #[.pointer none, .int .i64 (4)], .pointer none, .int .i64 (4), .pointer none, .bool false, .bool false, .int .i64 (4), .bool false, .bool false, .int .i64 (8)], rfl⟩
 ·skip
  refine AWp.seq (AWp.rowV (l := _) pok ?_)
  refine sq.c (v := .bool true) rfl rfl rfl rfl ?_
  refine sq.e (AWp.seq ?_)
  refine AWp.condT rfl rfl ?_
  refine AWp.skip (AWp.seq (AWp.block (AWp.seq (AWp.rowV (l := _) pok ?_))))
  refine sq.c (v := .pointer (some ⟨n64, 16, none⟩)) rfl rfl (by kernel_rfl) rfl ?_
  refine sq.c (v := .agg #[.slice none (0) (0), .slice (some ⟨n44, 0, none⟩) (1) (1)]) rfl rfl (ldA (P := Tryd.prog) (t := 62) (p := 16) (k := 2) (xs := [.slice none (0) (0), .slice (some ⟨n44, 0, none⟩) (1) (1)]) (by kernel_rfl) (by kernel_rfl) hb66 rfl (Nat.le_of_ble_eq_true rfl)) rfl ?_
  have e_n1_n72 : Apt n1 n72 := hf.ne hb2
  have e_n4_n72 : Apt n4 n72 := hf.ne hb6
  have e_n8_n72 : Apt n8 n72 := hf.ne hb10
  have e_n12_n72 : Apt n12 n72 := hf.ne hb14
  have e_n16_n72 : Apt n16 n72 := hf.ne hb18
  have e_n20_n72 : Apt n20 n72 := hf.ne hb22
  have e_n24_n72 : Apt n24 n72 := hf.ne hb26
  have e_n28_n72 : Apt n28 n72 := hf.ne hb30
  have e_n32_n72 : Apt n32 n72 := hf.ne hb34
  have e_n36_n72 : Apt n36 n72 := hf.ne hb38
  have e_n40_n72 : Apt n40 n72 := hf.ne hb42
  have e_n44_n72 : Apt n44 n72 := hf.ne hb46
  have e_n48_n72 : Apt n48 n72 := hf.ne hb50
  have e_n52_n72 : Apt n52 n72 := hf.ne hb54
  have e_n56_n72 : Apt n56 n72 := hf.ne hb58
  have e_n60_n72 : Apt n60 n72 := hf.ne hb62
  have e_n64_n72 : Apt n64 n72 := hf.ne hb66
  have z_n72 : h.get n72 = none := hf0 _ hn
  refine sq.op rfl rfl (Does.alloc (cs := [.slice none (0) (0), .slice none (0) (0)]) hf (z := .agg #[.slice none (0) (0), .slice none (0) (0)]) (by kernel_rfl) rfl) ?_
  rintro _ h162 n163 ⟨rfl, hb161⟩ s164 hn2 hf
  refine sq.w ?_
  have hb2 := s164.sub _ _ hb2
  have hb6 := s164.sub _ _ hb6
  have hb10 := s164.sub _ _ hb10
  have hb14 := s164.sub _ _ hb14
  have hb18 := s164.sub _ _ hb18
  have hb22 := s164.sub _ _ hb22
  have hb26 := s164.sub _ _ hb26
  have hb30 := s164.sub _ _ hb30
  have hb34 := s164.sub _ _ hb34
  have hb38 := s164.sub _ _ hb38
  have hb42 := s164.sub _ _ hb42
  have hb46 := s164.sub _ _ hb46
  have hb50 := s164.sub _ _ hb50
  have hb54 := s164.sub _ _ hb54
  have hb58 := s164.sub _ _ hb58
  have hb62 := s164.sub _ _ hb62
  have hb66 := s164.sub _ _ hb66
  have hs := hs.trans s164
  have hn := Nat.le_trans hn hn2
  refine sq.op rfl rfl (Does.store (k := 2) (xs := [.slice none (0) (0), .slice (some ⟨n44, 0, none⟩) (1) (1)]) (cs' := [.slice none (0) (0), .slice (some ⟨n44, 0, none⟩) (1) (1)]) hf (by kernel_rfl) rfl rfl rfl hb161 rfl rfl (Nat.le_of_ble_eq_true rfl) rfl) ?_
  rintro _ h166 n167 ⟨rfl, hb165⟩ s168 hn2 hf
  refine sq.w0 ?_
  have hb2 := s168.get1 (e_n1_n72) hb2
  have hb6 := s168.get1 (e_n4_n72) hb6
  have hb10 := s168.get1 (e_n8_n72) hb10
  have hb14 := s168.get1 (e_n12_n72) hb14
  have hb18 := s168.get1 (e_n16_n72) hb18
  have hb22 := s168.get1 (e_n20_n72) hb22
  have hb26 := s168.get1 (e_n24_n72) hb26
  have hb30 := s168.get1 (e_n28_n72) hb30
  have hb34 := s168.get1 (e_n32_n72) hb34
  have hb38 := s168.get1 (e_n36_n72) hb38
  have hb42 := s168.get1 (e_n40_n72) hb42
  have hb46 := s168.get1 (e_n44_n72) hb46
  have hb50 := s168.get1 (e_n48_n72) hb50
  have hb54 := s168.get1 (e_n52_n72) hb54
  have hb58 := s168.get1 (e_n56_n72) hb58
  have hb62 := s168.get1 (e_n60_n72) hb62
  have hb66 := s168.get1 (e_n64_n72) hb66
  have hs := hs.fresh z_n72 s168
  have hn := Nat.le_trans hn hn2
  refine sq.e (AWp.seq (AWp.rowV (l := _) pok ?_))
  refine sq.c (v := .pointer (some ⟨n72, 0, none⟩)) rfl rfl (by kernel_rfl) rfl ?_
  refine sq.c (v := .slice none (0) (0)) rfl rfl (ld1 (P := Tryd.prog) (t := 27) (p := 0) (v := .slice none (0) (0)) (by kernel_rfl) (by kernel_rfl) hb165 rfl) rfl ?_
  refine sq.c (v := .pointer (some ⟨n72, 1, none⟩)) rfl rfl (by kernel_rfl) rfl ?_
  refine sq.c (v := .slice (some ⟨n44, 0, none⟩) (1) (1)) rfl rfl (ld1 (P := Tryd.prog) (t := 38) (p := 1) (v := .slice (some ⟨n44, 0, none⟩) (1) (1)) (by kernel_rfl) (by kernel_rfl) hb165 rfl) rfl ?_
  refine sq.k rfl (CallsF.fn rfl (by kernel_rfl) rfl rfl) (ofBad ([] : List Fen) ([(⟨#[]⟩, ((some ⟨n4, 0, none⟩), 1, 1), ((some ⟨n1, 0, none⟩), 1, 1))] : List ROwn) ([(⟨#[]⟩, ([(⟨#[97]⟩, ⟨#[98]⟩)], [(1, 0)]))] : List POwn) IsRow.nil (IsRow.of (E := encOwn) (xs := [(⟨#[]⟩, ((some ⟨n4, 0, none⟩), 1, 1), ((some ⟨n1, 0, none⟩), 1, 1))]) (cap := 1) hb46 (Nat.le_refl _)) (IOwns.cons ⟨rfl, (IsRow.of (E := encLab) (xs := [(⟨#[97]⟩, ⟨#[98]⟩)]) (cap := 1) hb6 (Nat.le_refl _)), (IsRow.of (E := encSmp) (xs := [(1, 0)]) (cap := 1) hb2 (Nat.le_refl _))⟩ (IOwns.nil _)) (hld.keep hs) rfl rfl (by decide) (by decide) (by decide) (by decide) (by decide +kernel)) ?_
  rintro _ h169 n170 rfl s171 hn2 hf
  refine sq.w ?_
  have hb2 := s171.sub _ _ hb2
  have hb6 := s171.sub _ _ hb6
  have hb10 := s171.sub _ _ hb10
  have hb14 := s171.sub _ _ hb14
  have hb18 := s171.sub _ _ hb18
  have hb22 := s171.sub _ _ hb22
  have hb26 := s171.sub _ _ hb26
  have hb30 := s171.sub _ _ hb30
  have hb34 := s171.sub _ _ hb34
  have hb38 := s171.sub _ _ hb38
  have hb42 := s171.sub _ _ hb42
  have hb46 := s171.sub _ _ hb46
  have hb50 := s171.sub _ _ hb50
  have hb54 := s171.sub _ _ hb54
  have hb58 := s171.sub _ _ hb58
  have hb62 := s171.sub _ _ hb62
  have hb66 := s171.sub _ _ hb66
  have hs := hs.trans s171
  have hn := Nat.le_trans hn hn2
  refine sq.c (v := .tuple #[.pointer none, .int .i64 (4)]) rfl rfl rfl rfl ?_
  refine sq.c (v := .pointer none) rfl rfl rfl rfl ?_
  refine sq.c (v := .int .i64 (4)) rfl rfl rfl rfl ?_
  refine sq.c (v := .pointer none) rfl rfl rfl rfl ?_
  refine sq.c (v := .int .i64 (4)) rfl rfl rfl rfl ?_
  refine sq.e (AWp.seq (AWp.rowV (l := _) pok ?_))
  refine sq.c (v := .pointer none) rfl rfl rfl rfl ?_
  refine sq.c (v := .bool false) rfl rfl (by kernel_rfl) rfl ?_
  refine sq.c (v := .bool false) rfl rfl rfl rfl ?_
  refine sq.c (v := .int .i64 (4)) (wantT (g := 2) (d := 107) rfl rfl rfl) rfl rfl rfl ?_
  refine sq.c (v := .bool false) (wantT (g := 2) (d := 107) rfl rfl rfl) rfl rfl rfl ?_
  refine sq.c (v := .bool false) rfl rfl rfl rfl ?_
  refine sq.e ?_
  refine AWp.condF rfl rfl ?_
  refine AWp.skip (AWp.rowV (l := _) pok ?_)
  refine sq.c (v := .int .i64 (9)) rfl rfl rfl rfl ?_
  refine sq.c (v := .int .i64 (9)) rfl rfl rfl rfl ?_
  refine sq.e ?_
  refine ⟨_, _, rfl, (by decide), 9, rfl, hs, hn, hf, hb2, hb6, hb10, hb14, hb18, hb22, hb26, hb30, hb34, hb38, hb42, hb46, hb50, hb54, hb58, hb62, hb66, (by omega), (by omega), getV [(y70 0), undef, undef, undef, undef, .pointer (some ⟨n72, 0, none⟩), .pointer none, .int .i64 (4), undef, undef, undef, undef, undef, undef, undef, undef, undef, undef, undef, undef, undef, undef, undef, undef, undef, undef, undef, undef, undef, undef, undef, undef, undef, undef, undef, undef, undef, undef, undef, undef, undef, undef, undef, undef, undef, undef, undef, undef, undef, undef, undef, undef, undef, undef, undef, undef, undef, undef, undef, undef, undef, undef, undef, undef, undef, undef, undef, undef, undef, undef, undef, undef, undef, undef, undef, undef, undef, undef, undef, undef, undef, undef, undef, undef, undef, undef, undef, undef, undef, undef, undef, undef, undef, undef, .bool true, .pointer (some ⟨n64, 16, none⟩), .agg #[.slice none (0) (0), .slice (some ⟨n44, 0, none⟩) (1) (1)], .tuple #[.pointer none, .int .i64 (4)], .pointer (some ⟨n72, 0, none⟩), .slice none (0) (0), .pointer (some ⟨n72, 1, none⟩), .slice (some ⟨n44, 0, none⟩) (1) (1), .tuple #[.pointer none, .int .i64 (4)], .pointer none, .int .i64 (4), .pointer none, .bool false, .bool false, .int .i64 (4), .bool false, .bool false, .int .i64 (9)], rfl⟩
 ·skip
  refine AWp.seq (AWp.rowV (l := _) pok ?_)
  refine sq.c (v := .bool true) rfl rfl rfl rfl ?_
  refine sq.e (AWp.seq ?_)
  refine AWp.condT rfl rfl ?_
  refine AWp.skip (AWp.seq (AWp.block (AWp.seq (AWp.rowV (l := _) pok ?_))))
  refine sq.c (v := .pointer (some ⟨n64, 18, none⟩)) rfl rfl (by kernel_rfl) rfl ?_
  refine sq.c (v := .agg #[.slice none (0) (0), .slice (some ⟨n52, 0, none⟩) (1) (1)]) rfl rfl (ldA (P := Tryd.prog) (t := 62) (p := 18) (k := 2) (xs := [.slice none (0) (0), .slice (some ⟨n52, 0, none⟩) (1) (1)]) (by kernel_rfl) (by kernel_rfl) hb66 rfl (Nat.le_of_ble_eq_true rfl)) rfl ?_
  have e_n1_n72 : Apt n1 n72 := hf.ne hb2
  have e_n4_n72 : Apt n4 n72 := hf.ne hb6
  have e_n8_n72 : Apt n8 n72 := hf.ne hb10
  have e_n12_n72 : Apt n12 n72 := hf.ne hb14
  have e_n16_n72 : Apt n16 n72 := hf.ne hb18
  have e_n20_n72 : Apt n20 n72 := hf.ne hb22
  have e_n24_n72 : Apt n24 n72 := hf.ne hb26
  have e_n28_n72 : Apt n28 n72 := hf.ne hb30
  have e_n32_n72 : Apt n32 n72 := hf.ne hb34
  have e_n36_n72 : Apt n36 n72 := hf.ne hb38
  have e_n40_n72 : Apt n40 n72 := hf.ne hb42
  have e_n44_n72 : Apt n44 n72 := hf.ne hb46
  have e_n48_n72 : Apt n48 n72 := hf.ne hb50
  have e_n52_n72 : Apt n52 n72 := hf.ne hb54
  have e_n56_n72 : Apt n56 n72 := hf.ne hb58
  have e_n60_n72 : Apt n60 n72 := hf.ne hb62
  have e_n64_n72 : Apt n64 n72 := hf.ne hb66
  have z_n72 : h.get n72 = none := hf0 _ hn
  refine sq.op rfl rfl (Does.alloc (cs := [.slice none (0) (0), .slice none (0) (0)]) hf (z := .agg #[.slice none (0) (0), .slice none (0) (0)]) (by kernel_rfl) rfl) ?_
  rintro _ h173 n174 ⟨rfl, hb172⟩ s175 hn2 hf
  refine sq.w ?_
  have hb2 := s175.sub _ _ hb2
  have hb6 := s175.sub _ _ hb6
  have hb10 := s175.sub _ _ hb10
  have hb14 := s175.sub _ _ hb14
  have hb18 := s175.sub _ _ hb18
  have hb22 := s175.sub _ _ hb22
  have hb26 := s175.sub _ _ hb26
  have hb30 := s175.sub _ _ hb30
  have hb34 := s175.sub _ _ hb34
  have hb38 := s175.sub _ _ hb38
  have hb42 := s175.sub _ _ hb42
  have hb46 := s175.sub _ _ hb46
  have hb50 := s175.sub _ _ hb50
  have hb54 := s175.sub _ _ hb54
  have hb58 := s175.sub _ _ hb58
  have hb62 := s175.sub _ _ hb62
  have hb66 := s175.sub _ _ hb66
  have hs := hs.trans s175
  have hn := Nat.le_trans hn hn2
  refine sq.op rfl rfl (Does.store (k := 2) (xs := [.slice none (0) (0), .slice (some ⟨n52, 0, none⟩) (1) (1)]) (cs' := [.slice none (0) (0), .slice (some ⟨n52, 0, none⟩) (1) (1)]) hf (by kernel_rfl) rfl rfl rfl hb172 rfl rfl (Nat.le_of_ble_eq_true rfl) rfl) ?_
  rintro _ h177 n178 ⟨rfl, hb176⟩ s179 hn2 hf
  refine sq.w0 ?_
  have hb2 := s179.get1 (e_n1_n72) hb2
  have hb6 := s179.get1 (e_n4_n72) hb6
  have hb10 := s179.get1 (e_n8_n72) hb10
  have hb14 := s179.get1 (e_n12_n72) hb14
  have hb18 := s179.get1 (e_n16_n72) hb18
  have hb22 := s179.get1 (e_n20_n72) hb22
  have hb26 := s179.get1 (e_n24_n72) hb26
  have hb30 := s179.get1 (e_n28_n72) hb30
  have hb34 := s179.get1 (e_n32_n72) hb34
  have hb38 := s179.get1 (e_n36_n72) hb38
  have hb42 := s179.get1 (e_n40_n72) hb42
  have hb46 := s179.get1 (e_n44_n72) hb46
  have hb50 := s179.get1 (e_n48_n72) hb50
  have hb54 := s179.get1 (e_n52_n72) hb54
  have hb58 := s179.get1 (e_n56_n72) hb58
  have hb62 := s179.get1 (e_n60_n72) hb62
  have hb66 := s179.get1 (e_n64_n72) hb66
  have hs := hs.fresh z_n72 s179
  have hn := Nat.le_trans hn hn2
  refine sq.e (AWp.seq (AWp.rowV (l := _) pok ?_))
  refine sq.c (v := .pointer (some ⟨n72, 0, none⟩)) rfl rfl (by kernel_rfl) rfl ?_
  refine sq.c (v := .slice none (0) (0)) rfl rfl (ld1 (P := Tryd.prog) (t := 27) (p := 0) (v := .slice none (0) (0)) (by kernel_rfl) (by kernel_rfl) hb176 rfl) rfl ?_
  refine sq.c (v := .pointer (some ⟨n72, 1, none⟩)) rfl rfl (by kernel_rfl) rfl ?_
  refine sq.c (v := .slice (some ⟨n52, 0, none⟩) (1) (1)) rfl rfl (ld1 (P := Tryd.prog) (t := 38) (p := 1) (v := .slice (some ⟨n52, 0, none⟩) (1) (1)) (by kernel_rfl) (by kernel_rfl) hb176 rfl) rfl ?_
  refine sq.k rfl (CallsF.fn rfl (by kernel_rfl) rfl rfl) (ofBad ([] : List Fen) ([(⟨#[116]⟩, ((some ⟨n4, 0, none⟩), 1, 1), ((some ⟨n48, 0, none⟩), 2, 2))] : List ROwn) ([(⟨#[116]⟩, ([(⟨#[97]⟩, ⟨#[98]⟩)], [(1, 0), (1, 0)]))] : List POwn) IsRow.nil (IsRow.of (E := encOwn) (xs := [(⟨#[116]⟩, ((some ⟨n4, 0, none⟩), 1, 1), ((some ⟨n48, 0, none⟩), 2, 2))]) (cap := 1) hb54 (Nat.le_refl _)) (IOwns.cons ⟨rfl, (IsRow.of (E := encLab) (xs := [(⟨#[97]⟩, ⟨#[98]⟩)]) (cap := 1) hb6 (Nat.le_refl _)), (IsRow.of (E := encSmp) (xs := [(1, 0), (1, 0)]) (cap := 2) hb50 (Nat.le_refl _))⟩ (IOwns.nil _)) (hld.keep hs) rfl rfl (by decide) (by decide) (by decide) (by decide) (by decide +kernel)) ?_
  rintro _ h180 n181 rfl s182 hn2 hf
  refine sq.w ?_
  have hb2 := s182.sub _ _ hb2
  have hb6 := s182.sub _ _ hb6
  have hb10 := s182.sub _ _ hb10
  have hb14 := s182.sub _ _ hb14
  have hb18 := s182.sub _ _ hb18
  have hb22 := s182.sub _ _ hb22
  have hb26 := s182.sub _ _ hb26
  have hb30 := s182.sub _ _ hb30
  have hb34 := s182.sub _ _ hb34
  have hb38 := s182.sub _ _ hb38
  have hb42 := s182.sub _ _ hb42
  have hb46 := s182.sub _ _ hb46
  have hb50 := s182.sub _ _ hb50
  have hb54 := s182.sub _ _ hb54
  have hb58 := s182.sub _ _ hb58
  have hb62 := s182.sub _ _ hb62
  have hb66 := s182.sub _ _ hb66
  have hs := hs.trans s182
  have hn := Nat.le_trans hn hn2
  refine sq.c (v := .tuple #[.pointer none, .int .i64 (4)]) rfl rfl rfl rfl ?_
  refine sq.c (v := .pointer none) rfl rfl rfl rfl ?_
  refine sq.c (v := .int .i64 (4)) rfl rfl rfl rfl ?_
  refine sq.c (v := .pointer none) rfl rfl rfl rfl ?_
  refine sq.c (v := .int .i64 (4)) rfl rfl rfl rfl ?_
  refine sq.e (AWp.seq (AWp.rowV (l := _) pok ?_))
  refine sq.c (v := .pointer none) rfl rfl rfl rfl ?_
  refine sq.c (v := .bool false) rfl rfl (by kernel_rfl) rfl ?_
  refine sq.c (v := .bool false) rfl rfl rfl rfl ?_
  refine sq.c (v := .int .i64 (4)) (wantT (g := 2) (d := 107) rfl rfl rfl) rfl rfl rfl ?_
  refine sq.c (v := .bool false) (wantT (g := 2) (d := 107) rfl rfl rfl) rfl rfl rfl ?_
  refine sq.c (v := .bool false) rfl rfl rfl rfl ?_
  refine sq.e ?_
  refine AWp.condF rfl rfl ?_
  refine AWp.skip (AWp.rowV (l := _) pok ?_)
  refine sq.c (v := .int .i64 (10)) rfl rfl rfl rfl ?_
  refine sq.c (v := .int .i64 (10)) rfl rfl rfl rfl ?_
  refine sq.e ?_
  refine ⟨_, _, rfl, (by decide), 10, rfl, hs, hn, hf, hb2, hb6, hb10, hb14, hb18, hb22, hb26, hb30, hb34, hb38, hb42, hb46, hb50, hb54, hb58, hb62, hb66, (by omega), (by omega), getV [(y70 0), undef, undef, undef, undef, .pointer (some ⟨n72, 0, none⟩), .pointer none, .int .i64 (4), undef, undef, undef, undef, undef, undef, undef, undef, undef, undef, undef, undef, undef, undef, undef, undef, undef, undef, undef, undef, undef, undef, undef, undef, undef, undef, undef, undef, undef, undef, undef, undef, undef, undef, undef, undef, undef, undef, undef, undef, undef, undef, undef, undef, undef, undef, undef, undef, undef, undef, undef, undef, undef, undef, undef, undef, undef, undef, undef, undef, undef, undef, undef, undef, undef, undef, undef, undef, undef, undef, undef, undef, undef, undef, undef, undef, undef, undef, undef, undef, undef, undef, undef, undef, undef, undef, .bool true, .pointer (some ⟨n64, 18, none⟩), .agg #[.slice none (0) (0), .slice (some ⟨n52, 0, none⟩) (1) (1)], .tuple #[.pointer none, .int .i64 (4)], .pointer (some ⟨n72, 0, none⟩), .slice none (0) (0), .pointer (some ⟨n72, 1, none⟩), .slice (some ⟨n52, 0, none⟩) (1) (1), .tuple #[.pointer none, .int .i64 (4)], .pointer none, .int .i64 (4), .pointer none, .bool false, .bool false, .int .i64 (4), .bool false, .bool false, .int .i64 (10)], rfl⟩
 ·skip
  refine AWp.seq (AWp.rowV (l := _) pok ?_)
  refine sq.c (v := .bool true) rfl rfl rfl rfl ?_
  refine sq.e (AWp.seq ?_)
  refine AWp.condT rfl rfl ?_
  refine AWp.skip (AWp.seq (AWp.block (AWp.seq (AWp.rowV (l := _) pok ?_))))
  refine sq.c (v := .pointer (some ⟨n64, 20, none⟩)) rfl rfl (by kernel_rfl) rfl ?_
  refine sq.c (v := .agg #[.slice none (0) (0), .slice (some ⟨n56, 0, none⟩) (2) (2)]) rfl rfl (ldA (P := Tryd.prog) (t := 62) (p := 20) (k := 2) (xs := [.slice none (0) (0), .slice (some ⟨n56, 0, none⟩) (2) (2)]) (by kernel_rfl) (by kernel_rfl) hb66 rfl (Nat.le_of_ble_eq_true rfl)) rfl ?_
  have e_n1_n72 : Apt n1 n72 := hf.ne hb2
  have e_n4_n72 : Apt n4 n72 := hf.ne hb6
  have e_n8_n72 : Apt n8 n72 := hf.ne hb10
  have e_n12_n72 : Apt n12 n72 := hf.ne hb14
  have e_n16_n72 : Apt n16 n72 := hf.ne hb18
  have e_n20_n72 : Apt n20 n72 := hf.ne hb22
  have e_n24_n72 : Apt n24 n72 := hf.ne hb26
  have e_n28_n72 : Apt n28 n72 := hf.ne hb30
  have e_n32_n72 : Apt n32 n72 := hf.ne hb34
  have e_n36_n72 : Apt n36 n72 := hf.ne hb38
  have e_n40_n72 : Apt n40 n72 := hf.ne hb42
  have e_n44_n72 : Apt n44 n72 := hf.ne hb46
  have e_n48_n72 : Apt n48 n72 := hf.ne hb50
  have e_n52_n72 : Apt n52 n72 := hf.ne hb54
  have e_n56_n72 : Apt n56 n72 := hf.ne hb58
  have e_n60_n72 : Apt n60 n72 := hf.ne hb62
  have e_n64_n72 : Apt n64 n72 := hf.ne hb66
  have z_n72 : h.get n72 = none := hf0 _ hn
  refine sq.op rfl rfl (Does.alloc (cs := [.slice none (0) (0), .slice none (0) (0)]) hf (z := .agg #[.slice none (0) (0), .slice none (0) (0)]) (by kernel_rfl) rfl) ?_
  rintro _ h184 n185 ⟨rfl, hb183⟩ s186 hn2 hf
  refine sq.w ?_
  have hb2 := s186.sub _ _ hb2
  have hb6 := s186.sub _ _ hb6
  have hb10 := s186.sub _ _ hb10
  have hb14 := s186.sub _ _ hb14
  have hb18 := s186.sub _ _ hb18
  have hb22 := s186.sub _ _ hb22
  have hb26 := s186.sub _ _ hb26
  have hb30 := s186.sub _ _ hb30
  have hb34 := s186.sub _ _ hb34
  have hb38 := s186.sub _ _ hb38
  have hb42 := s186.sub _ _ hb42
  have hb46 := s186.sub _ _ hb46
  have hb50 := s186.sub _ _ hb50
  have hb54 := s186.sub _ _ hb54
  have hb58 := s186.sub _ _ hb58
  have hb62 := s186.sub _ _ hb62
  have hb66 := s186.sub _ _ hb66
  have hs := hs.trans s186
  have hn := Nat.le_trans hn hn2
  refine sq.op rfl rfl (Does.store (k := 2) (xs := [.slice none (0) (0), .slice (some ⟨n56, 0, none⟩) (2) (2)]) (cs' := [.slice none (0) (0), .slice (some ⟨n56, 0, none⟩) (2) (2)]) hf (by kernel_rfl) rfl rfl rfl hb183 rfl rfl (Nat.le_of_ble_eq_true rfl) rfl) ?_
  rintro _ h188 n189 ⟨rfl, hb187⟩ s190 hn2 hf
  refine sq.w0 ?_
  have hb2 := s190.get1 (e_n1_n72) hb2
  have hb6 := s190.get1 (e_n4_n72) hb6
  have hb10 := s190.get1 (e_n8_n72) hb10
  have hb14 := s190.get1 (e_n12_n72) hb14
  have hb18 := s190.get1 (e_n16_n72) hb18
  have hb22 := s190.get1 (e_n20_n72) hb22
  have hb26 := s190.get1 (e_n24_n72) hb26
  have hb30 := s190.get1 (e_n28_n72) hb30
  have hb34 := s190.get1 (e_n32_n72) hb34
  have hb38 := s190.get1 (e_n36_n72) hb38
  have hb42 := s190.get1 (e_n40_n72) hb42
  have hb46 := s190.get1 (e_n44_n72) hb46
  have hb50 := s190.get1 (e_n48_n72) hb50
  have hb54 := s190.get1 (e_n52_n72) hb54
  have hb58 := s190.get1 (e_n56_n72) hb58
  have hb62 := s190.get1 (e_n60_n72) hb62
  have hb66 := s190.get1 (e_n64_n72) hb66
  have hs := hs.fresh z_n72 s190
  have hn := Nat.le_trans hn hn2
  refine sq.e (AWp.seq (AWp.rowV (l := _) pok ?_))
  refine sq.c (v := .pointer (some ⟨n72, 0, none⟩)) rfl rfl (by kernel_rfl) rfl ?_
  refine sq.c (v := .slice none (0) (0)) rfl rfl (ld1 (P := Tryd.prog) (t := 27) (p := 0) (v := .slice none (0) (0)) (by kernel_rfl) (by kernel_rfl) hb187 rfl) rfl ?_
  refine sq.c (v := .pointer (some ⟨n72, 1, none⟩)) rfl rfl (by kernel_rfl) rfl ?_
  refine sq.c (v := .slice (some ⟨n56, 0, none⟩) (2) (2)) rfl rfl (ld1 (P := Tryd.prog) (t := 38) (p := 1) (v := .slice (some ⟨n56, 0, none⟩) (2) (2)) (by kernel_rfl) (by kernel_rfl) hb187 rfl) rfl ?_
  refine sq.k rfl (CallsF.fn rfl (by kernel_rfl) rfl rfl) (ofBad ([] : List Fen) ([(⟨#[116]⟩, ((some ⟨n8, 0, none⟩), 1, 1), ((some ⟨n1, 0, none⟩), 1, 1)), (⟨#[116]⟩, ((some ⟨n4, 0, none⟩), 1, 1), ((some ⟨n1, 0, none⟩), 1, 1))] : List ROwn) ([(⟨#[116]⟩, ([(⟨#[98]⟩, ⟨#[98]⟩)], [(1, 0)])), (⟨#[116]⟩, ([(⟨#[97]⟩, ⟨#[98]⟩)], [(1, 0)]))] : List POwn) IsRow.nil (IsRow.of (E := encOwn) (xs := [(⟨#[116]⟩, ((some ⟨n8, 0, none⟩), 1, 1), ((some ⟨n1, 0, none⟩), 1, 1)), (⟨#[116]⟩, ((some ⟨n4, 0, none⟩), 1, 1), ((some ⟨n1, 0, none⟩), 1, 1))]) (cap := 2) hb58 (Nat.le_refl _)) (IOwns.cons ⟨rfl, (IsRow.of (E := encLab) (xs := [(⟨#[98]⟩, ⟨#[98]⟩)]) (cap := 1) hb10 (Nat.le_refl _)), (IsRow.of (E := encSmp) (xs := [(1, 0)]) (cap := 1) hb2 (Nat.le_refl _))⟩ (IOwns.cons ⟨rfl, (IsRow.of (E := encLab) (xs := [(⟨#[97]⟩, ⟨#[98]⟩)]) (cap := 1) hb6 (Nat.le_refl _)), (IsRow.of (E := encSmp) (xs := [(1, 0)]) (cap := 1) hb2 (Nat.le_refl _))⟩ (IOwns.nil _))) (hld.keep hs) rfl rfl (by decide) (by decide) (by decide) (by decide) (by decide +kernel)) ?_
  rintro _ h191 n192 rfl s193 hn2 hf
  refine sq.w ?_
  have hb2 := s193.sub _ _ hb2
  have hb6 := s193.sub _ _ hb6
  have hb10 := s193.sub _ _ hb10
  have hb14 := s193.sub _ _ hb14
  have hb18 := s193.sub _ _ hb18
  have hb22 := s193.sub _ _ hb22
  have hb26 := s193.sub _ _ hb26
  have hb30 := s193.sub _ _ hb30
  have hb34 := s193.sub _ _ hb34
  have hb38 := s193.sub _ _ hb38
  have hb42 := s193.sub _ _ hb42
  have hb46 := s193.sub _ _ hb46
  have hb50 := s193.sub _ _ hb50
  have hb54 := s193.sub _ _ hb54
  have hb58 := s193.sub _ _ hb58
  have hb62 := s193.sub _ _ hb62
  have hb66 := s193.sub _ _ hb66
  have hs := hs.trans s193
  have hn := Nat.le_trans hn hn2
  refine sq.c (v := .tuple #[.pointer none, .int .i64 (4)]) rfl rfl rfl rfl ?_
  refine sq.c (v := .pointer none) rfl rfl rfl rfl ?_
  refine sq.c (v := .int .i64 (4)) rfl rfl rfl rfl ?_
  refine sq.c (v := .pointer none) rfl rfl rfl rfl ?_
  refine sq.c (v := .int .i64 (4)) rfl rfl rfl rfl ?_
  refine sq.e (AWp.seq (AWp.rowV (l := _) pok ?_))
  refine sq.c (v := .pointer none) rfl rfl rfl rfl ?_
  refine sq.c (v := .bool false) rfl rfl (by kernel_rfl) rfl ?_
  refine sq.c (v := .bool false) rfl rfl rfl rfl ?_
  refine sq.c (v := .int .i64 (4)) (wantT (g := 2) (d := 107) rfl rfl rfl) rfl rfl rfl ?_
  refine sq.c (v := .bool false) (wantT (g := 2) (d := 107) rfl rfl rfl) rfl rfl rfl ?_
  refine sq.c (v := .bool false) rfl rfl rfl rfl ?_
  refine sq.e ?_
  refine AWp.condF rfl rfl ?_
  refine AWp.skip (AWp.rowV (l := _) pok ?_)
  refine sq.c (v := .int .i64 (11)) rfl rfl rfl rfl ?_
  refine sq.c (v := .int .i64 (11)) rfl rfl rfl rfl ?_
  refine sq.e ?_
  refine ⟨_, _, rfl, (by decide), 11, rfl, hs, hn, hf, hb2, hb6, hb10, hb14, hb18, hb22, hb26, hb30, hb34, hb38, hb42, hb46, hb50, hb54, hb58, hb62, hb66, (by omega), (by omega), getV [(y70 0), undef, undef, undef, undef, .pointer (some ⟨n72, 0, none⟩), .pointer none, .int .i64 (4), undef, undef, undef, undef, undef, undef, undef, undef, undef, undef, undef, undef, undef, undef, undef, undef, undef, undef, undef, undef, undef, undef, undef, undef, undef, undef, undef, undef, undef, undef, undef, undef, undef, undef, undef, undef, undef, undef, undef, undef, undef, undef, undef, undef, undef, undef, undef, undef, undef, undef, undef, undef, undef, undef, undef, undef, undef, undef, undef, undef, undef, undef, undef, undef, undef, undef, undef, undef, undef, undef, undef, undef, undef, undef, undef, undef, undef, undef, undef, undef, undef, undef, undef, undef, undef, undef, .bool true, .pointer (some ⟨n64, 20, none⟩), .agg #[.slice none (0) (0), .slice (some ⟨n56, 0, none⟩) (2) (2)], .tuple #[.pointer none, .int .i64 (4)], .pointer (some ⟨n72, 0, none⟩), .slice none (0) (0), .pointer (some ⟨n72, 1, none⟩), .slice (some ⟨n56, 0, none⟩) (2) (2), .tuple #[.pointer none, .int .i64 (4)], .pointer none, .int .i64 (4), .pointer none, .bool false, .bool false, .int .i64 (4), .bool false, .bool false, .int .i64 (11)], rfl⟩
 ·skip
  refine AWp.seq (AWp.rowV (l := _) pok ?_)
  refine sq.c (v := .bool true) rfl rfl rfl rfl ?_
  refine sq.e (AWp.seq ?_)
  refine AWp.condT rfl rfl ?_
  refine AWp.skip (AWp.seq (AWp.block (AWp.seq (AWp.rowV (l := _) pok ?_))))
  refine sq.c (v := .pointer (some ⟨n64, 22, none⟩)) rfl rfl (by kernel_rfl) rfl ?_
  refine sq.c (v := .agg #[.slice none (0) (0), .slice (some ⟨n60, 0, none⟩) (2) (2)]) rfl rfl (ldA (P := Tryd.prog) (t := 62) (p := 22) (k := 2) (xs := [.slice none (0) (0), .slice (some ⟨n60, 0, none⟩) (2) (2)]) (by kernel_rfl) (by kernel_rfl) hb66 rfl (Nat.le_of_ble_eq_true rfl)) rfl ?_
  have e_n1_n72 : Apt n1 n72 := hf.ne hb2
  have e_n4_n72 : Apt n4 n72 := hf.ne hb6
  have e_n8_n72 : Apt n8 n72 := hf.ne hb10
  have e_n12_n72 : Apt n12 n72 := hf.ne hb14
  have e_n16_n72 : Apt n16 n72 := hf.ne hb18
  have e_n20_n72 : Apt n20 n72 := hf.ne hb22
  have e_n24_n72 : Apt n24 n72 := hf.ne hb26
  have e_n28_n72 : Apt n28 n72 := hf.ne hb30
  have e_n32_n72 : Apt n32 n72 := hf.ne hb34
  have e_n36_n72 : Apt n36 n72 := hf.ne hb38
  have e_n40_n72 : Apt n40 n72 := hf.ne hb42
  have e_n44_n72 : Apt n44 n72 := hf.ne hb46
  have e_n48_n72 : Apt n48 n72 := hf.ne hb50
  have e_n52_n72 : Apt n52 n72 := hf.ne hb54
  have e_n56_n72 : Apt n56 n72 := hf.ne hb58
  have e_n60_n72 : Apt n60 n72 := hf.ne hb62
  have e_n64_n72 : Apt n64 n72 := hf.ne hb66
  have z_n72 : h.get n72 = none := hf0 _ hn
  refine sq.op rfl rfl (Does.alloc (cs := [.slice none (0) (0), .slice none (0) (0)]) hf (z := .agg #[.slice none (0) (0), .slice none (0) (0)]) (by kernel_rfl) rfl) ?_
  rintro _ h195 n196 ⟨rfl, hb194⟩ s197 hn2 hf
  refine sq.w ?_
  have hb2 := s197.sub _ _ hb2
  have hb6 := s197.sub _ _ hb6
  have hb10 := s197.sub _ _ hb10
  have hb14 := s197.sub _ _ hb14
  have hb18 := s197.sub _ _ hb18
  have hb22 := s197.sub _ _ hb22
  have hb26 := s197.sub _ _ hb26
  have hb30 := s197.sub _ _ hb30
  have hb34 := s197.sub _ _ hb34
  have hb38 := s197.sub _ _ hb38
  have hb42 := s197.sub _ _ hb42
  have hb46 := s197.sub _ _ hb46
  have hb50 := s197.sub _ _ hb50
  have hb54 := s197.sub _ _ hb54
  have hb58 := s197.sub _ _ hb58
  have hb62 := s197.sub _ _ hb62
  have hb66 := s197.sub _ _ hb66
  have hs := hs.trans s197
  have hn := Nat.le_trans hn hn2
  refine sq.op rfl rfl (Does.store (k := 2) (xs := [.slice none (0) (0), .slice (some ⟨n60, 0, none⟩) (2) (2)]) (cs' := [.slice none (0) (0), .slice (some ⟨n60, 0, none⟩) (2) (2)]) hf (by kernel_rfl) rfl rfl rfl hb194 rfl rfl (Nat.le_of_ble_eq_true rfl) rfl) ?_
  rintro _ h199 n200 ⟨rfl, hb198⟩ s201 hn2 hf
  refine sq.w0 ?_
  have hb2 := s201.get1 (e_n1_n72) hb2
  have hb6 := s201.get1 (e_n4_n72) hb6
  have hb10 := s201.get1 (e_n8_n72) hb10
  have hb14 := s201.get1 (e_n12_n72) hb14
  have hb18 := s201.get1 (e_n16_n72) hb18
  have hb22 := s201.get1 (e_n20_n72) hb22
  have hb26 := s201.get1 (e_n24_n72) hb26
  have hb30 := s201.get1 (e_n28_n72) hb30
  have hb34 := s201.get1 (e_n32_n72) hb34
  have hb38 := s201.get1 (e_n36_n72) hb38
  have hb42 := s201.get1 (e_n40_n72) hb42
  have hb46 := s201.get1 (e_n44_n72) hb46
  have hb50 := s201.get1 (e_n48_n72) hb50
  have hb54 := s201.get1 (e_n52_n72) hb54
  have hb58 := s201.get1 (e_n56_n72) hb58
  have hb62 := s201.get1 (e_n60_n72) hb62
  have hb66 := s201.get1 (e_n64_n72) hb66
  have hs := hs.fresh z_n72 s201
  have hn := Nat.le_trans hn hn2
  refine sq.e (AWp.seq (AWp.rowV (l := _) pok ?_))
  refine sq.c (v := .pointer (some ⟨n72, 0, none⟩)) rfl rfl (by kernel_rfl) rfl ?_
  refine sq.c (v := .slice none (0) (0)) rfl rfl (ld1 (P := Tryd.prog) (t := 27) (p := 0) (v := .slice none (0) (0)) (by kernel_rfl) (by kernel_rfl) hb198 rfl) rfl ?_
  refine sq.c (v := .pointer (some ⟨n72, 1, none⟩)) rfl rfl (by kernel_rfl) rfl ?_
  refine sq.c (v := .slice (some ⟨n60, 0, none⟩) (2) (2)) rfl rfl (ld1 (P := Tryd.prog) (t := 38) (p := 1) (v := .slice (some ⟨n60, 0, none⟩) (2) (2)) (by kernel_rfl) (by kernel_rfl) hb198 rfl) rfl ?_
  refine sq.k rfl (CallsF.fn rfl (by kernel_rfl) rfl rfl) (ofBad ([] : List Fen) ([(⟨#[116]⟩, ((some ⟨n4, 0, none⟩), 1, 1), ((some ⟨n1, 0, none⟩), 1, 1)), (⟨#[116]⟩, ((some ⟨n4, 0, none⟩), 1, 1), ((some ⟨n1, 0, none⟩), 1, 1))] : List ROwn) ([(⟨#[116]⟩, ([(⟨#[97]⟩, ⟨#[98]⟩)], [(1, 0)])), (⟨#[116]⟩, ([(⟨#[97]⟩, ⟨#[98]⟩)], [(1, 0)]))] : List POwn) IsRow.nil (IsRow.of (E := encOwn) (xs := [(⟨#[116]⟩, ((some ⟨n4, 0, none⟩), 1, 1), ((some ⟨n1, 0, none⟩), 1, 1)), (⟨#[116]⟩, ((some ⟨n4, 0, none⟩), 1, 1), ((some ⟨n1, 0, none⟩), 1, 1))]) (cap := 2) hb62 (Nat.le_refl _)) (IOwns.cons ⟨rfl, (IsRow.of (E := encLab) (xs := [(⟨#[97]⟩, ⟨#[98]⟩)]) (cap := 1) hb6 (Nat.le_refl _)), (IsRow.of (E := encSmp) (xs := [(1, 0)]) (cap := 1) hb2 (Nat.le_refl _))⟩ (IOwns.cons ⟨rfl, (IsRow.of (E := encLab) (xs := [(⟨#[97]⟩, ⟨#[98]⟩)]) (cap := 1) hb6 (Nat.le_refl _)), (IsRow.of (E := encSmp) (xs := [(1, 0)]) (cap := 1) hb2 (Nat.le_refl _))⟩ (IOwns.nil _))) (hld.keep hs) rfl rfl (by decide) (by decide) (by decide) (by decide) (by decide +kernel)) ?_
  rintro _ h202 n203 rfl s204 hn2 hf
  refine sq.w ?_
  have hb2 := s204.sub _ _ hb2
  have hb6 := s204.sub _ _ hb6
  have hb10 := s204.sub _ _ hb10
  have hb14 := s204.sub _ _ hb14
  have hb18 := s204.sub _ _ hb18
  have hb22 := s204.sub _ _ hb22
  have hb26 := s204.sub _ _ hb26
  have hb30 := s204.sub _ _ hb30
  have hb34 := s204.sub _ _ hb34
  have hb38 := s204.sub _ _ hb38
  have hb42 := s204.sub _ _ hb42
  have hb46 := s204.sub _ _ hb46
  have hb50 := s204.sub _ _ hb50
  have hb54 := s204.sub _ _ hb54
  have hb58 := s204.sub _ _ hb58
  have hb62 := s204.sub _ _ hb62
  have hb66 := s204.sub _ _ hb66
  have hs := hs.trans s204
  have hn := Nat.le_trans hn hn2
  refine sq.c (v := .tuple #[.pointer none, .int .i64 (4)]) rfl rfl rfl rfl ?_
  refine sq.c (v := .pointer none) rfl rfl rfl rfl ?_
  refine sq.c (v := .int .i64 (4)) rfl rfl rfl rfl ?_
  refine sq.c (v := .pointer none) rfl rfl rfl rfl ?_
  refine sq.c (v := .int .i64 (4)) rfl rfl rfl rfl ?_
  refine sq.e (AWp.seq (AWp.rowV (l := _) pok ?_))
  refine sq.c (v := .pointer none) rfl rfl rfl rfl ?_
  refine sq.c (v := .bool false) rfl rfl (by kernel_rfl) rfl ?_
  refine sq.c (v := .bool false) rfl rfl rfl rfl ?_
  refine sq.c (v := .int .i64 (4)) (wantT (g := 2) (d := 107) rfl rfl rfl) rfl rfl rfl ?_
  refine sq.c (v := .bool false) (wantT (g := 2) (d := 107) rfl rfl rfl) rfl rfl rfl ?_
  refine sq.c (v := .bool false) rfl rfl rfl rfl ?_
  refine sq.e ?_
  refine AWp.condF rfl rfl ?_
  refine AWp.skip (AWp.rowV (l := _) pok ?_)
  refine sq.c (v := .int .i64 (12)) rfl rfl rfl rfl ?_
  refine sq.c (v := .int .i64 (12)) rfl rfl rfl rfl ?_
  refine sq.e ?_
  refine ⟨_, _, rfl, (by decide), 12, rfl, hs, hn, hf, hb2, hb6, hb10, hb14, hb18, hb22, hb26, hb30, hb34, hb38, hb42, hb46, hb50, hb54, hb58, hb62, hb66, (by omega), (by omega), getV [(y70 0), undef, undef, undef, undef, .pointer (some ⟨n72, 0, none⟩), .pointer none, .int .i64 (4), undef, undef, undef, undef, undef, undef, undef, undef, undef, undef, undef, undef, undef, undef, undef, undef, undef, undef, undef, undef, undef, undef, undef, undef, undef, undef, undef, undef, undef, undef, undef, undef, undef, undef, undef, undef, undef, undef, undef, undef, undef, undef, undef, undef, undef, undef, undef, undef, undef, undef, undef, undef, undef, undef, undef, undef, undef, undef, undef, undef, undef, undef, undef, undef, undef, undef, undef, undef, undef, undef, undef, undef, undef, undef, undef, undef, undef, undef, undef, undef, undef, undef, undef, undef, undef, undef, .bool true, .pointer (some ⟨n64, 22, none⟩), .agg #[.slice none (0) (0), .slice (some ⟨n60, 0, none⟩) (2) (2)], .tuple #[.pointer none, .int .i64 (4)], .pointer (some ⟨n72, 0, none⟩), .slice none (0) (0), .pointer (some ⟨n72, 1, none⟩), .slice (some ⟨n60, 0, none⟩) (2) (2), .tuple #[.pointer none, .int .i64 (4)], .pointer none, .int .i64 (4), .pointer none, .bool false, .bool false, .int .i64 (4), .bool false, .bool false, .int .i64 (12)], rfl⟩
 ·skip
  refine AWp.seq (AWp.rowV (l := _) pok ?_)
  refine sq.c (v := .bool false) rfl rfl rfl rfl ?_
  refine sq.e (AWp.seq ?_)
  refine AWp.condF rfl rfl ?_
  refine AWp.exit ?_
  refine AWp.seq (AWp.rowV (l := _) pok ?_)
  refine sq.c (v := .agg #[.string (⟨#[116]⟩), .string (⟨#[120]⟩), .int .i64 (3)]) rfl rfl (by kernel_rfl) rfl ?_
  refine sq.c (v := .agg #[.string (⟨#[116]⟩), .string (⟨#[121]⟩), .int .i64 (1)]) rfl rfl (by kernel_rfl) rfl ?_
  refine sq.c (v := .agg #[.string (⟨#[117]⟩), .string (⟨#[97]⟩), .int .i64 (1099511627776)]) rfl rfl (by kernel_rfl) rfl ?_
  refine sq.op rfl rfl (Does.build (e := 56) (cs := [.string (⟨#[116]⟩), .string (⟨#[120]⟩), .int .i64 (3), .string (⟨#[116]⟩), .string (⟨#[121]⟩), .int .i64 (1), .string (⟨#[117]⟩), .string (⟨#[97]⟩), .int .i64 (1099511627776)]) hf (fun _ _ => by kernel_rfl)) ?_
  rintro _ h206 n207 ⟨rfl, hb205⟩ s208 hn2 hf
  refine sq.w ?_
  have hb2 := s208.sub _ _ hb2
  have hb6 := s208.sub _ _ hb6
  have hb10 := s208.sub _ _ hb10
  have hs := hs.trans s208
  have hn := Nat.le_trans hn hn2
  refine sq.c (v := .slice (some ⟨n4, 0, none⟩) (1) (1)) rfl rfl rfl rfl ?_
  refine sq.c (v := .slice (some ⟨n1, 0, none⟩) (1) (1)) rfl rfl rfl rfl ?_
  refine sq.c (v := .agg #[.slice (some ⟨n4, 0, none⟩) (1) (1), .slice (some ⟨n1, 0, none⟩) (1) (1)]) rfl rfl (by kernel_rfl) rfl ?_
  refine sq.c (v := .agg #[.string (⟨#[116]⟩), .slice (some ⟨n4, 0, none⟩) (1) (1), .slice (some ⟨n1, 0, none⟩) (1) (1)]) rfl rfl (by kernel_rfl) rfl ?_
  refine sq.c (v := .slice (some ⟨n8, 0, none⟩) (1) (1)) rfl rfl rfl rfl ?_
  refine sq.c (v := .slice (some ⟨n1, 0, none⟩) (1) (1)) rfl rfl rfl rfl ?_
  refine sq.c (v := .agg #[.slice (some ⟨n8, 0, none⟩) (1) (1), .slice (some ⟨n1, 0, none⟩) (1) (1)]) rfl rfl (by kernel_rfl) rfl ?_
  refine sq.c (v := .agg #[.string (⟨#[116]⟩), .slice (some ⟨n8, 0, none⟩) (1) (1), .slice (some ⟨n1, 0, none⟩) (1) (1)]) rfl rfl (by kernel_rfl) rfl ?_
  refine sq.c (v := .slice (some ⟨n4, 0, none⟩) (1) (1)) rfl rfl rfl rfl ?_
  refine sq.c (v := .slice (some ⟨n1, 0, none⟩) (1) (1)) rfl rfl rfl rfl ?_
  refine sq.c (v := .agg #[.slice (some ⟨n4, 0, none⟩) (1) (1), .slice (some ⟨n1, 0, none⟩) (1) (1)]) rfl rfl (by kernel_rfl) rfl ?_
  refine sq.c (v := .agg #[.string (⟨#[117]⟩), .slice (some ⟨n4, 0, none⟩) (1) (1), .slice (some ⟨n1, 0, none⟩) (1) (1)]) rfl rfl (by kernel_rfl) rfl ?_
  refine sq.op rfl rfl (Does.build (e := 45) (cs := [.string (⟨#[116]⟩), .slice (some ⟨n4, 0, none⟩) (1) (1), .slice (some ⟨n1, 0, none⟩) (1) (1), .string (⟨#[116]⟩), .slice (some ⟨n8, 0, none⟩) (1) (1), .slice (some ⟨n1, 0, none⟩) (1) (1), .string (⟨#[117]⟩), .slice (some ⟨n4, 0, none⟩) (1) (1), .slice (some ⟨n1, 0, none⟩) (1) (1)]) hf (fun _ _ => by kernel_rfl)) ?_
  rintro _ h210 n211 ⟨rfl, hb209⟩ s212 hn2 hf
  refine sq.w ?_
  have hb2 := s212.sub _ _ hb2
  have hb6 := s212.sub _ _ hb6
  have hb10 := s212.sub _ _ hb10
  have hb205 := s212.sub _ _ hb205
  have hs := hs.trans s212
  have hn := Nat.le_trans hn hn2
  refine sq.k rfl (CallsF.fn rfl (by kernel_rfl) rfl rfl) (ofNm ([(⟨#[116]⟩, ((some ⟨n4, 0, none⟩), 1, 1), ((some ⟨n1, 0, none⟩), 1, 1)), (⟨#[116]⟩, ((some ⟨n8, 0, none⟩), 1, 1), ((some ⟨n1, 0, none⟩), 1, 1)), (⟨#[117]⟩, ((some ⟨n4, 0, none⟩), 1, 1), ((some ⟨n1, 0, none⟩), 1, 1))] : List ROwn) (IsRow.of (E := encFen) (xs := [(⟨#[116]⟩, ⟨#[120]⟩, 3), (⟨#[116]⟩, ⟨#[121]⟩, 1), (⟨#[117]⟩, ⟨#[97]⟩, 1099511627776)]) (cap := 3) hb205 (Nat.le_refl _)) (IsRow.of (E := encOwn) (xs := [(⟨#[116]⟩, ((some ⟨n4, 0, none⟩), 1, 1), ((some ⟨n1, 0, none⟩), 1, 1)), (⟨#[116]⟩, ((some ⟨n8, 0, none⟩), 1, 1), ((some ⟨n1, 0, none⟩), 1, 1)), (⟨#[117]⟩, ((some ⟨n4, 0, none⟩), 1, 1), ((some ⟨n1, 0, none⟩), 1, 1))]) (cap := 3) hb209 (Nat.le_refl _)) (IOwns.cons ⟨rfl, (IsRow.of (E := encLab) (xs := [(⟨#[97]⟩, ⟨#[98]⟩)]) (cap := 1) hb6 (Nat.le_refl _)), (IsRow.of (E := encSmp) (xs := [(1, 0)]) (cap := 1) hb2 (Nat.le_refl _))⟩ (IOwns.cons ⟨rfl, (IsRow.of (E := encLab) (xs := [(⟨#[98]⟩, ⟨#[98]⟩)]) (cap := 1) hb10 (Nat.le_refl _)), (IsRow.of (E := encSmp) (xs := [(1, 0)]) (cap := 1) hb2 (Nat.le_refl _))⟩ (IOwns.cons ⟨rfl, (IsRow.of (E := encLab) (xs := [(⟨#[97]⟩, ⟨#[98]⟩)]) (cap := 1) hb6 (Nat.le_refl _)), (IsRow.of (E := encSmp) (xs := [(1, 0)]) (cap := 1) hb2 (Nat.le_refl _))⟩ (IOwns.nil _)))) (hld.keep hs)) ?_
  rintro _ h213 n214 ⟨bu, fu, gu, Gu, rfl, hb_bu, hb_fu, hb_gu, okfu, okgu, hSu, y_bu, y_fu, y_gu, ne_fu_gu⟩ s215 hn2 hf
  have z_fu := sub_none hs y_fu
  have z_gu := sub_none hs y_gu
  change Apt fu gu at ne_fu_gu
  have ne_bu_fu : Apt bu fu := by intro e; rw [e] at hb_bu; rw [hb_bu] at hb_fu; cases hb_fu
  have ne_bu_gu : Apt bu gu := by intro e; rw [e] at hb_bu; rw [hb_bu] at hb_gu; cases hb_gu
  refine sq.w ?_
  have hs := hs.trans s215
  have hn := Nat.le_trans hn hn2
  refine sq.c (v := .tuple #[.pointer (some ⟨bu, 0, none⟩), .int .i64 (0)]) rfl rfl rfl rfl ?_
  refine sq.c (v := .pointer (some ⟨bu, 0, none⟩)) rfl rfl rfl rfl ?_
  refine sq.c (v := .int .i64 (0)) rfl rfl rfl rfl ?_
  refine sq.c (v := .pointer (some ⟨bu, 0, none⟩)) rfl rfl rfl rfl ?_
  refine sq.c (v := .int .i64 (0)) rfl rfl rfl rfl ?_
  refine sq.e (AWp.seq (AWp.rowV (l := _) pok ?_))
  refine sq.c (v := .pointer (some ⟨bu, 0, none⟩)) rfl rfl rfl rfl ?_
  refine sq.c (v := .agg #[.string (⟨#[116]⟩), .string (⟨#[120]⟩), .int .i64 (2), .slice none (0) (0)]) rfl rfl (by kernel_rfl) rfl ?_
  refine sq.k rfl (CallsF.fn rfl (by kernel_rfl) rfl rfl) (nmTake (e := 61) (⟨hb_bu, hb_fu, hb_gu, okfu, okgu, hSu, ne_fu_gu⟩ : At _ nmP _ _ _ _ Gu) ⟨⟨#[116]⟩, ⟨#[120]⟩, 2, []⟩ (hld.keep hs) rfl (by decide) (by kernel_rfl)) ?_
  rintro _ h216 n217 ⟨a_x, c_x, G_x, rfl, hf_x, hg_x, okF_x, okG_x, hS_x⟩ s218 hn2 hf
  refine sq.w ?_
  have hb_bu := s218.get2 (ne_bu_fu) (ne_bu_gu) hb_bu
  have hs := hs.fresh2 z_fu z_gu s218
  have hn := Nat.le_trans hn hn2
  have hSu := hS_x
  refine sq.c (v := .tuple #[.agg #[.string (⟨#[]⟩), .string (⟨#[]⟩), .int .i64 (0), .slice a_x (0) c_x, .int .i64 (0), .bool false], .int .i64 (61)]) rfl rfl rfl rfl ?_
  refine sq.c (v := .agg #[.string (⟨#[]⟩), .string (⟨#[]⟩), .int .i64 (0), .slice a_x (0) c_x, .int .i64 (0), .bool false]) rfl rfl rfl rfl ?_
  refine sq.c (v := .int .i64 (61)) rfl rfl rfl rfl ?_
  have e_bu_n217 : Apt bu n217 := hf.ne hb_bu
  have e_fu_n217 : Apt fu n217 := hf.ne hf_x
  have e_gu_n217 : Apt gu n217 := hf.ne hg_x
  have z_n217 : h.get n217 = none := hf0 _ hn
  refine sq.op rfl rfl (Does.alloc (cs := [.string (⟨#[]⟩), .string (⟨#[]⟩), .int .i64 (0), .slice none (0) (0), .int .i64 (0), .bool false]) hf (z := .agg #[.string (⟨#[]⟩), .string (⟨#[]⟩), .int .i64 (0), .slice none (0) (0), .int .i64 (0), .bool false]) (by kernel_rfl) rfl) ?_
  rintro _ h220 n221 ⟨rfl, hb219⟩ s222 hn2 hf
  refine sq.w ?_
  have hSu := hSu.keep (.of0 s222)
  have hb_bu := s222.sub _ _ hb_bu
  have hf_x := s222.sub _ _ hf_x
  have hg_x := s222.sub _ _ hg_x
  have hs := hs.trans s222
  have hn := Nat.le_trans hn hn2
  refine sq.op rfl rfl (Does.store (k := 6) (xs := [.string (⟨#[]⟩), .string (⟨#[]⟩), .int .i64 (0), .slice a_x (0) c_x, .int .i64 (0), .bool false]) (cs' := [.string (⟨#[]⟩), .string (⟨#[]⟩), .int .i64 (0), .slice a_x (0) c_x, .int .i64 (0), .bool false]) hf (by kernel_rfl) rfl rfl rfl hb219 rfl rfl (Nat.le_of_ble_eq_true rfl) rfl) ?_
  rintro _ h224 n225 ⟨rfl, hb223⟩ s226 hn2 hf
  refine sq.w0 ?_
  have hSu := hSu.keep (.own s226 hb219 rfl)
  have hb_bu := s226.get1 (e_bu_n217) hb_bu
  have hf_x := s226.get1 (e_fu_n217) hf_x
  have hg_x := s226.get1 (e_gu_n217) hg_x
  have hs := hs.fresh z_n217 s226
  have hn := Nat.le_trans hn hn2
  refine sq.c (v := .int .i64 (61)) rfl rfl rfl rfl ?_
  refine sq.e (AWp.seq (AWp.rowV (l := _) pok ?_))
  refine sq.c (v := .pointer (some ⟨bu, 0, none⟩)) rfl rfl rfl rfl ?_
  refine sq.c (v := .agg #[.string (⟨#[116]⟩), .string (⟨#[120]⟩), .int .i64 (0), .slice none (0) (0)]) rfl rfl (by kernel_rfl) rfl ?_
  refine sq.k rfl (CallsF.fn rfl (by kernel_rfl) rfl rfl) (nmTake (e := 4) (⟨hb_bu, hf_x, hg_x, okF_x, okG_x, hSu, ne_fu_gu⟩ : At _ nmP _ _ _ _ G_x) ⟨⟨#[116]⟩, ⟨#[120]⟩, 0, []⟩ (hld.keep hs) rfl (by decide) (by kernel_rfl)) ?_
  rintro _ h227 n228 ⟨a_y, c_y, G_y, rfl, hf_y, hg_y, okF_y, okG_y, hS_y⟩ s229 hn2 hf
  refine sq.w ?_
  have hb_bu := s229.get2 (ne_bu_fu) (ne_bu_gu) hb_bu
  have hs := hs.fresh2 z_fu z_gu s229
  have hn := Nat.le_trans hn hn2
  have hSu := hS_y
  refine sq.c (v := .tuple #[.agg #[.string (⟨#[]⟩), .string (⟨#[]⟩), .int .i64 (0), .slice a_y (0) c_y, .int .i64 (0), .bool false], .int .i64 (4)]) rfl rfl rfl rfl ?_
  refine sq.c (v := .agg #[.string (⟨#[]⟩), .string (⟨#[]⟩), .int .i64 (0), .slice a_y (0) c_y, .int .i64 (0), .bool false]) rfl rfl rfl rfl ?_
  refine sq.c (v := .int .i64 (4)) rfl rfl rfl rfl ?_
  have e_bu_n228 : Apt bu n228 := hf.ne hb_bu
  have e_fu_n228 : Apt fu n228 := hf.ne hf_y
  have e_gu_n228 : Apt gu n228 := hf.ne hg_y
  have z_n228 : h.get n228 = none := hf0 _ hn
  refine sq.op rfl rfl (Does.alloc (cs := [.string (⟨#[]⟩), .string (⟨#[]⟩), .int .i64 (0), .slice none (0) (0), .int .i64 (0), .bool false]) hf (z := .agg #[.string (⟨#[]⟩), .string (⟨#[]⟩), .int .i64 (0), .slice none (0) (0), .int .i64 (0), .bool false]) (by kernel_rfl) rfl) ?_
  rintro _ h231 n232 ⟨rfl, hb230⟩ s233 hn2 hf
  refine sq.w ?_
  have hSu := hSu.keep (.of0 s233)
  have hb_bu := s233.sub _ _ hb_bu
  have hf_y := s233.sub _ _ hf_y
  have hg_y := s233.sub _ _ hg_y
  have hs := hs.trans s233
  have hn := Nat.le_trans hn hn2
  refine sq.op rfl rfl (Does.store (k := 6) (xs := [.string (⟨#[]⟩), .string (⟨#[]⟩), .int .i64 (0), .slice a_y (0) c_y, .int .i64 (0), .bool false]) (cs' := [.string (⟨#[]⟩), .string (⟨#[]⟩), .int .i64 (0), .slice a_y (0) c_y, .int .i64 (0), .bool false]) hf (by kernel_rfl) rfl rfl rfl hb230 rfl rfl (Nat.le_of_ble_eq_true rfl) rfl) ?_
  rintro _ h235 n236 ⟨rfl, hb234⟩ s237 hn2 hf
  refine sq.w0 ?_
  have hSu := hSu.keep (.own s237 hb230 rfl)
  have hb_bu := s237.get1 (e_bu_n228) hb_bu
  have hf_y := s237.get1 (e_fu_n228) hf_y
  have hg_y := s237.get1 (e_gu_n228) hg_y
  have hs := hs.fresh z_n228 s237
  have hn := Nat.le_trans hn hn2
  refine sq.c (v := .int .i64 (4)) rfl rfl rfl rfl ?_
  refine sq.e (AWp.seq (AWp.rowV (l := _) pok ?_))
  refine sq.c (v := .pointer (some ⟨bu, 0, none⟩)) rfl rfl rfl rfl ?_
  refine sq.c (v := .agg #[.string (⟨#[116]⟩), .string (⟨#[]⟩), .int .i64 (1), .slice none (0) (0)]) rfl rfl (by kernel_rfl) rfl ?_
  refine sq.k rfl (CallsF.fn rfl (by kernel_rfl) rfl rfl) (nmTake (e := 4) (⟨hb_bu, hf_y, hg_y, okF_y, okG_y, hSu, ne_fu_gu⟩ : At _ nmP _ _ _ _ G_y) ⟨⟨#[116]⟩, ⟨#[]⟩, 1, []⟩ (hld.keep hs) rfl (by decide) (by kernel_rfl)) ?_
  rintro _ h238 n239 ⟨a_z, c_z, G_z, rfl, hf_z, hg_z, okF_z, okG_z, hS_z⟩ s240 hn2 hf
  refine sq.w ?_
  have hb_bu := s240.get2 (ne_bu_fu) (ne_bu_gu) hb_bu
  have hs := hs.fresh2 z_fu z_gu s240
  have hn := Nat.le_trans hn hn2
  have hSu := hS_z
  refine sq.c (v := .tuple #[.agg #[.string (⟨#[]⟩), .string (⟨#[]⟩), .int .i64 (0), .slice a_z (0) c_z, .int .i64 (0), .bool false], .int .i64 (4)]) rfl rfl rfl rfl ?_
  refine sq.c (v := .agg #[.string (⟨#[]⟩), .string (⟨#[]⟩), .int .i64 (0), .slice a_z (0) c_z, .int .i64 (0), .bool false]) rfl rfl rfl rfl ?_
  refine sq.c (v := .int .i64 (4)) rfl rfl rfl rfl ?_
  have e_bu_n239 : Apt bu n239 := hf.ne hb_bu
  have e_fu_n239 : Apt fu n239 := hf.ne hf_z
  have e_gu_n239 : Apt gu n239 := hf.ne hg_z
  have z_n239 : h.get n239 = none := hf0 _ hn
  refine sq.op rfl rfl (Does.alloc (cs := [.string (⟨#[]⟩), .string (⟨#[]⟩), .int .i64 (0), .slice none (0) (0), .int .i64 (0), .bool false]) hf (z := .agg #[.string (⟨#[]⟩), .string (⟨#[]⟩), .int .i64 (0), .slice none (0) (0), .int .i64 (0), .bool false]) (by kernel_rfl) rfl) ?_
  rintro _ h242 n243 ⟨rfl, hb241⟩ s244 hn2 hf
  refine sq.w ?_
  have hSu := hSu.keep (.of0 s244)
  have hb_bu := s244.sub _ _ hb_bu
  have hf_z := s244.sub _ _ hf_z
  have hg_z := s244.sub _ _ hg_z
  have hs := hs.trans s244
  have hn := Nat.le_trans hn hn2
  refine sq.op rfl rfl (Does.store (k := 6) (xs := [.string (⟨#[]⟩), .string (⟨#[]⟩), .int .i64 (0), .slice a_z (0) c_z, .int .i64 (0), .bool false]) (cs' := [.string (⟨#[]⟩), .string (⟨#[]⟩), .int .i64 (0), .slice a_z (0) c_z, .int .i64 (0), .bool false]) hf (by kernel_rfl) rfl rfl rfl hb241 rfl rfl (Nat.le_of_ble_eq_true rfl) rfl) ?_
  rintro _ h246 n247 ⟨rfl, hb245⟩ s248 hn2 hf
  refine sq.w0 ?_
  have hSu := hSu.keep (.own s248 hb241 rfl)
  have hb_bu := s248.get1 (e_bu_n239) hb_bu
  have hf_z := s248.get1 (e_fu_n239) hf_z
  have hg_z := s248.get1 (e_gu_n239) hg_z
  have hs := hs.fresh z_n239 s248
  have hn := Nat.le_trans hn hn2
  refine sq.c (v := .int .i64 (4)) rfl rfl rfl rfl ?_
  refine sq.e (AWp.seq (AWp.rowV (l := _) pok ?_))
  refine sq.c (v := .pointer none) rfl rfl rfl rfl ?_
  refine sq.e (AWp.seq (AWp.rowV (l := _) pok ?_))
  refine sq.c (v := .pointer none) rfl rfl rfl rfl ?_
  refine sq.c (v := .agg #[.string (⟨#[]⟩), .string (⟨#[]⟩), .int .i64 (0), .slice none (0) (0)]) rfl rfl (by kernel_rfl) rfl ?_
  refine sq.t (v := .tuple #[.agg #[.string (⟨#[]⟩), .string (⟨#[]⟩), .int .i64 (0), .slice none (0) (0), .int .i64 (0), .bool false], .int .i64 (2)]) rfl (CallsF.fn rfl (by kernel_rfl) rfl rfl) (fun hf => nilTake_spec) hf rfl ?_
  intro n249 hn2 hf
  have hn := Nat.le_trans hn hn2
  refine sq.c (v := .tuple #[.agg #[.string (⟨#[]⟩), .string (⟨#[]⟩), .int .i64 (0), .slice none (0) (0), .int .i64 (0), .bool false], .int .i64 (2)]) rfl rfl rfl rfl ?_
  refine sq.c (v := .agg #[.string (⟨#[]⟩), .string (⟨#[]⟩), .int .i64 (0), .slice none (0) (0), .int .i64 (0), .bool false]) rfl rfl rfl rfl ?_
  refine sq.c (v := .int .i64 (2)) rfl rfl rfl rfl ?_
  have e_bu_n249 : Apt bu n249 := hf.ne hb_bu
  have e_fu_n249 : Apt fu n249 := hf.ne hf_z
  have e_gu_n249 : Apt gu n249 := hf.ne hg_z
  have z_n249 : h.get n249 = none := hf0 _ hn
  refine sq.op rfl rfl (Does.alloc (cs := [.string (⟨#[]⟩), .string (⟨#[]⟩), .int .i64 (0), .slice none (0) (0), .int .i64 (0), .bool false]) hf (z := .agg #[.string (⟨#[]⟩), .string (⟨#[]⟩), .int .i64 (0), .slice none (0) (0), .int .i64 (0), .bool false]) (by kernel_rfl) rfl) ?_
  rintro _ h251 n252 ⟨rfl, hb250⟩ s253 hn2 hf
  refine sq.w ?_
  have hSu := hSu.keep (.of0 s253)
  have hb_bu := s253.sub _ _ hb_bu
  have hf_z := s253.sub _ _ hf_z
  have hg_z := s253.sub _ _ hg_z
  have hs := hs.trans s253
  have hn := Nat.le_trans hn hn2
  refine sq.op rfl rfl (Does.store (k := 6) (xs := [.string (⟨#[]⟩), .string (⟨#[]⟩), .int .i64 (0), .slice none (0) (0), .int .i64 (0), .bool false]) (cs' := [.string (⟨#[]⟩), .string (⟨#[]⟩), .int .i64 (0), .slice none (0) (0), .int .i64 (0), .bool false]) hf (by kernel_rfl) rfl rfl rfl hb250 rfl rfl (Nat.le_of_ble_eq_true rfl) rfl) ?_
  rintro _ h255 n256 ⟨rfl, hb254⟩ s257 hn2 hf
  refine sq.w0 ?_
  have hSu := hSu.keep (.own s257 hb250 rfl)
  have hb_bu := s257.get1 (e_bu_n249) hb_bu
  have hf_z := s257.get1 (e_fu_n249) hf_z
  have hg_z := s257.get1 (e_gu_n249) hg_z
  have hs := hs.fresh z_n249 s257
  have hn := Nat.le_trans hn hn2
  refine sq.c (v := .int .i64 (2)) rfl rfl rfl rfl ?_
  refine sq.e (AWp.seq (AWp.rowV (l := _) pok ?_))
  refine sq.c (v := .int .i64 (0)) rfl rfl rfl rfl ?_
  refine sq.c (v := .bool true) rfl rfl rfl rfl ?_
  refine sq.c (v := .bool true) rfl rfl rfl rfl ?_
  refine sq.c (v := .int .i64 (61)) (wantT (g := 2) (d := 159) rfl rfl rfl) rfl rfl rfl ?_
  refine sq.c (v := .bool true) (wantT (g := 2) (d := 159) rfl rfl rfl) rfl rfl rfl ?_
  refine sq.c (v := .bool true) rfl rfl rfl rfl ?_
  refine sq.c (v := .bool true) rfl rfl rfl rfl ?_
  refine sq.c (v := .int .i64 (4)) (wantT (g := 6) (d := 163) rfl rfl rfl) rfl rfl rfl ?_
  refine sq.c (v := .bool true) (wantT (g := 6) (d := 163) rfl rfl rfl) rfl rfl rfl ?_
  refine sq.c (v := .bool true) rfl rfl rfl rfl ?_
  refine sq.c (v := .bool true) rfl rfl rfl rfl ?_
  refine sq.c (v := .int .i64 (4)) (wantT (g := 10) (d := 167) rfl rfl rfl) rfl rfl rfl ?_
  refine sq.c (v := .bool true) (wantT (g := 10) (d := 167) rfl rfl rfl) rfl rfl rfl ?_
  refine sq.c (v := .bool true) rfl rfl rfl rfl ?_
  refine sq.c (v := .bool true) rfl rfl rfl rfl ?_
  refine sq.c (v := .pointer (some ⟨bu, 0, none⟩)) (wantT (g := 14) (d := 171) rfl rfl rfl) rfl rfl rfl ?_
  refine sq.t (v := .int .i64 (((mget nmP.F (⟨#[117]⟩, ⟨#[97]⟩)).getD 0))) (wantT (g := 14) (d := 171) rfl rfl rfl) (CallsF.fn rfl (by kernel_rfl) rfl rfl) (fun hf => fenceOn (⟨hb_bu, hf_z, hg_z, okF_z, okG_z, hSu, ne_fu_gu⟩ : At _ nmP _ _ _ _ G_z) ⟨#[117]⟩ ⟨#[97]⟩) hf rfl ?_
  intro n258 hn2 hf
  have hn := Nat.le_trans hn hn2
  refine sq.c (v := .bool (decide ((((mget nmP.F (⟨#[117]⟩, ⟨#[97]⟩)).getD 0)) = (1099511627776 : Int)))) (wantT (g := 14) (d := 171) rfl rfl rfl) rfl rfl rfl ?_
  refine sq.c (v := .bool (decide ((((mget nmP.F (⟨#[117]⟩, ⟨#[97]⟩)).getD 0)) = (1099511627776 : Int)))) rfl rfl rfl rfl ?_
  refine sq.c (v := .bool (decide ((((mget nmP.F (⟨#[117]⟩, ⟨#[97]⟩)).getD 0)) = (1099511627776 : Int)))) rfl rfl rfl rfl ?_
  by_cases c18_17 : (((mget nmP.F (⟨#[117]⟩, ⟨#[97]⟩)).getD 0)) = (1099511627776 : Int)
  ·rw [decide_eq_true c18_17]
   refine sq.c (v := .pointer (some ⟨bu, 0, none⟩)) (wantT (g := 19) (d := 176) rfl rfl rfl) rfl rfl rfl ?_
   refine sq.t (v := .int .i64 (((mget nmP.F (⟨#[116]⟩, ⟨#[97]⟩)).getD 0))) (wantT (g := 19) (d := 176) rfl rfl rfl) (CallsF.fn rfl (by kernel_rfl) rfl rfl) (fun hf => fenceOn (⟨hb_bu, hf_z, hg_z, okF_z, okG_z, hSu, ne_fu_gu⟩ : At _ nmP _ _ _ _ G_z) ⟨#[116]⟩ ⟨#[97]⟩) hf rfl ?_
   intro n259 hn2 hf
   have hn := Nat.le_trans hn hn2
   refine sq.c (v := .bool (decide ((((mget nmP.F (⟨#[116]⟩, ⟨#[97]⟩)).getD 0)) = (0 : Int)))) (wantT (g := 19) (d := 176) rfl rfl rfl) rfl rfl rfl ?_
   refine sq.c (v := .bool (decide ((((mget nmP.F (⟨#[116]⟩, ⟨#[97]⟩)).getD 0)) = (0 : Int)))) rfl rfl rfl rfl ?_
   refine sq.c (v := .bool (decide ((((mget nmP.F (⟨#[116]⟩, ⟨#[97]⟩)).getD 0)) = (0 : Int)))) rfl rfl rfl rfl ?_
   by_cases c18_22 : (((mget nmP.F (⟨#[116]⟩, ⟨#[97]⟩)).getD 0)) = (0 : Int)
   ·rw [decide_eq_true c18_22]
    refine sq.c (v := .int .i64 (2)) (wantT (g := 24) (d := 181) rfl rfl rfl) rfl rfl rfl ?_
    refine sq.c (v := .bool true) (wantT (g := 24) (d := 181) rfl rfl rfl) rfl rfl rfl ?_
    refine sq.c (v := .bool true) rfl rfl rfl rfl ?_
    refine sq.c (v := .bool true) rfl rfl rfl rfl ?_
    refine sq.c (v := .pointer none) (wantT (g := 28) (d := 185) rfl rfl rfl) rfl rfl rfl ?_
    refine sq.t (v := .int .i64 (0)) (wantT (g := 28) (d := 185) rfl rfl rfl) (CallsF.fn rfl (by kernel_rfl) rfl rfl) (fun hf => nilFence_spec _ _) hf rfl ?_
    intro n260 hn2 hf
    have hn := Nat.le_trans hn hn2
    refine sq.c (v := .bool true) (wantT (g := 28) (d := 185) rfl rfl rfl) rfl rfl rfl ?_
    refine sq.c (v := .bool true) rfl rfl rfl rfl ?_
    refine sq.c (v := .bool true) rfl rfl rfl rfl ?_
    refine sq.c (v := .pointer none) (wantT (g := 33) (d := 190) rfl rfl rfl) rfl rfl rfl ?_
    refine sq.t (v := .slice none (0) (0)) (wantT (g := 33) (d := 190) rfl rfl rfl) (CallsF.fn rfl (by kernel_rfl) rfl rfl) (fun hf => nilFences_spec) hf rfl ?_
    intro n261 hn2 hf
    have hn := Nat.le_trans hn hn2
    refine sq.c (v := .int .i64 (0)) (wantT (g := 33) (d := 190) rfl rfl rfl) rfl (by kernel_rfl) rfl ?_
    refine sq.c (v := .bool true) (wantT (g := 33) (d := 190) rfl rfl rfl) rfl rfl rfl ?_
    refine sq.c (v := .bool true) rfl rfl rfl rfl ?_
    refine sq.c (v := .bool true) rfl rfl rfl rfl ?_
    refine sq.c (v := .pointer none) (wantT (g := 39) (d := 196) rfl rfl rfl) rfl rfl rfl ?_
    refine sq.t (v := .slice none (0) (0)) (wantT (g := 39) (d := 196) rfl rfl rfl) (CallsF.fn rfl (by kernel_rfl) rfl rfl) (fun hf => nilAll_spec) hf rfl ?_
    intro n262 hn2 hf
    have hn := Nat.le_trans hn hn2
    refine sq.c (v := .int .i64 (0)) (wantT (g := 39) (d := 196) rfl rfl rfl) rfl (by kernel_rfl) rfl ?_
    refine sq.c (v := .bool true) (wantT (g := 39) (d := 196) rfl rfl rfl) rfl rfl rfl ?_
    refine sq.c (v := .bool true) rfl rfl rfl rfl ?_
    refine sq.c (v := .bool true) rfl rfl rfl rfl ?_
    refine sq.c (v := .pointer none) (wantT (g := 45) (d := 202) rfl rfl rfl) rfl rfl rfl ?_
    refine sq.c (v := .slice (some ⟨n4, 0, none⟩) (1) (1)) (wantT (g := 45) (d := 202) rfl rfl rfl) rfl rfl rfl ?_
    refine sq.t (v := .slice none (0) (0)) (wantT (g := 45) (d := 202) rfl rfl rfl) (CallsF.fn rfl (by kernel_rfl) rfl rfl) (fun hf => nilFind_spec _ _ _ _) hf rfl ?_
    intro n263 hn2 hf
    have hn := Nat.le_trans hn hn2
    refine sq.c (v := .int .i64 (0)) (wantT (g := 45) (d := 202) rfl rfl rfl) rfl (by kernel_rfl) rfl ?_
    refine sq.c (v := .bool true) (wantT (g := 45) (d := 202) rfl rfl rfl) rfl rfl rfl ?_
    refine sq.c (v := .bool true) rfl rfl rfl rfl ?_
    refine sq.c (v := .bool true) rfl rfl rfl rfl ?_
    refine sq.c (v := .pointer none) (wantT (g := 52) (d := 209) rfl rfl rfl) rfl rfl rfl ?_
    refine sq.t (v := .pointer none) (wantT (g := 52) (d := 209) rfl rfl rfl) (CallsF.fn rfl (by kernel_rfl) rfl rfl) (fun hf => nilCopy_spec) hf rfl ?_
    intro n264 hn2 hf
    have hn := Nat.le_trans hn hn2
    refine sq.c (v := .bool true) (wantT (g := 52) (d := 209) rfl rfl rfl) rfl (by kernel_rfl) rfl ?_
    refine sq.c (v := .bool true) rfl rfl rfl rfl ?_
    refine sq.c (v := .bool true) rfl rfl rfl rfl ?_
    refine sq.t (v := .bool true) (wantT (g := 57) (d := 214) rfl rfl rfl) (CallsF.fn rfl (by kernel_rfl) rfl rfl) (fun hf => sameNN_spec) hf rfl ?_
    intro n265 hn2 hf
    have hn := Nat.le_trans hn hn2
    refine sq.c (v := .bool true) rfl rfl rfl rfl ?_
    refine sq.c (v := .bool true) rfl rfl rfl rfl ?_
    refine sq.c (v := .pointer (some ⟨bu, 0, none⟩)) (wantT (g := 60) (d := 217) rfl rfl rfl) rfl rfl rfl ?_
    refine sq.t (v := .bool false) (wantT (g := 60) (d := 217) rfl rfl rfl) (CallsF.fn rfl (by kernel_rfl) rfl rfl) (fun hf => sameSN_spec _) hf rfl ?_
    intro n266 hn2 hf
    have hn := Nat.le_trans hn hn2
    refine sq.c (v := .bool true) (wantT (g := 60) (d := 217) rfl rfl rfl) rfl rfl rfl ?_
    refine sq.c (v := .bool true) rfl rfl rfl rfl ?_
    refine sq.c (v := .bool true) rfl rfl rfl rfl ?_
    refine sq.c (v := .pointer none) (wantT (g := 65) (d := 222) rfl rfl rfl) rfl rfl rfl ?_
    refine sq.c (v := .pointer (some ⟨bu, 0, none⟩)) (wantT (g := 65) (d := 222) rfl rfl rfl) rfl rfl rfl ?_
    refine sq.t (v := .bool false) (wantT (g := 65) (d := 222) rfl rfl rfl) (CallsF.fn rfl (by kernel_rfl) rfl rfl) (fun hf => sameNS_spec _) hf rfl ?_
    intro n267 hn2 hf
    have hn := Nat.le_trans hn hn2
    refine sq.c (v := .bool true) (wantT (g := 65) (d := 222) rfl rfl rfl) rfl rfl rfl ?_
    refine sq.c (v := .bool true) rfl rfl rfl rfl ?_
    refine sq.c (v := .bool true) rfl rfl rfl rfl ?_
    refine sq.e ?_
    refine AWp.ret ?_
    refine ⟨rfl, [.bool true], rfl, .bool true, rfl, hs, hn, ?_⟩
    rfl
   ·exfalso
    exact c18_22 (by kernel_rfl)
  ·exfalso
   exact c18_17 (by kernel_rfl)
end Go.Proofs.YtkpaklofdkjinaaDoor
namespace Go.Proofs.YtkpaklofdkjinaaDoor
open Go Go.Abs Go.ChangeShapes Go.RowKit Go.WideShapes
set_option maxRecDepth 100000
set_option maxHeartbeats 1000000
/-! Series, batches. -/
section
variable {H : Type} {enc : TypeId × Value → H} {W : World} {base : Nat} {held : Bool}
end
section
variable {μ : Mu} {h : Heap} {n : Nat} {W : World} {v : Value}
end
theorem law_calls {W : World} {f : FuncId} {args args' : Array Value} {μ : Mu} {h : Heap} {n : Nat} (ro : ∀ b o, h.get b = some o → o.excl = false) (hr : Rel Tryd.prog μ h n W) (ha : ARel μ args args') (c : Tells Tryd.prog f args.toList h n (.bool true)) :
    Calls Tryd.prog f args' W fun e W' => e = .returned (.bool true) ∧ Below W.heap.size W W' :=
  calls_of_acall ro hr ha rfl (ACall.mono c fun _ h' _ _ _ ⟨e, _, _⟩ => ⟨h', Heap.sub_refl _, e⟩)
end Go.Proofs.YtkpaklofdkjinaaDoor
