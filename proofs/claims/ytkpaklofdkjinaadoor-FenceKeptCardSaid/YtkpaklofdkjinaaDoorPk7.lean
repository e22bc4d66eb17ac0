/- texts of the claim, part 7: FenT3 FenDJ FenT4 FenT5. -/
import Derived.Test.YtkpaklofdkjinaaDoorPk6
set_option linter.unusedVariables false
set_option linter.unusedSimpArgs false
set_option linter.unusedSectionVars false
namespace Go.Proofs.YtkpaklofdkjinaaDoor
open Go Go.Abs Go.RowKit Go.Shelf
set_option maxRecDepth 100000
set_option maxHeartbeats 4000000
theorem sub_none {h h' : Heap} {b : Nat} (s : SubBut h h' []) (e : h'.get b = none) : h.get b = none := by
  cases hb : h.get b with
  | none => rfl
  | some o => rw [s.sub _ _ hb] at e; cases e
theorem got_ne {h : Heap} {a b : Nat} {o : AObj} (e : h.get a = some o) (z : h.get b = none) : a ≠ b := fun q => by rw [q, z] at e; cases e
theorem res_cellC {P : Program} {vs : List Value} {h : Heap} {a : Tmp} {t : TypeId} {v : Value} {rest : List ResultVar} {xs : List Value} (hl : loadE P t (getV vs a) h = some v) (hr : resultsE P (frameV vs) h rest = some xs) : resultsE P (frameV vs) h (.cell a t :: rest) = some (v :: xs) := by
  have e : resultE P (frameV vs) h (.cell a t) = some v := by
    show loadE P t ((frameV vs).get a) h = some v
    rw [frameV_get]; exact hl
  show (match resultE P (frameV vs) h (.cell a t), resultsE P (frameV vs) h rest with | some x, some xs => some (x :: xs) | _, _ => none) = _
  rw [e, hr]
theorem FRow.conv {α β : Type} {E : Enc α} {E' : Enc β} (f : α → β) (hk : E'.k = E.k) (hc : ∀ x, E'.cells (f x) = E.cells x) {h : Heap} {v : Value} {xs : List α} (q : FRow E h v xs) : FRow E' h v (xs.map f) := by
  have hr : E'.row (xs.map f) = E.row xs := by
    unfold Enc.row
    induction xs with
    | nil => rfl
    | cons x xs ih =>
      have := hc x
      simp_all [List.flatMap_map]
  rcases q with ⟨rfl, q⟩ | ⟨b, o, cap, cs, ci, rfl, h1, h2, h3, h4⟩
  · exact .inl ⟨rfl, q⟩
  · exact .inr ⟨b, o, cap, cs, ci, by rw [List.length_map], by rw [List.length_map]; exact h1, h2, by rw [List.length_map, hk, hr]; exact h3, by rw [List.length_map, hk]; exact h4⟩
theorem putSt {h : Heap} {n : Nat} {b f g kf kg : Nat} {c : CI} (F : FM) (G : SM) (S : SP) (hb_ : h.get b = some (.cells [.map (some f), .map (some g)] true c)) (hf_ : h.get f = some (.map (mapE plV intV F) kf)) (hg_ : h.get g = some (.map (mapE plV ownV G) kg)) (okF : MOk F kf) (okG : MOk G kg) (hS : SMIs h G S) (ne_f_g : f ≠ g) {a a2 : Option Addr} {cp cp2 N : Nat} (ten : ByteArray) (ls : List Lab) (xs : List Samp) (hl : IsRow encLab h (.slice a ls.length cp) ls) (hx : IsRow encSmp h (.slice a2 xs.length cp2) xs) (hsm : Small (ls, xs)) (hinv : InvS N S) (hN : N < 1000000000000) :
    Makes Tryd.prog 30 [.pointer (some ⟨b, 0, none⟩), .string ten, .agg #[.slice a ls.length cp, .slice a2 xs.length cp2]] h n [g] fun v h2 _ => ∃ v1 G2, v = .tuple #[v1, .int .i64 (pBad S ten (ls, xs))] ∧ FRow encSmp h2 v1 (pKept S ten (ls, xs)) ∧ h2.get g = some (.map (mapE plV ownV G2) (pCk S kg ten (ls, xs))) ∧ MOk G2 (pCk S kg ten (ls, xs)) ∧ SMIs h2 G2 (pS S kg ten (ls, xs)) := by
  refine makes_weaken (putX_spec F G S hb_ hf_ hg_ okF okG hS ne_f_g ten ls xs hl hx hsm hinv hN) ?_
  rintro v h2 n2 hs hn hf ⟨v1, G2, rfl, q, hg2, ok, sm⟩
  obtain ⟨h3, w, fr, k3, s3⟩ := q.freeze
  exact ⟨h3, w, q.fresh hs s3, v1, G2, rfl, fr, s3 _ _ (OwnRow.notmap q hg2) hg2, ok, sm.keep k3⟩
/-! Fences, told in their row. -/
abbrev Fen := ByteArray × ByteArray × Int
def encFen : Enc Fen := ⟨3, fun x => [.string x.1, .string x.2.1, .int .i64 x.2.2], fun _ => rfl, by decide⟩
theorem appFen : AppT Tryd.prog encFen 27 56 40 := ⟨by kernel_rfl, by kernel_rfl, by kernel_rfl, fun _ => rfl⟩
def fenAt (F : FM) (p : Pl) : Fen := (p.1, p.2, (mget F p).getD 0)
def fencesV (F : FM) : List Fen := (keysP F).map (fenAt F)
theorem keysP_len {ν : Type} (L : List (Pl × ν × Nat)) : (keysP L).length = L.length := by
  unfold keysP
  rw [(sortP_perm _).length_eq, List.length_map]
/-! Series, told in their row. -/
abbrev Hdr := Option Addr × Nat × Nat
def hdV (x : Hdr) : Value := .slice x.1 x.2.1 x.2.2
def encSerO : Enc (Hdr × Hdr) := ⟨2, fun x => [hdV x.1, hdV x.2], fun _ => rfl, by decide⟩
theorem appSerO : AppT Tryd.prog encSerO 29 43 48 := ⟨by kernel_rfl, by kernel_rfl, by kernel_rfl, fun _ => rfl⟩
def serV (x : Hdr × Hdr) : RSer := (hdV x.1, hdV x.2)
theorem FRow.ser {h : Heap} {v : Value} {xs : List (Hdr × Hdr)} (q : FRow encSerO h v xs) : FRow encSer h v (xs.map serV) := FRow.conv serV rfl (fun _ => rfl) q
theorem FSers.nil (h : Heap) : FSers h [] [] := ⟨rfl, fun i r s a => by simp at a⟩
theorem FSers.snoc {h : Heap} {rs : List RSer} {ss : List Ser} {r : RSer} {s : Ser} (q : FSers h rs ss) (f : FSer h r s) : FSers h (rs ++ [r]) (ss ++ [s]) := by
  refine ⟨by simp [q.1], fun i r' s' x y => ?_⟩
  rcases Nat.lt_or_ge i rs.length with hl | hl
  · rw [List.getElem?_append_left hl] at x
    rw [List.getElem?_append_left (by rw [← q.1]; exact hl)] at y
    exact q.2 i r' s' x y
  · rw [List.getElem?_append_right hl] at x
    rw [List.getElem?_append_right (by rw [← q.1]; exact hl), ← q.1] at y
    have : i - rs.length = 0 := by have := (List.getElem?_eq_some_iff.1 x).1; simp at this; omega
    rw [this] at x y
    simp at x y
    subst x; subst y
    exact f
theorem FSers.snocO {h : Heap} {rs : List (Hdr × Hdr)} {ss : List Ser} {r : Hdr × Hdr} {s : Ser} (q : FSers h (rs.map serV) ss) (f : FSer h (serV r) s) : FSers h ((rs ++ [r]).map serV) (ss ++ [s]) := by
  rw [List.map_append]
  exact q.snoc f
abbrev ROwn := ByteArray × Hdr × Hdr
abbrev POwn := ByteArray × Ser
def encOwn : Enc ROwn := ⟨3, fun x => [.string x.1, hdV x.2.1, hdV x.2.2], fun _ => rfl, by decide⟩
theorem appOwn : AppT Tryd.prog encOwn 38 45 64 := ⟨by kernel_rfl, by kernel_rfl, by kernel_rfl, fun _ => rfl⟩
def FOwn (h : Heap) (r : ROwn) (x : POwn) : Prop := r.1 = x.1 ∧ FSer h (serV r.2) x.2
def FOwns (h : Heap) (rs : List ROwn) (xs : List POwn) : Prop := rs.length = xs.length ∧ ∀ (i : Nat) (r : ROwn) (x : POwn), rs[i]? = some r → xs[i]? = some x → FOwn h r x
theorem FOwn.keep {h h' : Heap} {r : ROwn} {x : POwn} (q : FOwn h r x) (k : Keeps h h') : FOwn h' r x := ⟨q.1, q.2.keep k⟩
theorem FOwns.keep {h h' : Heap} {rs : List ROwn} {xs : List POwn} (q : FOwns h rs xs) (k : Keeps h h') : FOwns h' rs xs := ⟨q.1, fun i r s a b => (q.2 i r s a b).keep k⟩
theorem FOwns.nil (h : Heap) : FOwns h [] [] := ⟨rfl, fun i r s a => by simp at a⟩
theorem FOwns.at {h : Heap} {rs : List ROwn} {xs : List POwn} {i : Nat} {r : ROwn} (q : FOwns h rs xs) (hr : rs[i]? = some r) : ∃ x, xs[i]? = some x ∧ FOwn h r x := by
  have hi := (List.getElem?_eq_some_iff.1 hr).1
  rw [q.1] at hi
  exact ⟨_, List.getElem?_eq_getElem hi, q.2 i r _ hr (List.getElem?_eq_getElem hi)⟩
theorem FOwns.snoc {h : Heap} {rs : List ROwn} {xs : List POwn} {r : ROwn} {x : POwn} (q : FOwns h rs xs) (f : FOwn h r x) : FOwns h (rs ++ [r]) (xs ++ [x]) := by
  refine ⟨by simp [q.1], fun i r' s' x y => ?_⟩
  rcases Nat.lt_or_ge i rs.length with hl | hl
  · rw [List.getElem?_append_left hl] at x
    rw [List.getElem?_append_left (by rw [← q.1]; exact hl)] at y
    exact q.2 i r' s' x y
  · rw [List.getElem?_append_right hl] at x
    rw [List.getElem?_append_right (by rw [← q.1]; exact hl), ← q.1] at y
    have : i - rs.length = 0 := by have := (List.getElem?_eq_some_iff.1 x).1; simp at this; omega
    rw [this] at x y
    simp at x y
    subst x; subst y
    exact f
def ownAt (S : SP) (p : Pl) : POwn := (p.1, (mget S p).getD ([], []))
def allV (S : SP) : List POwn := (keysP S).map (ownAt S)
theorem SMIs.fst {h : Heap} : ∀ {G : SM} {S : SP}, SMIs h G S → (S.map fun x => x.1) = G.map fun x => x.1 := by
  intro G; induction G with
  | nil => intro S q; have := q.1; cases S with
    | nil => rfl
    | cons => simp at this
  | cons a G ih => intro S q; cases S with
    | nil => have := q.1; simp at this
    | cons b S => obtain ⟨h1, h2⟩ := q.cons; simp [ih h2, h1.1]
theorem SMIs.keys {h : Heap} {G : SM} {S : SP} (q : SMIs h G S) : keysP G = keysP S := by unfold keysP; rw [q.fst]
theorem keysF {h : Heap} {n B m ck : Nat} {own : Bool} {ci : CI} {L : FM} (hB : h.get B = some (.cells [.map (some m)] own ci)) (hw : ci.whole = true) (hm : h.get m = some (.map (mapE plV intV L) ck)) (ok : MOk L ck) (hlen : L.length ≤ 1000000000000) :
    Makes Tryd.prog 26 [.func (.func 47) #[] #[.pointer (some ⟨B, 0, none⟩)], .func (.func 28) #[] #[]] h n [] fun v h' _ => FRow encPlE h' v (keysP L) := makes_fz (f26_47 hB hw hm ok hlen)
theorem keysG {h : Heap} {n B m ck : Nat} {own : Bool} {ci : CI} {L : SM} (hB : h.get B = some (.cells [.map (some m)] own ci)) (hw : ci.whole = true) (hm : h.get m = some (.map (mapE plV ownV L) ck)) (ok : MOk L ck) (hlen : L.length ≤ 1000000000000) :
    Makes Tryd.prog 26 [.func (.func 59) #[] #[.pointer (some ⟨B, 0, none⟩)], .func (.func 28) #[] #[]] h n [] fun v h' _ => FRow encPlE h' v (keysP L) := makes_fz (f26_59 hB hw hm ok hlen)
def fmayB (x : Fen) : Bool := nameB x.1 && nameB x.2.1 && decide (1 ≤ x.2.2 ∧ x.2.2 ≤ 1099511627776)
def omayB (x : POwn) : Bool := nameB x.1 && mayB x.2.1 && decide (0 < x.2.2.length) && mayS x.2.2
theorem fmay_spec {h : Heap} {n : Nat} (x : Fen) (q1 : x.1.data.toList.length < 9223372036854775808) (q2 : x.2.1.data.toList.length < 9223372036854775808) :
    Tells Tryd.prog 42 [.agg #[.string (x.1), .string (x.2.1), .int .i64 (x.2.2)]] h n (.bool (fmayB x)) := by
 refine Makes.tells (Makes.free fun hf => ?_)
 have hs : SubBut h h ([]) := .refl _ _
 have hn : n ≤ n := Nat.le_refl _
 have hf0 := hf
 refine Makes.of_bodyV (args := [.agg #[.string (x.1), .string (x.2.1), .int .i64 (x.2.2)]]) (vs := [.agg #[.string (x.1), .string (x.2.1), .int .i64 (x.2.2)], undef, undef, undef, undef, undef, undef, undef, undef, undef, undef, undef, undef, undef, undef, undef, undef, undef, undef, undef, undef]) Tryd.func42 rfl rfl ?_
 refine AWp.seq (AWp.rowV (l := _) pok ?_)
 refine sq.op rfl rfl (Does.box (cs := [.string (x.1), .string (x.2.1), .int .i64 (x.2.2)]) hf rfl rfl) ?_
 rintro _ h2 n3 ⟨rfl, hb1⟩ s4 hn2 hf
 refine sq.w ?_
 have hs := hs.trans s4
 have hn := Nat.le_trans hn hn2
 refine sq.c (v := .bool false) rfl rfl rfl rfl ?_
 refine sq.e (AWp.seq (AWp.rowV (l := _) pok ?_))
 refine sq.c (v := .pointer (some ⟨n, 0, none⟩)) rfl rfl (by kernel_rfl) rfl ?_
 refine sq.c (v := .string (x.1)) rfl rfl (ld1 (P := Tryd.prog) (t := 9) (p := 0) (v := .string (x.1)) (by kernel_rfl) (by kernel_rfl) hb1 rfl) rfl ?_
 refine sq.t (v := .bool (nameB x.1)) rfl (CallsF.fn rfl (by kernel_rfl) rfl rfl) (fun hf => name_spec _ q1) hf rfl ?_
 intro n5 hn2 hf
 have hn := Nat.le_trans hn hn2
 refine sq.c (v := .bool (nameB x.1)) rfl rfl rfl rfl ?_
 rcases Bool.eq_false_or_eq_true (nameB x.1) with c1_2 | c1_2
 ·rw [c1_2]
  refine sq.c (v := .pointer (some ⟨n, 1, none⟩)) (wantT (g := 3) (d := 6) rfl rfl rfl) rfl (by kernel_rfl) rfl ?_
  refine sq.c (v := .string (x.2.1)) (wantT (g := 3) (d := 6) rfl rfl rfl) rfl (ld1 (P := Tryd.prog) (t := 9) (p := 1) (v := .string (x.2.1)) (by kernel_rfl) (by kernel_rfl) hb1 rfl) rfl ?_
  refine sq.t (v := .bool (nameB x.2.1)) (wantT (g := 3) (d := 6) rfl rfl rfl) (CallsF.fn rfl (by kernel_rfl) rfl rfl) (fun hf => name_spec _ q2) hf rfl ?_
  intro n6 hn2 hf
  have hn := Nat.le_trans hn hn2
  refine sq.c (v := .bool (nameB x.2.1)) rfl rfl rfl rfl ?_
  refine sq.c (v := .bool (nameB x.2.1)) rfl rfl rfl rfl ?_
  rcases Bool.eq_false_or_eq_true (nameB x.2.1) with c1_6 | c1_6
  ·rw [c1_6]
   refine sq.c (v := .pointer (some ⟨n, 2, none⟩)) (wantT (g := 8) (d := 11) rfl rfl rfl) rfl (by kernel_rfl) rfl ?_
   refine sq.c (v := .int .i64 (x.2.2)) (wantT (g := 8) (d := 11) rfl rfl rfl) rfl (ld1 (P := Tryd.prog) (t := 2) (p := 2) (v := .int .i64 (x.2.2)) (by kernel_rfl) (by kernel_rfl) hb1 rfl) rfl ?_
   refine sq.c (v := .bool (decide ((1 : Int) ≤ x.2.2))) (wantT (g := 8) (d := 11) rfl rfl rfl) rfl rfl rfl ?_
   refine sq.c (v := .bool (decide ((1 : Int) ≤ x.2.2))) rfl rfl rfl rfl ?_
   refine sq.c (v := .bool (decide ((1 : Int) ≤ x.2.2))) rfl rfl rfl rfl ?_
   by_cases c1_11 : (1 : Int) ≤ x.2.2
   ·rw [decide_eq_true c1_11]
    refine sq.c (v := .pointer (some ⟨n, 2, none⟩)) (wantT (g := 13) (d := 16) rfl rfl rfl) rfl (by kernel_rfl) rfl ?_
    refine sq.c (v := .int .i64 (x.2.2)) (wantT (g := 13) (d := 16) rfl rfl rfl) rfl (ld1 (P := Tryd.prog) (t := 2) (p := 2) (v := .int .i64 (x.2.2)) (by kernel_rfl) (by kernel_rfl) hb1 rfl) rfl ?_
    refine sq.c (v := .bool (decide (x.2.2 ≤ (1099511627776 : Int)))) (wantT (g := 13) (d := 16) rfl rfl rfl) rfl rfl rfl ?_
    refine sq.c (v := .bool (decide (x.2.2 ≤ (1099511627776 : Int)))) rfl rfl rfl rfl ?_
    refine sq.c (v := .bool (decide (x.2.2 ≤ (1099511627776 : Int)))) rfl rfl rfl rfl ?_
    refine sq.e ?_
    refine AWp.ret ?_
    refine ⟨rfl, [.bool (decide (x.2.2 ≤ (1099511627776 : Int)))], rfl, .bool (decide (x.2.2 ≤ (1099511627776 : Int))), rfl, hs, hn, ?_⟩
    show Value.bool (decide (x.2.2 ≤ (1099511627776 : Int))) = .bool (fmayB x)
    refine congrArg Value.bool ?_
    unfold fmayB
    simp [c1_2, c1_6, c1_11] <;> omega
   ·rw [decide_eq_false c1_11]
    refine sq.s (wantF (g := 13) (d := 16) rfl rfl rfl) rfl ?_
    refine sq.s (wantF (g := 13) (d := 16) rfl rfl rfl) rfl ?_
    refine sq.s (wantF (g := 13) (d := 16) rfl rfl rfl) rfl ?_
    refine sq.c (v := .bool false) rfl rfl rfl rfl ?_
    refine sq.c (v := .bool false) rfl rfl rfl rfl ?_
    refine sq.e ?_
    refine AWp.ret ?_
    refine ⟨rfl, [.bool false], rfl, .bool false, rfl, hs, hn, ?_⟩
    show Value.bool false = .bool (fmayB x)
    refine congrArg Value.bool ?_
    unfold fmayB
    simp [c1_2, c1_6, c1_11] <;> omega
  ·rw [c1_6]
   refine sq.s (wantF (g := 8) (d := 11) rfl rfl rfl) rfl ?_
   refine sq.s (wantF (g := 8) (d := 11) rfl rfl rfl) rfl ?_
   refine sq.s (wantF (g := 8) (d := 11) rfl rfl rfl) rfl ?_
   refine sq.c (v := .bool false) rfl rfl rfl rfl ?_
   refine sq.c (v := .bool false) rfl rfl rfl rfl ?_
   refine sq.s (wantF (g := 13) (d := 16) rfl rfl rfl) rfl ?_
   refine sq.s (wantF (g := 13) (d := 16) rfl rfl rfl) rfl ?_
   refine sq.s (wantF (g := 13) (d := 16) rfl rfl rfl) rfl ?_
   refine sq.c (v := .bool false) rfl rfl rfl rfl ?_
   refine sq.c (v := .bool false) rfl rfl rfl rfl ?_
   refine sq.e ?_
   refine AWp.ret ?_
   refine ⟨rfl, [.bool false], rfl, .bool false, rfl, hs, hn, ?_⟩
   show Value.bool false = .bool (fmayB x)
   refine congrArg Value.bool ?_
   unfold fmayB
   simp [c1_2, c1_6] <;> omega
 ·rw [c1_2]
  refine sq.s (wantF (g := 3) (d := 6) rfl rfl rfl) rfl ?_
  refine sq.s (wantF (g := 3) (d := 6) rfl rfl rfl) rfl ?_
  refine sq.s (wantF (g := 3) (d := 6) rfl rfl rfl) rfl ?_
  refine sq.c (v := .bool false) rfl rfl rfl rfl ?_
  refine sq.c (v := .bool false) rfl rfl rfl rfl ?_
  refine sq.s (wantF (g := 8) (d := 11) rfl rfl rfl) rfl ?_
  refine sq.s (wantF (g := 8) (d := 11) rfl rfl rfl) rfl ?_
  refine sq.s (wantF (g := 8) (d := 11) rfl rfl rfl) rfl ?_
  refine sq.c (v := .bool false) rfl rfl rfl rfl ?_
  refine sq.c (v := .bool false) rfl rfl rfl rfl ?_
  refine sq.s (wantF (g := 13) (d := 16) rfl rfl rfl) rfl ?_
  refine sq.s (wantF (g := 13) (d := 16) rfl rfl rfl) rfl ?_
  refine sq.s (wantF (g := 13) (d := 16) rfl rfl rfl) rfl ?_
  refine sq.c (v := .bool false) rfl rfl rfl rfl ?_
  refine sq.c (v := .bool false) rfl rfl rfl rfl ?_
  refine sq.e ?_
  refine AWp.ret ?_
  refine ⟨rfl, [.bool false], rfl, .bool false, rfl, hs, hn, ?_⟩
  show Value.bool false = .bool (fmayB x)
  refine congrArg Value.bool ?_
  unfold fmayB
  simp [c1_2] <;> omega
theorem omay_spec {h : Heap} {n : Nat} {a a2 : Option Addr} {cp cp2 : Nat} (ten : ByteArray) (ls : List Lab) (xs : List Samp) (hl : IsRow encLab h (.slice a ls.length cp) ls) (hx : IsRow encSmp h (.slice a2 xs.length cp2) xs) (hld : Laid0 h) (hs1 : ls.length ≤ 1200) (hsz : ∀ x ∈ ls, x.1.data.toList.length < 6000 ∧ x.2.data.toList.length < 6000) (hs2 : xs.length < 1000000000000) (q1 : ten.data.toList.length < 9223372036854775808) :
    Tells Tryd.prog 44 [.agg #[.string (ten), .slice a (ls.length) cp, .slice a2 (xs.length) cp2]] h n (.bool (omayB (ten, ls, xs))) := by
 refine Makes.tells (Makes.free fun hf => ?_)
 have hs : SubBut h h ([]) := .refl _ _
 have hn : n ≤ n := Nat.le_refl _
 have hf0 := hf
 refine Makes.of_bodyV (args := [.agg #[.string (ten), .slice a (ls.length) cp, .slice a2 (xs.length) cp2]]) (vs := [.agg #[.string (ten), .slice a (ls.length) cp, .slice a2 (xs.length) cp2], undef, undef, undef, undef, undef, undef, undef, undef, undef, undef, undef, undef, undef, undef, undef, undef, undef, undef, undef, undef, undef, undef, undef, undef]) Tryd.func44 rfl rfl ?_
 refine AWp.seq (AWp.rowV (l := _) pok ?_)
 refine sq.op rfl rfl (Does.box (cs := [.string (ten), .slice a (ls.length) cp, .slice a2 (xs.length) cp2]) hf rfl rfl) ?_
 rintro _ h2 n3 ⟨rfl, hb1⟩ s4 hn2 hf
 refine sq.w ?_
 have hs := hs.trans s4
 have hn := Nat.le_trans hn hn2
 refine sq.c (v := .bool false) rfl rfl rfl rfl ?_
 refine sq.e (AWp.seq (AWp.rowV (l := _) pok ?_))
 refine sq.c (v := .pointer (some ⟨n, 0, none⟩)) rfl rfl (by kernel_rfl) rfl ?_
 refine sq.c (v := .string (ten)) rfl rfl (ld1 (P := Tryd.prog) (t := 9) (p := 0) (v := .string (ten)) (by kernel_rfl) (by kernel_rfl) hb1 rfl) rfl ?_
 refine sq.t (v := .bool (nameB ten)) rfl (CallsF.fn rfl (by kernel_rfl) rfl rfl) (fun hf => name_spec _ q1) hf rfl ?_
 intro n5 hn2 hf
 have hn := Nat.le_trans hn hn2
 refine sq.c (v := .bool (nameB ten)) rfl rfl rfl rfl ?_
 rcases Bool.eq_false_or_eq_true (nameB ten) with c1_2 | c1_2
 ·rw [c1_2]
  refine sq.c (v := .pointer (some ⟨n, 1, none⟩)) (wantT (g := 3) (d := 6) rfl rfl rfl) rfl (by kernel_rfl) rfl ?_
  refine sq.c (v := .pointer (some ⟨n, 1, none⟩)) (wantT (g := 3) (d := 6) rfl rfl rfl) rfl (by kernel_rfl) rfl ?_
  refine sq.c (v := .slice a (ls.length) cp) (wantT (g := 3) (d := 6) rfl rfl rfl) rfl (ld1 (P := Tryd.prog) (t := 40) (p := 1) (v := .slice a (ls.length) cp) (by kernel_rfl) (by kernel_rfl) hb1 rfl) rfl ?_
  refine sq.t (v := .bool (mayB ls)) (wantT (g := 3) (d := 6) rfl rfl rfl) (CallsF.fn rfl (by kernel_rfl) rfl rfl) (fun hf => l24_spec _ (hl.keep hs) (by omega) (fun x hx => by have := hsz x hx; omega) (hld.keep hs)) hf rfl ?_
  intro n6 hn2 hf
  have hn := Nat.le_trans hn hn2
  refine sq.c (v := .bool (mayB ls)) rfl rfl rfl rfl ?_
  refine sq.c (v := .bool (mayB ls)) rfl rfl rfl rfl ?_
  rcases Bool.eq_false_or_eq_true (mayB ls) with c1_7 | c1_7
  ·rw [c1_7]
   refine sq.c (v := .pointer (some ⟨n, 1, none⟩)) (wantT (g := 9) (d := 12) rfl rfl rfl) rfl (by kernel_rfl) rfl ?_
   refine sq.c (v := .pointer (some ⟨n, 2, none⟩)) (wantT (g := 9) (d := 12) rfl rfl rfl) rfl (by kernel_rfl) rfl ?_
   refine sq.c (v := .slice a2 (xs.length) cp2) (wantT (g := 9) (d := 12) rfl rfl rfl) rfl (ld1 (P := Tryd.prog) (t := 41) (p := 2) (v := .slice a2 (xs.length) cp2) (by kernel_rfl) (by kernel_rfl) hb1 rfl) rfl ?_
   refine sq.c (v := .int .i64 (((xs.length : Nat) : Int))) (wantT (g := 9) (d := 12) rfl rfl rfl) rfl (by kernel_rfl) rfl ?_
   refine sq.c (v := .bool (decide ((0 : Int) < (((xs.length : Nat) : Int))))) (wantT (g := 9) (d := 12) rfl rfl rfl) rfl rfl rfl ?_
   refine sq.c (v := .bool (decide ((0 : Int) < (((xs.length : Nat) : Int))))) rfl rfl rfl rfl ?_
   refine sq.c (v := .bool (decide ((0 : Int) < (((xs.length : Nat) : Int))))) rfl rfl rfl rfl ?_
   by_cases c1_14 : (0 : Int) < (((xs.length : Nat) : Int))
   ·rw [decide_eq_true c1_14]
    refine sq.c (v := .pointer (some ⟨n, 1, none⟩)) (wantT (g := 16) (d := 19) rfl rfl rfl) rfl (by kernel_rfl) rfl ?_
    refine sq.c (v := .pointer (some ⟨n, 2, none⟩)) (wantT (g := 16) (d := 19) rfl rfl rfl) rfl (by kernel_rfl) rfl ?_
    refine sq.c (v := .slice a2 (xs.length) cp2) (wantT (g := 16) (d := 19) rfl rfl rfl) rfl (ld1 (P := Tryd.prog) (t := 41) (p := 2) (v := .slice a2 (xs.length) cp2) (by kernel_rfl) (by kernel_rfl) hb1 rfl) rfl ?_
    refine sq.t (v := .bool (mayS xs)) (wantT (g := 16) (d := 19) rfl rfl rfl) (CallsF.fn rfl (by kernel_rfl) rfl rfl) (fun hf => mayS_spec _ (hx.keep hs) (by omega)) hf rfl ?_
    intro n7 hn2 hf
    have hn := Nat.le_trans hn hn2
    refine sq.c (v := .bool (mayS xs)) rfl rfl rfl rfl ?_
    refine sq.c (v := .bool (mayS xs)) rfl rfl rfl rfl ?_
    refine sq.e ?_
    refine AWp.ret ?_
    refine ⟨rfl, [.bool (mayS xs)], rfl, .bool (mayS xs), rfl, hs, hn, ?_⟩
    show Value.bool (mayS xs) = .bool (omayB (ten, ls, xs))
    refine congrArg Value.bool ?_
    unfold omayB
    simp [c1_2, c1_7, c1_14] <;> omega
   ·rw [decide_eq_false c1_14]
    refine sq.s (wantF (g := 16) (d := 19) rfl rfl rfl) rfl ?_
    refine sq.s (wantF (g := 16) (d := 19) rfl rfl rfl) rfl ?_
    refine sq.s (wantF (g := 16) (d := 19) rfl rfl rfl) rfl ?_
    refine sq.s (wantF (g := 16) (d := 19) rfl rfl rfl) rfl ?_
    refine sq.c (v := .bool false) rfl rfl rfl rfl ?_
    refine sq.c (v := .bool false) rfl rfl rfl rfl ?_
    refine sq.e ?_
    refine AWp.ret ?_
    refine ⟨rfl, [.bool false], rfl, .bool false, rfl, hs, hn, ?_⟩
    show Value.bool false = .bool (omayB (ten, ls, xs))
    refine congrArg Value.bool ?_
    unfold omayB
    simp [c1_2, c1_7, c1_14] <;> omega
  ·rw [c1_7]
   refine sq.s (wantF (g := 9) (d := 12) rfl rfl rfl) rfl ?_
   refine sq.s (wantF (g := 9) (d := 12) rfl rfl rfl) rfl ?_
   refine sq.s (wantF (g := 9) (d := 12) rfl rfl rfl) rfl ?_
   refine sq.s (wantF (g := 9) (d := 12) rfl rfl rfl) rfl ?_
   refine sq.s (wantF (g := 9) (d := 12) rfl rfl rfl) rfl ?_
   refine sq.c (v := .bool false) rfl rfl rfl rfl ?_
   refine sq.c (v := .bool false) rfl rfl rfl rfl ?_
   refine sq.s (wantF (g := 16) (d := 19) rfl rfl rfl) rfl ?_
   refine sq.s (wantF (g := 16) (d := 19) rfl rfl rfl) rfl ?_
   refine sq.s (wantF (g := 16) (d := 19) rfl rfl rfl) rfl ?_
   refine sq.s (wantF (g := 16) (d := 19) rfl rfl rfl) rfl ?_
   refine sq.c (v := .bool false) rfl rfl rfl rfl ?_
   refine sq.c (v := .bool false) rfl rfl rfl rfl ?_
   refine sq.e ?_
   refine AWp.ret ?_
   refine ⟨rfl, [.bool false], rfl, .bool false, rfl, hs, hn, ?_⟩
   show Value.bool false = .bool (omayB (ten, ls, xs))
   refine congrArg Value.bool ?_
   unfold omayB
   simp [c1_2, c1_7] <;> omega
 ·rw [c1_2]
  refine sq.s (wantF (g := 3) (d := 6) rfl rfl rfl) rfl ?_
  refine sq.s (wantF (g := 3) (d := 6) rfl rfl rfl) rfl ?_
  refine sq.s (wantF (g := 3) (d := 6) rfl rfl rfl) rfl ?_
  refine sq.s (wantF (g := 3) (d := 6) rfl rfl rfl) rfl ?_
  refine sq.c (v := .bool false) rfl rfl rfl rfl ?_
  refine sq.c (v := .bool false) rfl rfl rfl rfl ?_
  refine sq.s (wantF (g := 9) (d := 12) rfl rfl rfl) rfl ?_
  refine sq.s (wantF (g := 9) (d := 12) rfl rfl rfl) rfl ?_
  refine sq.s (wantF (g := 9) (d := 12) rfl rfl rfl) rfl ?_
  refine sq.s (wantF (g := 9) (d := 12) rfl rfl rfl) rfl ?_
  refine sq.s (wantF (g := 9) (d := 12) rfl rfl rfl) rfl ?_
  refine sq.c (v := .bool false) rfl rfl rfl rfl ?_
  refine sq.c (v := .bool false) rfl rfl rfl rfl ?_
  refine sq.s (wantF (g := 16) (d := 19) rfl rfl rfl) rfl ?_
  refine sq.s (wantF (g := 16) (d := 19) rfl rfl rfl) rfl ?_
  refine sq.s (wantF (g := 16) (d := 19) rfl rfl rfl) rfl ?_
  refine sq.s (wantF (g := 16) (d := 19) rfl rfl rfl) rfl ?_
  refine sq.c (v := .bool false) rfl rfl rfl rfl ?_
  refine sq.c (v := .bool false) rfl rfl rfl rfl ?_
  refine sq.e ?_
  refine AWp.ret ?_
  refine ⟨rfl, [.bool false], rfl, .bool false, rfl, hs, hn, ?_⟩
  show Value.bool false = .bool (omayB (ten, ls, xs))
  refine congrArg Value.bool ?_
  unfold omayB
  simp [c1_2] <;> omega
theorem kF_spec {h : Heap} {n : Nat} {f : Nat} :
    Makes Tryd.prog 27 [.map (some f)] h n ([]) (fun v h2 _ => ∃ q, v = .func (.func 47) #[] #[.pointer (some ⟨q, 0, none⟩)] ∧ h2.get q = some (.cells [.map (some f)] true ⟨66, 0, true⟩) ∧ h.get q = none) := by
 refine Makes.free fun hf => ?_
 have hs : SubBut h h ([]) := .refl _ _
 have hn : n ≤ n := Nat.le_refl _
 have hf0 := hf
 refine Makes.of_bodyV (args := [.map (some f)]) (vs := [.map (some f), undef, undef, undef]) Tryd.func27 rfl rfl ?_
 refine AWp.seq (AWp.rowV (l := _) pok ?_)
 have z_n : h.get n = none := hf0 _ hn
 refine sq.op rfl rfl (Does.box (cs := [.map (some f)]) hf rfl rfl) ?_
 rintro _ h2 n3 ⟨rfl, hb1⟩ s4 hn2 hf
 refine sq.w ?_
 have hs := hs.trans s4
 have hn := Nat.le_trans hn hn2
 refine sq.c (v := .nilFunc) rfl rfl rfl rfl ?_
 refine sq.e (AWp.seq (AWp.rowV (l := _) pok ?_))
 refine sq.c (v := .func (.func 47) #[] #[.pointer (some ⟨n, 0, none⟩)]) rfl rfl rfl rfl ?_
 refine sq.c (v := .func (.func 47) #[] #[.pointer (some ⟨n, 0, none⟩)]) rfl rfl rfl rfl ?_
 refine sq.e ?_
 refine AWp.ret ?_
 refine ⟨rfl, [.func (.func 47) #[] #[.pointer (some ⟨n, 0, none⟩)]], rfl, .func (.func 47) #[] #[.pointer (some ⟨n, 0, none⟩)], rfl, hs, hn, ?_⟩
 exact ⟨_, rfl, hb1, z_n⟩
theorem kG_spec {h : Heap} {n : Nat} {f : Nat} :
    Makes Tryd.prog 33 [.map (some f)] h n ([]) (fun v h2 _ => ∃ q, v = .func (.func 59) #[] #[.pointer (some ⟨q, 0, none⟩)] ∧ h2.get q = some (.cells [.map (some f)] true ⟨67, 0, true⟩) ∧ h.get q = none) := by
 refine Makes.free fun hf => ?_
 have hs : SubBut h h ([]) := .refl _ _
 have hn : n ≤ n := Nat.le_refl _
 have hf0 := hf
 refine Makes.of_bodyV (args := [.map (some f)]) (vs := [.map (some f), undef, undef, undef]) Tryd.func33 rfl rfl ?_
 refine AWp.seq (AWp.rowV (l := _) pok ?_)
 have z_n : h.get n = none := hf0 _ hn
 refine sq.op rfl rfl (Does.box (cs := [.map (some f)]) hf rfl rfl) ?_
 rintro _ h2 n3 ⟨rfl, hb1⟩ s4 hn2 hf
 refine sq.w ?_
 have hs := hs.trans s4
 have hn := Nat.le_trans hn hn2
 refine sq.c (v := .nilFunc) rfl rfl rfl rfl ?_
 refine sq.e (AWp.seq (AWp.rowV (l := _) pok ?_))
 refine sq.c (v := .func (.func 59) #[] #[.pointer (some ⟨n, 0, none⟩)]) rfl rfl rfl rfl ?_
 refine sq.c (v := .func (.func 59) #[] #[.pointer (some ⟨n, 0, none⟩)]) rfl rfl rfl rfl ?_
 refine sq.e ?_
 refine AWp.ret ?_
 refine ⟨rfl, [.func (.func 59) #[] #[.pointer (some ⟨n, 0, none⟩)]], rfl, .func (.func 59) #[] #[.pointer (some ⟨n, 0, none⟩)], rfl, hs, hn, ?_⟩
 exact ⟨_, rfl, hb1, z_n⟩
theorem fencesX_spec {h : Heap} {n : Nat} {b f g kf kg : Nat} {c : CI} (F : FM) (G : SM) (S : SP) (hb_ : h.get b = some (.cells [.map (some f), .map (some g)] true c)) (hf_ : h.get f = some (.map (mapE plV intV F) kf)) (hg_ : h.get g = some (.map (mapE plV ownV G) kg)) (okF : MOk F kf) (okG : MOk G kg) (hS : SMIs h G S) (ne_f_g : f ≠ g) (hlen : F.length ≤ 1000000000000) :
    Makes Tryd.prog 12 [.pointer (some ⟨b, 0, none⟩)] h n ([]) (fun v h2 _ => OwnRow encFen 56 h h2 v (fencesV F)) := by
 refine Makes.free fun hf => ?_
 have ne_b_f : b ≠ f := by intro e; subst e; rw [hb_] at hf_; cases hf_
 have ne_b_g : b ≠ g := by intro e; subst e; rw [hb_] at hg_; cases hg_
 have hkl := keysP_len F
 have hs : SubBut h h ([]) := .refl _ _
 have hn : n ≤ n := Nat.le_refl _
 have hf0 := hf
 refine Makes.of_bodyV (args := [.pointer (some ⟨b, 0, none⟩)]) (vs := [.pointer (some ⟨b, 0, none⟩), undef, undef, undef, undef, undef, undef, undef, undef, undef, undef, undef, undef, undef, undef, undef, undef, undef, undef, undef, undef, undef, undef, undef, undef, undef, undef, undef, undef, undef, undef, undef, undef, undef, undef]) Tryd.func12 rfl rfl ?_
 refine AWp.seq (AWp.rowV (l := _) pok ?_)
 refine sq.c (v := .slice none (0) (0)) rfl rfl rfl rfl ?_
 refine sq.e (AWp.seq (AWp.seq (AWp.rowV (l := _) pok ?_)))
 refine sq.c (v := .pointer (some ⟨b, 0, none⟩)) rfl rfl rfl rfl ?_
 refine sq.c (v := .bool false) rfl rfl (by kernel_rfl) rfl ?_
 refine sq.e ?_
 refine AWp.condF rfl rfl ?_
 refine AWp.skip (AWp.seq (AWp.rowV (l := _) pok ?_))
 refine sq.c (v := .slice none (0) (0)) rfl rfl rfl rfl ?_
 refine sq.e (AWp.seq (AWp.seq (AWp.rowV (l := _) pok ?_)))
 refine sq.c (v := .pointer (some ⟨b, 0, none⟩)) rfl rfl rfl rfl ?_
 refine sq.c (v := .pointer (some ⟨b, 0, none⟩)) rfl rfl rfl rfl ?_
 refine sq.c (v := .pointer (some ⟨b, 0, none⟩)) rfl rfl (by kernel_rfl) rfl ?_
 refine sq.c (v := .map (some f)) rfl rfl (ld1 (P := Tryd.prog) (t := 66) (p := 0) (v := .map (some f)) (by kernel_rfl) (by kernel_rfl) hb_ rfl) rfl ?_
 refine sq.k rfl (CallsF.fn rfl (by kernel_rfl) rfl rfl) (kF_spec) ?_
 rintro _ h1 n2 ⟨q_, rfl, hq_, y_q_⟩ s3 hn2 hf
 refine sq.w ?_
 have hb_ := s3.sub _ _ hb_
 have hf_ := s3.sub _ _ hf_
 have hg_ := s3.sub _ _ hg_
 have hs := hs.trans s3
 have hn := Nat.le_trans hn hn2
 refine sq.k rfl (CallsF.fn rfl (by kernel_rfl) rfl rfl) (keysF hq_ rfl hf_ okF hlen) ?_
 rintro v_p h4 n5 R_p s6 hn2 hf
 obtain ⟨a_p, c_p, rfl⟩ := R_p.slice
 refine sq.w ?_
 have hb_ := s6.sub _ _ hb_
 have hf_ := s6.sub _ _ hf_
 have hg_ := s6.sub _ _ hg_
 have hq_ := s6.sub _ _ hq_
 have hs := hs.trans s6
 have hn := Nat.le_trans hn hn2
 refine sq.c (v := .int .i64 ((((keysP F).length : Nat) : Int))) rfl rfl (by kernel_rfl) rfl ?_
 refine sq.c (v := .int .i64 (0)) rfl rfl rfl rfl ?_
 refine sq.e (AWp.block ?_)
 refine AWp.loopV (fun d vs h8 n9 => ∃ (i : Int) (os : List Fen) (a_o : Option Addr) (cp_o : Nat), d = (((keysP F).length : Nat) - i + 1).toNat ∧ SubBut h h8 ([]) ∧ n ≤ n9 ∧ Free h8 n9 ∧ h8.get b = some (.cells [.map (some f), .map (some g)] true c) ∧ h8.get f = some (.map (mapE plV intV F) kf) ∧ h8.get g = some (.map (mapE plV ownV G) kg) ∧ h8.get q_ = some (.cells [.map (some f)] true ⟨66, 0, true⟩) ∧ FRow encPlE h8 (.slice a_p (keysP F).length c_p) (keysP F) ∧ OwnRow encFen 56 h h8 (.slice a_o (os).length cp_o) (os) ∧ (∀ c ∈ blkOf (.slice a_o (os).length cp_o), c ≠ b) ∧ (∀ c ∈ blkOf (.slice a_o (os).length cp_o), c ≠ f) ∧ (∀ c ∈ blkOf (.slice a_o (os).length cp_o), c ≠ g) ∧ (∀ c ∈ blkOf (.slice a_o (os).length cp_o), c ≠ q_) ∧ (0 ≤ i) ∧ (i ≤ ((keysP F).length : Nat)) ∧ (os = ((keysP F).take i.toNat).map (fenAt F)) ∧ ∃ y7 : Nat → Value, vs = [.pointer (some ⟨b, 0, none⟩), undef, .slice none (0) (0), .slice a_o (os.length) cp_o, undef, (y7 5), .pointer (some ⟨b, 0, none⟩), .bool false, .pointer (some ⟨b, 0, none⟩), .pointer (some ⟨b, 0, none⟩), .pointer (some ⟨b, 0, none⟩), .map (some f), .func (.func 47) #[] #[.pointer (some ⟨q_, 0, none⟩)], .slice a_p (keysP F).length c_p, .int .i64 ((((keysP F).length : Nat) : Int)), .int .i64 (i), (y7 16), (y7 17), (y7 18), (y7 19), (y7 20), (y7 21), (y7 22), (y7 23), (y7 24), (y7 25), (y7 26), (y7 27), (y7 28), (y7 29), (y7 30), (y7 31), (y7 32), (y7 33), undef]) ((((keysP F).length : Nat) - (0 : Int) + 1).toNat) ⟨0, [], none, 0, rfl, hs, hn, hf, hb_, hf_, hg_, hq_, R_p, OwnRow.nil, (by simp [blkOf]), (by simp [blkOf]), (by simp [blkOf]), (by simp [blkOf]), (by omega), (by omega), (rfl), getV [undef, undef, undef, undef, undef, undef, undef, undef, undef, undef, undef, undef, undef, undef, undef, undef, undef, undef, undef, undef, undef, undef, undef, undef, undef, undef, undef, undef, undef, undef, undef, undef, undef, undef], rfl⟩ ?_
 rintro d vs h8 n9 ⟨i, os, a_o, cp_o, rfl, hs, hn, hf, hb_, hf_, hg_, hq_, R_p, R_o, d_o_b, d_o_f, d_o_g, d_o_q_, hi0, hi1, hos, y7, rfl⟩
 have hol : os.length = i.toNat := by rw [hos, List.length_map, List.length_take]; omega
 refine AWp.seq (AWp.rowV (l := _) pok ?_)
 refine sq.c (v := .bool (decide (i < ((((keysP F).length : Nat) : Int))))) rfl rfl rfl rfl ?_
 refine sq.e (AWp.seq ?_)
 by_cases c5_0 : i < ((((keysP F).length : Nat) : Int))
 ·rw [decide_eq_true c5_0]
  refine AWp.condT rfl rfl ?_
  refine AWp.skip (AWp.seq (AWp.block (AWp.seq (AWp.rowV (l := _) pok ?_))))
  have i16 : (0 : Int) ≤ (i : Int) := by omega
  obtain ⟨x17, hx_x17⟩ : ∃ x, (keysP F)[((i : Int)).toNat]? = some x := ⟨_, List.getElem?_eq_getElem (by omega)⟩
  obtain ⟨b10, o11, cs_b10, ow_b10, ci_b10, ie15, hb12, hc13, hr14⟩ := IsRow.at (P := Tryd.prog) (t := 70) (e := 73) (k := .i64) (by kernel_rfl) (by kernel_rfl) R_p.is i16 hx_x17
  refine sq.c (v := .pointer (some ⟨b10, o11, none⟩)) rfl rfl ie15 rfl ?_
  refine sq.c (v := .agg #[.string (x17.1), .string (x17.2)]) rfl rfl (ldR (P := Tryd.prog) (t := 73) (k := 2) (xs := [.string (x17.1), .string (x17.2)]) (by kernel_rfl) (by kernel_rfl) hr14) rfl ?_
  have e_b_n9 : b ≠ n9 := hf.ne hb_
  have e_f_n9 : f ≠ n9 := hf.ne hf_
  have e_g_n9 : g ≠ n9 := hf.ne hg_
  have e_q__n9 : q_ ≠ n9 := hf.ne hq_
  have d_o_n9 : ∀ c ∈ blkOf (.slice a_o (os).length cp_o), c ≠ n9 := fun c hc e => R_o.ne' (hf _ (Nat.le_refl _)) c hc (List.mem_singleton.2 e)
  have z_n9 : h.get n9 = none := hf0 _ hn
  refine sq.op rfl rfl (Does.alloc (cs := [.string (⟨#[]⟩), .string (⟨#[]⟩)]) hf (z := .agg #[.string (⟨#[]⟩), .string (⟨#[]⟩)]) (by kernel_rfl) rfl) ?_
  rintro _ h19 n20 ⟨rfl, hb18⟩ s21 hn2 hf
  refine sq.w ?_
  have R_p := R_p.keep (.of0 s21)
  have R_o := R_o.keep s21
  have hb_ := s21.sub _ _ hb_
  have hf_ := s21.sub _ _ hf_
  have hg_ := s21.sub _ _ hg_
  have hq_ := s21.sub _ _ hq_
  have hs := hs.trans s21
  have hn := Nat.le_trans hn hn2
  refine sq.op rfl rfl (Does.store (k := 2) (xs := [.string (x17.1), .string (x17.2)]) (cs' := [.string (x17.1), .string (x17.2)]) hf (by kernel_rfl) rfl rfl rfl hb18 rfl rfl (Nat.le_of_ble_eq_true rfl) rfl) ?_
  rintro _ h23 n24 ⟨rfl, hb22⟩ s25 hn2 hf
  refine sq.w0 ?_
  have R_p := R_p.keep (.own s25 hb18 rfl)
  have R_o := R_o.but s25 (fun c hc hm => d_o_n9 c hc (List.mem_singleton.1 hm))
  have hb_ := s25.get1 (e_b_n9) hb_
  have hf_ := s25.get1 (e_f_n9) hf_
  have hg_ := s25.get1 (e_g_n9) hg_
  have hq_ := s25.get1 (e_q__n9) hq_
  have hs := hs.fresh z_n9 s25
  have hn := Nat.le_trans hn hn2
  refine sq.e ?_
  refine AWp.anyK pok [0, 1, 2, 3, 4, 5, 6, 7, 8, 9, 10, 11, 12, 13, 14] (by kernel_rfl) (by kernel_rfl) rfl (fun x fr fr' h n hd _ q => ⟨hd ▸ q.1, q.2⟩) ?_
  refine dk.c (v := .slice a_o (os.length) cp_o) rfl (by kernel_rfl) rfl rfl rfl rfl ?_
  refine dk.c (v := .pointer (some ⟨n9, 0, none⟩)) rfl (by kernel_rfl) rfl rfl (by kernel_rfl) rfl ?_
  refine dk.gB (v := .string (x17.1)) n9 rfl (by kernel_rfl) rfl rfl (fun _ q_ => (ld1 (P := Tryd.prog) (t := 9) (p := 0) (v := .string (x17.1)) (by kernel_rfl) (by kernel_rfl) (q_ _ hb22) rfl)) rfl ?_
  refine dk.c (v := .pointer (some ⟨n9, 1, none⟩)) rfl (by kernel_rfl) rfl rfl (by kernel_rfl) rfl ?_
  refine dk.gB (v := .string (x17.2)) n9 rfl (by kernel_rfl) rfl rfl (fun _ q_ => (ld1 (P := Tryd.prog) (t := 9) (p := 1) (v := .string (x17.2)) (by kernel_rfl) (by kernel_rfl) (q_ _ hb22) rfl)) rfl ?_
  refine dk.c (v := .pointer (some ⟨b, 0, none⟩)) rfl (by kernel_rfl) rfl rfl rfl rfl ?_
  refine dk.c (v := .pointer (some ⟨b, 0, none⟩)) rfl (by kernel_rfl) rfl rfl rfl rfl ?_
  refine dk.c (v := .pointer (some ⟨b, 0, none⟩)) rfl (by kernel_rfl) rfl rfl (by kernel_rfl) rfl ?_
  refine dk.gB (v := .map (some f)) b rfl (by kernel_rfl) rfl rfl (fun _ q_ => (ld1 (P := Tryd.prog) (t := 66) (p := 0) (v := .map (some f)) (by kernel_rfl) (by kernel_rfl) (q_ _ hb_) rfl)) rfl ?_
  refine dk.gB (v := .agg #[.string (x17.1), .string (x17.2)]) n9 rfl (by kernel_rfl) rfl rfl (fun _ q_ => (ldA (P := Tryd.prog) (t := 73) (p := 0) (k := 2) (xs := [.string (x17.1), .string (x17.2)]) (by kernel_rfl) (by kernel_rfl) (q_ _ hb22) rfl (Nat.le_of_ble_eq_true rfl))) rfl ?_
  refine dk.gB (v := .int .i64 (((mget F (x17.1, x17.2)).getD 0))) f rfl (by kernel_rfl) rfl rfl (fun _ q_ => (lk (P := Tryd.prog) (K := plV) (V := intV) (kt := 73) (el := 2) (t := 66) (k := (x17.1, x17.2)) (d := (0 : Int)) Tryd.underlying66 keyPl (by kernel_rfl) rfl (q_ _ hf_))) rfl ?_
  refine dk.c (v := .agg #[.string (x17.1), .string (x17.2), .int .i64 (((mget F (x17.1, x17.2)).getD 0))]) rfl (by kernel_rfl) rfl rfl (by kernel_rfl) rfl ?_
  have d_o_n24 : ∀ c ∈ blkOf (.slice a_o (os).length cp_o), c ≠ n24 := fun c hc e => R_o.ne' (hf _ (Nat.le_refl _)) c hc (List.mem_singleton.2 e)
  refine dk.op rfl (by kernel_rfl) rfl rfl (Does.build (e := 56) (cs := [.string (x17.1), .string (x17.2), .int .i64 (((mget F (x17.1, x17.2)).getD 0))]) hf (fun _ _ => by kernel_rfl)) (keepC (by simp) (keepC (by simp) (keepC (by simp) (keepC (by simp) (keepC (by simp) keepN))))) ?_
  rintro _ h27 n28 ⟨rfl, hb26⟩ s29 hn2 hf
  refine dk.w ?_
  have R_p := R_p.keep (.of0 s29)
  have R_o := R_o.keep s29
  have hb_ := s29.sub _ _ hb_
  have hf_ := s29.sub _ _ hf_
  have hg_ := s29.sub _ _ hg_
  have hq_ := s29.sub _ _ hq_
  have hb22 := s29.sub _ _ hb22
  have hs := hs.trans s29
  have hn := Nat.le_trans hn hn2
  have hz0 : h.get n28 = none := hf0 _ hn
  have hfo := hf
  have hFo := R_o.ours
  refine dk.op rfl (by kernel_rfl) rfl rfl (Does.append (E := encFen) (xs := os) (ys := [(x17.1, x17.2, ((mget F (x17.1, x17.2)).getD 0))]) appFen ⟨.slice 56, by kernel_rfl, fun _ q => by cases q⟩ hf hs R_o (IsRow.of (E := encFen) (xs := [(x17.1, x17.2, ((mget F (x17.1, x17.2)).getD 0))]) (cap := 1) hb26 (Nat.le_refl _)) rfl rfl (by have := keysP_len F; simp only [List.length_cons, List.length_nil]; omega) (by have := keysP_len F; simp only [List.length_cons, List.length_nil]; omega) hz0) (keepC (fun hm => d_o_f _ hm rfl) (keepC (fun hm => d_o_n9 _ hm rfl) (keepC (fun hm => d_o_b _ hm rfl) (keepC (fun hm => d_o_n9 _ hm rfl) (keepC (fun hm => d_o_n9 _ hm rfl) keepN))))) ?_
  rintro v33 h30 n31 ⟨R_o, hs, hB34⟩ s32 hn2 hf
  refine dk.w ?_
  have dn_o_b : ∀ c ∈ blkOf v33, c ≠ b := fun c hc => (hB34 c hc).elim (fun q => d_o_b c q) (fun q => by rw [q]; exact (hfo.ne hb_).symm)
  have dn_o_f : ∀ c ∈ blkOf v33, c ≠ f := fun c hc => (hB34 c hc).elim (fun q => d_o_f c q) (fun q => by rw [q]; exact (hfo.ne hf_).symm)
  have dn_o_g : ∀ c ∈ blkOf v33, c ≠ g := fun c hc => (hB34 c hc).elim (fun q => d_o_g c q) (fun q => by rw [q]; exact (hfo.ne hg_).symm)
  have dn_o_q_ : ∀ c ∈ blkOf v33, c ≠ q_ := fun c hc => (hB34 c hc).elim (fun q => d_o_q_ c q) (fun q => by rw [q]; exact (hfo.ne hq_).symm)
  have dn_o_n9 : ∀ c ∈ blkOf v33, c ≠ n9 := fun c hc => (hB34 c hc).elim (fun q => d_o_n9 c q) (fun q => by rw [q]; exact (hfo.ne hb22).symm)
  have dn_o_n24 : ∀ c ∈ blkOf v33, c ≠ n24 := fun c hc => (hB34 c hc).elim (fun q => d_o_n24 c q) (fun q => by rw [q]; exact (hfo.ne hb26).symm)
  have ours_s32 := hFo
  have hb_ := s32 _ _ (fun hm => d_o_b _ hm rfl) hb_
  have hf_ := s32 _ _ (fun hm => d_o_f _ hm rfl) hf_
  have hg_ := s32 _ _ (fun hm => d_o_g _ hm rfl) hg_
  have hq_ := s32 _ _ (fun hm => d_o_q_ _ hm rfl) hq_
  have R_p := R_p.keep (.of s32 ours_s32)
  have hb22 := s32 _ _ (fun hm => d_o_n9 _ hm rfl) hb22
  have hb26 := s32 _ _ (fun hm => d_o_n24 _ hm rfl) hb26
  have d_o_b := dn_o_b
  have d_o_f := dn_o_f
  have d_o_g := dn_o_g
  have d_o_q_ := dn_o_q_
  have d_o_n9 := dn_o_n9
  have d_o_n24 := dn_o_n24
  obtain ⟨a35, cp36, rfl⟩ := R_o.slice
  have hn := Nat.le_trans hn hn2
  refine dk.c (v := .slice a35 (os ++ [(x17.1, x17.2, ((mget F (x17.1, x17.2)).getD 0))]).length cp36) rfl (by kernel_rfl) rfl rfl rfl rfl ?_
  refine dk.e (AWp.rowV (l := _) pok ?_)
  refine sq.c (v := .int .i64 (i + 1)) rfl rfl (okI (wrap_i64 (by omega) (by omega))) rfl ?_
  refine sq.c (v := .int .i64 (i + 1)) rfl rfl rfl rfl ?_
  refine sq.e ?_
  refine ⟨_, _, rfl, (by omega), i + 1, os ++ [fenAt F x17], a35, cp36, rfl, hs, hn, hf, hb_, hf_, hg_, hq_, R_p, R_o, d_o_b, d_o_f, d_o_g, d_o_q_, (by omega), (by omega), (by rw [take_snoc hi0 hx_x17, List.map_append, ← hos]; rfl), getV [undef, undef, undef, undef, undef, .pointer (some ⟨n9, 0, none⟩), undef, undef, undef, undef, undef, undef, undef, undef, undef, undef, .bool true, .pointer (some ⟨b10, o11, none⟩), .agg #[.string (x17.1), .string (x17.2)], .slice a_o (os.length) cp_o, .pointer (some ⟨n9, 0, none⟩), .string (x17.1), .pointer (some ⟨n9, 1, none⟩), .string (x17.2), .pointer (some ⟨b, 0, none⟩), .pointer (some ⟨b, 0, none⟩), .pointer (some ⟨b, 0, none⟩), .map (some f), .agg #[.string (x17.1), .string (x17.2)], .int .i64 (((mget F (x17.1, x17.2)).getD 0)), .agg #[.string (x17.1), .string (x17.2), .int .i64 (((mget F (x17.1, x17.2)).getD 0))], .slice (some ⟨n24, 0, none⟩) (1) (1), .slice a35 (os ++ [(x17.1, x17.2, ((mget F (x17.1, x17.2)).getD 0))]).length cp36, .int .i64 (i + 1)], rfl⟩
 ·rw [decide_eq_false c5_0]
  refine AWp.condF rfl rfl ?_
  refine AWp.exit ?_
  refine AWp.seq (AWp.rowV (l := _) pok ?_)
  refine sq.c (v := .slice a_o (os.length) cp_o) rfl rfl rfl rfl ?_
  refine sq.c (v := .slice a_o (os.length) cp_o) rfl rfl rfl rfl ?_
  refine sq.e ?_
  refine AWp.ret ?_
  refine ⟨rfl, [.slice a_o (os.length) cp_o], rfl, .slice a_o (os.length) cp_o, rfl, hs, hn, ?_⟩
  rw [show i.toNat = (keysP F).length by omega, List.take_length] at hos
  subst hos
  exact R_o
theorem allX_spec {h : Heap} {n : Nat} {b f g kf kg : Nat} {c : CI} (F : FM) (G : SM) (S : SP) (hb_ : h.get b = some (.cells [.map (some f), .map (some g)] true c)) (hf_ : h.get f = some (.map (mapE plV intV F) kf)) (hg_ : h.get g = some (.map (mapE plV ownV G) kg)) (okF : MOk F kf) (okG : MOk G kg) (hS : SMIs h G S) (ne_f_g : f ≠ g) {N : Nat} (hlen : G.length ≤ 1000000000000) (hinv : InvS N S) (hN : N < 1000000000000) :
    Makes Tryd.prog 15 [.pointer (some ⟨b, 0, none⟩)] h n ([]) (fun v h2 _ => ∃ os, OwnRow encOwn 45 h h2 v os ∧ FOwns h2 os (allV S)) := by
 refine Makes.free fun hf => ?_
 have ne_b_f : b ≠ f := by intro e; subst e; rw [hb_] at hf_; cases hf_
 have ne_b_g : b ≠ g := by intro e; subst e; rw [hb_] at hg_; cases hg_
 have hkl := keysP_len G
 have hs : SubBut h h ([]) := .refl _ _
 have hn : n ≤ n := Nat.le_refl _
 have hf0 := hf
 refine Makes.of_bodyV (args := [.pointer (some ⟨b, 0, none⟩)]) (vs := [.pointer (some ⟨b, 0, none⟩), undef, undef, undef, undef, undef, undef, undef, undef, undef, undef, undef, undef, undef, undef, undef, undef, undef, undef, undef, undef, undef, undef, undef, undef, undef, undef, undef, undef, undef, undef, undef, undef, undef, undef, undef, undef, undef, undef, undef, undef]) Tryd.func15 rfl rfl ?_
 refine AWp.seq (AWp.rowV (l := _) pok ?_)
 refine sq.c (v := .slice none (0) (0)) rfl rfl rfl rfl ?_
 refine sq.e (AWp.seq (AWp.seq (AWp.rowV (l := _) pok ?_)))
 refine sq.c (v := .pointer (some ⟨b, 0, none⟩)) rfl rfl rfl rfl ?_
 refine sq.c (v := .bool false) rfl rfl (by kernel_rfl) rfl ?_
 refine sq.e ?_
 refine AWp.condF rfl rfl ?_
 refine AWp.skip (AWp.seq (AWp.rowV (l := _) pok ?_))
 refine sq.c (v := .slice none (0) (0)) rfl rfl rfl rfl ?_
 refine sq.e (AWp.seq (AWp.seq (AWp.rowV (l := _) pok ?_)))
 refine sq.c (v := .pointer (some ⟨b, 0, none⟩)) rfl rfl rfl rfl ?_
 refine sq.c (v := .pointer (some ⟨b, 0, none⟩)) rfl rfl rfl rfl ?_
 refine sq.c (v := .pointer (some ⟨b, 1, none⟩)) rfl rfl (by kernel_rfl) rfl ?_
 refine sq.c (v := .map (some g)) rfl rfl (ld1 (P := Tryd.prog) (t := 67) (p := 1) (v := .map (some g)) (by kernel_rfl) (by kernel_rfl) hb_ rfl) rfl ?_
 refine sq.k rfl (CallsF.fn rfl (by kernel_rfl) rfl rfl) (kG_spec) ?_
 rintro _ h1 n2 ⟨q_, rfl, hq_, y_q_⟩ s3 hn2 hf
 refine sq.w ?_
 have hS := hS.keep (.of0 s3)
 have hb_ := s3.sub _ _ hb_
 have hf_ := s3.sub _ _ hf_
 have hg_ := s3.sub _ _ hg_
 have hs := hs.trans s3
 have hn := Nat.le_trans hn hn2
 refine sq.k rfl (CallsF.fn rfl (by kernel_rfl) rfl rfl) (keysG hq_ rfl hg_ okG hlen) ?_
 rintro v_p h4 n5 R_p s6 hn2 hf
 obtain ⟨a_p, c_p, rfl⟩ := R_p.slice
 refine sq.w ?_
 have hS := hS.keep (.of0 s6)
 have hb_ := s6.sub _ _ hb_
 have hf_ := s6.sub _ _ hf_
 have hg_ := s6.sub _ _ hg_
 have hq_ := s6.sub _ _ hq_
 have hs := hs.trans s6
 have hn := Nat.le_trans hn hn2
 refine sq.c (v := .int .i64 ((((keysP G).length : Nat) : Int))) rfl rfl (by kernel_rfl) rfl ?_
 refine sq.c (v := .int .i64 (0)) rfl rfl rfl rfl ?_
 refine sq.e (AWp.block ?_)
 refine AWp.loopV (fun d vs h8 n9 => ∃ (i : Int) (os : List ROwn) (ps : List POwn) (a_o : Option Addr) (cp_o : Nat), d = (((keysP G).length : Nat) - i + 1).toNat ∧ SubBut h h8 ([]) ∧ n ≤ n9 ∧ Free h8 n9 ∧ h8.get b = some (.cells [.map (some f), .map (some g)] true c) ∧ h8.get f = some (.map (mapE plV intV F) kf) ∧ h8.get g = some (.map (mapE plV ownV G) kg) ∧ SMIs h8 G S ∧ h8.get q_ = some (.cells [.map (some g)] true ⟨67, 0, true⟩) ∧ FRow encPlE h8 (.slice a_p (keysP G).length c_p) (keysP G) ∧ FOwns h8 os ps ∧ OwnRow encOwn 45 h h8 (.slice a_o (os).length cp_o) (os) ∧ (∀ c ∈ blkOf (.slice a_o (os).length cp_o), c ≠ b) ∧ (∀ c ∈ blkOf (.slice a_o (os).length cp_o), c ≠ f) ∧ (∀ c ∈ blkOf (.slice a_o (os).length cp_o), c ≠ g) ∧ (∀ c ∈ blkOf (.slice a_o (os).length cp_o), c ≠ q_) ∧ (0 ≤ i) ∧ (i ≤ ((keysP G).length : Nat)) ∧ (ps = ((keysP G).take i.toNat).map (ownAt S)) ∧ (os.length = ps.length) ∧ ∃ y7 : Nat → Value, vs = [.pointer (some ⟨b, 0, none⟩), undef, .slice none (0) (0), .slice a_o (os.length) cp_o, undef, (y7 5), (y7 6), .pointer (some ⟨b, 0, none⟩), .bool false, .pointer (some ⟨b, 0, none⟩), .pointer (some ⟨b, 0, none⟩), .pointer (some ⟨b, 1, none⟩), .map (some g), .func (.func 59) #[] #[.pointer (some ⟨q_, 0, none⟩)], .slice a_p (keysP G).length c_p, .int .i64 ((((keysP G).length : Nat) : Int)), .int .i64 (i), (y7 17), (y7 18), (y7 19), (y7 20), (y7 21), (y7 22), (y7 23), (y7 24), (y7 25), (y7 26), (y7 27), (y7 28), (y7 29), (y7 30), (y7 31), (y7 32), (y7 33), (y7 34), (y7 35), (y7 36), (y7 37), (y7 38), (y7 39), undef]) ((((keysP G).length : Nat) - (0 : Int) + 1).toNat) ⟨0, [], [], none, 0, rfl, hs, hn, hf, hb_, hf_, hg_, hS, hq_, R_p, (FOwns.nil _), OwnRow.nil, (by simp [blkOf]), (by simp [blkOf]), (by simp [blkOf]), (by simp [blkOf]), (by omega), (by omega), (rfl), (rfl), getV [undef, undef, undef, undef, undef, undef, undef, undef, undef, undef, undef, undef, undef, undef, undef, undef, undef, undef, undef, undef, undef, undef, undef, undef, undef, undef, undef, undef, undef, undef, undef, undef, undef, undef, undef, undef, undef, undef, undef, undef], rfl⟩ ?_
 rintro d vs h8 n9 ⟨i, os, ps, a_o, cp_o, rfl, hs, hn, hf, hb_, hf_, hg_, hS, hq_, R_p, D, R_o, d_o_b, d_o_f, d_o_g, d_o_q_, hi0, hi1, hos, hop, y7, rfl⟩
 have hol : ps.length = i.toNat := by rw [hos, List.length_map, List.length_take]; omega
 refine AWp.seq (AWp.rowV (l := _) pok ?_)
 refine sq.c (v := .bool (decide (i < ((((keysP G).length : Nat) : Int))))) rfl rfl rfl rfl ?_
 refine sq.e (AWp.seq ?_)
 by_cases c5_0 : i < ((((keysP G).length : Nat) : Int))
 ·rw [decide_eq_true c5_0]
  refine AWp.condT rfl rfl ?_
  refine AWp.skip (AWp.seq (AWp.block (AWp.seq (AWp.rowV (l := _) pok ?_))))
  have i16 : (0 : Int) ≤ (i : Int) := by omega
  obtain ⟨x17, hx_x17⟩ : ∃ x, (keysP G)[((i : Int)).toNat]? = some x := ⟨_, List.getElem?_eq_getElem (by omega)⟩
  obtain ⟨b10, o11, cs_b10, ow_b10, ci_b10, ie15, hb12, hc13, hr14⟩ := IsRow.at (P := Tryd.prog) (t := 70) (e := 73) (k := .i64) (by kernel_rfl) (by kernel_rfl) R_p.is i16 hx_x17
  refine sq.c (v := .pointer (some ⟨b10, o11, none⟩)) rfl rfl ie15 rfl ?_
  refine sq.c (v := .agg #[.string (x17.1), .string (x17.2)]) rfl rfl (ldR (P := Tryd.prog) (t := 73) (k := 2) (xs := [.string (x17.1), .string (x17.2)]) (by kernel_rfl) (by kernel_rfl) hr14) rfl ?_
  have e_b_n9 : b ≠ n9 := hf.ne hb_
  have e_f_n9 : f ≠ n9 := hf.ne hf_
  have e_g_n9 : g ≠ n9 := hf.ne hg_
  have e_q__n9 : q_ ≠ n9 := hf.ne hq_
  have d_o_n9 : ∀ c ∈ blkOf (.slice a_o (os).length cp_o), c ≠ n9 := fun c hc e => R_o.ne' (hf _ (Nat.le_refl _)) c hc (List.mem_singleton.2 e)
  have z_n9 : h.get n9 = none := hf0 _ hn
  refine sq.op rfl rfl (Does.alloc (cs := [.string (⟨#[]⟩), .string (⟨#[]⟩)]) hf (z := .agg #[.string (⟨#[]⟩), .string (⟨#[]⟩)]) (by kernel_rfl) rfl) ?_
  rintro _ h19 n20 ⟨rfl, hb18⟩ s21 hn2 hf
  refine sq.w ?_
  have hS := hS.keep (.of0 s21)
  have R_p := R_p.keep (.of0 s21)
  have D := D.keep (.of0 s21)
  have R_o := R_o.keep s21
  have hb_ := s21.sub _ _ hb_
  have hf_ := s21.sub _ _ hf_
  have hg_ := s21.sub _ _ hg_
  have hq_ := s21.sub _ _ hq_
  have hs := hs.trans s21
  have hn := Nat.le_trans hn hn2
  refine sq.op rfl rfl (Does.store (k := 2) (xs := [.string (x17.1), .string (x17.2)]) (cs' := [.string (x17.1), .string (x17.2)]) hf (by kernel_rfl) rfl rfl rfl hb18 rfl rfl (Nat.le_of_ble_eq_true rfl) rfl) ?_
  rintro _ h23 n24 ⟨rfl, hb22⟩ s25 hn2 hf
  refine sq.w0 ?_
  have hS := hS.keep (.own s25 hb18 rfl)
  have R_p := R_p.keep (.own s25 hb18 rfl)
  have D := D.keep (.own s25 hb18 rfl)
  have R_o := R_o.but s25 (fun c hc hm => d_o_n9 c hc (List.mem_singleton.1 hm))
  have hb_ := s25.get1 (e_b_n9) hb_
  have hf_ := s25.get1 (e_f_n9) hf_
  have hg_ := s25.get1 (e_g_n9) hg_
  have hq_ := s25.get1 (e_q__n9) hq_
  have hs := hs.fresh z_n9 s25
  have hn := Nat.le_trans hn hn2
  refine sq.e (AWp.seq ?_)
  refine AWp.anyK pok [0, 1, 2, 3, 4, 5, 6, 7] (by kernel_rfl) (by kernel_rfl) rfl (fun x fr fr' h n hd _ q => ⟨hd ▸ q.1, q.2⟩) ?_
  refine dk.c (v := .pointer (some ⟨b, 0, none⟩)) rfl (by kernel_rfl) rfl rfl rfl rfl ?_
  refine dk.c (v := .pointer (some ⟨b, 0, none⟩)) rfl (by kernel_rfl) rfl rfl rfl rfl ?_
  refine dk.c (v := .pointer (some ⟨b, 1, none⟩)) rfl (by kernel_rfl) rfl rfl (by kernel_rfl) rfl ?_
  refine dk.gB (v := .map (some g)) b rfl (by kernel_rfl) rfl rfl (fun _ q_ => (ld1 (P := Tryd.prog) (t := 67) (p := 1) (v := .map (some g)) (by kernel_rfl) (by kernel_rfl) (q_ _ hb_) rfl)) rfl ?_
  refine dk.gB (v := .agg #[.string (x17.1), .string (x17.2)]) n9 rfl (by kernel_rfl) rfl rfl (fun _ q_ => (ldA (P := Tryd.prog) (t := 73) (p := 0) (k := 2) (xs := [.string (x17.1), .string (x17.2)]) (by kernel_rfl) (by kernel_rfl) (q_ _ hb22) rfl (Nat.le_of_ble_eq_true rfl))) rfl ?_
  obtain ⟨a1_g7_5, c1_g7_5, a2_g7_5, c2_g7_5, e_g7_5, L_g7_5, M_g7_5⟩ := hS.look (x17.1, x17.2)
  refine dk.gB (v := .agg #[.slice a1_g7_5 ((mget S (x17.1, x17.2)).getD ([], [])).1.length c1_g7_5, .slice a2_g7_5 ((mget S (x17.1, x17.2)).getD ([], [])).2.length c2_g7_5]) g rfl (by kernel_rfl) rfl rfl (fun _ q_ => ((lk (P := Tryd.prog) (K := plV) (V := ownV) (kt := 73) (el := 86) (t := 67) (k := (x17.1, x17.2)) (d := dOV) Tryd.underlying67 keyPl (by kernel_rfl) rfl (q_ _ hg_)).trans (congrArg (fun z => some (ownV z)) e_g7_5))) rfl ?_
  have e_b_n24 : b ≠ n24 := hf.ne hb_
  have e_f_n24 : f ≠ n24 := hf.ne hf_
  have e_g_n24 : g ≠ n24 := hf.ne hg_
  have e_q__n24 : q_ ≠ n24 := hf.ne hq_
  have e_n9_n24 : n9 ≠ n24 := hf.ne hb22
  have d_o_n24 : ∀ c ∈ blkOf (.slice a_o (os).length cp_o), c ≠ n24 := fun c hc e => R_o.ne' (hf _ (Nat.le_refl _)) c hc (List.mem_singleton.2 e)
  have z_n24 : h.get n24 = none := hf0 _ hn
  refine dk.op rfl (by kernel_rfl) rfl rfl (Does.alloc (cs := [.slice none (0) (0), .slice none (0) (0)]) hf (z := .agg #[.slice none (0) (0), .slice none (0) (0)]) (by kernel_rfl) rfl) (keepC (by simp) (keepC (by simp) (keepC (by simp) keepN))) ?_
  rintro _ h27 n28 ⟨rfl, hb26⟩ s29 hn2 hf
  refine dk.w ?_
  have hS := hS.keep (.of0 s29)
  have R_p := R_p.keep (.of0 s29)
  have D := D.keep (.of0 s29)
  have R_o := R_o.keep s29
  have L_g7_5 := L_g7_5.keep (.of0 s29)
  have M_g7_5 := M_g7_5.keep (.of0 s29)
  have hb_ := s29.sub _ _ hb_
  have hf_ := s29.sub _ _ hf_
  have hg_ := s29.sub _ _ hg_
  have hq_ := s29.sub _ _ hq_
  have hb22 := s29.sub _ _ hb22
  have hs := hs.trans s29
  have hn := Nat.le_trans hn hn2
  refine dk.op rfl (by kernel_rfl) rfl rfl (Does.store (k := 2) (xs := [.slice a1_g7_5 ((mget S (x17.1, x17.2)).getD ([], [])).1.length c1_g7_5, .slice a2_g7_5 ((mget S (x17.1, x17.2)).getD ([], [])).2.length c2_g7_5]) (cs' := [.slice a1_g7_5 ((mget S (x17.1, x17.2)).getD ([], [])).1.length c1_g7_5, .slice a2_g7_5 ((mget S (x17.1, x17.2)).getD ([], [])).2.length c2_g7_5]) hf (by kernel_rfl) rfl rfl rfl hb26 rfl rfl (Nat.le_of_ble_eq_true rfl) rfl) (keepC (fun hm => e_g_n24 (List.mem_singleton.1 hm)) (keepC (fun hm => e_n9_n24 (List.mem_singleton.1 hm)) (keepC (fun hm => e_b_n24 (List.mem_singleton.1 hm)) keepN))) ?_
  rintro _ h31 n32 ⟨rfl, hb30⟩ s33 hn2 hf
  refine dk.w0 ?_
  have hS := hS.keep (.own s33 hb26 rfl)
  have R_p := R_p.keep (.own s33 hb26 rfl)
  have D := D.keep (.own s33 hb26 rfl)
  have R_o := R_o.but s33 (fun c hc hm => d_o_n24 c hc (List.mem_singleton.1 hm))
  have L_g7_5 := L_g7_5.keep (.own s33 hb26 rfl)
  have M_g7_5 := M_g7_5.keep (.own s33 hb26 rfl)
  have hb_ := s33.get1 (e_b_n24) hb_
  have hf_ := s33.get1 (e_f_n24) hf_
  have hg_ := s33.get1 (e_g_n24) hg_
  have hq_ := s33.get1 (e_q__n24) hq_
  have hb22 := s33.get1 (e_n9_n24) hb22
  have hs := hs.fresh z_n24 s33
  have hn := Nat.le_trans hn hn2
  refine dk.e ?_
  refine AWp.anyK pok [0, 1, 2, 3, 4, 6, 7, 5, 8, 9, 10, 11, 12, 13] (by kernel_rfl) (by kernel_rfl) rfl (fun x fr fr' h n hd _ q => ⟨hd ▸ q.1, q.2⟩) ?_
  refine dk.c (v := .slice a_o (os.length) cp_o) rfl (by kernel_rfl) rfl rfl rfl rfl ?_
  refine dk.c (v := .pointer (some ⟨n9, 0, none⟩)) rfl (by kernel_rfl) rfl rfl (by kernel_rfl) rfl ?_
  refine dk.gB (v := .string (x17.1)) n9 rfl (by kernel_rfl) rfl rfl (fun _ q_ => (ld1 (P := Tryd.prog) (t := 9) (p := 0) (v := .string (x17.1)) (by kernel_rfl) (by kernel_rfl) (q_ _ hb22) rfl)) rfl ?_
  refine dk.c (v := .pointer (some ⟨n24, 0, none⟩)) rfl (by kernel_rfl) rfl rfl (by kernel_rfl) rfl ?_
  refine dk.gB (v := .slice a1_g7_5 ((mget S (x17.1, x17.2)).getD ([], [])).1.length c1_g7_5) n24 rfl (by kernel_rfl) rfl rfl (fun _ q_ => (ld1 (P := Tryd.prog) (t := 40) (p := 0) (v := .slice a1_g7_5 ((mget S (x17.1, x17.2)).getD ([], [])).1.length c1_g7_5) (by kernel_rfl) (by kernel_rfl) (q_ _ hb30) rfl)) rfl ?_
  refine dk.c (v := .pointer (some ⟨n24, 1, none⟩)) rfl (by kernel_rfl) rfl rfl (by kernel_rfl) rfl ?_
  refine dk.gB (v := .slice a2_g7_5 ((mget S (x17.1, x17.2)).getD ([], [])).2.length c2_g7_5) n24 rfl (by kernel_rfl) rfl rfl (fun _ q_ => (ld1 (P := Tryd.prog) (t := 41) (p := 1) (v := .slice a2_g7_5 ((mget S (x17.1, x17.2)).getD ([], [])).2.length c2_g7_5) (by kernel_rfl) (by kernel_rfl) (q_ _ hb30) rfl)) rfl ?_
  refine dk.k rfl (by kernel_rfl) rfl (CallsF.fn rfl (by kernel_rfl) rfl rfl) (cloneLFz _ L_g7_5.is (by have := (hinv.was2 (x17.1, x17.2)); omega)) (keepC (by simp) (keepC (by simp) (keepC (by simp) keepN))) ?_
  rintro v_q33 h34 n35 R_q33 s36 hn2 hf
  obtain ⟨a_q33, c_q33, rfl⟩ := R_q33.slice
  refine dk.w ?_
  have hS := hS.keep (.of0 s36)
  have R_p := R_p.keep (.of0 s36)
  have D := D.keep (.of0 s36)
  have R_o := R_o.keep s36
  have M_g7_5 := M_g7_5.keep (.of0 s36)
  have hb_ := s36.sub _ _ hb_
  have hf_ := s36.sub _ _ hf_
  have hg_ := s36.sub _ _ hg_
  have hq_ := s36.sub _ _ hq_
  have hb22 := s36.sub _ _ hb22
  have hb30 := s36.sub _ _ hb30
  have hs := hs.trans s36
  have hn := Nat.le_trans hn hn2
  refine dk.k rfl (by kernel_rfl) rfl (CallsF.fn rfl (by kernel_rfl) rfl rfl) (cloneSFz _ M_g7_5.is (by have := (hinv.was (x17.1, x17.2)).2; unfold wasOf at this; omega)) (keepC (by simp) (keepC (by simp) (keepC (by simp) keepN))) ?_
  rintro v_q36 h37 n38 R_q36 s39 hn2 hf
  obtain ⟨a_q36, c_q36, rfl⟩ := R_q36.slice
  refine dk.w ?_
  have hS := hS.keep (.of0 s39)
  have R_p := R_p.keep (.of0 s39)
  have D := D.keep (.of0 s39)
  have R_o := R_o.keep s39
  have R_q33 := R_q33.keep (.of0 s39)
  have hb_ := s39.sub _ _ hb_
  have hf_ := s39.sub _ _ hf_
  have hg_ := s39.sub _ _ hg_
  have hq_ := s39.sub _ _ hq_
  have hb22 := s39.sub _ _ hb22
  have hb30 := s39.sub _ _ hb30
  have hs := hs.trans s39
  have hn := Nat.le_trans hn hn2
  refine dk.c (v := .agg #[.slice a_q33 (((mget S (x17.1, x17.2)).getD ([], [])).1).length c_q33, .slice a_q36 (((mget S (x17.1, x17.2)).getD ([], [])).2).length c_q36]) rfl (by kernel_rfl) rfl rfl (by kernel_rfl) rfl ?_
  refine dk.c (v := .agg #[.string (x17.1), .slice a_q33 (((mget S (x17.1, x17.2)).getD ([], [])).1).length c_q33, .slice a_q36 (((mget S (x17.1, x17.2)).getD ([], [])).2).length c_q36]) rfl (by kernel_rfl) rfl rfl (by kernel_rfl) rfl ?_
  have d_o_n38 : ∀ c ∈ blkOf (.slice a_o (os).length cp_o), c ≠ n38 := fun c hc e => R_o.ne' (hf _ (Nat.le_refl _)) c hc (List.mem_singleton.2 e)
  refine dk.op rfl (by kernel_rfl) rfl rfl (Does.build (e := 45) (cs := [.string (x17.1), .slice a_q33 (((mget S (x17.1, x17.2)).getD ([], [])).1).length c_q33, .slice a_q36 (((mget S (x17.1, x17.2)).getD ([], [])).2).length c_q36]) hf (fun _ _ => by kernel_rfl)) (keepC (by simp) (keepC (by simp) (keepC (by simp) keepN))) ?_
  rintro _ h41 n42 ⟨rfl, hb40⟩ s43 hn2 hf
  refine dk.w ?_
  have hS := hS.keep (.of0 s43)
  have R_p := R_p.keep (.of0 s43)
  have D := D.keep (.of0 s43)
  have R_o := R_o.keep s43
  have R_q33 := R_q33.keep (.of0 s43)
  have R_q36 := R_q36.keep (.of0 s43)
  have hb_ := s43.sub _ _ hb_
  have hf_ := s43.sub _ _ hf_
  have hg_ := s43.sub _ _ hg_
  have hq_ := s43.sub _ _ hq_
  have hb22 := s43.sub _ _ hb22
  have hb30 := s43.sub _ _ hb30
  have hs := hs.trans s43
  have hn := Nat.le_trans hn hn2
  have hz0 : h.get n42 = none := hf0 _ hn
  have hfo := hf
  have hFo := R_o.ours
  refine dk.op rfl (by kernel_rfl) rfl rfl (Does.append (E := encOwn) (xs := os) (ys := [(x17.1, (a_q33, (((mget S (x17.1, x17.2)).getD ([], [])).1).length, c_q33), (a_q36, (((mget S (x17.1, x17.2)).getD ([], [])).2).length, c_q36))]) appOwn ⟨.slice 45, by kernel_rfl, fun _ q => by cases q⟩ hf hs R_o (IsRow.of (E := encOwn) (xs := [(x17.1, (a_q33, (((mget S (x17.1, x17.2)).getD ([], [])).1).length, c_q33), (a_q36, (((mget S (x17.1, x17.2)).getD ([], [])).2).length, c_q36))]) (cap := 1) hb40 (Nat.le_refl _)) rfl rfl (by have := keysP_len G; simp only [List.length_cons, List.length_nil]; omega) (by have := keysP_len G; simp only [List.length_cons, List.length_nil]; omega) hz0) (keepC (fun hm => d_o_n24 _ hm rfl) (keepC (fun hm => d_o_n24 _ hm rfl) (keepC (fun hm => d_o_n9 _ hm rfl) keepN))) ?_
  rintro v47 h44 n45 ⟨R_o, hs, hB48⟩ s46 hn2 hf
  refine dk.w ?_
  have dn_o_b : ∀ c ∈ blkOf v47, c ≠ b := fun c hc => (hB48 c hc).elim (fun q => d_o_b c q) (fun q => by rw [q]; exact (hfo.ne hb_).symm)
  have dn_o_f : ∀ c ∈ blkOf v47, c ≠ f := fun c hc => (hB48 c hc).elim (fun q => d_o_f c q) (fun q => by rw [q]; exact (hfo.ne hf_).symm)
  have dn_o_g : ∀ c ∈ blkOf v47, c ≠ g := fun c hc => (hB48 c hc).elim (fun q => d_o_g c q) (fun q => by rw [q]; exact (hfo.ne hg_).symm)
  have dn_o_q_ : ∀ c ∈ blkOf v47, c ≠ q_ := fun c hc => (hB48 c hc).elim (fun q => d_o_q_ c q) (fun q => by rw [q]; exact (hfo.ne hq_).symm)
  have dn_o_n9 : ∀ c ∈ blkOf v47, c ≠ n9 := fun c hc => (hB48 c hc).elim (fun q => d_o_n9 c q) (fun q => by rw [q]; exact (hfo.ne hb22).symm)
  have dn_o_n24 : ∀ c ∈ blkOf v47, c ≠ n24 := fun c hc => (hB48 c hc).elim (fun q => d_o_n24 c q) (fun q => by rw [q]; exact (hfo.ne hb30).symm)
  have dn_o_n38 : ∀ c ∈ blkOf v47, c ≠ n38 := fun c hc => (hB48 c hc).elim (fun q => d_o_n38 c q) (fun q => by rw [q]; exact (hfo.ne hb40).symm)
  have ours_s46 := hFo
  have hb_ := s46 _ _ (fun hm => d_o_b _ hm rfl) hb_
  have hf_ := s46 _ _ (fun hm => d_o_f _ hm rfl) hf_
  have hg_ := s46 _ _ (fun hm => d_o_g _ hm rfl) hg_
  have hS := hS.keep (.of s46 ours_s46)
  have hq_ := s46 _ _ (fun hm => d_o_q_ _ hm rfl) hq_
  have R_p := R_p.keep (.of s46 ours_s46)
  have D := D.keep (.of s46 ours_s46)
  have hb22 := s46 _ _ (fun hm => d_o_n9 _ hm rfl) hb22
  have hb30 := s46 _ _ (fun hm => d_o_n24 _ hm rfl) hb30
  have R_q33 := R_q33.keep (.of s46 ours_s46)
  have R_q36 := R_q36.keep (.of s46 ours_s46)
  have hb40 := s46 _ _ (fun hm => d_o_n38 _ hm rfl) hb40
  have d_o_b := dn_o_b
  have d_o_f := dn_o_f
  have d_o_g := dn_o_g
  have d_o_q_ := dn_o_q_
  have d_o_n9 := dn_o_n9
  have d_o_n24 := dn_o_n24
  have d_o_n38 := dn_o_n38
  obtain ⟨a49, cp50, rfl⟩ := R_o.slice
  have hn := Nat.le_trans hn hn2
  refine dk.c (v := .slice a49 (os ++ [(x17.1, (a_q33, (((mget S (x17.1, x17.2)).getD ([], [])).1).length, c_q33), (a_q36, (((mget S (x17.1, x17.2)).getD ([], [])).2).length, c_q36))]).length cp50) rfl (by kernel_rfl) rfl rfl rfl rfl ?_
  refine dk.e (AWp.rowV (l := _) pok ?_)
  refine sq.c (v := .int .i64 (i + 1)) rfl rfl (okI (wrap_i64 (by omega) (by omega))) rfl ?_
  refine sq.c (v := .int .i64 (i + 1)) rfl rfl rfl rfl ?_
  refine sq.e ?_
  have D_ : FOwns _ (os ++ [(x17.1, (a_q33, (((mget S (x17.1, x17.2)).getD ([], [])).1).length, c_q33), (a_q36, (((mget S (x17.1, x17.2)).getD ([], [])).2).length, c_q36))]) (ps ++ [ownAt S x17]) := D.snoc ⟨rfl, R_q33, R_q36⟩
  refine ⟨_, _, rfl, (by omega), i + 1, os ++ [(x17.1, (a_q33, (((mget S (x17.1, x17.2)).getD ([], [])).1).length, c_q33), (a_q36, (((mget S (x17.1, x17.2)).getD ([], [])).2).length, c_q36))], ps ++ [ownAt S x17], a49, cp50, rfl, hs, hn, hf, hb_, hf_, hg_, hS, hq_, R_p, (D_), R_o, d_o_b, d_o_f, d_o_g, d_o_q_, (by omega), (by omega), (by rw [take_snoc hi0 hx_x17, List.map_append, ← hos]; rfl), (by simp [hop]), getV [undef, undef, undef, undef, undef, .pointer (some ⟨n9, 0, none⟩), .pointer (some ⟨n24, 0, none⟩), undef, undef, undef, undef, undef, undef, undef, undef, undef, undef, .bool true, .pointer (some ⟨b10, o11, none⟩), .agg #[.string (x17.1), .string (x17.2)], .pointer (some ⟨b, 0, none⟩), .pointer (some ⟨b, 0, none⟩), .pointer (some ⟨b, 1, none⟩), .map (some g), .agg #[.string (x17.1), .string (x17.2)], .agg #[.slice a1_g7_5 ((mget S (x17.1, x17.2)).getD ([], [])).1.length c1_g7_5, .slice a2_g7_5 ((mget S (x17.1, x17.2)).getD ([], [])).2.length c2_g7_5], .slice a_o (os.length) cp_o, .pointer (some ⟨n9, 0, none⟩), .string (x17.1), .pointer (some ⟨n24, 0, none⟩), .slice a1_g7_5 ((mget S (x17.1, x17.2)).getD ([], [])).1.length c1_g7_5, .slice a_q33 (((mget S (x17.1, x17.2)).getD ([], [])).1).length c_q33, .pointer (some ⟨n24, 1, none⟩), .slice a2_g7_5 ((mget S (x17.1, x17.2)).getD ([], [])).2.length c2_g7_5, .slice a_q36 (((mget S (x17.1, x17.2)).getD ([], [])).2).length c_q36, .agg #[.slice a_q33 (((mget S (x17.1, x17.2)).getD ([], [])).1).length c_q33, .slice a_q36 (((mget S (x17.1, x17.2)).getD ([], [])).2).length c_q36], .agg #[.string (x17.1), .slice a_q33 (((mget S (x17.1, x17.2)).getD ([], [])).1).length c_q33, .slice a_q36 (((mget S (x17.1, x17.2)).getD ([], [])).2).length c_q36], .slice (some ⟨n38, 0, none⟩) (1) (1), .slice a49 (os ++ [(x17.1, (a_q33, (((mget S (x17.1, x17.2)).getD ([], [])).1).length, c_q33), (a_q36, (((mget S (x17.1, x17.2)).getD ([], [])).2).length, c_q36))]).length cp50, .int .i64 (i + 1)], rfl⟩
 ·rw [decide_eq_false c5_0]
  refine AWp.condF rfl rfl ?_
  refine AWp.exit ?_
  refine AWp.seq (AWp.rowV (l := _) pok ?_)
  refine sq.c (v := .slice a_o (os.length) cp_o) rfl rfl rfl rfl ?_
  refine sq.c (v := .slice a_o (os.length) cp_o) rfl rfl rfl rfl ?_
  refine sq.e ?_
  refine AWp.ret ?_
  refine ⟨rfl, [.slice a_o (os.length) cp_o], rfl, .slice a_o (os.length) cp_o, rfl, hs, hn, ?_⟩
  rw [show i.toNat = (keysP G).length by omega, List.take_length] at hos
  subst hos
  refine ⟨os, R_o, ?_⟩
  rw [hS.keys] at D
  exact D
end Go.Proofs.YtkpaklofdkjinaaDoor
namespace Go.Abs
open Go
structure DJ (P : Program) (ops : Array Oper) (Q : APost) (K : List (Nat × Nat)) (plan : List Nat) (vs : List Value) (h : Heap) (n : Nat) : Prop where
  run : ∀ inv : Inv, (∀ x ∈ inv, ∀ h', (∀ p ∈ K, p.1 = x.1 → ∀ o, h.get p.2 = some o → h'.get p.2 = some o) → x.2 h') → drawW P (acall P) ops Q plan inv (frameV vs) h n
def KeepJ (ops : Array Oper) (i : Nat) (K : List (Nat × Nat)) (S : List Nat) : Prop := ∀ p ∈ K, dep ops i p.1 = true ∨ p.2 ∉ S
theorem keepJN {ops : Array Oper} {i : Nat} {S : List Nat} : KeepJ ops i [] S := fun p h => by cases h
theorem keepJD {ops : Array Oper} {i j b : Nat} {K : List (Nat × Nat)} {S : List Nat} (h : dep ops i j = true) (k : KeepJ ops i K S) : KeepJ ops i ((j, b) :: K) S := fun p hp => (List.mem_cons.1 hp).elim (fun e => .inl (by rw [e]; exact h)) (k p)
theorem keepJC {ops : Array Oper} {i j b : Nat} {K : List (Nat × Nat)} {S : List Nat} (h : b ∉ S) (k : KeepJ ops i K S) : KeepJ ops i ((j, b) :: K) S := fun p hp => (List.mem_cons.1 hp).elim (fun e => .inr (by rw [e]; exact h)) (k p)
section
variable {P : Program} {Q : APost} {vs vs' : List Value} {h : Heap} {n : Nat} {ops : Array Oper} {o : Oper} {d : Nat} {K : List (Nat × Nat)} {S S' : List Nat} {i : Nat} {plan : List Nat} {R : Value → Heap → Nat → Prop} {v : Value} {f : FuncId} {xs : List Value} {l : List Oper}
theorem AWp.anyJ (ok : POk P) {id : Nat} (plan : List Nat) (hsel : Region.noSelect ops = true) (hp : planOk P ops plan (Array.replicate ops.size false) = true) (hlen : plan.length = ops.size) (hpan : PanExt [] Q)
    (q : DJ P ops Q [] plan vs h n) : AWp P (.region id ops true) Q (frameV vs) h n :=
  AWp.draw_region ok plan hsel hp hlen (S := []) (avoids_nil ops) hpan (q.run [] (by simp))
theorem dj.e (q : Q .normal (frameV vs) h n) : DJ P ops Q K [] vs h n := ⟨fun _ _ => q⟩
theorem dj.c {v : Value} (ho : l[i]? = some o) (hk : kindOf P o = 1) (hw : wantedA l.toArray o (frameV vs) = true) (hok : okOper P.globals.size o = true) (hv : calmE P o (evalV vs) h = some v) (hd : o.dst = some d) [z : SetL vs d v vs']
    (k : DJ P l.toArray Q K plan vs' h n) : DJ P l.toArray Q K (i :: plan) vs h n := by
  refine ⟨fun inv hinv => ?_⟩
  have hz : vs' = setV vs o.dst v := by rw [hd]; exact z.eq.symm
  rw [hz] at k
  simp only [drawW, at_arr ho, hk, if_neg (show ¬ (1 : Nat) = 0 by decide), hw, if_true, frameV_eval, frameV_put]
  refine ⟨hok, ?_⟩
  rw [hv]
  exact k.run inv hinv
theorem dj.gB {v : Value} (b : Nat) (ho : l[i]? = some o) (hk : (kindOf P o != 0) = true) (hw : wantedA l.toArray o (frameV vs) = true) (hok : okOper P.globals.size o = true) (hv : ∀ h', (∀ o, h.get b = some o → h'.get b = some o) → calmE P o (evalV vs) h' = some v) (hd : o.dst = some d) [z : SetL vs d v vs']
    (k : DJ P l.toArray Q ((i, b) :: K) plan vs' h n) : DJ P l.toArray Q K (i :: plan) vs h n := by
  refine ⟨fun inv hinv => ?_⟩
  have hk' : kindOf P o ≠ 0 := by simpa using hk
  have hz : vs' = setV vs o.dst v := by rw [hd]; exact z.eq.symm
  rw [hz] at k
  simp only [drawW, at_arr ho, if_neg hk', hw, if_true, frameV_eval, frameV_put]
  refine ⟨hok, ?_⟩
  rw [hv h fun _ e => e]
  simp only
  have hinv' : ∀ x ∈ inv, ∀ h', (∀ p ∈ (i, b) :: K, p.1 = x.1 → ∀ o, h.get p.2 = some o → h'.get p.2 = some o) → x.2 h' := fun x hx h' hs => hinv x hx h' fun c hc => hs c (List.mem_cons_of_mem _ hc)
  split
  · exact k.run inv hinv'
  · refine k.run _ ?_
    intro x hx h' hs
    rcases List.mem_cons.1 hx with rfl | hx
    · exact hv h' (hs (i, b) (List.mem_cons_self ..) rfl)
    · exact hinv' x hx h' hs
theorem dj.skip' (hd : setV vs o.dst undef = vs') (ho : l[i]? = some o) (hw : wantedA l.toArray o (frameV vs) = false) (k : DJ P l.toArray Q K plan vs' h n) : DJ P l.toArray Q K (i :: plan) vs h n := by
  refine ⟨fun inv hinv => ?_⟩
  subst hd
  simp only [drawW, at_arr ho]
  split
  · simp only [opW, hw, Bool.false_eq_true, if_false, frameV_put]
    refine ⟨fun x hx => hinv x (List.mem_filter.1 hx).1 h (fun _ _ _ _ e => e), k.run _ fun x hx h' hs => hinv x (List.mem_filter.1 hx).1 h' hs⟩
  · simp only [hw, Bool.false_eq_true, if_false, frameV_put]
    exact k.run inv hinv
theorem dj.s (ho : l[i]? = some o) (hw : wantedA l.toArray o (frameV vs) = false) (hd : o.dst = some d) [z : SetL vs d undef vs'] (k : DJ P l.toArray Q K plan vs' h n) : DJ P l.toArray Q K (i :: plan) vs h n :=
  dj.skip' (by rw [hd]; exact z.eq) ho hw k
theorem dj.s0 (ho : l[i]? = some o) (hw : wantedA l.toArray o (frameV vs) = false) (hd : o.dst = none) (k : DJ P l.toArray Q K plan vs h n) : DJ P l.toArray Q K (i :: plan) vs h n :=
  dj.skip' (by rw [hd]; rfl) ho hw k
theorem keepJ_at {ops : Array Oper} {h1 : Heap} (hK : KeepJ ops i K S') (hs : SubBut h h1 S') {j : Nat} (hj : dep ops i j = false) : ∀ p ∈ K, p.1 = j → ∀ o, h.get p.2 = some o → h1.get p.2 = some o := fun p hp e o ho => by
  rcases hK p hp with q | q
  · rw [e, hj] at q; cases q
  · exact hs p.2 o q ho
theorem dj.op (ho : l[i]? = some o) (hk : kindOf P o = 0) (hw : wantedA l.toArray o (frameV vs) = true) (hok : okOper P.globals.size o = true) (q : Does P o (evalV vs) h n S' R) (hK : KeepJ l.toArray i K S')
    (k : ∀ v h2 n2, R v h2 n2 → SubBut h h2 S' → n ≤ n2 → Free h2 n2 → DJ P l.toArray Q K plan (setV vs o.dst v) h2 n2) : DJ P l.toArray Q K (i :: plan) vs h n := by
  obtain ⟨hc, x, v, h', n', hv, hx, hs, hn, hf, hr⟩ := q
  have k := k v h' n' hr hs hn hf
  refine ⟨fun inv hinv => ?_⟩
  simp only [drawW, at_arr ho, hk, if_true, opW, hw, frameV_eval]
  refine ⟨hok, ?_⟩
  rw [hc, hv]
  have hnd : ∀ x ∈ inv.filter (fun x => !dep l.toArray i x.1), dep l.toArray i x.1 = false := fun x hx => by simpa using (List.mem_filter.1 hx).2
  have k' := k.run (inv.filter fun x => !dep l.toArray i x.1) fun x hx h2 hs2 => hinv x (List.mem_filter.1 hx).1 h2 fun p hp e o ho => hs2 p hp e o (keepJ_at hK hs (hnd x hx) p hp e o ho)
  have hq : ∀ x ∈ inv.filter (fun x => !dep l.toArray i x.1), x.2 h' := fun x hx => hinv x (List.mem_filter.1 hx).1 h' (keepJ_at hK hs (hnd x hx))
  rcases hx with rfl | ⟨rfl, rfl⟩
  · simp only [resW, frameV_put]; exact ⟨hq, k'⟩
  · simp only [resW, frameV_put]; exact ⟨hq, k'⟩
theorem dj.k (ho : l[i]? = some o) (hk : kindOf P o = 0) (hw : wantedA l.toArray o (frameV vs) = true) (hc : CallsF P o (evalV vs) f xs) (c : Makes P f xs h n S' R) (hK : KeepJ l.toArray i K S')
    (k : ∀ v h2 n2, R v h2 n2 → SubBut h h2 S' → n ≤ n2 → Free h2 n2 → DJ P l.toArray Q K plan (setV vs o.dst v) h2 n2) : DJ P l.toArray Q K (i :: plan) vs h n := by
  obtain ⟨hok, hc1, hc2⟩ := hc
  refine ⟨fun inv hinv => ?_⟩
  simp only [drawW, at_arr ho, hk, if_true, opW, hw, frameV_eval]
  refine ⟨hok, ?_⟩
  rw [hc1, hc2]
  simp only [resW]
  refine ACall.mono c ?_
  rintro r h1 n1 _ hfr ⟨v, rfl, hs, hn, hr⟩
  refine ⟨h1, Heap.sub_refl _, ?_⟩
  have hnd : ∀ x ∈ inv.filter (fun x => !dep l.toArray i x.1), dep l.toArray i x.1 = false := fun x hx => by simpa using (List.mem_filter.1 hx).2
  simp only [frameV_put]
  exact ⟨fun x hx => hinv x (List.mem_filter.1 hx).1 h1 (keepJ_at hK hs (hnd x hx)), (k v h1 n1 hr hs hn hfr).run _ fun x hx h2 hs2 => hinv x (List.mem_filter.1 hx).1 h2 fun p hp e o ho => hs2 p hp e o (keepJ_at hK hs (hnd x hx) p hp e o ho)⟩
theorem dj.t {v : Value} (ho : l[i]? = some o) (hk : kindOf P o = 0) (hw : wantedA l.toArray o (frameV vs) = true) (hc : CallsF P o (evalV vs) f xs) (c : Free h n → Tells P f xs h n v) (hf : Free h n) (hd : o.dst = some d) [z : SetL vs d v vs']
    (k : ∀ n2, n ≤ n2 → Free h n2 → DJ P l.toArray Q K plan vs' h n2) : DJ P l.toArray Q K (i :: plan) vs h n := by
  refine dj.k ho hk hw hc (Tells.makes (S := []) (c hf)) (fun _ _ => .inr (by simp)) ?_
  rintro u h2 n2 ⟨rfl, rfl⟩ _ hn hf2
  rw [hd, show setV vs (some d) u = vs' from z.eq]
  exact k n2 hn hf2
theorem dj.w [z : SetL vs d v vs'] (k : DJ P ops Q K plan vs' h n) : DJ P ops Q K plan (setV vs (some d) v) h n := by
  rw [show setV vs (some d) v = vs' from z.eq]; exact k
theorem dj.w0 (k : DJ P ops Q K plan vs h n) : DJ P ops Q K plan (setV vs none v) h n := k
end
end Go.Abs
namespace Go.Proofs.YtkpaklofdkjinaaDoor
open Go Go.Abs Go.RowKit Go.Shelf
set_option maxRecDepth 100000
set_option maxHeartbeats 8000000
theorem putS_kept : ∀ (ys xs : List Samp), (putS xs ys).1 = xs ++ keptV ys (putS xs ys).2
  | [], xs => by simp [putS, keptV]
  | y :: ys, xs => by
    simp only [putS]
    split
    · simp only [keptV, if_pos]
      rw [putS_kept ys (xs ++ [y]), List.append_assoc]; rfl
    · rename_i hj
      simp only [keptV, if_neg hj]
      exact putS_kept ys xs
theorem mset_mem {κ ν : Type} [DecidableEq κ] {L : List (κ × ν × Nat)} {ck : Nat} {k : κ} {v : ν} {x : κ × ν × Nat} (h : x ∈ mset L ck k v) : x ∈ L ∨ (x.1 = k ∧ x.2.1 = v) := by
  unfold mset at h
  split at h
  · rename_i i _
    obtain ⟨j, hj⟩ := List.getElem?_of_mem h
    rw [List.getElem?_modify] at hj
    cases hg : L[j]? with
    | none => rw [hg] at hj; cases hj
    | some y =>
      rw [hg] at hj
      by_cases e : i = j
      · simp [e] at hj; subst hj; exact .inr ⟨rfl, rfl⟩
      · simp [e] at hj; subst hj; exact .inl (List.mem_of_getElem? hg)
  · rcases List.mem_append.1 h with h | h
    · exact .inl h
    · rw [List.mem_singleton] at h; subst h; exact .inr ⟨rfl, rfl⟩
theorem InvS.put {N : Nat} {S : SP} (q : InvS N S) {ck : Nat} {ten : ByteArray} {s : Ser} (hn : nameB ten = true) (hb : mayB s.1 = true) (hs : Small s) : InvS (N + 6000) (pS S ck ten s) := by
  have up : InvS (N + 6000) S := fun x hx => by
    obtain ⟨a, b, c⟩ := q x hx
    exact ⟨a, by omega, c⟩
  unfold pS
  split
  · exact up
  · rename_i hk
    intro x hx
    rcases mset_mem hx with hx | ⟨e1, e2⟩
    · exact up x hx
    · rw [e1, e2]
      have hw := q.was (ten, keyA s.1)
      have hl := (putS_len s.2 (wasOf S (ten, keyA s.1))).2
      have h2 := hs.2.1
      refine ⟨putS_may _ _ hw.1, ?_, ⟨hs.1, hs.2.2⟩, ?_, hb, rfl, hn⟩
      · show (putS _ _).1.length ≤ _
        omega
      · show 0 < (putS _ _).1.length
        rw [putS_kept, List.length_append]
        have : 0 < (keptV s.2 (putS (wasOf S (ten, keyA s.1)) s.2).2).length := List.length_pos_iff.2 hk
        omega
theorem pBad_le (S : SP) (ten : ByteArray) (s : Ser) : 0 ≤ pBad S ten s ∧ pBad S ten s ≤ (s.2.length : Nat) := by
  have := badV_le (pPut S ten s).2
  unfold pBad
  have e : (pPut S ten s).2.length = s.2.length := (putS_len _ _).1
  rw [e] at this
  exact this
theorem mayBat_parts {b : Bat} (h : mayBat b = true) : nameB b.ten = true ∧ ∀ s ∈ b.ser, mayB s.1 = true ∧ ∀ x ∈ s.2, mayT x.1 = true := by
  unfold mayBat at h
  simp only [Bool.and_eq_true, List.all_eq_true] at h
  refine ⟨h.1.1, fun s hs => ?_⟩
  have := h.2 s hs
  unfold okSer at this
  simp only [Bool.and_eq_true, List.all_eq_true] at this
  exact this
structure TSt where
  S : SP
  ck : Nat
  ks : List Ser
  bad : Int
def stepT (ten : ByteArray) (R : TSt) (s : Ser) : TSt := ⟨pS R.S R.ck ten s, pCk R.S R.ck ten s, if pKept R.S ten s = [] then R.ks else R.ks ++ [(s.1, pKept R.S ten s)], R.bad + pBad R.S ten s⟩
def foldT (ten : ByteArray) (R : TSt) (ss : List Ser) : TSt := ss.foldl (stepT ten) R
theorem foldT_snoc (ten : ByteArray) (R : TSt) (ss : List Ser) (s : Ser) : foldT ten R (ss ++ [s]) = stepT ten (foldT ten R ss) s := by unfold foldT; rw [List.foldl_append]; rfl
structure TkR where
  e : Int
  F : FM
  kf : Nat
  S : SP
  kg : Nat
  kb : Bat
  bad : Int
  rose : Bool
def takeNo (e : Int) (F : FM) (kf : Nat) (S : SP) (kg : Nat) : TkR := ⟨e, F, kf, S, kg, ⟨⟨#[]⟩, ⟨#[]⟩, 0, []⟩, 0, false⟩
def takeOk (F : FM) (kf : Nat) (b : Bat) (R : TSt) (rose : Bool) : TkR := ⟨0, F, kf, R.S, R.ck, ⟨b.ten, b.clu, b.epo, R.ks⟩, R.bad, rose⟩
def takeR (F : FM) (kf : Nat) (S : SP) (kg : Nat) (b : Bat) : TkR :=
  if mayBat b = false then takeNo 4 F kf S kg
  else if b.clu = ⟨#[]⟩ then takeOk F kf b (foldT b.ten ⟨S, kg, [], 0⟩ b.ser) false
  else if b.epo < (mget F (b.ten, b.clu)).getD 0 then takeNo 61 F kf S kg
  else takeOk (mset F kf (b.ten, b.clu) b.epo) (mck F kf (b.ten, b.clu)) b (foldT b.ten ⟨S, kg, [], 0⟩ b.ser) (decide ((mget F (b.ten, b.clu)).getD 0 < b.epo))
theorem takeX_spec {h : Heap} {n : Nat} {b f g kf kg : Nat} {c : CI} (F : FM) (G : SM) (S : SP) (hb_ : h.get b = some (.cells [.map (some f), .map (some g)] true c)) (hf_ : h.get f = some (.map (mapE plV intV F) kf)) (hg_ : h.get g = some (.map (mapE plV ownV G) kg)) (okF : MOk F kf) (okG : MOk G kg) (hS : SMIs h G S) (ne_f_g : f ≠ g) {a : Option Addr} {cp N : Nat} (ten clu : ByteArray) (epo : Int) (rs : List RSer) (ss : List Ser) (hr : IsRow encSer h (.slice a rs.length cp) rs) (hd : SersIs h rs ss) (hld : Laid0 h) (hsm : Smalls ss) (q1 : ten.data.toList.length < 9223372036854775808) (q2 : clu.data.toList.length < 9223372036854775808) (hinv : InvS N S) (hN : N + 7200000 < 1000000000000) :
    Makes Tryd.prog 13 [.pointer (some ⟨b, 0, none⟩), .agg #[.string (ten), .string (clu), .int .i64 (epo), .slice a (rs.length) cp]] h n ([f, g]) (fun v h2 _ => ∃ w os G2, v = .tuple #[.agg #[.string (takeR F kf S kg ⟨ten, clu, epo, ss⟩).kb.ten, .string (takeR F kf S kg ⟨ten, clu, epo, ss⟩).kb.clu, .int .i64 (takeR F kf S kg ⟨ten, clu, epo, ss⟩).kb.epo, w, .int .i64 (takeR F kf S kg ⟨ten, clu, epo, ss⟩).bad, .bool (takeR F kf S kg ⟨ten, clu, epo, ss⟩).rose], .int .i64 (takeR F kf S kg ⟨ten, clu, epo, ss⟩).e] ∧ OwnRow encSerO 43 h h2 w os ∧ FSers h2 (os.map serV) (takeR F kf S kg ⟨ten, clu, epo, ss⟩).kb.ser ∧ h2.get f = some (.map (mapE plV intV (takeR F kf S kg ⟨ten, clu, epo, ss⟩).F) (takeR F kf S kg ⟨ten, clu, epo, ss⟩).kf) ∧ h2.get g = some (.map (mapE plV ownV G2) (takeR F kf S kg ⟨ten, clu, epo, ss⟩).kg) ∧ MOk (takeR F kf S kg ⟨ten, clu, epo, ss⟩).F (takeR F kf S kg ⟨ten, clu, epo, ss⟩).kf ∧ MOk G2 (takeR F kf S kg ⟨ten, clu, epo, ss⟩).kg ∧ SMIs h2 G2 (takeR F kf S kg ⟨ten, clu, epo, ss⟩).S) := by
 refine Makes.free fun hf => ?_
 have ne_b_f : b ≠ f := by intro e; subst e; rw [hb_] at hf_; cases hf_
 have ne_b_g : b ≠ g := by intro e; subst e; rw [hb_] at hg_; cases hg_
 have hNC : NoCells h [f, g] := .cons hf_ (.cons hg_ (.nil h))
 have hKS : Ours h [f, g] := .cons hf_ rfl (.cons hg_ rfl (.nil h))
 have hrl : rs.length = ss.length := hd.1
 have hs1 : ss.length ≤ 1200 := hsm.1
 have hs : SubBut h h ([f, g]) := .refl _ _
 have hn : n ≤ n := Nat.le_refl _
 have hf0 := hf
 refine Makes.of_bodyV (args := [.pointer (some ⟨b, 0, none⟩), .agg #[.string (ten), .string (clu), .int .i64 (epo), .slice a (rs.length) cp]]) (vs := [.pointer (some ⟨b, 0, none⟩), .agg #[.string (ten), .string (clu), .int .i64 (epo), .slice a (rs.length) cp], undef, undef, undef, undef, undef, undef, undef, undef, undef, undef, undef, undef, undef, undef, undef, undef, undef, undef, undef, undef, undef, undef, undef, undef, undef, undef, undef, undef, undef, undef, undef, undef, undef, undef, undef, undef, undef, undef, undef, undef, undef, undef, undef, undef, undef, undef, undef, undef, undef, undef, undef, undef, undef, undef, undef, undef, undef, undef, undef, undef, undef, undef, undef, undef, undef, undef, undef, undef, undef, undef, undef, undef, undef, undef, undef, undef, undef, undef, undef, undef, undef, undef, undef, undef, undef, undef, undef, undef, undef, undef, undef, undef, undef, undef, undef, undef, undef]) Tryd.func13 rfl rfl ?_
 refine AWp.seq (AWp.rowV (l := _) pok ?_)
 have e_f_n : f ≠ n := hf.ne hf_
 have e_g_n : g ≠ n := hf.ne hg_
 refine sq.op rfl rfl (Does.box (cs := [.string (ten), .string (clu), .int .i64 (epo), .slice a (rs.length) cp]) hf rfl rfl) ?_
 rintro _ h2 n3 ⟨rfl, hb1⟩ s4 hn2 hf
 refine sq.w ?_
 have hS := hS.keep (.of0 s4)
 have hld := hld.keep s4
 have hb_ := s4.sub _ _ hb_
 have hf_ := s4.sub _ _ hf_
 have hg_ := s4.sub _ _ hg_
 have hs := hs.trans (s4.mono (by simp))
 have hn := Nat.le_trans hn hn2
 have e_f_n3 : f ≠ n3 := hf.ne hf_
 have e_g_n3 : g ≠ n3 := hf.ne hg_
 have z_n3 : h.get n3 = none := hf0 _ hn
 refine sq.op rfl rfl (Does.alloc (cs := [.string (⟨#[]⟩), .string (⟨#[]⟩), .int .i64 (0), .slice none (0) (0), .int .i64 (0), .bool false]) hf (z := .agg #[.string (⟨#[]⟩), .string (⟨#[]⟩), .int .i64 (0), .slice none (0) (0), .int .i64 (0), .bool false]) (by kernel_rfl) rfl) ?_
 rintro _ h6 n7 ⟨rfl, hb5⟩ s8 hn2 hf
 refine sq.w ?_
 have hS := hS.keep (.of0 s8)
 have hld := hld.keep s8
 have hb_ := s8.sub _ _ hb_
 have hf_ := s8.sub _ _ hf_
 have hg_ := s8.sub _ _ hg_
 have hb1 := s8.sub _ _ hb1
 have hs := hs.trans (s8.mono (by simp))
 have hn := Nat.le_trans hn hn2
 refine sq.c (v := .int .i64 (0)) rfl rfl rfl rfl ?_
 refine sq.e (AWp.seq (AWp.seq (AWp.rowV (l := _) pok ?_)))
 refine sq.c (v := .pointer (some ⟨b, 0, none⟩)) rfl rfl rfl rfl ?_
 refine sq.c (v := .bool false) rfl rfl (by kernel_rfl) rfl ?_
 refine sq.e ?_
 refine AWp.condF rfl rfl ?_
 refine AWp.skip (AWp.seq (AWp.seq (AWp.rowV (l := _) pok ?_)))
 refine sq.c (v := .agg #[.string (ten), .string (clu), .int .i64 (epo), .slice a (rs.length) cp]) rfl rfl (ldA (P := Tryd.prog) (t := 31) (p := 0) (k := 4) (xs := [.string (ten), .string (clu), .int .i64 (epo), .slice a (rs.length) cp]) (by kernel_rfl) (by kernel_rfl) hb1 rfl (Nat.le_of_ble_eq_true rfl)) rfl ?_
 refine sq.t (v := .bool (mayBat ⟨ten, clu, epo, ss⟩)) rfl (CallsF.fn rfl (by kernel_rfl) rfl rfl) (fun hf => mayBat_spec _ _ _ _ _ (isRow_noc hr hs hNC) (hd.noc hs hNC) hld hsm q1 q2) hf rfl ?_
 intro n9 hn2 hf
 have hn := Nat.le_trans hn hn2
 rcases Bool.eq_false_or_eq_true (mayBat ⟨ten, clu, epo, ss⟩) with c3_1 | c3_1
 ·rw [c3_1]
  refine sq.c (v := .bool false) rfl rfl rfl rfl ?_
  refine sq.e ?_
  refine AWp.condF rfl rfl ?_
  refine AWp.skip (AWp.seq (AWp.rowV (l := _) pok ?_))
  refine sq.c (v := .pointer (some ⟨n, 0, none⟩)) rfl rfl (by kernel_rfl) rfl ?_
  refine sq.c (v := .string (ten)) rfl rfl (ld1 (P := Tryd.prog) (t := 9) (p := 0) (v := .string (ten)) (by kernel_rfl) (by kernel_rfl) hb1 rfl) rfl ?_
  refine sq.c (v := .pointer (some ⟨n, 1, none⟩)) rfl rfl (by kernel_rfl) rfl ?_
  refine sq.c (v := .string (clu)) rfl rfl (ld1 (P := Tryd.prog) (t := 9) (p := 1) (v := .string (clu)) (by kernel_rfl) (by kernel_rfl) hb1 rfl) rfl ?_
  refine sq.c (v := .pointer (some ⟨n, 2, none⟩)) rfl rfl (by kernel_rfl) rfl ?_
  refine sq.c (v := .int .i64 (epo)) rfl rfl (ld1 (P := Tryd.prog) (t := 2) (p := 2) (v := .int .i64 (epo)) (by kernel_rfl) (by kernel_rfl) hb1 rfl) rfl ?_
  refine sq.c (v := .agg #[.string (ten), .string (clu), .int .i64 (epo), .slice none (0) (0)]) rfl rfl (by kernel_rfl) rfl ?_
  refine sq.c (v := .agg #[.string (ten), .string (clu), .int .i64 (epo), .slice none (0) (0), .int .i64 (0), .bool false]) rfl rfl (by kernel_rfl) rfl ?_
  have e_b_n9 : b ≠ n9 := hf.ne hb_
  have e_f_n9 : f ≠ n9 := hf.ne hf_
  have e_g_n9 : g ≠ n9 := hf.ne hg_
  have e_n_n9 : n ≠ n9 := hf.ne hb1
  have e_n3_n9 : n3 ≠ n9 := hf.ne hb5
  have z_n9 : h.get n9 = none := hf0 _ hn
  refine sq.op rfl rfl (Does.alloc (cs := [.string (⟨#[]⟩), .string (⟨#[]⟩), .int .i64 (0), .slice none (0) (0), .int .i64 (0), .bool false]) hf (z := .agg #[.string (⟨#[]⟩), .string (⟨#[]⟩), .int .i64 (0), .slice none (0) (0), .int .i64 (0), .bool false]) (by kernel_rfl) rfl) ?_
  rintro _ h11 n12 ⟨rfl, hb10⟩ s13 hn2 hf
  refine sq.w ?_
  have hS := hS.keep (.of0 s13)
  have hb_ := s13.sub _ _ hb_
  have hf_ := s13.sub _ _ hf_
  have hg_ := s13.sub _ _ hg_
  have hb1 := s13.sub _ _ hb1
  have hb5 := s13.sub _ _ hb5
  have hs := hs.trans (s13.mono (by simp))
  have hn := Nat.le_trans hn hn2
  refine sq.op rfl rfl (Does.store (k := 6) (xs := [.string (ten), .string (clu), .int .i64 (epo), .slice none (0) (0), .int .i64 (0), .bool false]) (cs' := [.string (ten), .string (clu), .int .i64 (epo), .slice none (0) (0), .int .i64 (0), .bool false]) hf (by kernel_rfl) rfl rfl rfl hb10 rfl rfl (Nat.le_of_ble_eq_true rfl) rfl) ?_
  rintro _ h15 n16 ⟨rfl, hb14⟩ s17 hn2 hf
  refine sq.w0 ?_
  have hS := hS.keep (.own s17 hb10 rfl)
  have hb_ := s17.get1 (e_b_n9) hb_
  have hf_ := s17.get1 (e_f_n9) hf_
  have hg_ := s17.get1 (e_g_n9) hg_
  have hb1 := s17.get1 (e_n_n9) hb1
  have hb5 := s17.get1 (e_n3_n9) hb5
  have hs := hs.fresh z_n9 s17
  have hn := Nat.le_trans hn hn2
  refine sq.e (AWp.seq (AWp.seq (AWp.rowV (l := _) pok ?_)))
  refine sq.c (v := .pointer (some ⟨n, 1, none⟩)) rfl rfl (by kernel_rfl) rfl ?_
  refine sq.c (v := .string (clu)) rfl rfl (ld1 (P := Tryd.prog) (t := 9) (p := 1) (v := .string (clu)) (by kernel_rfl) (by kernel_rfl) hb1 rfl) rfl ?_
  refine sq.c (v := .bool (!decide (clu = (⟨#[]⟩ : ByteArray)))) rfl rfl (neD _ _) rfl ?_
  refine sq.e ?_
  by_cases c6_2 : clu = (⟨#[]⟩ : ByteArray)
  ·rw [decide_eq_true c6_2]
   refine AWp.condF rfl rfl ?_
   refine AWp.skip (AWp.seq (AWp.seq (AWp.rowV (l := _) pok ?_)))
   refine sq.c (v := .pointer (some ⟨n, 3, none⟩)) rfl rfl (by kernel_rfl) rfl ?_
   refine sq.c (v := .slice a (rs.length) cp) rfl rfl (ld1 (P := Tryd.prog) (t := 29) (p := 3) (v := .slice a (rs.length) cp) (by kernel_rfl) (by kernel_rfl) hb1 rfl) rfl ?_
   refine sq.c (v := .int .i64 (((rs.length : Nat) : Int))) rfl rfl (by kernel_rfl) rfl ?_
   refine sq.c (v := .int .i64 (0)) rfl rfl rfl rfl ?_
   refine sq.e (AWp.block ?_)
   have hmb := mayBat_parts c3_1
   refine AWp.loopV (fun d vs h19 n20 => ∃ (i : Int) (R : TSt) (G' : SM) (os : List (Hdr × Hdr)) (a_o : Option Addr) (cp_o : Nat), d = ((rs.length : Nat) - i + 1).toNat ∧ SubBut h h19 ([f, g]) ∧ n ≤ n20 ∧ Free h19 n20 ∧ h19.get b = some (.cells [.map (some f), .map (some g)] true c) ∧ h19.get f = some (.map (mapE plV intV F) kf) ∧ h19.get g = some (.map (mapE plV ownV G') R.ck) ∧ SMIs h19 G' R.S ∧ h19.get n = some (.cells [.string (ten), .string (clu), .int .i64 (epo), .slice a (rs.length) cp] true ⟨31, 0, true⟩) ∧ h19.get n3 = some (.cells [.string (⟨#[]⟩), .string (⟨#[]⟩), .int .i64 (0), .slice none (0) (0), .int .i64 (0), .bool false] true ⟨33, 0, true⟩) ∧ h19.get n9 = some (.cells [.string (ten), .string (clu), .int .i64 (epo), .slice a_o (os.length) cp_o, .int .i64 (R.bad), .bool false] true ⟨33, 0, true⟩) ∧ FSers h19 (os.map serV) R.ks ∧ OwnRow encSerO 43 h h19 (.slice a_o (os).length cp_o) (os) ∧ (∀ c ∈ blkOf (.slice a_o (os).length cp_o), c ≠ b) ∧ (∀ c ∈ blkOf (.slice a_o (os).length cp_o), c ≠ f) ∧ (∀ c ∈ blkOf (.slice a_o (os).length cp_o), c ≠ g) ∧ (∀ c ∈ blkOf (.slice a_o (os).length cp_o), c ≠ n) ∧ (∀ c ∈ blkOf (.slice a_o (os).length cp_o), c ≠ n3) ∧ (∀ c ∈ blkOf (.slice a_o (os).length cp_o), c ≠ n9) ∧ MOk G' R.ck ∧ (0 ≤ i) ∧ (i ≤ (rs.length : Nat)) ∧ (R = foldT ten ⟨S, kg, [], 0⟩ (ss.take i.toNat)) ∧ (InvS (N + 6000 * i.toNat) R.S) ∧ (0 ≤ R.bad) ∧ (R.bad ≤ 6000 * i) ∧ (os.length ≤ i.toNat) ∧ ∃ y18 : Nat → Value, vs = [.pointer (some ⟨b, 0, none⟩), .agg #[.string (ten), .string (clu), .int .i64 (epo), .slice a (rs.length) cp], undef, .pointer (some ⟨n, 0, none⟩), .pointer (some ⟨n3, 0, none⟩), .int .i64 (0), .pointer (some ⟨n9, 0, none⟩), undef, undef, (y18 9), (y18 10), (y18 11), .pointer (some ⟨b, 0, none⟩), .bool false, undef, .agg #[.string (ten), .string (clu), .int .i64 (epo), .slice a (rs.length) cp], .bool true, .bool false, undef, .pointer (some ⟨n, 0, none⟩), .string (ten), .pointer (some ⟨n, 1, none⟩), .string (clu), .pointer (some ⟨n, 2, none⟩), .int .i64 (epo), .agg #[.string (ten), .string (clu), .int .i64 (epo), .slice none (0) (0)], .agg #[.string (ten), .string (clu), .int .i64 (epo), .slice none (0) (0), .int .i64 (0), .bool false], .pointer (some ⟨n, 1, none⟩), .string (clu), .bool false, undef, undef, undef, undef, undef, undef, undef, undef, undef, undef, undef, undef, undef, undef, undef, undef, undef, undef, undef, undef, undef, undef, undef, undef, undef, undef, undef, undef, undef, undef, undef, undef, .pointer (some ⟨n, 3, none⟩), .slice a (rs.length) cp, .int .i64 (((rs.length : Nat) : Int)), .int .i64 (i), (y18 66), (y18 67), (y18 68), (y18 69), (y18 70), (y18 71), (y18 72), (y18 73), (y18 74), (y18 75), (y18 76), (y18 77), (y18 78), (y18 79), (y18 80), (y18 81), (y18 82), (y18 83), (y18 84), (y18 85), (y18 86), (y18 87), (y18 88), (y18 89), (y18 90), (y18 91), (y18 92), (y18 93), (y18 94), (y18 95), (y18 96), (y18 97), undef]) (((rs.length : Nat) - (0 : Int) + 1).toNat) ⟨0, ⟨S, kg, [], 0⟩, G, [], none, 0, rfl, hs, hn, hf, hb_, hf_, hg_, hS, hb1, hb5, hb14, (FSers.nil _), OwnRow.nil, (by simp [blkOf]), (by simp [blkOf]), (by simp [blkOf]), (by simp [blkOf]), (by simp [blkOf]), (by simp [blkOf]), okG, (by omega), (by omega), (rfl), (hinv), (Int.le_refl 0), (Int.le_refl 0), (Nat.le_refl 0), getV [undef, undef, undef, undef, undef, undef, undef, undef, undef, undef, undef, undef, undef, undef, undef, undef, undef, undef, undef, undef, undef, undef, undef, undef, undef, undef, undef, undef, undef, undef, undef, undef, undef, undef, undef, undef, undef, undef, undef, undef, undef, undef, undef, undef, undef, undef, undef, undef, undef, undef, undef, undef, undef, undef, undef, undef, undef, undef, undef, undef, undef, undef, undef, undef, undef, undef, undef, undef, undef, undef, undef, undef, undef, undef, undef, undef, undef, undef, undef, undef, undef, undef, undef, undef, undef, undef, undef, undef, undef, undef, undef, undef, undef, undef, undef, undef, undef, undef], rfl⟩ ?_
   rintro d vs h19 n20 ⟨i, R, G', os, a_o, cp_o, rfl, hs, hn, hf, hb_, hf_, hg_, hS, hb1, hb5, hb14, D, R_o, d_o_b, d_o_f, d_o_g, d_o_n, d_o_n3, d_o_n9, okg2, hi0, hi1, hR, hinv2, hbd0, hbd1, hol, y18, rfl⟩
   refine AWp.seq (AWp.rowV (l := _) pok ?_)
   refine sq.c (v := .bool (decide (i < (((rs.length : Nat) : Int))))) rfl rfl rfl rfl ?_
   refine sq.e (AWp.seq ?_)
   by_cases c13_0 : i < (((rs.length : Nat) : Int))
   ·rw [decide_eq_true c13_0]
    refine AWp.condT rfl rfl ?_
    refine AWp.skip (AWp.seq (AWp.block (AWp.seq (AWp.rowV (l := _) pok ?_))))
    have i27 : (0 : Int) ≤ (i : Int) := by omega
    obtain ⟨x28, hx_x28⟩ : ∃ x, (rs)[((i : Int)).toNat]? = some x := ⟨_, List.getElem?_eq_getElem (by omega)⟩
    obtain ⟨y_x28, hy_x28, L_x28, M_x28⟩ := hd.at hx_x28
    obtain ⟨v1_x28, v2_x28⟩ := x28
    obtain ⟨a1_x28, c1_x28, rfl⟩ := (show IsRow encLab _ v1_x28 y_x28.1 from L_x28).slice
    obtain ⟨a2_x28, c2_x28, rfl⟩ := (show IsRow encSmp _ v2_x28 y_x28.2 from M_x28).slice
    obtain ⟨b21, o22, cs_b21, ow_b21, ci_b21, ie26, hb23, hc24, hr25⟩ := IsRow.at (P := Tryd.prog) (t := 29) (e := 43) (k := .i64) (by kernel_rfl) (by kernel_rfl) (isRow_noc hr hs hNC) i27 hx_x28
    refine sq.c (v := .pointer (some ⟨b21, o22, none⟩)) rfl rfl ie26 rfl ?_
    refine sq.c (v := .agg #[.slice a1_x28 (y_x28.1.length) c1_x28, .slice a2_x28 (y_x28.2.length) c2_x28]) rfl rfl (ldR (P := Tryd.prog) (t := 43) (k := 2) (xs := [.slice a1_x28 (y_x28.1.length) c1_x28, .slice a2_x28 (y_x28.2.length) c2_x28]) (by kernel_rfl) (by kernel_rfl) hr25) rfl ?_
    have e_b_n20 : b ≠ n20 := hf.ne hb_
    have e_f_n20 : f ≠ n20 := hf.ne hf_
    have e_g_n20 : g ≠ n20 := hf.ne hg_
    have e_n_n20 : n ≠ n20 := hf.ne hb1
    have e_n3_n20 : n3 ≠ n20 := hf.ne hb5
    have e_n9_n20 : n9 ≠ n20 := hf.ne hb14
    have d_o_n20 : ∀ c ∈ blkOf (.slice a_o (os).length cp_o), c ≠ n20 := fun c hc e => R_o.ne' (hf _ (Nat.le_refl _)) c hc (List.mem_singleton.2 e)
    have z_n20 : h.get n20 = none := hf0 _ hn
    refine sq.op rfl rfl (Does.alloc (cs := [.slice none (0) (0), .slice none (0) (0)]) hf (z := .agg #[.slice none (0) (0), .slice none (0) (0)]) (by kernel_rfl) rfl) ?_
    rintro _ h30 n31 ⟨rfl, hb29⟩ s32 hn2 hf
    refine sq.w ?_
    have hS := hS.keep (.of0 s32)
    have D := D.keep (.of0 s32)
    have R_o := R_o.keep s32
    have hb_ := s32.sub _ _ hb_
    have hf_ := s32.sub _ _ hf_
    have hg_ := s32.sub _ _ hg_
    have hb1 := s32.sub _ _ hb1
    have hb5 := s32.sub _ _ hb5
    have hb14 := s32.sub _ _ hb14
    have hs := hs.trans (s32.mono (by simp))
    have hn := Nat.le_trans hn hn2
    refine sq.op rfl rfl (Does.store (k := 2) (xs := [.slice a1_x28 (y_x28.1.length) c1_x28, .slice a2_x28 (y_x28.2.length) c2_x28]) (cs' := [.slice a1_x28 (y_x28.1.length) c1_x28, .slice a2_x28 (y_x28.2.length) c2_x28]) hf (by kernel_rfl) rfl rfl rfl hb29 rfl rfl (Nat.le_of_ble_eq_true rfl) rfl) ?_
    rintro _ h34 n35 ⟨rfl, hb33⟩ s36 hn2 hf
    refine sq.w0 ?_
    have hS := hS.keep (.own s36 hb29 rfl)
    have D := D.keep (.own s36 hb29 rfl)
    have R_o := R_o.but s36 (fun c hc hm => d_o_n20 c hc (List.mem_singleton.1 hm))
    have hb_ := s36.get1 (e_b_n20) hb_
    have hf_ := s36.get1 (e_f_n20) hf_
    have hg_ := s36.get1 (e_g_n20) hg_
    have hb1 := s36.get1 (e_n_n20) hb1
    have hb5 := s36.get1 (e_n3_n20) hb5
    have hb14 := s36.get1 (e_n9_n20) hb14
    have hs := hs.fresh z_n20 s36
    have hn := Nat.le_trans hn hn2
    refine sq.e (AWp.seq (AWp.rowV (l := _) pok ?_))
    refine sq.c (v := .pointer (some ⟨b, 0, none⟩)) rfl rfl rfl rfl ?_
    refine sq.c (v := .pointer (some ⟨n, 0, none⟩)) rfl rfl (by kernel_rfl) rfl ?_
    refine sq.c (v := .string (ten)) rfl rfl (ld1 (P := Tryd.prog) (t := 9) (p := 0) (v := .string (ten)) (by kernel_rfl) (by kernel_rfl) hb1 rfl) rfl ?_
    refine sq.c (v := .agg #[.slice a1_x28 (y_x28.1.length) c1_x28, .slice a2_x28 (y_x28.2.length) c2_x28]) rfl rfl (ldA (P := Tryd.prog) (t := 43) (p := 0) (k := 2) (xs := [.slice a1_x28 (y_x28.1.length) c1_x28, .slice a2_x28 (y_x28.2.length) c2_x28]) (by kernel_rfl) (by kernel_rfl) hb33 rfl (Nat.le_of_ble_eq_true rfl)) rfl ?_
    have hsx := hsm.2 _ (List.mem_of_getElem? hy_x28)
    refine sq.k rfl (CallsF.fn rfl (by kernel_rfl) rfl rfl) (putSt _ _ _ hb_ hf_ hg_ okF okg2 hS ne_f_g ten _ _ (isRow_noc L_x28 hs hNC) (isRow_noc M_x28 hs hNC) hsx hinv2 (by omega)) ?_
    rintro _ h37 n38 ⟨v_k, Gk, rfl, F_k, hgk, okk, sm_k⟩ s39 hn2 hf
    obtain ⟨a_k, c_k, rfl⟩ := F_k.slice
    refine sq.w ?_
    have D := D.keep (.own s39 hg_ rfl)
    have R_o := R_o.but s39 (fun c hc hm => d_o_g c hc (List.mem_singleton.1 hm))
    have hb_ := s39.get1 (ne_b_g) hb_
    have hf_ := s39.get1 (ne_f_g) hf_
    have hb1 := s39.get1 (Ne.symm e_g_n) hb1
    have hb5 := s39.get1 (Ne.symm e_g_n3) hb5
    have hb14 := s39.get1 (Ne.symm e_g_n9) hb14
    have hb33 := s39.get1 (Ne.symm e_g_n20) hb33
    have hs := hs.at (by simp) s39
    have hn := Nat.le_trans hn hn2
    have hpb : 0 ≤ pBad R.S ten (y_x28.1, y_x28.2) ∧ pBad R.S ten (y_x28.1, y_x28.2) ≤ (y_x28.2.length : Nat) := pBad_le R.S ten (y_x28.1, y_x28.2)
    have hsx2 : y_x28.2.length < 6000 := hsx.2.1
    have hS := sm_k
    refine sq.c (v := .tuple #[.slice a_k (pKept R.S ten (y_x28.1, y_x28.2)).length c_k, .int .i64 (pBad R.S ten (y_x28.1, y_x28.2))]) rfl rfl rfl rfl ?_
    refine sq.c (v := .slice a_k (pKept R.S ten (y_x28.1, y_x28.2)).length c_k) rfl rfl rfl rfl ?_
    refine sq.c (v := .int .i64 (pBad R.S ten (y_x28.1, y_x28.2))) rfl rfl rfl rfl ?_
    refine sq.c (v := .slice a_k (pKept R.S ten (y_x28.1, y_x28.2)).length c_k) rfl rfl rfl rfl ?_
    refine sq.c (v := .int .i64 (pBad R.S ten (y_x28.1, y_x28.2))) rfl rfl rfl rfl ?_
    refine sq.e (AWp.seq (AWp.rowV (l := _) pok ?_))
    refine sq.c (v := .pointer (some ⟨n9, 4, none⟩)) rfl rfl (by kernel_rfl) rfl ?_
    refine sq.c (v := .int .i64 (R.bad)) rfl rfl (ld1 (P := Tryd.prog) (t := 3) (p := 4) (v := .int .i64 (R.bad)) (by kernel_rfl) (by kernel_rfl) hb14 rfl) rfl ?_
    refine sq.c (v := .int .i64 (pBad R.S ten (y_x28.1, y_x28.2))) rfl rfl rfl rfl ?_
    refine sq.c (v := .int .i64 (R.bad + (pBad R.S ten (y_x28.1, y_x28.2)))) rfl rfl (okI (wrap_i64 (by have := hpb.1; omega) (by have := hpb.2; omega))) rfl ?_
    refine sq.c (v := .pointer (some ⟨n9, 4, none⟩)) rfl rfl (by kernel_rfl) rfl ?_
    refine sq.op rfl rfl (Does.store (k := 1) (xs := [.int .i64 (R.bad + (pBad R.S ten (y_x28.1, y_x28.2)))]) (cs' := [.string (ten), .string (clu), .int .i64 (epo), .slice a_o (os.length) cp_o, .int .i64 (R.bad + (pBad R.S ten (y_x28.1, y_x28.2))), .bool false]) hf (by kernel_rfl) rfl rfl rfl hb14 rfl rfl (Nat.le_of_ble_eq_true rfl) rfl) ?_
    rintro _ h41 n42 ⟨rfl, hb40⟩ s43 hn2 hf
    refine sq.w0 ?_
    have D := D.keep (.own s43 hb14 rfl)
    have R_o := R_o.but s43 (fun c hc hm => d_o_n9 c hc (List.mem_singleton.1 hm))
    have hS := hS.keep (.own s43 hb14 rfl)
    have F_k := F_k.keep (.own s43 hb14 rfl)
    have hb_ := s43.get1 (e_b_n9) hb_
    have hf_ := s43.get1 (e_f_n9) hf_
    have hgk := s43.get1 (e_g_n9) hgk
    have hb1 := s43.get1 (e_n_n9) hb1
    have hb5 := s43.get1 (e_n3_n9) hb5
    have hb33 := s43.get1 (Ne.symm e_n9_n20) hb33
    have hs := hs.fresh z_n9 s43
    have hn := Nat.le_trans hn hn2
    refine sq.e (AWp.seq (AWp.rowV (l := _) pok ?_))
    refine sq.c (v := .slice a_k (pKept R.S ten (y_x28.1, y_x28.2)).length c_k) rfl rfl rfl rfl ?_
    refine sq.c (v := .int .i64 ((((pKept R.S ten (y_x28.1, y_x28.2)).length : Nat) : Int))) rfl rfl (by kernel_rfl) rfl ?_
    refine sq.c (v := .bool (decide ((0 : Int) < ((((pKept R.S ten (y_x28.1, y_x28.2)).length : Nat) : Int))))) rfl rfl rfl rfl ?_
    refine sq.e ?_
    by_cases c17_2 : (0 : Int) < ((((pKept R.S ten (y_x28.1, y_x28.2)).length : Nat) : Int))
    ·rw [decide_eq_true c17_2]
     refine AWp.condT rfl rfl ?_
     refine AWp.anyJ pok [0, 1, 2, 3, 4, 6, 5, 7, 8, 9, 10, 11, 12] (by kernel_rfl) (by kernel_rfl) rfl (fun x fr fr' h n hd _ q => ⟨hd ▸ q.1, q.2⟩) ?_
     refine dj.c (v := .pointer (some ⟨n9, 0, none⟩)) rfl (by kernel_rfl) rfl rfl (by kernel_rfl) rfl ?_
     refine dj.c (v := .pointer (some ⟨n9, 3, none⟩)) rfl (by kernel_rfl) rfl rfl (by kernel_rfl) rfl ?_
     refine dj.gB (v := .slice a_o (os.length) cp_o) n9 rfl (by kernel_rfl) rfl rfl (fun _ q_ => (ld1 (P := Tryd.prog) (t := 29) (p := 3) (v := .slice a_o (os.length) cp_o) (by kernel_rfl) (by kernel_rfl) (q_ _ hb40) rfl)) rfl ?_
     refine dj.c (v := .pointer (some ⟨n20, 0, none⟩)) rfl (by kernel_rfl) rfl rfl (by kernel_rfl) rfl ?_
     refine dj.gB (v := .slice a1_x28 (y_x28.1.length) c1_x28) n20 rfl (by kernel_rfl) rfl rfl (fun _ q_ => (ld1 (P := Tryd.prog) (t := 40) (p := 0) (v := .slice a1_x28 (y_x28.1.length) c1_x28) (by kernel_rfl) (by kernel_rfl) (q_ _ hb33) rfl)) rfl ?_
     refine dj.c (v := .slice a_k (pKept R.S ten (y_x28.1, y_x28.2)).length c_k) rfl (by kernel_rfl) rfl rfl rfl rfl ?_
     refine dj.k rfl (by kernel_rfl) rfl (CallsF.fn rfl (by kernel_rfl) rfl rfl) (cloneLFz _ (isRow_noc L_x28 hs hNC) (by have := hsx.1; omega)) (keepJD (by kernel_rfl) (keepJC (by simp) keepJN)) ?_
     rintro v_q43 h44 n45 R_q43 s46 hn2 hf
     obtain ⟨a_q43, c_q43, rfl⟩ := R_q43.slice
     refine dj.w ?_
     have D := D.keep (.of0 s46)
     have R_o := R_o.keep s46
     have hS := hS.keep (.of0 s46)
     have F_k := F_k.keep (.of0 s46)
     have hb_ := s46.sub _ _ hb_
     have hf_ := s46.sub _ _ hf_
     have hgk := s46.sub _ _ hgk
     have hb1 := s46.sub _ _ hb1
     have hb5 := s46.sub _ _ hb5
     have hb40 := s46.sub _ _ hb40
     have hb33 := s46.sub _ _ hb33
     have hs := hs.trans (s46.mono (by simp))
     have hn := Nat.le_trans hn hn2
     refine dj.c (v := .agg #[.slice a_q43 (y_x28.1).length c_q43, .slice a_k (pKept R.S ten (y_x28.1, y_x28.2)).length c_k]) rfl (by kernel_rfl) rfl rfl (by kernel_rfl) rfl ?_
     have d_o_n45 : ∀ c ∈ blkOf (.slice a_o (os).length cp_o), c ≠ n45 := fun c hc e => R_o.ne' (hf _ (Nat.le_refl _)) c hc (List.mem_singleton.2 e)
     refine dj.op rfl (by kernel_rfl) rfl rfl (Does.build (e := 43) (cs := [.slice a_q43 (y_x28.1).length c_q43, .slice a_k (pKept R.S ten (y_x28.1, y_x28.2)).length c_k]) hf (fun _ _ => by kernel_rfl)) (keepJC (by simp) (keepJC (by simp) keepJN)) ?_
     rintro _ h48 n49 ⟨rfl, hb47⟩ s50 hn2 hf
     refine dj.w ?_
     have D := D.keep (.of0 s50)
     have R_o := R_o.keep s50
     have hS := hS.keep (.of0 s50)
     have F_k := F_k.keep (.of0 s50)
     have R_q43 := R_q43.keep (.of0 s50)
     have hb_ := s50.sub _ _ hb_
     have hf_ := s50.sub _ _ hf_
     have hgk := s50.sub _ _ hgk
     have hb1 := s50.sub _ _ hb1
     have hb5 := s50.sub _ _ hb5
     have hb40 := s50.sub _ _ hb40
     have hb33 := s50.sub _ _ hb33
     have hs := hs.trans (s50.mono (by simp))
     have hn := Nat.le_trans hn hn2
     have hz0 : h.get n49 = none := hf0 _ hn
     have hfo := hf
     have hFo := R_o.ours
     refine dj.op rfl (by kernel_rfl) rfl rfl (Does.append (E := encSerO) (xs := os) (ys := [((a_q43, (y_x28.1).length, c_q43), (a_k, (pKept R.S ten (y_x28.1, y_x28.2)).length, c_k))]) appSerO ⟨.slice 43, by kernel_rfl, fun _ q => by cases q⟩ hf hs R_o (IsRow.of (E := encSerO) (xs := [((a_q43, (y_x28.1).length, c_q43), (a_k, (pKept R.S ten (y_x28.1, y_x28.2)).length, c_k))]) (cap := 1) hb47 (Nat.le_refl _)) rfl rfl (by have := hsx.1; simp only [List.length_cons, List.length_nil]; omega) (by have := hsx.1; simp only [List.length_cons, List.length_nil]; omega) hz0) (keepJC (fun hm => d_o_n20 _ hm rfl) (keepJD (by kernel_rfl) keepJN)) ?_
     rintro v54 h51 n52 ⟨R_o, hs, hB55⟩ s53 hn2 hf
     refine dj.w ?_
     have dn_o_b : ∀ c ∈ blkOf v54, c ≠ b := fun c hc => (hB55 c hc).elim (fun q => d_o_b c q) (fun q => by rw [q]; exact (hfo.ne hb_).symm)
     have dn_o_f : ∀ c ∈ blkOf v54, c ≠ f := fun c hc => (hB55 c hc).elim (fun q => d_o_f c q) (fun q => by rw [q]; exact (hfo.ne hf_).symm)
     have dn_o_g : ∀ c ∈ blkOf v54, c ≠ g := fun c hc => (hB55 c hc).elim (fun q => d_o_g c q) (fun q => by rw [q]; exact (hfo.ne hgk).symm)
     have dn_o_n : ∀ c ∈ blkOf v54, c ≠ n := fun c hc => (hB55 c hc).elim (fun q => d_o_n c q) (fun q => by rw [q]; exact (hfo.ne hb1).symm)
     have dn_o_n3 : ∀ c ∈ blkOf v54, c ≠ n3 := fun c hc => (hB55 c hc).elim (fun q => d_o_n3 c q) (fun q => by rw [q]; exact (hfo.ne hb5).symm)
     have dn_o_n9 : ∀ c ∈ blkOf v54, c ≠ n9 := fun c hc => (hB55 c hc).elim (fun q => d_o_n9 c q) (fun q => by rw [q]; exact (hfo.ne hb40).symm)
     have dn_o_n20 : ∀ c ∈ blkOf v54, c ≠ n20 := fun c hc => (hB55 c hc).elim (fun q => d_o_n20 c q) (fun q => by rw [q]; exact (hfo.ne hb33).symm)
     have dn_o_n45 : ∀ c ∈ blkOf v54, c ≠ n45 := fun c hc => (hB55 c hc).elim (fun q => d_o_n45 c q) (fun q => by rw [q]; exact (hfo.ne hb47).symm)
     have ours_s53 := hFo
     have hb_ := s53 _ _ (fun hm => d_o_b _ hm rfl) hb_
     have hf_ := s53 _ _ (fun hm => d_o_f _ hm rfl) hf_
     have hgk := s53 _ _ (fun hm => d_o_g _ hm rfl) hgk
     have hb1 := s53 _ _ (fun hm => d_o_n _ hm rfl) hb1
     have hb5 := s53 _ _ (fun hm => d_o_n3 _ hm rfl) hb5
     have hb40 := s53 _ _ (fun hm => d_o_n9 _ hm rfl) hb40
     have D := D.keep (.of s53 ours_s53)
     have hb33 := s53 _ _ (fun hm => d_o_n20 _ hm rfl) hb33
     have hS := hS.keep (.of s53 ours_s53)
     have F_k := F_k.keep (.of s53 ours_s53)
     have R_q43 := R_q43.keep (.of s53 ours_s53)
     have hb47 := s53 _ _ (fun hm => d_o_n45 _ hm rfl) hb47
     have d_o_b := dn_o_b
     have d_o_f := dn_o_f
     have d_o_g := dn_o_g
     have d_o_n := dn_o_n
     have d_o_n3 := dn_o_n3
     have d_o_n9 := dn_o_n9
     have d_o_n20 := dn_o_n20
     have d_o_n45 := dn_o_n45
     obtain ⟨a56, cp57, rfl⟩ := R_o.slice
     have hn := Nat.le_trans hn hn2
     refine dj.c (v := .pointer (some ⟨n9, 0, none⟩)) rfl (by kernel_rfl) rfl rfl (by kernel_rfl) rfl ?_
     refine dj.c (v := .pointer (some ⟨n9, 3, none⟩)) rfl (by kernel_rfl) rfl rfl (by kernel_rfl) rfl ?_
     refine dj.op rfl (by kernel_rfl) rfl rfl (Does.store (k := 1) (xs := [.slice a56 (os ++ [((a_q43, (y_x28.1).length, c_q43), (a_k, (pKept R.S ten (y_x28.1, y_x28.2)).length, c_k))]).length cp57]) (cs' := [.string (ten), .string (clu), .int .i64 (epo), .slice a56 (os ++ [((a_q43, (y_x28.1).length, c_q43), (a_k, (pKept R.S ten (y_x28.1, y_x28.2)).length, c_k))]).length cp57, .int .i64 (R.bad + (pBad R.S ten (y_x28.1, y_x28.2))), .bool false]) hf (by kernel_rfl) rfl rfl rfl hb40 rfl rfl (Nat.le_of_ble_eq_true rfl) rfl) (keepJD (by kernel_rfl) (keepJD (by kernel_rfl) keepJN)) ?_
     rintro _ h59 n60 ⟨rfl, hb58⟩ s61 hn2 hf
     refine dj.w0 ?_
     have D := D.keep (.own s61 hb40 rfl)
     have hS := hS.keep (.own s61 hb40 rfl)
     have F_k := F_k.keep (.own s61 hb40 rfl)
     have R_q43 := R_q43.keep (.own s61 hb40 rfl)
     have R_o := R_o.but s61 (fun c hc hm => d_o_n9 c hc (List.mem_singleton.1 hm))
     have hb_ := s61.get1 (e_b_n9) hb_
     have hf_ := s61.get1 (e_f_n9) hf_
     have hgk := s61.get1 (e_g_n9) hgk
     have hb1 := s61.get1 (e_n_n9) hb1
     have hb5 := s61.get1 (e_n3_n9) hb5
     have hs := hs.fresh z_n9 s61
     have hn := Nat.le_trans hn hn2
     refine dj.e ?_
     refine AWp.rowV (l := _) pok ?_
     refine sq.c (v := .int .i64 (i + 1)) rfl rfl (okI (wrap_i64 (by omega) (by omega))) rfl ?_
     refine sq.c (v := .int .i64 (i + 1)) rfl rfl rfl rfl ?_
     refine sq.e ?_
     have hne : ¬ pKept R.S ten y_x28 = [] := fun e => by rw [show pKept R.S ten (y_x28.1, y_x28.2) = [] from e] at c17_2; simp at c17_2
     refine ⟨_, _, rfl, by omega, i + 1, stepT ten R y_x28, Gk, os ++ [((a_q43, (y_x28.1).length, c_q43), (a_k, (pKept R.S ten (y_x28.1, y_x28.2)).length, c_k))], a56, cp57, rfl, hs, hn, hf, hb_, hf_, hgk, hS, hb1, hb5, hb58, (by rw [show (stepT ten R y_x28).ks = _ from if_neg hne]; exact FSers.snocO D ⟨R_q43, F_k⟩), R_o, d_o_b, d_o_f, d_o_g, d_o_n, d_o_n3, d_o_n9, okk, (by omega), (by omega), (by rw [take_snoc hi0 hy_x28, foldT_snoc, ← hR]), (by rw [show N + 6000 * (i + 1).toNat = N + 6000 * i.toNat + 6000 by omega]; exact hinv2.put hmb.1 (hmb.2 _ (List.mem_of_getElem? hy_x28)).1 hsx), (Int.add_nonneg hbd0 hpb.1), (show R.bad + pBad R.S ten (y_x28.1, y_x28.2) ≤ _ by omega), (by simp only [List.length_append, List.length_cons, List.length_nil]; omega), getV [undef, undef, undef, undef, undef, undef, undef, undef, undef, .pointer (some ⟨n20, 0, none⟩), .slice a_k (pKept R.S ten (y_x28.1, y_x28.2)).length c_k, .int .i64 (pBad R.S ten (y_x28.1, y_x28.2)), undef, undef, undef, undef, undef, undef, undef, undef, undef, undef, undef, undef, undef, undef, undef, undef, undef, undef, undef, undef, undef, undef, undef, undef, undef, undef, undef, undef, undef, undef, undef, undef, undef, undef, undef, undef, undef, undef, undef, undef, undef, undef, undef, undef, undef, undef, undef, undef, undef, undef, undef, undef, undef, undef, .bool true, .pointer (some ⟨b21, o22, none⟩), .agg #[.slice a1_x28 (y_x28.1.length) c1_x28, .slice a2_x28 (y_x28.2.length) c2_x28], .tuple #[.slice a_k (pKept R.S ten (y_x28.1, y_x28.2)).length c_k, .int .i64 (pBad R.S ten (y_x28.1, y_x28.2))], .pointer (some ⟨b, 0, none⟩), .pointer (some ⟨n, 0, none⟩), .string (ten), .agg #[.slice a1_x28 (y_x28.1.length) c1_x28, .slice a2_x28 (y_x28.2.length) c2_x28], .tuple #[.slice a_k (pKept R.S ten (y_x28.1, y_x28.2)).length c_k, .int .i64 (pBad R.S ten (y_x28.1, y_x28.2))], .slice a_k (pKept R.S ten (y_x28.1, y_x28.2)).length c_k, .int .i64 (pBad R.S ten (y_x28.1, y_x28.2)), .pointer (some ⟨n9, 4, none⟩), .int .i64 (R.bad), .int .i64 (pBad R.S ten (y_x28.1, y_x28.2)), .int .i64 (R.bad + (pBad R.S ten (y_x28.1, y_x28.2))), .pointer (some ⟨n9, 4, none⟩), .slice a_k (pKept R.S ten (y_x28.1, y_x28.2)).length c_k, .int .i64 ((((pKept R.S ten (y_x28.1, y_x28.2)).length : Nat) : Int)), .bool true, .pointer (some ⟨n9, 0, none⟩), .pointer (some ⟨n9, 3, none⟩), .slice a_o (os.length) cp_o, .pointer (some ⟨n20, 0, none⟩), .slice a1_x28 (y_x28.1.length) c1_x28, .slice a_q43 (y_x28.1).length c_q43, .slice a_k (pKept R.S ten (y_x28.1, y_x28.2)).length c_k, .agg #[.slice a_q43 (y_x28.1).length c_q43, .slice a_k (pKept R.S ten (y_x28.1, y_x28.2)).length c_k], .slice (some ⟨n45, 0, none⟩) (1) (1), .slice a56 (os ++ [((a_q43, (y_x28.1).length, c_q43), (a_k, (pKept R.S ten (y_x28.1, y_x28.2)).length, c_k))]).length cp57, .pointer (some ⟨n9, 0, none⟩), .pointer (some ⟨n9, 3, none⟩), .int .i64 (i + 1)], rfl⟩
    ·rw [decide_eq_false c17_2]
     refine AWp.condF rfl rfl ?_
     refine AWp.skip (AWp.rowV (l := _) pok ?_)
     refine sq.c (v := .int .i64 (i + 1)) rfl rfl (okI (wrap_i64 (by omega) (by omega))) rfl ?_
     refine sq.c (v := .int .i64 (i + 1)) rfl rfl rfl rfl ?_
     refine sq.e ?_
     have he : pKept R.S ten y_x28 = [] := List.eq_nil_of_length_eq_zero (show (pKept R.S ten (y_x28.1, y_x28.2)).length = 0 by omega)
     refine ⟨_, _, rfl, by omega, i + 1, stepT ten R y_x28, Gk, os, a_o, cp_o, rfl, hs, hn, hf, hb_, hf_, hgk, hS, hb1, hb5, hb40, (by rw [show (stepT ten R y_x28).ks = _ from if_pos he]; exact D), R_o, d_o_b, d_o_f, d_o_g, d_o_n, d_o_n3, d_o_n9, okk, (by omega), (by omega), (by rw [take_snoc hi0 hy_x28, foldT_snoc, ← hR]), (by rw [show N + 6000 * (i + 1).toNat = N + 6000 * i.toNat + 6000 by omega]; exact hinv2.put hmb.1 (hmb.2 _ (List.mem_of_getElem? hy_x28)).1 hsx), (Int.add_nonneg hbd0 hpb.1), (show R.bad + pBad R.S ten (y_x28.1, y_x28.2) ≤ _ by omega), (by omega), getV [undef, undef, undef, undef, undef, undef, undef, undef, undef, .pointer (some ⟨n20, 0, none⟩), .slice a_k (pKept R.S ten (y_x28.1, y_x28.2)).length c_k, .int .i64 (pBad R.S ten (y_x28.1, y_x28.2)), undef, undef, undef, undef, undef, undef, undef, undef, undef, undef, undef, undef, undef, undef, undef, undef, undef, undef, undef, undef, undef, undef, undef, undef, undef, undef, undef, undef, undef, undef, undef, undef, undef, undef, undef, undef, undef, undef, undef, undef, undef, undef, undef, undef, undef, undef, undef, undef, undef, undef, undef, undef, undef, undef, .bool true, .pointer (some ⟨b21, o22, none⟩), .agg #[.slice a1_x28 (y_x28.1.length) c1_x28, .slice a2_x28 (y_x28.2.length) c2_x28], .tuple #[.slice a_k (pKept R.S ten (y_x28.1, y_x28.2)).length c_k, .int .i64 (pBad R.S ten (y_x28.1, y_x28.2))], .pointer (some ⟨b, 0, none⟩), .pointer (some ⟨n, 0, none⟩), .string (ten), .agg #[.slice a1_x28 (y_x28.1.length) c1_x28, .slice a2_x28 (y_x28.2.length) c2_x28], .tuple #[.slice a_k (pKept R.S ten (y_x28.1, y_x28.2)).length c_k, .int .i64 (pBad R.S ten (y_x28.1, y_x28.2))], .slice a_k (pKept R.S ten (y_x28.1, y_x28.2)).length c_k, .int .i64 (pBad R.S ten (y_x28.1, y_x28.2)), .pointer (some ⟨n9, 4, none⟩), .int .i64 (R.bad), .int .i64 (pBad R.S ten (y_x28.1, y_x28.2)), .int .i64 (R.bad + (pBad R.S ten (y_x28.1, y_x28.2))), .pointer (some ⟨n9, 4, none⟩), .slice a_k (pKept R.S ten (y_x28.1, y_x28.2)).length c_k, .int .i64 ((((pKept R.S ten (y_x28.1, y_x28.2)).length : Nat) : Int)), .bool false, (y18 85), (y18 86), (y18 87), (y18 88), (y18 89), (y18 90), (y18 91), (y18 92), (y18 93), (y18 94), (y18 95), (y18 96), .int .i64 (i + 1)], rfl⟩
   ·rw [decide_eq_false c13_0]
    refine AWp.condF rfl rfl ?_
    refine AWp.exit ?_
    refine AWp.seq (AWp.rowV (l := _) pok ?_)
    refine sq.c (v := .agg #[.string (ten), .string (clu), .int .i64 (epo), .slice a_o (os.length) cp_o, .int .i64 (R.bad), .bool false]) rfl rfl (ldA (P := Tryd.prog) (t := 33) (p := 0) (k := 6) (xs := [.string (ten), .string (clu), .int .i64 (epo), .slice a_o (os.length) cp_o, .int .i64 (R.bad), .bool false]) (by kernel_rfl) (by kernel_rfl) hb14 rfl (Nat.le_of_ble_eq_true rfl)) rfl ?_
    refine sq.op rfl rfl (Does.store (k := 6) (xs := [.string (ten), .string (clu), .int .i64 (epo), .slice a_o (os.length) cp_o, .int .i64 (R.bad), .bool false]) (cs' := [.string (ten), .string (clu), .int .i64 (epo), .slice a_o (os.length) cp_o, .int .i64 (R.bad), .bool false]) hf (by kernel_rfl) rfl rfl rfl hb5 rfl rfl (Nat.le_of_ble_eq_true rfl) rfl) ?_
    rintro _ h63 n64 ⟨rfl, hb62⟩ s65 hn2 hf
    refine sq.w0 ?_
    have hS := hS.keep (.own s65 hb5 rfl)
    have D := D.keep (.own s65 hb5 rfl)
    have R_o := R_o.but s65 (fun c hc hm => d_o_n3 c hc (List.mem_singleton.1 hm))
    have hf_ := s65.get1 (e_f_n3) hf_
    have hg_ := s65.get1 (e_g_n3) hg_
    have hs := hs.fresh z_n3 s65
    have hn := Nat.le_trans hn hn2
    refine sq.c (v := .int .i64 (0)) rfl rfl rfl rfl ?_
    refine sq.e ?_
    refine AWp.ret ?_
    refine ⟨rfl, [.agg #[.string (ten), .string (clu), .int .i64 (epo), .slice a_o (os.length) cp_o, .int .i64 (R.bad), .bool false], .int .i64 (0)], (res_cellC (ldA (P := Tryd.prog) (t := 33) (p := 0) (k := 6) (xs := [.string (ten), .string (clu), .int .i64 (epo), .slice a_o (os.length) cp_o, .int .i64 (R.bad), .bool false]) (by kernel_rfl) (by kernel_rfl) hb62 rfl (Nat.le_of_ble_eq_true rfl)) rfl), .tuple #[.agg #[.string (ten), .string (clu), .int .i64 (epo), .slice a_o (os.length) cp_o, .int .i64 (R.bad), .bool false], .int .i64 (0)], rfl, hs, hn, ?_⟩
    rw [show i.toNat = ss.length by omega, List.take_length] at hR
    rw [show takeR F kf S kg ⟨ten, clu, epo, ss⟩ = takeOk F kf ⟨ten, clu, epo, ss⟩ R false by unfold takeR; rw [if_neg (by rw [c3_1]; simp)]; dsimp only; rw [if_pos c6_2, ← hR]]
    exact ⟨_, _, _, rfl, R_o, D, hf_, hg_, okF, okg2, hS⟩
  ·rw [decide_eq_false c6_2]
   refine AWp.condT rfl rfl ?_
   refine AWp.seq (AWp.rowV (l := _) pok ?_)
   refine sq.c (v := .pointer (some ⟨n, 0, none⟩)) rfl rfl (by kernel_rfl) rfl ?_
   refine sq.c (v := .string (ten)) rfl rfl (ld1 (P := Tryd.prog) (t := 9) (p := 0) (v := .string (ten)) (by kernel_rfl) (by kernel_rfl) hb1 rfl) rfl ?_
   refine sq.c (v := .pointer (some ⟨n, 1, none⟩)) rfl rfl (by kernel_rfl) rfl ?_
   refine sq.c (v := .string (clu)) rfl rfl (ld1 (P := Tryd.prog) (t := 9) (p := 1) (v := .string (clu)) (by kernel_rfl) (by kernel_rfl) hb1 rfl) rfl ?_
   refine sq.c (v := .agg #[.string (ten), .string (clu)]) rfl rfl (by kernel_rfl) rfl ?_
   have e_b_n16 : b ≠ n16 := hf.ne hb_
   have e_f_n16 : f ≠ n16 := hf.ne hf_
   have e_g_n16 : g ≠ n16 := hf.ne hg_
   have e_n_n16 : n ≠ n16 := hf.ne hb1
   have e_n3_n16 : n3 ≠ n16 := hf.ne hb5
   have e_n9_n16 : n9 ≠ n16 := hf.ne hb14
   have z_n16 : h.get n16 = none := hf0 _ hn
   refine sq.op rfl rfl (Does.alloc (cs := [.string (⟨#[]⟩), .string (⟨#[]⟩)]) hf (z := .agg #[.string (⟨#[]⟩), .string (⟨#[]⟩)]) (by kernel_rfl) rfl) ?_
   rintro _ h67 n68 ⟨rfl, hb66⟩ s69 hn2 hf
   refine sq.w ?_
   have hS := hS.keep (.of0 s69)
   have hb_ := s69.sub _ _ hb_
   have hf_ := s69.sub _ _ hf_
   have hg_ := s69.sub _ _ hg_
   have hb1 := s69.sub _ _ hb1
   have hb5 := s69.sub _ _ hb5
   have hb14 := s69.sub _ _ hb14
   have hs := hs.trans (s69.mono (by simp))
   have hn := Nat.le_trans hn hn2
   refine sq.op rfl rfl (Does.store (k := 2) (xs := [.string (ten), .string (clu)]) (cs' := [.string (ten), .string (clu)]) hf (by kernel_rfl) rfl rfl rfl hb66 rfl rfl (Nat.le_of_ble_eq_true rfl) rfl) ?_
   rintro _ h71 n72 ⟨rfl, hb70⟩ s73 hn2 hf
   refine sq.w0 ?_
   have hS := hS.keep (.own s73 hb66 rfl)
   have hb_ := s73.get1 (e_b_n16) hb_
   have hf_ := s73.get1 (e_f_n16) hf_
   have hg_ := s73.get1 (e_g_n16) hg_
   have hb1 := s73.get1 (e_n_n16) hb1
   have hb5 := s73.get1 (e_n3_n16) hb5
   have hb14 := s73.get1 (e_n9_n16) hb14
   have hs := hs.fresh z_n16 s73
   have hn := Nat.le_trans hn hn2
   refine sq.e (AWp.seq (AWp.seq ?_))
   refine AWp.anyK pok [0, 1, 2, 3, 4, 5, 6, 7, 8] (by kernel_rfl) (by kernel_rfl) rfl (fun x fr fr' h n hd _ q => ⟨hd ▸ q.1, q.2⟩) ?_
   refine dk.c (v := .pointer (some ⟨n, 2, none⟩)) rfl (by kernel_rfl) rfl rfl (by kernel_rfl) rfl ?_
   refine dk.gB (v := .int .i64 (epo)) n rfl (by kernel_rfl) rfl rfl (fun _ q_ => (ld1 (P := Tryd.prog) (t := 2) (p := 2) (v := .int .i64 (epo)) (by kernel_rfl) (by kernel_rfl) (q_ _ hb1) rfl)) rfl ?_
   refine dk.c (v := .pointer (some ⟨b, 0, none⟩)) rfl (by kernel_rfl) rfl rfl rfl rfl ?_
   refine dk.c (v := .pointer (some ⟨b, 0, none⟩)) rfl (by kernel_rfl) rfl rfl rfl rfl ?_
   refine dk.c (v := .pointer (some ⟨b, 0, none⟩)) rfl (by kernel_rfl) rfl rfl (by kernel_rfl) rfl ?_
   refine dk.gB (v := .map (some f)) b rfl (by kernel_rfl) rfl rfl (fun _ q_ => (ld1 (P := Tryd.prog) (t := 66) (p := 0) (v := .map (some f)) (by kernel_rfl) (by kernel_rfl) (q_ _ hb_) rfl)) rfl ?_
   refine dk.gB (v := .agg #[.string (ten), .string (clu)]) n16 rfl (by kernel_rfl) rfl rfl (fun _ q_ => (ldA (P := Tryd.prog) (t := 73) (p := 0) (k := 2) (xs := [.string (ten), .string (clu)]) (by kernel_rfl) (by kernel_rfl) (q_ _ hb70) rfl (Nat.le_of_ble_eq_true rfl))) rfl ?_
   refine dk.gB (v := .int .i64 (((mget F (ten, clu)).getD 0))) f rfl (by kernel_rfl) rfl rfl (fun _ q_ => (lk (P := Tryd.prog) (K := plV) (V := intV) (kt := 73) (el := 2) (t := 66) (k := (ten, clu)) (d := (0 : Int)) Tryd.underlying66 keyPl (by kernel_rfl) rfl (q_ _ hf_))) rfl ?_
   refine dk.c (v := .bool (decide (epo < (((mget F (ten, clu)).getD 0))))) rfl (by kernel_rfl) rfl rfl rfl rfl ?_
   refine dk.e ?_
   by_cases c8_8 : epo < (((mget F (ten, clu)).getD 0))
   ·rw [decide_eq_true c8_8]
    refine AWp.condT rfl rfl ?_
    refine AWp.seq (AWp.rowV (l := _) pok ?_)
    refine sq.c (v := .agg #[.string (⟨#[]⟩), .string (⟨#[]⟩), .int .i64 (0), .slice none (0) (0), .int .i64 (0), .bool false]) rfl rfl (by kernel_rfl) rfl ?_
    refine sq.op rfl rfl (Does.store (k := 6) (xs := [.string (⟨#[]⟩), .string (⟨#[]⟩), .int .i64 (0), .slice none (0) (0), .int .i64 (0), .bool false]) (cs' := [.string (⟨#[]⟩), .string (⟨#[]⟩), .int .i64 (0), .slice none (0) (0), .int .i64 (0), .bool false]) hf (by kernel_rfl) rfl rfl rfl hb5 rfl rfl (Nat.le_of_ble_eq_true rfl) rfl) ?_
    rintro _ h75 n76 ⟨rfl, hb74⟩ s77 hn2 hf
    refine sq.w0 ?_
    have hS := hS.keep (.own s77 hb5 rfl)
    have hf_ := s77.get1 (e_f_n3) hf_
    have hg_ := s77.get1 (e_g_n3) hg_
    have hs := hs.fresh z_n3 s77
    have hn := Nat.le_trans hn hn2
    refine sq.c (v := .int .i64 (61)) rfl rfl rfl rfl ?_
    refine sq.e ?_
    refine AWp.ret ?_
    refine ⟨rfl, [.agg #[.string (⟨#[]⟩), .string (⟨#[]⟩), .int .i64 (0), .slice none (0) (0), .int .i64 (0), .bool false], .int .i64 (61)], (res_cellC (ldA (P := Tryd.prog) (t := 33) (p := 0) (k := 6) (xs := [.string (⟨#[]⟩), .string (⟨#[]⟩), .int .i64 (0), .slice none (0) (0), .int .i64 (0), .bool false]) (by kernel_rfl) (by kernel_rfl) hb74 rfl (Nat.le_of_ble_eq_true rfl)) rfl), .tuple #[.agg #[.string (⟨#[]⟩), .string (⟨#[]⟩), .int .i64 (0), .slice none (0) (0), .int .i64 (0), .bool false], .int .i64 (61)], rfl, hs, hn, ?_⟩
    rw [show takeR F kf S kg ⟨ten, clu, epo, ss⟩ = takeNo 61 F kf S kg by unfold takeR; rw [if_neg (by rw [c3_1]; simp)]; dsimp only; rw [if_neg c6_2, if_pos c8_8]]
    exact ⟨_, _, _, rfl, OwnRow.nil, FSers.nil _, hf_, hg_, okF, okG, hS⟩
   ·rw [decide_eq_false c8_8]
    refine AWp.condF rfl rfl ?_
    refine AWp.skip (AWp.seq ?_)
    refine AWp.anyK pok [0, 1, 2, 3, 4, 5, 6, 7, 8, 9, 10] (by kernel_rfl) (by kernel_rfl) rfl (fun x fr fr' h n hd _ q => ⟨hd ▸ q.1, q.2⟩) ?_
    refine dk.c (v := .pointer (some ⟨n, 2, none⟩)) rfl (by kernel_rfl) rfl rfl (by kernel_rfl) rfl ?_
    refine dk.gB (v := .int .i64 (epo)) n rfl (by kernel_rfl) rfl rfl (fun _ q_ => (ld1 (P := Tryd.prog) (t := 2) (p := 2) (v := .int .i64 (epo)) (by kernel_rfl) (by kernel_rfl) (q_ _ hb1) rfl)) rfl ?_
    refine dk.c (v := .pointer (some ⟨b, 0, none⟩)) rfl (by kernel_rfl) rfl rfl rfl rfl ?_
    refine dk.c (v := .pointer (some ⟨b, 0, none⟩)) rfl (by kernel_rfl) rfl rfl rfl rfl ?_
    refine dk.c (v := .pointer (some ⟨b, 0, none⟩)) rfl (by kernel_rfl) rfl rfl (by kernel_rfl) rfl ?_
    refine dk.gB (v := .map (some f)) b rfl (by kernel_rfl) rfl rfl (fun _ q_ => (ld1 (P := Tryd.prog) (t := 66) (p := 0) (v := .map (some f)) (by kernel_rfl) (by kernel_rfl) (q_ _ hb_) rfl)) rfl ?_
    refine dk.gB (v := .agg #[.string (ten), .string (clu)]) n16 rfl (by kernel_rfl) rfl rfl (fun _ q_ => (ldA (P := Tryd.prog) (t := 73) (p := 0) (k := 2) (xs := [.string (ten), .string (clu)]) (by kernel_rfl) (by kernel_rfl) (q_ _ hb70) rfl (Nat.le_of_ble_eq_true rfl))) rfl ?_
    refine dk.gB (v := .int .i64 (((mget F (ten, clu)).getD 0))) f rfl (by kernel_rfl) rfl rfl (fun _ q_ => (lk (P := Tryd.prog) (K := plV) (V := intV) (kt := 73) (el := 2) (t := 66) (k := (ten, clu)) (d := (0 : Int)) Tryd.underlying66 keyPl (by kernel_rfl) rfl (q_ _ hf_))) rfl ?_
    refine dk.c (v := .bool (decide ((((mget F (ten, clu)).getD 0)) < epo))) rfl (by kernel_rfl) rfl rfl rfl rfl ?_
    refine dk.c (v := .pointer (some ⟨n9, 5, none⟩)) rfl (by kernel_rfl) rfl rfl (by kernel_rfl) rfl ?_
    refine dk.op rfl (by kernel_rfl) rfl rfl (Does.store (k := 1) (xs := [.bool (decide ((((mget F (ten, clu)).getD 0)) < epo))]) (cs' := [.string (ten), .string (clu), .int .i64 (epo), .slice none (0) (0), .int .i64 (0), .bool (decide ((((mget F (ten, clu)).getD 0)) < epo))]) hf (by kernel_rfl) rfl rfl rfl hb14 rfl rfl (Nat.le_of_ble_eq_true rfl) rfl) (keepC (fun hm => e_f_n9 (List.mem_singleton.1 hm)) (keepC (fun hm => Ne.symm e_n9_n16 (List.mem_singleton.1 hm)) (keepC (fun hm => e_b_n9 (List.mem_singleton.1 hm)) (keepC (fun hm => e_n_n9 (List.mem_singleton.1 hm)) keepN)))) ?_
    rintro _ h79 n80 ⟨rfl, hb78⟩ s81 hn2 hf
    refine dk.w0 ?_
    have hS := hS.keep (.own s81 hb14 rfl)
    have hb_ := s81.get1 (e_b_n9) hb_
    have hf_ := s81.get1 (e_f_n9) hf_
    have hg_ := s81.get1 (e_g_n9) hg_
    have hb1 := s81.get1 (e_n_n9) hb1
    have hb5 := s81.get1 (e_n3_n9) hb5
    have hb70 := s81.get1 (Ne.symm e_n9_n16) hb70
    have hs := hs.fresh z_n9 s81
    have hn := Nat.le_trans hn hn2
    refine dk.e ?_
    refine AWp.anyK pok [0, 1, 2, 3, 4, 5, 6, 7] (by kernel_rfl) (by kernel_rfl) rfl (fun x fr fr' h n hd _ q => ⟨hd ▸ q.1, q.2⟩) ?_
    refine dk.c (v := .pointer (some ⟨b, 0, none⟩)) rfl (by kernel_rfl) rfl rfl rfl rfl ?_
    refine dk.c (v := .pointer (some ⟨b, 0, none⟩)) rfl (by kernel_rfl) rfl rfl rfl rfl ?_
    refine dk.c (v := .pointer (some ⟨b, 0, none⟩)) rfl (by kernel_rfl) rfl rfl (by kernel_rfl) rfl ?_
    refine dk.gB (v := .map (some f)) b rfl (by kernel_rfl) rfl rfl (fun _ q_ => (ld1 (P := Tryd.prog) (t := 66) (p := 0) (v := .map (some f)) (by kernel_rfl) (by kernel_rfl) (q_ _ hb_) rfl)) rfl ?_
    refine dk.gB (v := .agg #[.string (ten), .string (clu)]) n16 rfl (by kernel_rfl) rfl rfl (fun _ q_ => (ldA (P := Tryd.prog) (t := 73) (p := 0) (k := 2) (xs := [.string (ten), .string (clu)]) (by kernel_rfl) (by kernel_rfl) (q_ _ hb70) rfl (Nat.le_of_ble_eq_true rfl))) rfl ?_
    refine dk.c (v := .pointer (some ⟨n, 2, none⟩)) rfl (by kernel_rfl) rfl rfl (by kernel_rfl) rfl ?_
    refine dk.gB (v := .int .i64 (epo)) n rfl (by kernel_rfl) rfl rfl (fun _ q_ => (ld1 (P := Tryd.prog) (t := 2) (p := 2) (v := .int .i64 (epo)) (by kernel_rfl) (by kernel_rfl) (q_ _ hb1) rfl)) rfl ?_
    refine dk.op rfl (by kernel_rfl) rfl rfl (Does.mapSet (K := plV) (V := intV) (k := (ten, clu)) (v := epo) hf Tryd.underlying66 keyPl rfl rfl rfl rfl rfl hf_) (keepC (fun hm => Ne.symm e_f_n (List.mem_singleton.1 hm)) (keepC (fun hm => Ne.symm e_f_n16 (List.mem_singleton.1 hm)) (keepC (fun hm => ne_b_f (List.mem_singleton.1 hm)) keepN))) ?_
    rintro _ h84 n85 ⟨rfl, hb82⟩ s86 hn2 hf
    refine dk.w0 ?_
    have hS := hS.keep (.own s86 hf_ rfl)
    have hb_ := s86.get1 (ne_b_f) hb_
    have hg_ := s86.get1 (Ne.symm ne_f_g) hg_
    have hb1 := s86.get1 (Ne.symm e_f_n) hb1
    have hb5 := s86.get1 (Ne.symm e_f_n3) hb5
    have hb78 := s86.get1 (Ne.symm e_f_n9) hb78
    have hb70 := s86.get1 (Ne.symm e_f_n16) hb70
    have hs := hs.at (by simp) s86
    have hn := Nat.le_trans hn hn2
    have ok83 := (okF).set (ten, clu) epo
    refine dk.e (AWp.seq (AWp.seq (AWp.rowV (l := _) pok ?_)))
    refine sq.c (v := .pointer (some ⟨n, 3, none⟩)) rfl rfl (by kernel_rfl) rfl ?_
    refine sq.c (v := .slice a (rs.length) cp) rfl rfl (ld1 (P := Tryd.prog) (t := 29) (p := 3) (v := .slice a (rs.length) cp) (by kernel_rfl) (by kernel_rfl) hb1 rfl) rfl ?_
    refine sq.c (v := .int .i64 (((rs.length : Nat) : Int))) rfl rfl (by kernel_rfl) rfl ?_
    refine sq.c (v := .int .i64 (0)) rfl rfl rfl rfl ?_
    refine sq.e (AWp.block ?_)
    have hmb := mayBat_parts c3_1
    refine AWp.loopV (fun d vs h88 n89 => ∃ (i : Int) (R : TSt) (G' : SM) (os : List (Hdr × Hdr)) (a_o : Option Addr) (cp_o : Nat), d = ((rs.length : Nat) - i + 1).toNat ∧ SubBut h h88 ([f, g]) ∧ n ≤ n89 ∧ Free h88 n89 ∧ h88.get b = some (.cells [.map (some f), .map (some g)] true c) ∧ h88.get f = some (.map (mapE plV intV (mset F kf (ten, clu) epo)) (mck F kf (ten, clu))) ∧ h88.get g = some (.map (mapE plV ownV G') R.ck) ∧ SMIs h88 G' R.S ∧ h88.get n = some (.cells [.string (ten), .string (clu), .int .i64 (epo), .slice a (rs.length) cp] true ⟨31, 0, true⟩) ∧ h88.get n3 = some (.cells [.string (⟨#[]⟩), .string (⟨#[]⟩), .int .i64 (0), .slice none (0) (0), .int .i64 (0), .bool false] true ⟨33, 0, true⟩) ∧ h88.get n9 = some (.cells [.string (ten), .string (clu), .int .i64 (epo), .slice a_o (os.length) cp_o, .int .i64 (R.bad), .bool (decide ((((mget F (ten, clu)).getD 0)) < epo))] true ⟨33, 0, true⟩) ∧ h88.get n16 = some (.cells [.string (ten), .string (clu)] true ⟨73, 0, true⟩) ∧ FSers h88 (os.map serV) R.ks ∧ OwnRow encSerO 43 h h88 (.slice a_o (os).length cp_o) (os) ∧ (∀ c ∈ blkOf (.slice a_o (os).length cp_o), c ≠ b) ∧ (∀ c ∈ blkOf (.slice a_o (os).length cp_o), c ≠ f) ∧ (∀ c ∈ blkOf (.slice a_o (os).length cp_o), c ≠ g) ∧ (∀ c ∈ blkOf (.slice a_o (os).length cp_o), c ≠ n) ∧ (∀ c ∈ blkOf (.slice a_o (os).length cp_o), c ≠ n3) ∧ (∀ c ∈ blkOf (.slice a_o (os).length cp_o), c ≠ n9) ∧ (∀ c ∈ blkOf (.slice a_o (os).length cp_o), c ≠ n16) ∧ MOk G' R.ck ∧ (0 ≤ i) ∧ (i ≤ (rs.length : Nat)) ∧ (R = foldT ten ⟨S, kg, [], 0⟩ (ss.take i.toNat)) ∧ (InvS (N + 6000 * i.toNat) R.S) ∧ (0 ≤ R.bad) ∧ (R.bad ≤ 6000 * i) ∧ (os.length ≤ i.toNat) ∧ ∃ y87 : Nat → Value, vs = [.pointer (some ⟨b, 0, none⟩), .agg #[.string (ten), .string (clu), .int .i64 (epo), .slice a (rs.length) cp], undef, .pointer (some ⟨n, 0, none⟩), .pointer (some ⟨n3, 0, none⟩), .int .i64 (0), .pointer (some ⟨n9, 0, none⟩), .pointer (some ⟨n16, 0, none⟩), undef, (y87 9), (y87 10), (y87 11), .pointer (some ⟨b, 0, none⟩), .bool false, undef, .agg #[.string (ten), .string (clu), .int .i64 (epo), .slice a (rs.length) cp], .bool true, .bool false, undef, .pointer (some ⟨n, 0, none⟩), .string (ten), .pointer (some ⟨n, 1, none⟩), .string (clu), .pointer (some ⟨n, 2, none⟩), .int .i64 (epo), .agg #[.string (ten), .string (clu), .int .i64 (epo), .slice none (0) (0)], .agg #[.string (ten), .string (clu), .int .i64 (epo), .slice none (0) (0), .int .i64 (0), .bool false], .pointer (some ⟨n, 1, none⟩), .string (clu), .bool true, .pointer (some ⟨n, 0, none⟩), .string (ten), .pointer (some ⟨n, 1, none⟩), .string (clu), .agg #[.string (ten), .string (clu)], .pointer (some ⟨n, 2, none⟩), .int .i64 (epo), .pointer (some ⟨b, 0, none⟩), .pointer (some ⟨b, 0, none⟩), .pointer (some ⟨b, 0, none⟩), .map (some f), .agg #[.string (ten), .string (clu)], .int .i64 (((mget F (ten, clu)).getD 0)), .bool false, undef, .pointer (some ⟨n, 2, none⟩), .int .i64 (epo), .pointer (some ⟨b, 0, none⟩), .pointer (some ⟨b, 0, none⟩), .pointer (some ⟨b, 0, none⟩), .map (some f), .agg #[.string (ten), .string (clu)], .int .i64 (((mget F (ten, clu)).getD 0)), .bool (decide ((((mget F (ten, clu)).getD 0)) < epo)), .pointer (some ⟨n9, 5, none⟩), .pointer (some ⟨b, 0, none⟩), .pointer (some ⟨b, 0, none⟩), .pointer (some ⟨b, 0, none⟩), .map (some f), .agg #[.string (ten), .string (clu)], .pointer (some ⟨n, 2, none⟩), .int .i64 (epo), .pointer (some ⟨n, 3, none⟩), .slice a (rs.length) cp, .int .i64 (((rs.length : Nat) : Int)), .int .i64 (i), (y87 66), (y87 67), (y87 68), (y87 69), (y87 70), (y87 71), (y87 72), (y87 73), (y87 74), (y87 75), (y87 76), (y87 77), (y87 78), (y87 79), (y87 80), (y87 81), (y87 82), (y87 83), (y87 84), (y87 85), (y87 86), (y87 87), (y87 88), (y87 89), (y87 90), (y87 91), (y87 92), (y87 93), (y87 94), (y87 95), (y87 96), (y87 97), undef]) (((rs.length : Nat) - (0 : Int) + 1).toNat) ⟨0, ⟨S, kg, [], 0⟩, G, [], none, 0, rfl, hs, hn, hf, hb_, hb82, hg_, hS, hb1, hb5, hb78, hb70, (FSers.nil _), OwnRow.nil, (by simp [blkOf]), (by simp [blkOf]), (by simp [blkOf]), (by simp [blkOf]), (by simp [blkOf]), (by simp [blkOf]), (by simp [blkOf]), okG, (by omega), (by omega), (rfl), (hinv), (Int.le_refl 0), (Int.le_refl 0), (Nat.le_refl 0), getV [undef, undef, undef, undef, undef, undef, undef, undef, undef, undef, undef, undef, undef, undef, undef, undef, undef, undef, undef, undef, undef, undef, undef, undef, undef, undef, undef, undef, undef, undef, undef, undef, undef, undef, undef, undef, undef, undef, undef, undef, undef, undef, undef, undef, undef, undef, undef, undef, undef, undef, undef, undef, undef, undef, undef, undef, undef, undef, undef, undef, undef, undef, undef, undef, undef, undef, undef, undef, undef, undef, undef, undef, undef, undef, undef, undef, undef, undef, undef, undef, undef, undef, undef, undef, undef, undef, undef, undef, undef, undef, undef, undef, undef, undef, undef, undef, undef, undef], rfl⟩ ?_
    rintro d vs h88 n89 ⟨i, R, G', os, a_o, cp_o, rfl, hs, hn, hf, hb_, hb82, hg_, hS, hb1, hb5, hb78, hb70, D, R_o, d_o_b, d_o_f, d_o_g, d_o_n, d_o_n3, d_o_n9, d_o_n16, okg2, hi0, hi1, hR, hinv2, hbd0, hbd1, hol, y87, rfl⟩
    refine AWp.seq (AWp.rowV (l := _) pok ?_)
    refine sq.c (v := .bool (decide (i < (((rs.length : Nat) : Int))))) rfl rfl rfl rfl ?_
    refine sq.e (AWp.seq ?_)
    by_cases c13_0 : i < (((rs.length : Nat) : Int))
    ·rw [decide_eq_true c13_0]
     refine AWp.condT rfl rfl ?_
     refine AWp.skip (AWp.seq (AWp.block (AWp.seq (AWp.rowV (l := _) pok ?_))))
     have i96 : (0 : Int) ≤ (i : Int) := by omega
     obtain ⟨x97, hx_x97⟩ : ∃ x, (rs)[((i : Int)).toNat]? = some x := ⟨_, List.getElem?_eq_getElem (by omega)⟩
     obtain ⟨y_x97, hy_x97, L_x97, M_x97⟩ := hd.at hx_x97
     obtain ⟨v1_x97, v2_x97⟩ := x97
     obtain ⟨a1_x97, c1_x97, rfl⟩ := (show IsRow encLab _ v1_x97 y_x97.1 from L_x97).slice
     obtain ⟨a2_x97, c2_x97, rfl⟩ := (show IsRow encSmp _ v2_x97 y_x97.2 from M_x97).slice
     obtain ⟨b90, o91, cs_b90, ow_b90, ci_b90, ie95, hb92, hc93, hr94⟩ := IsRow.at (P := Tryd.prog) (t := 29) (e := 43) (k := .i64) (by kernel_rfl) (by kernel_rfl) (isRow_noc hr hs hNC) i96 hx_x97
     refine sq.c (v := .pointer (some ⟨b90, o91, none⟩)) rfl rfl ie95 rfl ?_
     refine sq.c (v := .agg #[.slice a1_x97 (y_x97.1.length) c1_x97, .slice a2_x97 (y_x97.2.length) c2_x97]) rfl rfl (ldR (P := Tryd.prog) (t := 43) (k := 2) (xs := [.slice a1_x97 (y_x97.1.length) c1_x97, .slice a2_x97 (y_x97.2.length) c2_x97]) (by kernel_rfl) (by kernel_rfl) hr94) rfl ?_
     have e_b_n89 : b ≠ n89 := hf.ne hb_
     have e_f_n89 : f ≠ n89 := hf.ne hb82
     have e_g_n89 : g ≠ n89 := hf.ne hg_
     have e_n_n89 : n ≠ n89 := hf.ne hb1
     have e_n3_n89 : n3 ≠ n89 := hf.ne hb5
     have e_n9_n89 : n9 ≠ n89 := hf.ne hb78
     have e_n16_n89 : n16 ≠ n89 := hf.ne hb70
     have d_o_n89 : ∀ c ∈ blkOf (.slice a_o (os).length cp_o), c ≠ n89 := fun c hc e => R_o.ne' (hf _ (Nat.le_refl _)) c hc (List.mem_singleton.2 e)
     have z_n89 : h.get n89 = none := hf0 _ hn
     refine sq.op rfl rfl (Does.alloc (cs := [.slice none (0) (0), .slice none (0) (0)]) hf (z := .agg #[.slice none (0) (0), .slice none (0) (0)]) (by kernel_rfl) rfl) ?_
     rintro _ h99 n100 ⟨rfl, hb98⟩ s101 hn2 hf
     refine sq.w ?_
     have hS := hS.keep (.of0 s101)
     have D := D.keep (.of0 s101)
     have R_o := R_o.keep s101
     have hb_ := s101.sub _ _ hb_
     have hb82 := s101.sub _ _ hb82
     have hg_ := s101.sub _ _ hg_
     have hb1 := s101.sub _ _ hb1
     have hb5 := s101.sub _ _ hb5
     have hb78 := s101.sub _ _ hb78
     have hb70 := s101.sub _ _ hb70
     have hs := hs.trans (s101.mono (by simp))
     have hn := Nat.le_trans hn hn2
     refine sq.op rfl rfl (Does.store (k := 2) (xs := [.slice a1_x97 (y_x97.1.length) c1_x97, .slice a2_x97 (y_x97.2.length) c2_x97]) (cs' := [.slice a1_x97 (y_x97.1.length) c1_x97, .slice a2_x97 (y_x97.2.length) c2_x97]) hf (by kernel_rfl) rfl rfl rfl hb98 rfl rfl (Nat.le_of_ble_eq_true rfl) rfl) ?_
     rintro _ h103 n104 ⟨rfl, hb102⟩ s105 hn2 hf
     refine sq.w0 ?_
     have hS := hS.keep (.own s105 hb98 rfl)
     have D := D.keep (.own s105 hb98 rfl)
     have R_o := R_o.but s105 (fun c hc hm => d_o_n89 c hc (List.mem_singleton.1 hm))
     have hb_ := s105.get1 (e_b_n89) hb_
     have hb82 := s105.get1 (e_f_n89) hb82
     have hg_ := s105.get1 (e_g_n89) hg_
     have hb1 := s105.get1 (e_n_n89) hb1
     have hb5 := s105.get1 (e_n3_n89) hb5
     have hb78 := s105.get1 (e_n9_n89) hb78
     have hb70 := s105.get1 (e_n16_n89) hb70
     have hs := hs.fresh z_n89 s105
     have hn := Nat.le_trans hn hn2
     refine sq.e (AWp.seq (AWp.rowV (l := _) pok ?_))
     refine sq.c (v := .pointer (some ⟨b, 0, none⟩)) rfl rfl rfl rfl ?_
     refine sq.c (v := .pointer (some ⟨n, 0, none⟩)) rfl rfl (by kernel_rfl) rfl ?_
     refine sq.c (v := .string (ten)) rfl rfl (ld1 (P := Tryd.prog) (t := 9) (p := 0) (v := .string (ten)) (by kernel_rfl) (by kernel_rfl) hb1 rfl) rfl ?_
     refine sq.c (v := .agg #[.slice a1_x97 (y_x97.1.length) c1_x97, .slice a2_x97 (y_x97.2.length) c2_x97]) rfl rfl (ldA (P := Tryd.prog) (t := 43) (p := 0) (k := 2) (xs := [.slice a1_x97 (y_x97.1.length) c1_x97, .slice a2_x97 (y_x97.2.length) c2_x97]) (by kernel_rfl) (by kernel_rfl) hb102 rfl (Nat.le_of_ble_eq_true rfl)) rfl ?_
     have hsx := hsm.2 _ (List.mem_of_getElem? hy_x97)
     refine sq.k rfl (CallsF.fn rfl (by kernel_rfl) rfl rfl) (putSt _ _ _ hb_ hb82 hg_ ok83 okg2 hS ne_f_g ten _ _ (isRow_noc L_x97 hs hNC) (isRow_noc M_x97 hs hNC) hsx hinv2 (by omega)) ?_
     rintro _ h106 n107 ⟨v_k, Gk, rfl, F_k, hgk, okk, sm_k⟩ s108 hn2 hf
     obtain ⟨a_k, c_k, rfl⟩ := F_k.slice
     refine sq.w ?_
     have D := D.keep (.own s108 hg_ rfl)
     have R_o := R_o.but s108 (fun c hc hm => d_o_g c hc (List.mem_singleton.1 hm))
     have hb_ := s108.get1 (ne_b_g) hb_
     have hb82 := s108.get1 (ne_f_g) hb82
     have hb1 := s108.get1 (Ne.symm e_g_n) hb1
     have hb5 := s108.get1 (Ne.symm e_g_n3) hb5
     have hb78 := s108.get1 (Ne.symm e_g_n9) hb78
     have hb70 := s108.get1 (Ne.symm e_g_n16) hb70
     have hb102 := s108.get1 (Ne.symm e_g_n89) hb102
     have hs := hs.at (by simp) s108
     have hn := Nat.le_trans hn hn2
     have hpb : 0 ≤ pBad R.S ten (y_x97.1, y_x97.2) ∧ pBad R.S ten (y_x97.1, y_x97.2) ≤ (y_x97.2.length : Nat) := pBad_le R.S ten (y_x97.1, y_x97.2)
     have hsx2 : y_x97.2.length < 6000 := hsx.2.1
     have hS := sm_k
     refine sq.c (v := .tuple #[.slice a_k (pKept R.S ten (y_x97.1, y_x97.2)).length c_k, .int .i64 (pBad R.S ten (y_x97.1, y_x97.2))]) rfl rfl rfl rfl ?_
     refine sq.c (v := .slice a_k (pKept R.S ten (y_x97.1, y_x97.2)).length c_k) rfl rfl rfl rfl ?_
     refine sq.c (v := .int .i64 (pBad R.S ten (y_x97.1, y_x97.2))) rfl rfl rfl rfl ?_
     refine sq.c (v := .slice a_k (pKept R.S ten (y_x97.1, y_x97.2)).length c_k) rfl rfl rfl rfl ?_
     refine sq.c (v := .int .i64 (pBad R.S ten (y_x97.1, y_x97.2))) rfl rfl rfl rfl ?_
     refine sq.e (AWp.seq (AWp.rowV (l := _) pok ?_))
     refine sq.c (v := .pointer (some ⟨n9, 4, none⟩)) rfl rfl (by kernel_rfl) rfl ?_
     refine sq.c (v := .int .i64 (R.bad)) rfl rfl (ld1 (P := Tryd.prog) (t := 3) (p := 4) (v := .int .i64 (R.bad)) (by kernel_rfl) (by kernel_rfl) hb78 rfl) rfl ?_
     refine sq.c (v := .int .i64 (pBad R.S ten (y_x97.1, y_x97.2))) rfl rfl rfl rfl ?_
     refine sq.c (v := .int .i64 (R.bad + (pBad R.S ten (y_x97.1, y_x97.2)))) rfl rfl (okI (wrap_i64 (by have := hpb.1; omega) (by have := hpb.2; omega))) rfl ?_
     refine sq.c (v := .pointer (some ⟨n9, 4, none⟩)) rfl rfl (by kernel_rfl) rfl ?_
     refine sq.op rfl rfl (Does.store (k := 1) (xs := [.int .i64 (R.bad + (pBad R.S ten (y_x97.1, y_x97.2)))]) (cs' := [.string (ten), .string (clu), .int .i64 (epo), .slice a_o (os.length) cp_o, .int .i64 (R.bad + (pBad R.S ten (y_x97.1, y_x97.2))), .bool (decide ((((mget F (ten, clu)).getD 0)) < epo))]) hf (by kernel_rfl) rfl rfl rfl hb78 rfl rfl (Nat.le_of_ble_eq_true rfl) rfl) ?_
     rintro _ h110 n111 ⟨rfl, hb109⟩ s112 hn2 hf
     refine sq.w0 ?_
     have D := D.keep (.own s112 hb78 rfl)
     have R_o := R_o.but s112 (fun c hc hm => d_o_n9 c hc (List.mem_singleton.1 hm))
     have hS := hS.keep (.own s112 hb78 rfl)
     have F_k := F_k.keep (.own s112 hb78 rfl)
     have hb_ := s112.get1 (e_b_n9) hb_
     have hb82 := s112.get1 (e_f_n9) hb82
     have hgk := s112.get1 (e_g_n9) hgk
     have hb1 := s112.get1 (e_n_n9) hb1
     have hb5 := s112.get1 (e_n3_n9) hb5
     have hb70 := s112.get1 (Ne.symm e_n9_n16) hb70
     have hb102 := s112.get1 (Ne.symm e_n9_n89) hb102
     have hs := hs.fresh z_n9 s112
     have hn := Nat.le_trans hn hn2
     refine sq.e (AWp.seq (AWp.rowV (l := _) pok ?_))
     refine sq.c (v := .slice a_k (pKept R.S ten (y_x97.1, y_x97.2)).length c_k) rfl rfl rfl rfl ?_
     refine sq.c (v := .int .i64 ((((pKept R.S ten (y_x97.1, y_x97.2)).length : Nat) : Int))) rfl rfl (by kernel_rfl) rfl ?_
     refine sq.c (v := .bool (decide ((0 : Int) < ((((pKept R.S ten (y_x97.1, y_x97.2)).length : Nat) : Int))))) rfl rfl rfl rfl ?_
     refine sq.e ?_
     by_cases c17_2 : (0 : Int) < ((((pKept R.S ten (y_x97.1, y_x97.2)).length : Nat) : Int))
     ·rw [decide_eq_true c17_2]
      refine AWp.condT rfl rfl ?_
      refine AWp.anyJ pok [0, 1, 2, 3, 4, 6, 5, 7, 8, 9, 10, 11, 12] (by kernel_rfl) (by kernel_rfl) rfl (fun x fr fr' h n hd _ q => ⟨hd ▸ q.1, q.2⟩) ?_
      refine dj.c (v := .pointer (some ⟨n9, 0, none⟩)) rfl (by kernel_rfl) rfl rfl (by kernel_rfl) rfl ?_
      refine dj.c (v := .pointer (some ⟨n9, 3, none⟩)) rfl (by kernel_rfl) rfl rfl (by kernel_rfl) rfl ?_
      refine dj.gB (v := .slice a_o (os.length) cp_o) n9 rfl (by kernel_rfl) rfl rfl (fun _ q_ => (ld1 (P := Tryd.prog) (t := 29) (p := 3) (v := .slice a_o (os.length) cp_o) (by kernel_rfl) (by kernel_rfl) (q_ _ hb109) rfl)) rfl ?_
      refine dj.c (v := .pointer (some ⟨n89, 0, none⟩)) rfl (by kernel_rfl) rfl rfl (by kernel_rfl) rfl ?_
      refine dj.gB (v := .slice a1_x97 (y_x97.1.length) c1_x97) n89 rfl (by kernel_rfl) rfl rfl (fun _ q_ => (ld1 (P := Tryd.prog) (t := 40) (p := 0) (v := .slice a1_x97 (y_x97.1.length) c1_x97) (by kernel_rfl) (by kernel_rfl) (q_ _ hb102) rfl)) rfl ?_
      refine dj.c (v := .slice a_k (pKept R.S ten (y_x97.1, y_x97.2)).length c_k) rfl (by kernel_rfl) rfl rfl rfl rfl ?_
      refine dj.k rfl (by kernel_rfl) rfl (CallsF.fn rfl (by kernel_rfl) rfl rfl) (cloneLFz _ (isRow_noc L_x97 hs hNC) (by have := hsx.1; omega)) (keepJD (by kernel_rfl) (keepJC (by simp) keepJN)) ?_
      rintro v_q112 h113 n114 R_q112 s115 hn2 hf
      obtain ⟨a_q112, c_q112, rfl⟩ := R_q112.slice
      refine dj.w ?_
      have D := D.keep (.of0 s115)
      have R_o := R_o.keep s115
      have hS := hS.keep (.of0 s115)
      have F_k := F_k.keep (.of0 s115)
      have hb_ := s115.sub _ _ hb_
      have hb82 := s115.sub _ _ hb82
      have hgk := s115.sub _ _ hgk
      have hb1 := s115.sub _ _ hb1
      have hb5 := s115.sub _ _ hb5
      have hb109 := s115.sub _ _ hb109
      have hb70 := s115.sub _ _ hb70
      have hb102 := s115.sub _ _ hb102
      have hs := hs.trans (s115.mono (by simp))
      have hn := Nat.le_trans hn hn2
      refine dj.c (v := .agg #[.slice a_q112 (y_x97.1).length c_q112, .slice a_k (pKept R.S ten (y_x97.1, y_x97.2)).length c_k]) rfl (by kernel_rfl) rfl rfl (by kernel_rfl) rfl ?_
      have d_o_n114 : ∀ c ∈ blkOf (.slice a_o (os).length cp_o), c ≠ n114 := fun c hc e => R_o.ne' (hf _ (Nat.le_refl _)) c hc (List.mem_singleton.2 e)
      refine dj.op rfl (by kernel_rfl) rfl rfl (Does.build (e := 43) (cs := [.slice a_q112 (y_x97.1).length c_q112, .slice a_k (pKept R.S ten (y_x97.1, y_x97.2)).length c_k]) hf (fun _ _ => by kernel_rfl)) (keepJC (by simp) (keepJC (by simp) keepJN)) ?_
      rintro _ h117 n118 ⟨rfl, hb116⟩ s119 hn2 hf
      refine dj.w ?_
      have D := D.keep (.of0 s119)
      have R_o := R_o.keep s119
      have hS := hS.keep (.of0 s119)
      have F_k := F_k.keep (.of0 s119)
      have R_q112 := R_q112.keep (.of0 s119)
      have hb_ := s119.sub _ _ hb_
      have hb82 := s119.sub _ _ hb82
      have hgk := s119.sub _ _ hgk
      have hb1 := s119.sub _ _ hb1
      have hb5 := s119.sub _ _ hb5
      have hb109 := s119.sub _ _ hb109
      have hb70 := s119.sub _ _ hb70
      have hb102 := s119.sub _ _ hb102
      have hs := hs.trans (s119.mono (by simp))
      have hn := Nat.le_trans hn hn2
      have hz0 : h.get n118 = none := hf0 _ hn
      have hfo := hf
      have hFo := R_o.ours
      refine dj.op rfl (by kernel_rfl) rfl rfl (Does.append (E := encSerO) (xs := os) (ys := [((a_q112, (y_x97.1).length, c_q112), (a_k, (pKept R.S ten (y_x97.1, y_x97.2)).length, c_k))]) appSerO ⟨.slice 43, by kernel_rfl, fun _ q => by cases q⟩ hf hs R_o (IsRow.of (E := encSerO) (xs := [((a_q112, (y_x97.1).length, c_q112), (a_k, (pKept R.S ten (y_x97.1, y_x97.2)).length, c_k))]) (cap := 1) hb116 (Nat.le_refl _)) rfl rfl (by have := hsx.1; simp only [List.length_cons, List.length_nil]; omega) (by have := hsx.1; simp only [List.length_cons, List.length_nil]; omega) hz0) (keepJC (fun hm => d_o_n89 _ hm rfl) (keepJD (by kernel_rfl) keepJN)) ?_
      rintro v123 h120 n121 ⟨R_o, hs, hB124⟩ s122 hn2 hf
      refine dj.w ?_
      have dn_o_b : ∀ c ∈ blkOf v123, c ≠ b := fun c hc => (hB124 c hc).elim (fun q => d_o_b c q) (fun q => by rw [q]; exact (hfo.ne hb_).symm)
      have dn_o_f : ∀ c ∈ blkOf v123, c ≠ f := fun c hc => (hB124 c hc).elim (fun q => d_o_f c q) (fun q => by rw [q]; exact (hfo.ne hb82).symm)
      have dn_o_g : ∀ c ∈ blkOf v123, c ≠ g := fun c hc => (hB124 c hc).elim (fun q => d_o_g c q) (fun q => by rw [q]; exact (hfo.ne hgk).symm)
      have dn_o_n : ∀ c ∈ blkOf v123, c ≠ n := fun c hc => (hB124 c hc).elim (fun q => d_o_n c q) (fun q => by rw [q]; exact (hfo.ne hb1).symm)
      have dn_o_n3 : ∀ c ∈ blkOf v123, c ≠ n3 := fun c hc => (hB124 c hc).elim (fun q => d_o_n3 c q) (fun q => by rw [q]; exact (hfo.ne hb5).symm)
      have dn_o_n9 : ∀ c ∈ blkOf v123, c ≠ n9 := fun c hc => (hB124 c hc).elim (fun q => d_o_n9 c q) (fun q => by rw [q]; exact (hfo.ne hb109).symm)
      have dn_o_n16 : ∀ c ∈ blkOf v123, c ≠ n16 := fun c hc => (hB124 c hc).elim (fun q => d_o_n16 c q) (fun q => by rw [q]; exact (hfo.ne hb70).symm)
      have dn_o_n89 : ∀ c ∈ blkOf v123, c ≠ n89 := fun c hc => (hB124 c hc).elim (fun q => d_o_n89 c q) (fun q => by rw [q]; exact (hfo.ne hb102).symm)
      have dn_o_n114 : ∀ c ∈ blkOf v123, c ≠ n114 := fun c hc => (hB124 c hc).elim (fun q => d_o_n114 c q) (fun q => by rw [q]; exact (hfo.ne hb116).symm)
      have ours_s122 := hFo
      have hb_ := s122 _ _ (fun hm => d_o_b _ hm rfl) hb_
      have hb82 := s122 _ _ (fun hm => d_o_f _ hm rfl) hb82
      have hgk := s122 _ _ (fun hm => d_o_g _ hm rfl) hgk
      have hb1 := s122 _ _ (fun hm => d_o_n _ hm rfl) hb1
      have hb5 := s122 _ _ (fun hm => d_o_n3 _ hm rfl) hb5
      have hb109 := s122 _ _ (fun hm => d_o_n9 _ hm rfl) hb109
      have hb70 := s122 _ _ (fun hm => d_o_n16 _ hm rfl) hb70
      have D := D.keep (.of s122 ours_s122)
      have hb102 := s122 _ _ (fun hm => d_o_n89 _ hm rfl) hb102
      have hS := hS.keep (.of s122 ours_s122)
      have F_k := F_k.keep (.of s122 ours_s122)
      have R_q112 := R_q112.keep (.of s122 ours_s122)
      have hb116 := s122 _ _ (fun hm => d_o_n114 _ hm rfl) hb116
      have d_o_b := dn_o_b
      have d_o_f := dn_o_f
      have d_o_g := dn_o_g
      have d_o_n := dn_o_n
      have d_o_n3 := dn_o_n3
      have d_o_n9 := dn_o_n9
      have d_o_n16 := dn_o_n16
      have d_o_n89 := dn_o_n89
      have d_o_n114 := dn_o_n114
      obtain ⟨a125, cp126, rfl⟩ := R_o.slice
      have hn := Nat.le_trans hn hn2
      refine dj.c (v := .pointer (some ⟨n9, 0, none⟩)) rfl (by kernel_rfl) rfl rfl (by kernel_rfl) rfl ?_
      refine dj.c (v := .pointer (some ⟨n9, 3, none⟩)) rfl (by kernel_rfl) rfl rfl (by kernel_rfl) rfl ?_
      refine dj.op rfl (by kernel_rfl) rfl rfl (Does.store (k := 1) (xs := [.slice a125 (os ++ [((a_q112, (y_x97.1).length, c_q112), (a_k, (pKept R.S ten (y_x97.1, y_x97.2)).length, c_k))]).length cp126]) (cs' := [.string (ten), .string (clu), .int .i64 (epo), .slice a125 (os ++ [((a_q112, (y_x97.1).length, c_q112), (a_k, (pKept R.S ten (y_x97.1, y_x97.2)).length, c_k))]).length cp126, .int .i64 (R.bad + (pBad R.S ten (y_x97.1, y_x97.2))), .bool (decide ((((mget F (ten, clu)).getD 0)) < epo))]) hf (by kernel_rfl) rfl rfl rfl hb109 rfl rfl (Nat.le_of_ble_eq_true rfl) rfl) (keepJD (by kernel_rfl) (keepJD (by kernel_rfl) keepJN)) ?_
      rintro _ h128 n129 ⟨rfl, hb127⟩ s130 hn2 hf
      refine dj.w0 ?_
      have D := D.keep (.own s130 hb109 rfl)
      have hS := hS.keep (.own s130 hb109 rfl)
      have F_k := F_k.keep (.own s130 hb109 rfl)
      have R_q112 := R_q112.keep (.own s130 hb109 rfl)
      have R_o := R_o.but s130 (fun c hc hm => d_o_n9 c hc (List.mem_singleton.1 hm))
      have hb_ := s130.get1 (e_b_n9) hb_
      have hb82 := s130.get1 (e_f_n9) hb82
      have hgk := s130.get1 (e_g_n9) hgk
      have hb1 := s130.get1 (e_n_n9) hb1
      have hb5 := s130.get1 (e_n3_n9) hb5
      have hb70 := s130.get1 (Ne.symm e_n9_n16) hb70
      have hs := hs.fresh z_n9 s130
      have hn := Nat.le_trans hn hn2
      refine dj.e ?_
      refine AWp.rowV (l := _) pok ?_
      refine sq.c (v := .int .i64 (i + 1)) rfl rfl (okI (wrap_i64 (by omega) (by omega))) rfl ?_
      refine sq.c (v := .int .i64 (i + 1)) rfl rfl rfl rfl ?_
      refine sq.e ?_
      have hne : ¬ pKept R.S ten y_x97 = [] := fun e => by rw [show pKept R.S ten (y_x97.1, y_x97.2) = [] from e] at c17_2; simp at c17_2
      refine ⟨_, _, rfl, by omega, i + 1, stepT ten R y_x97, Gk, os ++ [((a_q112, (y_x97.1).length, c_q112), (a_k, (pKept R.S ten (y_x97.1, y_x97.2)).length, c_k))], a125, cp126, rfl, hs, hn, hf, hb_, hb82, hgk, hS, hb1, hb5, hb127, hb70, (by rw [show (stepT ten R y_x97).ks = _ from if_neg hne]; exact FSers.snocO D ⟨R_q112, F_k⟩), R_o, d_o_b, d_o_f, d_o_g, d_o_n, d_o_n3, d_o_n9, d_o_n16, okk, (by omega), (by omega), (by rw [take_snoc hi0 hy_x97, foldT_snoc, ← hR]), (by rw [show N + 6000 * (i + 1).toNat = N + 6000 * i.toNat + 6000 by omega]; exact hinv2.put hmb.1 (hmb.2 _ (List.mem_of_getElem? hy_x97)).1 hsx), (Int.add_nonneg hbd0 hpb.1), (show R.bad + pBad R.S ten (y_x97.1, y_x97.2) ≤ _ by omega), (by simp only [List.length_append, List.length_cons, List.length_nil]; omega), getV [undef, undef, undef, undef, undef, undef, undef, undef, undef, .pointer (some ⟨n89, 0, none⟩), .slice a_k (pKept R.S ten (y_x97.1, y_x97.2)).length c_k, .int .i64 (pBad R.S ten (y_x97.1, y_x97.2)), undef, undef, undef, undef, undef, undef, undef, undef, undef, undef, undef, undef, undef, undef, undef, undef, undef, undef, undef, undef, undef, undef, undef, undef, undef, undef, undef, undef, undef, undef, undef, undef, undef, undef, undef, undef, undef, undef, undef, undef, undef, undef, undef, undef, undef, undef, undef, undef, undef, undef, undef, undef, undef, undef, .bool true, .pointer (some ⟨b90, o91, none⟩), .agg #[.slice a1_x97 (y_x97.1.length) c1_x97, .slice a2_x97 (y_x97.2.length) c2_x97], .tuple #[.slice a_k (pKept R.S ten (y_x97.1, y_x97.2)).length c_k, .int .i64 (pBad R.S ten (y_x97.1, y_x97.2))], .pointer (some ⟨b, 0, none⟩), .pointer (some ⟨n, 0, none⟩), .string (ten), .agg #[.slice a1_x97 (y_x97.1.length) c1_x97, .slice a2_x97 (y_x97.2.length) c2_x97], .tuple #[.slice a_k (pKept R.S ten (y_x97.1, y_x97.2)).length c_k, .int .i64 (pBad R.S ten (y_x97.1, y_x97.2))], .slice a_k (pKept R.S ten (y_x97.1, y_x97.2)).length c_k, .int .i64 (pBad R.S ten (y_x97.1, y_x97.2)), .pointer (some ⟨n9, 4, none⟩), .int .i64 (R.bad), .int .i64 (pBad R.S ten (y_x97.1, y_x97.2)), .int .i64 (R.bad + (pBad R.S ten (y_x97.1, y_x97.2))), .pointer (some ⟨n9, 4, none⟩), .slice a_k (pKept R.S ten (y_x97.1, y_x97.2)).length c_k, .int .i64 ((((pKept R.S ten (y_x97.1, y_x97.2)).length : Nat) : Int)), .bool true, .pointer (some ⟨n9, 0, none⟩), .pointer (some ⟨n9, 3, none⟩), .slice a_o (os.length) cp_o, .pointer (some ⟨n89, 0, none⟩), .slice a1_x97 (y_x97.1.length) c1_x97, .slice a_q112 (y_x97.1).length c_q112, .slice a_k (pKept R.S ten (y_x97.1, y_x97.2)).length c_k, .agg #[.slice a_q112 (y_x97.1).length c_q112, .slice a_k (pKept R.S ten (y_x97.1, y_x97.2)).length c_k], .slice (some ⟨n114, 0, none⟩) (1) (1), .slice a125 (os ++ [((a_q112, (y_x97.1).length, c_q112), (a_k, (pKept R.S ten (y_x97.1, y_x97.2)).length, c_k))]).length cp126, .pointer (some ⟨n9, 0, none⟩), .pointer (some ⟨n9, 3, none⟩), .int .i64 (i + 1)], rfl⟩
     ·rw [decide_eq_false c17_2]
      refine AWp.condF rfl rfl ?_
      refine AWp.skip (AWp.rowV (l := _) pok ?_)
      refine sq.c (v := .int .i64 (i + 1)) rfl rfl (okI (wrap_i64 (by omega) (by omega))) rfl ?_
      refine sq.c (v := .int .i64 (i + 1)) rfl rfl rfl rfl ?_
      refine sq.e ?_
      have he : pKept R.S ten y_x97 = [] := List.eq_nil_of_length_eq_zero (show (pKept R.S ten (y_x97.1, y_x97.2)).length = 0 by omega)
      refine ⟨_, _, rfl, by omega, i + 1, stepT ten R y_x97, Gk, os, a_o, cp_o, rfl, hs, hn, hf, hb_, hb82, hgk, hS, hb1, hb5, hb109, hb70, (by rw [show (stepT ten R y_x97).ks = _ from if_pos he]; exact D), R_o, d_o_b, d_o_f, d_o_g, d_o_n, d_o_n3, d_o_n9, d_o_n16, okk, (by omega), (by omega), (by rw [take_snoc hi0 hy_x97, foldT_snoc, ← hR]), (by rw [show N + 6000 * (i + 1).toNat = N + 6000 * i.toNat + 6000 by omega]; exact hinv2.put hmb.1 (hmb.2 _ (List.mem_of_getElem? hy_x97)).1 hsx), (Int.add_nonneg hbd0 hpb.1), (show R.bad + pBad R.S ten (y_x97.1, y_x97.2) ≤ _ by omega), (by omega), getV [undef, undef, undef, undef, undef, undef, undef, undef, undef, .pointer (some ⟨n89, 0, none⟩), .slice a_k (pKept R.S ten (y_x97.1, y_x97.2)).length c_k, .int .i64 (pBad R.S ten (y_x97.1, y_x97.2)), undef, undef, undef, undef, undef, undef, undef, undef, undef, undef, undef, undef, undef, undef, undef, undef, undef, undef, undef, undef, undef, undef, undef, undef, undef, undef, undef, undef, undef, undef, undef, undef, undef, undef, undef, undef, undef, undef, undef, undef, undef, undef, undef, undef, undef, undef, undef, undef, undef, undef, undef, undef, undef, undef, .bool true, .pointer (some ⟨b90, o91, none⟩), .agg #[.slice a1_x97 (y_x97.1.length) c1_x97, .slice a2_x97 (y_x97.2.length) c2_x97], .tuple #[.slice a_k (pKept R.S ten (y_x97.1, y_x97.2)).length c_k, .int .i64 (pBad R.S ten (y_x97.1, y_x97.2))], .pointer (some ⟨b, 0, none⟩), .pointer (some ⟨n, 0, none⟩), .string (ten), .agg #[.slice a1_x97 (y_x97.1.length) c1_x97, .slice a2_x97 (y_x97.2.length) c2_x97], .tuple #[.slice a_k (pKept R.S ten (y_x97.1, y_x97.2)).length c_k, .int .i64 (pBad R.S ten (y_x97.1, y_x97.2))], .slice a_k (pKept R.S ten (y_x97.1, y_x97.2)).length c_k, .int .i64 (pBad R.S ten (y_x97.1, y_x97.2)), .pointer (some ⟨n9, 4, none⟩), .int .i64 (R.bad), .int .i64 (pBad R.S ten (y_x97.1, y_x97.2)), .int .i64 (R.bad + (pBad R.S ten (y_x97.1, y_x97.2))), .pointer (some ⟨n9, 4, none⟩), .slice a_k (pKept R.S ten (y_x97.1, y_x97.2)).length c_k, .int .i64 ((((pKept R.S ten (y_x97.1, y_x97.2)).length : Nat) : Int)), .bool false, (y87 85), (y87 86), (y87 87), (y87 88), (y87 89), (y87 90), (y87 91), (y87 92), (y87 93), (y87 94), (y87 95), (y87 96), .int .i64 (i + 1)], rfl⟩
    ·rw [decide_eq_false c13_0]
     refine AWp.condF rfl rfl ?_
     refine AWp.exit ?_
     refine AWp.seq (AWp.rowV (l := _) pok ?_)
     refine sq.c (v := .agg #[.string (ten), .string (clu), .int .i64 (epo), .slice a_o (os.length) cp_o, .int .i64 (R.bad), .bool (decide ((((mget F (ten, clu)).getD 0)) < epo))]) rfl rfl (ldA (P := Tryd.prog) (t := 33) (p := 0) (k := 6) (xs := [.string (ten), .string (clu), .int .i64 (epo), .slice a_o (os.length) cp_o, .int .i64 (R.bad), .bool (decide ((((mget F (ten, clu)).getD 0)) < epo))]) (by kernel_rfl) (by kernel_rfl) hb78 rfl (Nat.le_of_ble_eq_true rfl)) rfl ?_
     refine sq.op rfl rfl (Does.store (k := 6) (xs := [.string (ten), .string (clu), .int .i64 (epo), .slice a_o (os.length) cp_o, .int .i64 (R.bad), .bool (decide ((((mget F (ten, clu)).getD 0)) < epo))]) (cs' := [.string (ten), .string (clu), .int .i64 (epo), .slice a_o (os.length) cp_o, .int .i64 (R.bad), .bool (decide ((((mget F (ten, clu)).getD 0)) < epo))]) hf (by kernel_rfl) rfl rfl rfl hb5 rfl rfl (Nat.le_of_ble_eq_true rfl) rfl) ?_
     rintro _ h132 n133 ⟨rfl, hb131⟩ s134 hn2 hf
     refine sq.w0 ?_
     have hS := hS.keep (.own s134 hb5 rfl)
     have D := D.keep (.own s134 hb5 rfl)
     have R_o := R_o.but s134 (fun c hc hm => d_o_n3 c hc (List.mem_singleton.1 hm))
     have hb82 := s134.get1 (e_f_n3) hb82
     have hg_ := s134.get1 (e_g_n3) hg_
     have hs := hs.fresh z_n3 s134
     have hn := Nat.le_trans hn hn2
     refine sq.c (v := .int .i64 (0)) rfl rfl rfl rfl ?_
     refine sq.e ?_
     refine AWp.ret ?_
     refine ⟨rfl, [.agg #[.string (ten), .string (clu), .int .i64 (epo), .slice a_o (os.length) cp_o, .int .i64 (R.bad), .bool (decide ((((mget F (ten, clu)).getD 0)) < epo))], .int .i64 (0)], (res_cellC (ldA (P := Tryd.prog) (t := 33) (p := 0) (k := 6) (xs := [.string (ten), .string (clu), .int .i64 (epo), .slice a_o (os.length) cp_o, .int .i64 (R.bad), .bool (decide ((((mget F (ten, clu)).getD 0)) < epo))]) (by kernel_rfl) (by kernel_rfl) hb131 rfl (Nat.le_of_ble_eq_true rfl)) rfl), .tuple #[.agg #[.string (ten), .string (clu), .int .i64 (epo), .slice a_o (os.length) cp_o, .int .i64 (R.bad), .bool (decide ((((mget F (ten, clu)).getD 0)) < epo))], .int .i64 (0)], rfl, hs, hn, ?_⟩
     rw [show i.toNat = ss.length by omega, List.take_length] at hR
     rw [show takeR F kf S kg ⟨ten, clu, epo, ss⟩ = takeOk (mset F kf (ten, clu) epo) (mck F kf (ten, clu)) ⟨ten, clu, epo, ss⟩ R (decide ((mget F (ten, clu)).getD 0 < epo)) by unfold takeR; rw [if_neg (by rw [c3_1]; simp)]; dsimp only; rw [if_neg c6_2, if_neg c8_8, ← hR]]
     exact ⟨_, _, _, rfl, R_o, D, hb82, hg_, ok83, okg2, hS⟩
 ·rw [c3_1]
  refine sq.c (v := .bool true) rfl rfl rfl rfl ?_
  refine sq.e ?_
  refine AWp.condT rfl rfl ?_
  refine AWp.seq (AWp.rowV (l := _) pok ?_)
  refine sq.c (v := .agg #[.string (⟨#[]⟩), .string (⟨#[]⟩), .int .i64 (0), .slice none (0) (0), .int .i64 (0), .bool false]) rfl rfl (by kernel_rfl) rfl ?_
  refine sq.op rfl rfl (Does.store (k := 6) (xs := [.string (⟨#[]⟩), .string (⟨#[]⟩), .int .i64 (0), .slice none (0) (0), .int .i64 (0), .bool false]) (cs' := [.string (⟨#[]⟩), .string (⟨#[]⟩), .int .i64 (0), .slice none (0) (0), .int .i64 (0), .bool false]) hf (by kernel_rfl) rfl rfl rfl hb5 rfl rfl (Nat.le_of_ble_eq_true rfl) rfl) ?_
  rintro _ h136 n137 ⟨rfl, hb135⟩ s138 hn2 hf
  refine sq.w0 ?_
  have hS := hS.keep (.own s138 hb5 rfl)
  have hf_ := s138.get1 (e_f_n3) hf_
  have hg_ := s138.get1 (e_g_n3) hg_
  have hs := hs.fresh z_n3 s138
  have hn := Nat.le_trans hn hn2
  refine sq.c (v := .int .i64 (4)) rfl rfl rfl rfl ?_
  refine sq.e ?_
  refine AWp.ret ?_
  refine ⟨rfl, [.agg #[.string (⟨#[]⟩), .string (⟨#[]⟩), .int .i64 (0), .slice none (0) (0), .int .i64 (0), .bool false], .int .i64 (4)], (res_cellC (ldA (P := Tryd.prog) (t := 33) (p := 0) (k := 6) (xs := [.string (⟨#[]⟩), .string (⟨#[]⟩), .int .i64 (0), .slice none (0) (0), .int .i64 (0), .bool false]) (by kernel_rfl) (by kernel_rfl) hb135 rfl (Nat.le_of_ble_eq_true rfl)) rfl), .tuple #[.agg #[.string (⟨#[]⟩), .string (⟨#[]⟩), .int .i64 (0), .slice none (0) (0), .int .i64 (0), .bool false], .int .i64 (4)], rfl, hs, hn, ?_⟩
  rw [show takeR F kf S kg ⟨ten, clu, epo, ss⟩ = takeNo 4 F kf S kg by unfold takeR; rw [if_pos c3_1]]
  exact ⟨_, _, _, rfl, OwnRow.nil, FSers.nil _, hf_, hg_, okF, okG, hS⟩
end Go.Proofs.YtkpaklofdkjinaaDoor
namespace Go.Proofs.YtkpaklofdkjinaaDoor
open Go Go.Abs Go.RowKit Go.Shelf
set_option maxRecDepth 100000
set_option maxHeartbeats 8000000
theorem takeSt {h : Heap} {n : Nat} {b f g kf kg : Nat} {c : CI} (F : FM) (G : SM) (S : SP) (hb_ : h.get b = some (.cells [.map (some f), .map (some g)] true c)) (hf_ : h.get f = some (.map (mapE plV intV F) kf)) (hg_ : h.get g = some (.map (mapE plV ownV G) kg)) (okF : MOk F kf) (okG : MOk G kg) (hS : SMIs h G S) (ne_f_g : f ≠ g) {a : Option Addr} {cp N : Nat} (ten clu : ByteArray) (epo : Int) (rs : List RSer) (ss : List Ser) (hr : IsRow encSer h (.slice a rs.length cp) rs) (hd : SersIs h rs ss) (hld : Laid0 h) (hsm : Smalls ss) (q1 : ten.data.toList.length < 9223372036854775808) (q2 : clu.data.toList.length < 9223372036854775808) (hinv : InvS N S) (hN : N + 7200000 < 1000000000000) {R : TkR} (hR : R = takeR F kf S kg ⟨ten, clu, epo, ss⟩) :
    Makes Tryd.prog 13 [.pointer (some ⟨b, 0, none⟩), .agg #[.string ten, .string clu, .int .i64 epo, .slice a rs.length cp]] h n [f, g] fun v h2 _ => ∃ w os G2, v = .tuple #[.agg #[.string R.kb.ten, .string R.kb.clu, .int .i64 R.kb.epo, w, .int .i64 R.bad, .bool R.rose], .int .i64 R.e] ∧ FRow encSer h2 w os ∧ FSers h2 os R.kb.ser ∧ h2.get f = some (.map (mapE plV intV R.F) R.kf) ∧ h2.get g = some (.map (mapE plV ownV G2) R.kg) ∧ MOk R.F R.kf ∧ MOk G2 R.kg ∧ SMIs h2 G2 R.S := by
  subst hR
  refine makes_weaken (takeX_spec F G S hb_ hf_ hg_ okF okG hS ne_f_g ten clu epo rs ss hr hd hld hsm q1 q2 hinv hN) ?_
  rintro v h2 n2 hs hn hf ⟨w, os, G2, rfl, q, d, hf2, hg2, ok1, ok2, sm⟩
  obtain ⟨h3, w3, fr, k3, s3⟩ := q.freeze
  exact ⟨h3, w3, q.fresh hs s3, w, os.map serV, G2, rfl, FRow.ser fr, d.keep k3, s3 _ _ (OwnRow.notmap q hf2) hf2, s3 _ _ (OwnRow.notmap q hg2) hg2, ok1, ok2, sm.keep k3⟩
theorem MOk.one {κ ν : Type} {L : List (κ × ν × Nat)} {ck : Nat} (o : MOk L ck) {x y : κ × ν × Nat} (hx : x ∈ L) (hy : y ∈ L) (e : x.2.2 = y.2.2) : x = y := by
  have h := o.stamps
  clear o
  induction L with
  | nil => cases hx
  | cons a L ih =>
    simp only [List.map_cons, List.nodup_cons, List.mem_map] at h
    rcases List.mem_cons.1 hx with e1 | hx1
    · rcases List.mem_cons.1 hy with e2 | hy2
      · rw [e1, e2]
      · exact absurd ⟨y, hy2, by rw [← e, e1]⟩ h.1
    · rcases List.mem_cons.1 hy with e2 | hy2
      · exact absurd ⟨x, hx1, by rw [e, e2]⟩ h.1
      · exact ih hx1 hy2 h.2
theorem filter_lt {α : Type} {p q : α → Bool} (h : ∀ x, q x = true → p x = true) : ∀ {L : List α} {x : α}, x ∈ L → p x = true → q x = false → (L.filter q).length < (L.filter p).length := by
  have le : ∀ L : List α, (L.filter q).length ≤ (L.filter p).length := by
    intro L
    induction L with
    | nil => exact Nat.le_refl _
    | cons a L ih =>
      by_cases ha : q a = true
      · rw [List.filter_cons_of_pos ha, List.filter_cons_of_pos (h a ha)]; simpa using ih
      · rw [List.filter_cons_of_neg ha]
        by_cases hb : p a = true
        · rw [List.filter_cons_of_pos hb, List.length_cons]; omega
        · rw [List.filter_cons_of_neg hb]; exact ih
  intro L
  induction L with
  | nil => intro x hx; cases hx
  | cons a L ih =>
    intro x hx h1 h2
    rcases List.mem_cons.1 hx with rfl | hx
    · rw [List.filter_cons_of_neg (by rw [h2]; simp), List.filter_cons_of_pos h1, List.length_cons]
      have := le L; omega
    · have := ih hx h1 h2
      by_cases ha : q a = true
      · rw [List.filter_cons_of_pos ha, List.filter_cons_of_pos (h a ha)]; simpa using this
      · rw [List.filter_cons_of_neg ha]
        by_cases hb : p a = true
        · rw [List.filter_cons_of_pos hb, List.length_cons]; omega
        · rw [List.filter_cons_of_neg hb]; exact this
def left {κ ν : Type} (L : List (κ × ν × Nat)) (seen : List Nat) : Nat := (L.filter fun x => decide (x.2.2 ∉ seen)).length
theorem left_lt {κ ν : Type} {L : List (κ × ν × Nat)} {seen : List Nat} {x : κ × ν × Nat} (hx : x ∈ L) (hn : x.2.2 ∉ seen) : left L (seen ++ [x.2.2]) < left L seen :=
  filter_lt (fun y hy => by simp only [decide_eq_true_eq, List.mem_append, not_or] at hy ⊢; exact hy.1) hx (by simpa using hn) (by simp)
def eqM (F E : FM) : Bool := decide (F.length = E.length) && F.all fun x => decide (mget E x.1 = some x.2.1)
def eqSt (S T : SP) : Bool := decide (S.length = T.length) && S.all fun x => decide ((mget T x.1).map (fun s => s.2) = some x.2.1.2)
theorem SMIs.mem {h : Heap} {G : SM} {S : SP} (q : SMIs h G S) {x : Pl × OV × Nat} (hx : x ∈ G) : ∃ s, (x.1, s, x.2.2) ∈ S ∧ FSer h x.2.1 s := by
  obtain ⟨i, hi⟩ := List.getElem?_of_mem hx
  have hl : i < S.length := by rw [← q.1]; exact (List.getElem?_eq_some_iff.1 hi).1
  have hs : S[i]? = some S[i] := List.getElem?_eq_getElem hl
  obtain ⟨e1, e2, e3⟩ := q.2 i _ _ hi hs
  refine ⟨S[i].2.1, ?_, e3⟩
  rw [e1, e2]
  exact List.getElem_mem hl
theorem SMIs.mem' {h : Heap} {G : SM} {S : SP} (q : SMIs h G S) {x : Pl × Ser × Nat} (hx : x ∈ S) : ∃ g, (x.1, g, x.2.2) ∈ G ∧ FSer h g x.2.1 := by
  obtain ⟨i, hi⟩ := List.getElem?_of_mem hx
  have hl : i < G.length := by rw [q.1]; exact (List.getElem?_eq_some_iff.1 hi).1
  have hs : G[i]? = some G[i] := List.getElem?_eq_getElem hl
  obtain ⟨e1, e2, e3⟩ := q.2 i _ _ hs hi
  refine ⟨G[i].2.1, ?_, e3⟩
  rw [← e1, ← e2]
  exact List.getElem_mem hl
theorem SMIs.some {h : Heap} {G : SM} {S : SP} (q : SMIs h G S) (k : Pl) : (mget G k).isSome = (mget S k).isSome := by
  rcases q.get k with ⟨a, b⟩ | ⟨v, s, a, b, _⟩ <;> rw [a, b] <;> rfl
theorem eqF_spec {h : Heap} {n : Nat} {f e kf ke : Nat} (F E : FM) (hf_ : h.get f = some (.map (mapE plV intV F) kf)) (he_ : h.get e = some (.map (mapE plV intV E) ke)) (okF : MOk F kf) (okE : MOk E ke) (q1 : F.length ≤ 1000000000000) (q2 : E.length ≤ 1000000000000) :
    Tells Tryd.prog 38 [.map (some f), .map (some e)] h n (.bool (eqM F E)) := by
 refine Makes.tells (Makes.free fun hf => ?_)
 have hs : SubBut h h ([]) := .refl _ _
 have hn : n ≤ n := Nat.le_refl _
 have hf0 := hf
 refine Makes.of_bodyV (args := [.map (some f), .map (some e)]) (vs := [.map (some f), .map (some e), undef, undef, undef, undef, undef, undef, undef, undef, undef, undef, undef, undef, undef, undef, undef, undef, undef, undef, undef, undef, undef, undef, undef, undef, undef, undef, undef, undef, undef, undef, undef, undef]) Tryd.func38 rfl rfl ?_
 refine AWp.seq (AWp.rowV (l := _) pok ?_)
 refine sq.c (v := .bool false) rfl rfl rfl rfl ?_
 refine sq.e (AWp.seq (AWp.seq (AWp.rowV (l := _) pok ?_)))
 refine sq.c (v := .map (some f)) rfl rfl rfl rfl ?_
 refine sq.c (v := .int .i64 (((F.length : Nat) : Int))) rfl rfl (lenM (P := Tryd.prog) (K := plV) (V := intV) (t := 66) Tryd.underlying66 hf_) rfl ?_
 refine sq.c (v := .map (some e)) rfl rfl rfl rfl ?_
 refine sq.c (v := .int .i64 (((E.length : Nat) : Int))) rfl rfl (lenM (P := Tryd.prog) (K := plV) (V := intV) (t := 66) Tryd.underlying66 he_) rfl ?_
 refine sq.c (v := .bool (!decide ((((F.length : Nat) : Int)) = (((E.length : Nat) : Int))))) rfl rfl rfl rfl ?_
 refine sq.e ?_
 by_cases c1_4 : (((F.length : Nat) : Int)) = (((E.length : Nat) : Int))
 ·rw [decide_eq_true c1_4]
  refine AWp.condF rfl rfl ?_
  refine AWp.skip (AWp.seq (AWp.seq (AWp.rowV (l := _) pok ?_)))
  refine sq.c (v := .map (some f)) rfl rfl rfl rfl ?_
  have e_f_n : f ≠ n := hf.ne hf_
  have e_e_n : e ≠ n := hf.ne he_
  have z_n : h.get n = none := hf0 _ hn
  refine sq.op rfl rfl (Does.rangeM hf Tryd.underlying66 rfl hf_) ?_
  rintro _ h2 n3 ⟨rfl, hb1⟩ s4 hn2 hf
  refine sq.w ?_
  have hf_ := s4.sub _ _ hf_
  have he_ := s4.sub _ _ he_
  have hs := hs.trans s4
  have hn := Nat.le_trans hn hn2
  refine sq.e (AWp.block ?_)
  refine AWp.loopV (fun d vs h6 n7 => ∃ (seen : List Nat), d = (left F seen + 1) ∧ SubBut h h6 ([]) ∧ n ≤ n7 ∧ Free h6 n7 ∧ h6.get f = some (.map (mapE plV intV F) kf) ∧ h6.get e = some (.map (mapE plV intV E) ke) ∧ h6.get n = some (.miter (some f) kf seen kf) ∧ (∀ x ∈ F, x.2.2 ∈ seen → mget E x.1 = some x.2.1) ∧ ∃ y5 : Nat → Value, vs = [.map (some f), .map (some e), undef, undef, (y5 4), (y5 5), (y5 6), (y5 7), (y5 8), .map (some f), .int .i64 (((F.length : Nat) : Int)), .map (some e), .int .i64 (((E.length : Nat) : Int)), .bool false, .map (some f), .pointer (some ⟨n, 0, none⟩), (y5 16), (y5 17), (y5 18), (y5 19), (y5 20), (y5 21), (y5 22), (y5 23), (y5 24), (y5 25), (y5 26), (y5 27), (y5 28), (y5 29), (y5 30), (y5 31), (y5 32), (y5 33)]) ((left F [] + 1)) ⟨[], rfl, hs, hn, hf, hf_, he_, hb1, (fun x _ hm => by cases hm), getV [undef, undef, undef, undef, .bool false, undef, undef, undef, undef, undef, undef, undef, undef, undef, undef, undef, undef, undef, undef, undef, undef, undef, undef, undef, undef, undef, undef, undef, undef, undef, undef, undef, undef, undef], rfl⟩ ?_
  rintro d vs h6 n7 ⟨seen, rfl, hs, hn, hf, hf_, he_, hb1, hall, y5, rfl⟩
  refine AWp.seq (AWp.rowV (l := _) pok ?_)
  refine sq.nx (K := plV) (V := intV) hf rfl rfl rfl hb1 hf_ okF.lt (Nat.le_refl _) ?_ ?_
  ·intro hend_c4_0
   refine sq.c (v := .bool false) rfl rfl rfl rfl ?_
   refine sq.e (AWp.seq ?_)
   refine AWp.condF rfl rfl ?_
   refine AWp.exit ?_
   refine AWp.seq (AWp.rowV (l := _) pok ?_)
   refine sq.c (v := .bool true) rfl rfl rfl rfl ?_
   refine sq.e ?_
   refine AWp.ret ?_
   refine ⟨rfl, [.bool true], rfl, .bool true, rfl, hs, hn, ?_⟩
   show Value.bool true = .bool (eqM F E)
   refine congrArg Value.bool ?_
   unfold eqM
   rw [decide_eq_true (show F.length = E.length by omega), Bool.true_and]
   exact (List.all_eq_true.2 fun x hx => decide_eq_true (hall x hx (hend_c4_0 x hx))).symm
  ·intro x8 mem_x8 new_x8 h9 s10 hb11 hf
   have hn2 := Nat.le_refl n7
   refine sq.w ?_
   have hf_ := s10.get1 (e_f_n) hf_
   have he_ := s10.get1 (e_e_n) he_
   have hs := hs.fresh z_n s10
   refine sq.c (v := .bool true) rfl rfl rfl rfl ?_
   refine sq.e (AWp.seq ?_)
   refine AWp.condT rfl rfl ?_
   refine AWp.skip (AWp.block (AWp.seq (AWp.rowV (l := _) pok ?_)))
   refine sq.op rfl rfl (Does.entry (K := plV) (V := intV) (y := x8) hf okF rfl hb11 hf_ mem_x8) ?_
   rintro _ h12 n13 rfl s14 hn2 hf
   refine sq.w ?_
   have hf_ := s14.sub _ _ hf_
   have he_ := s14.sub _ _ he_
   have hb11 := s14.sub _ _ hb11
   have hs := hs.trans s14
   have hn := Nat.le_trans hn hn2
   refine sq.c (v := .agg #[.string (x8.1.1), .string (x8.1.2)]) rfl rfl rfl rfl ?_
   refine sq.c (v := .int .i64 (x8.2.1)) rfl rfl rfl rfl ?_
   have e_f_n13 : f ≠ n13 := hf.ne hf_
   have e_e_n13 : e ≠ n13 := hf.ne he_
   have e_n_n13 : n ≠ n13 := hf.ne hb11
   have z_n13 : h.get n13 = none := hf0 _ hn
   refine sq.op rfl rfl (Does.alloc (cs := [.string (⟨#[]⟩), .string (⟨#[]⟩)]) hf (z := .agg #[.string (⟨#[]⟩), .string (⟨#[]⟩)]) (by kernel_rfl) rfl) ?_
   rintro _ h16 n17 ⟨rfl, hb15⟩ s18 hn2 hf
   refine sq.w ?_
   have hf_ := s18.sub _ _ hf_
   have he_ := s18.sub _ _ he_
   have hb11 := s18.sub _ _ hb11
   have hs := hs.trans s18
   have hn := Nat.le_trans hn hn2
   refine sq.op rfl rfl (Does.store (k := 2) (xs := [.string (x8.1.1), .string (x8.1.2)]) (cs' := [.string (x8.1.1), .string (x8.1.2)]) hf (by kernel_rfl) rfl rfl rfl hb15 rfl rfl (Nat.le_of_ble_eq_true rfl) rfl) ?_
   rintro _ h20 n21 ⟨rfl, hb19⟩ s22 hn2 hf
   refine sq.w0 ?_
   have hf_ := s22.get1 (e_f_n13) hf_
   have he_ := s22.get1 (e_e_n13) he_
   have hb11 := s22.get1 (e_n_n13) hb11
   have hs := hs.fresh z_n13 s22
   have hn := Nat.le_trans hn hn2
   refine sq.c (v := .int .i64 (x8.2.1)) rfl rfl rfl rfl ?_
   refine sq.e (AWp.seq (AWp.rowV (l := _) pok ?_))
   refine sq.c (v := .map (some e)) rfl rfl rfl rfl ?_
   refine sq.c (v := .agg #[.string (x8.1.1), .string (x8.1.2)]) rfl rfl (ldA (P := Tryd.prog) (t := 73) (p := 0) (k := 2) (xs := [.string (x8.1.1), .string (x8.1.2)]) (by kernel_rfl) (by kernel_rfl) hb19 rfl (Nat.le_of_ble_eq_true rfl)) rfl ?_
   refine sq.c (v := .tuple #[.int .i64 (((mget E (x8.1.1, x8.1.2)).getD 0)), .bool ((mget E (x8.1.1, x8.1.2)).isSome)]) rfl rfl (lkOk (P := Tryd.prog) (K := plV) (V := intV) (kt := 73) (el := 2) (t := 66) (k := (x8.1.1, x8.1.2)) (d := (0 : Int)) Tryd.underlying66 keyPl (by kernel_rfl) rfl he_) rfl ?_
   refine sq.c (v := .tuple #[.int .i64 (((mget E (x8.1.1, x8.1.2)).getD 0)), .bool ((mget E (x8.1.1, x8.1.2)).isSome)]) rfl rfl rfl rfl ?_
   refine sq.c (v := .int .i64 (((mget E (x8.1.1, x8.1.2)).getD 0))) rfl rfl rfl rfl ?_
   refine sq.c (v := .bool ((mget E (x8.1.1, x8.1.2)).isSome)) rfl rfl rfl rfl ?_
   refine sq.c (v := .int .i64 (((mget E (x8.1.1, x8.1.2)).getD 0))) rfl rfl rfl rfl ?_
   refine sq.c (v := .bool ((mget E (x8.1.1, x8.1.2)).isSome)) rfl rfl rfl rfl ?_
   refine sq.e (AWp.seq (AWp.rowV (l := _) pok ?_))
   refine sq.c (v := .bool ((mget E (x8.1.1, x8.1.2)).isSome)) rfl rfl rfl rfl ?_
   rcases Bool.eq_false_or_eq_true ((mget E (x8.1.1, x8.1.2)).isSome) with c6_2 | c6_2
   ·rw [c6_2]
    refine sq.c (v := .bool false) rfl rfl rfl rfl ?_
    refine sq.c (v := .bool false) rfl rfl rfl rfl ?_
    refine sq.c (v := .int .i64 (x8.2.1)) (wantT (g := 2) (d := 29) rfl rfl rfl) rfl rfl rfl ?_
    refine sq.c (v := .int .i64 (((mget E (x8.1.1, x8.1.2)).getD 0))) (wantT (g := 2) (d := 29) rfl rfl rfl) rfl rfl rfl ?_
    refine sq.c (v := .bool (!decide (x8.2.1 = (((mget E (x8.1.1, x8.1.2)).getD 0))))) (wantT (g := 2) (d := 29) rfl rfl rfl) rfl rfl rfl ?_
    refine sq.c (v := .bool (!decide (x8.2.1 = (((mget E (x8.1.1, x8.1.2)).getD 0))))) rfl rfl rfl rfl ?_
    refine sq.e ?_
    by_cases c7_5 : x8.2.1 = (((mget E (x8.1.1, x8.1.2)).getD 0))
    ·rw [decide_eq_true c7_5]
     refine AWp.condF rfl rfl ?_
     refine AWp.skip ?_
     have hall2 : ∀ x ∈ F, x.2.2 ∈ seen ++ [x8.2.2] → mget E x.1 = some x.2.1 := by
      intro y hy hm
      rcases List.mem_append.1 hm with hm | hm
      ·exact hall y hy hm
      ·have ey := MOk.one okF hy mem_x8 (List.mem_singleton.1 hm)
       rw [ey]
       cases em : mget E x8.1 with
       | none => rw [show mget E (x8.1.1, x8.1.2) = none from em] at c6_2; cases c6_2
       | some v =>
        rw [show mget E (x8.1.1, x8.1.2) = some v from em] at c7_5
        have e9 : x8.2.1 = v := c7_5
        rw [e9]
     refine ⟨_, _, rfl, (by have := left_lt mem_x8 new_x8; omega), seen ++ [x8.2.2], rfl, hs, hn, hf, hf_, he_, hb11, (hall2), getV [undef, undef, undef, undef, (y5 4), .pointer (some ⟨n13, 0, none⟩), .int .i64 (x8.2.1), .int .i64 (((mget E (x8.1.1, x8.1.2)).getD 0)), .bool true, undef, undef, undef, undef, undef, undef, undef, .tuple #[.bool true, .agg #[.string (x8.1.1), .string (x8.1.2)], .int .i64 (x8.2.1)], .bool true, .tuple #[.agg #[.string (x8.1.1), .string (x8.1.2)], .int .i64 (x8.2.1)], .agg #[.string (x8.1.1), .string (x8.1.2)], .int .i64 (x8.2.1), .tuple #[.int .i64 (((mget E (x8.1.1, x8.1.2)).getD 0)), .bool true], .map (some e), .agg #[.string (x8.1.1), .string (x8.1.2)], .tuple #[.int .i64 (((mget E (x8.1.1, x8.1.2)).getD 0)), .bool true], .int .i64 (((mget E (x8.1.1, x8.1.2)).getD 0)), .bool true, .bool true, .bool false, .bool false, .int .i64 (x8.2.1), .int .i64 (((mget E (x8.1.1, x8.1.2)).getD 0)), .bool false, .bool false], rfl⟩
    ·rw [decide_eq_false c7_5]
     refine AWp.condT rfl rfl ?_
     refine AWp.seq (AWp.rowV (l := _) pok ?_)
     refine sq.c (v := .bool false) rfl rfl rfl rfl ?_
     refine sq.e ?_
     refine AWp.ret ?_
     refine ⟨rfl, [.bool false], rfl, .bool false, rfl, hs, hn, ?_⟩
     show Value.bool false = .bool (eqM F E)
     refine congrArg Value.bool ?_
     unfold eqM
     rw [decide_eq_true (show F.length = E.length by omega), Bool.true_and]
     refine (List.all_eq_false.2 ⟨x8, mem_x8, ?_⟩).symm
     intro e
     have e := of_decide_eq_true e
     rw [show mget E (x8.1.1, x8.1.2) = _ from e] at c7_5
     exact c7_5 rfl
   ·rw [c6_2]
    refine sq.c (v := .bool true) rfl rfl rfl rfl ?_
    refine sq.c (v := .bool true) rfl rfl rfl rfl ?_
    refine sq.s (wantF (g := 2) (d := 29) rfl rfl rfl) rfl ?_
    refine sq.s (wantF (g := 2) (d := 29) rfl rfl rfl) rfl ?_
    refine sq.s (wantF (g := 2) (d := 29) rfl rfl rfl) rfl ?_
    refine sq.c (v := .bool true) rfl rfl rfl rfl ?_
    refine sq.e ?_
    refine AWp.condT rfl rfl ?_
    refine AWp.seq (AWp.rowV (l := _) pok ?_)
    refine sq.c (v := .bool false) rfl rfl rfl rfl ?_
    refine sq.e ?_
    refine AWp.ret ?_
    refine ⟨rfl, [.bool false], rfl, .bool false, rfl, hs, hn, ?_⟩
    show Value.bool false = .bool (eqM F E)
    refine congrArg Value.bool ?_
    unfold eqM
    rw [decide_eq_true (show F.length = E.length by omega), Bool.true_and]
    refine (List.all_eq_false.2 ⟨x8, mem_x8, ?_⟩).symm
    intro e
    have e := of_decide_eq_true e
    rw [show mget E (x8.1.1, x8.1.2) = _ from e] at c6_2
    cases c6_2
 ·rw [decide_eq_false c1_4]
  refine AWp.condT rfl rfl ?_
  refine AWp.seq (AWp.rowV (l := _) pok ?_)
  refine sq.c (v := .bool false) rfl rfl rfl rfl ?_
  refine sq.e ?_
  refine AWp.ret ?_
  refine ⟨rfl, [.bool false], rfl, .bool false, rfl, hs, hn, ?_⟩
  show Value.bool false = .bool (eqM F E)
  refine congrArg Value.bool ?_
  unfold eqM
  rw [decide_eq_false (show ¬ F.length = E.length by omega)]; rfl
theorem f40_spec {h : Heap} {n : Nat} {a1 a2 a3 a4 : Option Addr} {m1 m3 p1 p2 p3 p4 : Nat} (xs ys : List Samp) (hx : IsRow encSmp h (.slice a2 xs.length p2) xs) (hy : IsRow encSmp h (.slice a4 ys.length p4) ys) (hlen : xs.length < 4000000000000000000) :
    Tells Tryd.prog 40 [.agg #[.slice a1 m1 p1, .slice a2 (xs.length) p2], .agg #[.slice a3 m3 p3, .slice a4 (ys.length) p4]] h n (.bool (decide (xs = ys))) := by
 refine Makes.tells (Makes.free fun hf => ?_)
 have hs : SubBut h h ([]) := .refl _ _
 have hn : n ≤ n := Nat.le_refl _
 have hf0 := hf
 refine Makes.of_bodyV (args := [.agg #[.slice a1 m1 p1, .slice a2 (xs.length) p2], .agg #[.slice a3 m3 p3, .slice a4 (ys.length) p4]]) (vs := [.agg #[.slice a1 m1 p1, .slice a2 (xs.length) p2], .agg #[.slice a3 m3 p3, .slice a4 (ys.length) p4], undef, undef, undef, undef, undef, undef, undef, undef]) Tryd.func40 rfl rfl ?_
 refine AWp.seq (AWp.rowV (l := _) pok ?_)
 refine sq.op rfl rfl (Does.box (cs := [.slice a1 m1 p1, .slice a2 (xs.length) p2]) hf rfl rfl) ?_
 rintro _ h2 n3 ⟨rfl, hb1⟩ s4 hn2 hf
 refine sq.w ?_
 have hs := hs.trans s4
 have hn := Nat.le_trans hn hn2
 refine sq.op rfl rfl (Does.box (cs := [.slice a3 m3 p3, .slice a4 (ys.length) p4]) hf rfl rfl) ?_
 rintro _ h6 n7 ⟨rfl, hb5⟩ s8 hn2 hf
 refine sq.w ?_
 have hb1 := s8.sub _ _ hb1
 have hs := hs.trans s8
 have hn := Nat.le_trans hn hn2
 refine sq.c (v := .bool false) rfl rfl rfl rfl ?_
 refine sq.e (AWp.seq (AWp.rowV (l := _) pok ?_))
 refine sq.c (v := .pointer (some ⟨n, 1, none⟩)) rfl rfl (by kernel_rfl) rfl ?_
 refine sq.c (v := .slice a2 (xs.length) p2) rfl rfl (ld1 (P := Tryd.prog) (t := 41) (p := 1) (v := .slice a2 (xs.length) p2) (by kernel_rfl) (by kernel_rfl) hb1 rfl) rfl ?_
 refine sq.c (v := .pointer (some ⟨n3, 1, none⟩)) rfl rfl (by kernel_rfl) rfl ?_
 refine sq.c (v := .slice a4 (ys.length) p4) rfl rfl (ld1 (P := Tryd.prog) (t := 41) (p := 1) (v := .slice a4 (ys.length) p4) (by kernel_rfl) (by kernel_rfl) hb5 rfl) rfl ?_
 refine sq.t (v := .bool (decide (xs = ys))) rfl (CallsF.fn rfl (by kernel_rfl) rfl rfl) (fun hf => eqS_spec _ _ (hx.keep hs) (hy.keep hs) hlen) hf rfl ?_
 intro n9 hn2 hf
 have hn := Nat.le_trans hn hn2
 refine sq.c (v := .bool (decide (xs = ys))) rfl rfl rfl rfl ?_
 refine sq.e ?_
 refine AWp.ret ?_
 refine ⟨rfl, [.bool (decide (xs = ys))], rfl, .bool (decide (xs = ys)), rfl, hs, hn, ?_⟩
 rfl
theorem eqG_spec {h : Heap} {n : Nat} {gx gy kgx kgy : Nat} (Gx Gy : SM) (Sx Sy : SP) (hx_ : h.get gx = some (.map (mapE plV ownV Gx) kgx)) (hy_ : h.get gy = some (.map (mapE plV ownV Gy) kgy)) (okGx : MOk Gx kgx) (okGy : MOk Gy kgy) (hSx : SMIs h Gx Sx) (hSy : SMIs h Gy Sy) (q1 : Gx.length ≤ 1000000000000) (q2 : Gy.length ≤ 1000000000000) (hlen : ∀ x ∈ Sx, x.2.1.2.length < 4000000000000000000) :
    Tells Tryd.prog 39 [.map (some gx), .map (some gy), .func (.func 40) #[] #[]] h n (.bool (eqSt Sx Sy)) := by
 refine Makes.tells (Makes.free fun hf => ?_)
 have hl1 := hSx.1
 have hl2 := hSy.1
 have hs : SubBut h h ([]) := .refl _ _
 have hn : n ≤ n := Nat.le_refl _
 have hf0 := hf
 refine Makes.of_bodyV (args := [.map (some gx), .map (some gy), .func (.func 40) #[] #[]]) (vs := [.map (some gx), .map (some gy), .func (.func 40) #[] #[], undef, undef, undef, undef, undef, undef, undef, undef, undef, undef, undef, undef, undef, undef, undef, undef, undef, undef, undef, undef, undef, undef, undef, undef, undef, undef, undef, undef, undef, undef, undef, undef, undef, undef, undef]) Tryd.func39 rfl rfl ?_
 refine AWp.seq (AWp.rowV (l := _) pok ?_)
 refine sq.c (v := .bool false) rfl rfl rfl rfl ?_
 refine sq.e (AWp.seq (AWp.seq (AWp.rowV (l := _) pok ?_)))
 refine sq.c (v := .map (some gx)) rfl rfl rfl rfl ?_
 refine sq.c (v := .int .i64 (((Gx.length : Nat) : Int))) rfl rfl (lenM (P := Tryd.prog) (K := plV) (V := ownV) (t := 67) Tryd.underlying67 hx_) rfl ?_
 refine sq.c (v := .map (some gy)) rfl rfl rfl rfl ?_
 refine sq.c (v := .int .i64 (((Gy.length : Nat) : Int))) rfl rfl (lenM (P := Tryd.prog) (K := plV) (V := ownV) (t := 67) Tryd.underlying67 hy_) rfl ?_
 refine sq.c (v := .bool (!decide ((((Gx.length : Nat) : Int)) = (((Gy.length : Nat) : Int))))) rfl rfl rfl rfl ?_
 refine sq.e ?_
 by_cases c1_4 : (((Gx.length : Nat) : Int)) = (((Gy.length : Nat) : Int))
 ·rw [decide_eq_true c1_4]
  refine AWp.condF rfl rfl ?_
  refine AWp.skip (AWp.seq (AWp.seq (AWp.rowV (l := _) pok ?_)))
  refine sq.c (v := .map (some gx)) rfl rfl rfl rfl ?_
  have e_gx_n : gx ≠ n := hf.ne hx_
  have e_gy_n : gy ≠ n := hf.ne hy_
  have z_n : h.get n = none := hf0 _ hn
  refine sq.op rfl rfl (Does.rangeM hf Tryd.underlying67 rfl hx_) ?_
  rintro _ h2 n3 ⟨rfl, hb1⟩ s4 hn2 hf
  refine sq.w ?_
  have hSx := hSx.keep (.of0 s4)
  have hSy := hSy.keep (.of0 s4)
  have hx_ := s4.sub _ _ hx_
  have hy_ := s4.sub _ _ hy_
  have hs := hs.trans s4
  have hn := Nat.le_trans hn hn2
  refine sq.e (AWp.block ?_)
  refine AWp.loopV (fun d vs h6 n7 => ∃ (seen : List Nat), d = (left Gx seen + 1) ∧ SubBut h h6 ([]) ∧ n ≤ n7 ∧ Free h6 n7 ∧ h6.get gx = some (.map (mapE plV ownV Gx) kgx) ∧ h6.get gy = some (.map (mapE plV ownV Gy) kgy) ∧ SMIs h6 Gx Sx ∧ SMIs h6 Gy Sy ∧ h6.get n = some (.miter (some gx) kgx seen kgx) ∧ (∀ x ∈ Gx, x.2.2 ∈ seen → ∀ s, (x.1, s, x.2.2) ∈ Sx → (mget Sy x.1).map (fun s => s.2) = some s.2) ∧ ∃ y5 : Nat → Value, vs = [.map (some gx), .map (some gy), .func (.func 40) #[] #[], undef, undef, undef, (y5 6), (y5 7), (y5 8), (y5 9), (y5 10), .map (some gx), .int .i64 (((Gx.length : Nat) : Int)), .map (some gy), .int .i64 (((Gy.length : Nat) : Int)), .bool false, .map (some gx), .pointer (some ⟨n, 0, none⟩), (y5 18), (y5 19), (y5 20), (y5 21), (y5 22), (y5 23), (y5 24), (y5 25), (y5 26), (y5 27), (y5 28), (y5 29), (y5 30), (y5 31), (y5 32), (y5 33), (y5 34), (y5 35), (y5 36), (y5 37)]) ((left Gx [] + 1)) ⟨[], rfl, hs, hn, hf, hx_, hy_, hSx, hSy, hb1, (fun x _ hm => by cases hm), getV [undef, undef, undef, undef, undef, undef, .bool false, undef, undef, undef, undef, undef, undef, undef, undef, undef, undef, undef, undef, undef, undef, undef, undef, undef, undef, undef, undef, undef, undef, undef, undef, undef, undef, undef, undef, undef, undef, undef], rfl⟩ ?_
  rintro d vs h6 n7 ⟨seen, rfl, hs, hn, hf, hx_, hy_, hSx, hSy, hb1, hall, y5, rfl⟩
  refine AWp.seq (AWp.rowV (l := _) pok ?_)
  refine sq.nx (K := plV) (V := ownV) hf rfl rfl rfl hb1 hx_ okGx.lt (Nat.le_refl _) ?_ ?_
  ·intro hend_c4_0
   refine sq.c (v := .bool false) rfl rfl rfl rfl ?_
   refine sq.e (AWp.seq ?_)
   refine AWp.condF rfl rfl ?_
   refine AWp.exit ?_
   refine AWp.seq (AWp.rowV (l := _) pok ?_)
   refine sq.c (v := .bool true) rfl rfl rfl rfl ?_
   refine sq.e ?_
   refine AWp.ret ?_
   refine ⟨rfl, [.bool true], rfl, .bool true, rfl, hs, hn, ?_⟩
   show Value.bool true = .bool (eqSt Sx Sy)
   refine congrArg Value.bool ?_
   unfold eqSt
   rw [decide_eq_true (show Sx.length = Sy.length by omega), Bool.true_and]
   refine (List.all_eq_true.2 fun x hx => decide_eq_true ?_).symm
   obtain ⟨g_, hg2_, _⟩ := hSx.mem' hx
   exact hall _ hg2_ (hend_c4_0 _ hg2_) x.2.1 hx
  ·intro x8 mem_x8 new_x8 h9 s10 hb11 hf
   have hn2 := Nat.le_refl n7
   obtain ⟨s_x8, ms_x8, fs_x8⟩ := hSx.mem mem_x8
   obtain ⟨a1_x8, c1_x8, e1_x8⟩ := (show FRow encLab _ x8.2.1.1 s_x8.1 from fs_x8.1).slice
   obtain ⟨a2_x8, c2_x8, e2_x8⟩ := (show FRow encSmp _ x8.2.1.2 s_x8.2 from fs_x8.2).slice
   have L_x8 : FRow encLab _ (.slice a1_x8 s_x8.1.length c1_x8) s_x8.1 := e1_x8 ▸ fs_x8.1
   have M_x8 : FRow encSmp _ (.slice a2_x8 s_x8.2.length c2_x8) s_x8.2 := e2_x8 ▸ fs_x8.2
   have ev_x8 : ownV x8.2.1 = .agg #[.slice a1_x8 s_x8.1.length c1_x8, .slice a2_x8 s_x8.2.length c2_x8] := by unfold ownV; rw [e1_x8, e2_x8]
   refine sq.w ?_
   rw [ev_x8]
   have hSx := hSx.keep (.own s10 hb1 rfl)
   have hSy := hSy.keep (.own s10 hb1 rfl)
   have M_x8 := M_x8.keep (.own s10 hb1 rfl)
   have hx_ := s10.get1 (e_gx_n) hx_
   have hy_ := s10.get1 (e_gy_n) hy_
   have hs := hs.fresh z_n s10
   refine sq.c (v := .bool true) rfl rfl rfl rfl ?_
   refine sq.e (AWp.seq ?_)
   refine AWp.condT rfl rfl ?_
   refine AWp.skip (AWp.block (AWp.seq (AWp.rowV (l := _) pok ?_)))
   refine sq.op rfl rfl (Does.entry (K := plV) (V := ownV) (y := x8) hf okGx rfl hb11 hx_ mem_x8) ?_
   rintro _ h12 n13 rfl s14 hn2 hf
   refine sq.w ?_
   rw [ev_x8]
   have hSx := hSx.keep (.of0 s14)
   have hSy := hSy.keep (.of0 s14)
   have M_x8 := M_x8.keep (.of0 s14)
   have hx_ := s14.sub _ _ hx_
   have hy_ := s14.sub _ _ hy_
   have hb11 := s14.sub _ _ hb11
   have hs := hs.trans s14
   have hn := Nat.le_trans hn hn2
   refine sq.c (v := .agg #[.string (x8.1.1), .string (x8.1.2)]) rfl rfl rfl rfl ?_
   refine sq.c (v := .agg #[.slice a1_x8 (s_x8.1.length) c1_x8, .slice a2_x8 (s_x8.2.length) c2_x8]) rfl rfl rfl rfl ?_
   have e_gx_n13 : gx ≠ n13 := hf.ne hx_
   have e_gy_n13 : gy ≠ n13 := hf.ne hy_
   have e_n_n13 : n ≠ n13 := hf.ne hb11
   have z_n13 : h.get n13 = none := hf0 _ hn
   refine sq.op rfl rfl (Does.alloc (cs := [.string (⟨#[]⟩), .string (⟨#[]⟩)]) hf (z := .agg #[.string (⟨#[]⟩), .string (⟨#[]⟩)]) (by kernel_rfl) rfl) ?_
   rintro _ h16 n17 ⟨rfl, hb15⟩ s18 hn2 hf
   refine sq.w ?_
   have hSx := hSx.keep (.of0 s18)
   have hSy := hSy.keep (.of0 s18)
   have M_x8 := M_x8.keep (.of0 s18)
   have hx_ := s18.sub _ _ hx_
   have hy_ := s18.sub _ _ hy_
   have hb11 := s18.sub _ _ hb11
   have hs := hs.trans s18
   have hn := Nat.le_trans hn hn2
   have e_gx_n17 : gx ≠ n17 := hf.ne hx_
   have e_gy_n17 : gy ≠ n17 := hf.ne hy_
   have e_n_n17 : n ≠ n17 := hf.ne hb11
   have e_n13_n17 : n13 ≠ n17 := hf.ne hb15
   have z_n17 : h.get n17 = none := hf0 _ hn
   refine sq.op rfl rfl (Does.alloc (cs := [.slice none (0) (0), .slice none (0) (0)]) hf (z := .agg #[.slice none (0) (0), .slice none (0) (0)]) (by kernel_rfl) rfl) ?_
   rintro _ h20 n21 ⟨rfl, hb19⟩ s22 hn2 hf
   refine sq.w ?_
   have hSx := hSx.keep (.of0 s22)
   have hSy := hSy.keep (.of0 s22)
   have M_x8 := M_x8.keep (.of0 s22)
   have hx_ := s22.sub _ _ hx_
   have hy_ := s22.sub _ _ hy_
   have hb11 := s22.sub _ _ hb11
   have hb15 := s22.sub _ _ hb15
   have hs := hs.trans s22
   have hn := Nat.le_trans hn hn2
   refine sq.op rfl rfl (Does.store (k := 2) (xs := [.string (x8.1.1), .string (x8.1.2)]) (cs' := [.string (x8.1.1), .string (x8.1.2)]) hf (by kernel_rfl) rfl rfl rfl hb15 rfl rfl (Nat.le_of_ble_eq_true rfl) rfl) ?_
   rintro _ h24 n25 ⟨rfl, hb23⟩ s26 hn2 hf
   refine sq.w0 ?_
   have hSx := hSx.keep (.own s26 hb15 rfl)
   have hSy := hSy.keep (.own s26 hb15 rfl)
   have M_x8 := M_x8.keep (.own s26 hb15 rfl)
   have hx_ := s26.get1 (e_gx_n13) hx_
   have hy_ := s26.get1 (e_gy_n13) hy_
   have hb11 := s26.get1 (e_n_n13) hb11
   have hb19 := s26.get1 (Ne.symm e_n13_n17) hb19
   have hs := hs.fresh z_n13 s26
   have hn := Nat.le_trans hn hn2
   refine sq.op rfl rfl (Does.store (k := 2) (xs := [.slice a1_x8 (s_x8.1.length) c1_x8, .slice a2_x8 (s_x8.2.length) c2_x8]) (cs' := [.slice a1_x8 (s_x8.1.length) c1_x8, .slice a2_x8 (s_x8.2.length) c2_x8]) hf (by kernel_rfl) rfl rfl rfl hb19 rfl rfl (Nat.le_of_ble_eq_true rfl) rfl) ?_
   rintro _ h28 n29 ⟨rfl, hb27⟩ s30 hn2 hf
   refine sq.w0 ?_
   have hSx := hSx.keep (.own s30 hb19 rfl)
   have hSy := hSy.keep (.own s30 hb19 rfl)
   have M_x8 := M_x8.keep (.own s30 hb19 rfl)
   have hx_ := s30.get1 (e_gx_n17) hx_
   have hy_ := s30.get1 (e_gy_n17) hy_
   have hb11 := s30.get1 (e_n_n17) hb11
   have hb23 := s30.get1 (e_n13_n17) hb23
   have hs := hs.fresh z_n17 s30
   have hn := Nat.le_trans hn hn2
   refine sq.e (AWp.seq (AWp.rowV (l := _) pok ?_))
   refine sq.c (v := .map (some gy)) rfl rfl rfl rfl ?_
   refine sq.c (v := .agg #[.string (x8.1.1), .string (x8.1.2)]) rfl rfl (ldA (P := Tryd.prog) (t := 73) (p := 0) (k := 2) (xs := [.string (x8.1.1), .string (x8.1.2)]) (by kernel_rfl) (by kernel_rfl) hb23 rfl (Nat.le_of_ble_eq_true rfl)) rfl ?_
   obtain ⟨a1_g6_2, c1_g6_2, a2_g6_2, c2_g6_2, e_g6_2, L_g6_2, M_g6_2⟩ := hSy.look (x8.1.1, x8.1.2)
   refine sq.c (v := .tuple #[.agg #[.slice a1_g6_2 ((mget Sy (x8.1.1, x8.1.2)).getD ([], [])).1.length c1_g6_2, .slice a2_g6_2 ((mget Sy (x8.1.1, x8.1.2)).getD ([], [])).2.length c2_g6_2], .bool ((mget Gy (x8.1.1, x8.1.2)).isSome)]) rfl rfl ((lkOk (P := Tryd.prog) (K := plV) (V := ownV) (kt := 73) (el := 86) (t := 67) (k := (x8.1.1, x8.1.2)) (d := dOV) Tryd.underlying67 keyPl (by kernel_rfl) rfl hy_).trans (congrArg (fun z => some (Value.tuple #[ownV z, .bool (mget Gy (x8.1.1, x8.1.2)).isSome])) e_g6_2)) rfl ?_
   refine sq.c (v := .tuple #[.agg #[.slice a1_g6_2 ((mget Sy (x8.1.1, x8.1.2)).getD ([], [])).1.length c1_g6_2, .slice a2_g6_2 ((mget Sy (x8.1.1, x8.1.2)).getD ([], [])).2.length c2_g6_2], .bool ((mget Gy (x8.1.1, x8.1.2)).isSome)]) rfl rfl rfl rfl ?_
   refine sq.c (v := .agg #[.slice a1_g6_2 ((mget Sy (x8.1.1, x8.1.2)).getD ([], [])).1.length c1_g6_2, .slice a2_g6_2 ((mget Sy (x8.1.1, x8.1.2)).getD ([], [])).2.length c2_g6_2]) rfl rfl rfl rfl ?_
   refine sq.c (v := .bool ((mget Gy (x8.1.1, x8.1.2)).isSome)) rfl rfl rfl rfl ?_
   have e_gx_n29 : gx ≠ n29 := hf.ne hx_
   have e_gy_n29 : gy ≠ n29 := hf.ne hy_
   have e_n_n29 : n ≠ n29 := hf.ne hb11
   have e_n17_n29 : n17 ≠ n29 := hf.ne hb27
   have z_n29 : h.get n29 = none := hf0 _ hn
   refine sq.op rfl rfl (Does.alloc (cs := [.slice none (0) (0), .slice none (0) (0)]) hf (z := .agg #[.slice none (0) (0), .slice none (0) (0)]) (by kernel_rfl) rfl) ?_
   rintro _ h32 n33 ⟨rfl, hb31⟩ s34 hn2 hf
   refine sq.w ?_
   have hSx := hSx.keep (.of0 s34)
   have hSy := hSy.keep (.of0 s34)
   have M_x8 := M_x8.keep (.of0 s34)
   have M_g6_2 := M_g6_2.keep (.of0 s34)
   have hx_ := s34.sub _ _ hx_
   have hy_ := s34.sub _ _ hy_
   have hb11 := s34.sub _ _ hb11
   have hb27 := s34.sub _ _ hb27
   have hs := hs.trans s34
   have hn := Nat.le_trans hn hn2
   refine sq.op rfl rfl (Does.store (k := 2) (xs := [.slice a1_g6_2 ((mget Sy (x8.1.1, x8.1.2)).getD ([], [])).1.length c1_g6_2, .slice a2_g6_2 ((mget Sy (x8.1.1, x8.1.2)).getD ([], [])).2.length c2_g6_2]) (cs' := [.slice a1_g6_2 ((mget Sy (x8.1.1, x8.1.2)).getD ([], [])).1.length c1_g6_2, .slice a2_g6_2 ((mget Sy (x8.1.1, x8.1.2)).getD ([], [])).2.length c2_g6_2]) hf (by kernel_rfl) rfl rfl rfl hb31 rfl rfl (Nat.le_of_ble_eq_true rfl) rfl) ?_
   rintro _ h36 n37 ⟨rfl, hb35⟩ s38 hn2 hf
   refine sq.w0 ?_
   have hSx := hSx.keep (.own s38 hb31 rfl)
   have hSy := hSy.keep (.own s38 hb31 rfl)
   have M_x8 := M_x8.keep (.own s38 hb31 rfl)
   have M_g6_2 := M_g6_2.keep (.own s38 hb31 rfl)
   have hx_ := s38.get1 (e_gx_n29) hx_
   have hy_ := s38.get1 (e_gy_n29) hy_
   have hb11 := s38.get1 (e_n_n29) hb11
   have hb27 := s38.get1 (e_n17_n29) hb27
   have hs := hs.fresh z_n29 s38
   have hn := Nat.le_trans hn hn2
   refine sq.c (v := .bool ((mget Gy (x8.1.1, x8.1.2)).isSome)) rfl rfl rfl rfl ?_
   refine sq.e (AWp.seq (AWp.rowV (l := _) pok ?_))
   refine sq.c (v := .bool ((mget Gy (x8.1.1, x8.1.2)).isSome)) rfl rfl rfl rfl ?_
   rcases Bool.eq_false_or_eq_true ((mget Gy (x8.1.1, x8.1.2)).isSome) with c6_2 | c6_2
   ·rw [c6_2]
    refine sq.c (v := .bool false) rfl rfl rfl rfl ?_
    refine sq.c (v := .bool false) rfl rfl rfl rfl ?_
    refine sq.c (v := .func (.func 40) #[] #[]) (wantT (g := 2) (d := 31) rfl rfl rfl) rfl rfl rfl ?_
    refine sq.c (v := .agg #[.slice a1_x8 (s_x8.1.length) c1_x8, .slice a2_x8 (s_x8.2.length) c2_x8]) (wantT (g := 2) (d := 31) rfl rfl rfl) rfl (ldA (P := Tryd.prog) (t := 86) (p := 0) (k := 2) (xs := [.slice a1_x8 (s_x8.1.length) c1_x8, .slice a2_x8 (s_x8.2.length) c2_x8]) (by kernel_rfl) (by kernel_rfl) hb27 rfl (Nat.le_of_ble_eq_true rfl)) rfl ?_
    refine sq.c (v := .agg #[.slice a1_g6_2 ((mget Sy (x8.1.1, x8.1.2)).getD ([], [])).1.length c1_g6_2, .slice a2_g6_2 ((mget Sy (x8.1.1, x8.1.2)).getD ([], [])).2.length c2_g6_2]) (wantT (g := 2) (d := 31) rfl rfl rfl) rfl (ldA (P := Tryd.prog) (t := 86) (p := 0) (k := 2) (xs := [.slice a1_g6_2 ((mget Sy (x8.1.1, x8.1.2)).getD ([], [])).1.length c1_g6_2, .slice a2_g6_2 ((mget Sy (x8.1.1, x8.1.2)).getD ([], [])).2.length c2_g6_2]) (by kernel_rfl) (by kernel_rfl) hb35 rfl (Nat.le_of_ble_eq_true rfl)) rfl ?_
    refine sq.t (v := .bool (decide (s_x8.2 = ((mget Sy (x8.1.1, x8.1.2)).getD ([], [])).2))) (wantT (g := 2) (d := 31) rfl rfl rfl) (CallsF.val rfl rfl (by kernel_rfl) rfl rfl) (fun hf => f40_spec _ _ M_x8.is M_g6_2.is (hlen _ ms_x8)) hf rfl ?_
    intro n39 hn2 hf
    have hn := Nat.le_trans hn hn2
    rcases Bool.eq_false_or_eq_true (decide (s_x8.2 = ((mget Sy (x8.1.1, x8.1.2)).getD ([], [])).2)) with c7_6 | c7_6
    ·rw [c7_6]
     refine sq.c (v := .bool false) (wantT (g := 2) (d := 31) rfl rfl rfl) rfl rfl rfl ?_
     refine sq.c (v := .bool false) rfl rfl rfl rfl ?_
     refine sq.e ?_
     refine AWp.condF rfl rfl ?_
     refine AWp.skip ?_
     have hall2 : ∀ x ∈ Gx, x.2.2 ∈ seen ++ [x8.2.2] → ∀ s, (x.1, s, x.2.2) ∈ Sx → (mget Sy x.1).map (fun s => s.2) = some s.2 := by
      intro y hy hm s hs9
      rcases List.mem_append.1 hm with hm | hm
      ·exact hall y hy hm s hs9
      ·have ey := MOk.one okGx hy mem_x8 (List.mem_singleton.1 hm)
       rw [ey] at hs9 ⊢
       have e8 := MOk.one (hSx.ok okGx) hs9 ms_x8 rfl
       have e9 : s = s_x8 := congrArg (fun z => z.2.1) e8
       have c9 := of_decide_eq_true c7_6
       rw [hSy.some] at c6_2
       cases em : mget Sy (x8.1.1, x8.1.2) with
       | none => rw [em] at c6_2; cases c6_2
       | some v =>
        rw [em] at c9
        show some v.2 = some s.2
        rw [e9]
        exact congrArg some c9.symm
     refine ⟨_, _, rfl, (by have := left_lt mem_x8 new_x8; omega), seen ++ [x8.2.2], rfl, hs, hn, hf, hx_, hy_, hSx, hSy, hb11, (hall2), getV [undef, undef, undef, undef, undef, undef, (y5 6), .pointer (some ⟨n13, 0, none⟩), .pointer (some ⟨n17, 0, none⟩), .pointer (some ⟨n29, 0, none⟩), .bool true, undef, undef, undef, undef, undef, undef, undef, .tuple #[.bool true, .agg #[.string (x8.1.1), .string (x8.1.2)], .agg #[.slice a1_x8 (s_x8.1.length) c1_x8, .slice a2_x8 (s_x8.2.length) c2_x8]], .bool true, .tuple #[.agg #[.string (x8.1.1), .string (x8.1.2)], .agg #[.slice a1_x8 (s_x8.1.length) c1_x8, .slice a2_x8 (s_x8.2.length) c2_x8]], .agg #[.string (x8.1.1), .string (x8.1.2)], .agg #[.slice a1_x8 (s_x8.1.length) c1_x8, .slice a2_x8 (s_x8.2.length) c2_x8], .tuple #[.agg #[.slice a1_g6_2 ((mget Sy (x8.1.1, x8.1.2)).getD ([], [])).1.length c1_g6_2, .slice a2_g6_2 ((mget Sy (x8.1.1, x8.1.2)).getD ([], [])).2.length c2_g6_2], .bool true], .map (some gy), .agg #[.string (x8.1.1), .string (x8.1.2)], .tuple #[.agg #[.slice a1_g6_2 ((mget Sy (x8.1.1, x8.1.2)).getD ([], [])).1.length c1_g6_2, .slice a2_g6_2 ((mget Sy (x8.1.1, x8.1.2)).getD ([], [])).2.length c2_g6_2], .bool true], .agg #[.slice a1_g6_2 ((mget Sy (x8.1.1, x8.1.2)).getD ([], [])).1.length c1_g6_2, .slice a2_g6_2 ((mget Sy (x8.1.1, x8.1.2)).getD ([], [])).2.length c2_g6_2], .bool true, .bool true, .bool false, .bool false, .func (.func 40) #[] #[], .agg #[.slice a1_x8 (s_x8.1.length) c1_x8, .slice a2_x8 (s_x8.2.length) c2_x8], .agg #[.slice a1_g6_2 ((mget Sy (x8.1.1, x8.1.2)).getD ([], [])).1.length c1_g6_2, .slice a2_g6_2 ((mget Sy (x8.1.1, x8.1.2)).getD ([], [])).2.length c2_g6_2], .bool true, .bool false, .bool false], rfl⟩
    ·rw [c7_6]
     refine sq.c (v := .bool true) rfl rfl rfl rfl ?_
     refine sq.c (v := .bool true) rfl rfl rfl rfl ?_
     refine sq.e ?_
     refine AWp.condT rfl rfl ?_
     refine AWp.seq (AWp.rowV (l := _) pok ?_)
     refine sq.c (v := .bool false) rfl rfl rfl rfl ?_
     refine sq.e ?_
     refine AWp.ret ?_
     refine ⟨rfl, [.bool false], rfl, .bool false, rfl, hs, hn, ?_⟩
     show Value.bool false = .bool (eqSt Sx Sy)
     refine congrArg Value.bool ?_
     unfold eqSt
     rw [decide_eq_true (show Sx.length = Sy.length by omega), Bool.true_and]
     refine (List.all_eq_false.2 ⟨_, ms_x8, ?_⟩).symm
     intro e
     have e := of_decide_eq_true e
     have c9 := of_decide_eq_false c7_6
     cases em : mget Sy (x8.1.1, x8.1.2) with
     | none => rw [show mget Sy x8.1 = none from em] at e; cases e
     | some v =>
      rw [em] at c9
      rw [show mget Sy x8.1 = some v from em] at e
      exact c9 (Option.some.inj e).symm
   ·rw [c6_2]
    refine sq.c (v := .bool true) rfl rfl rfl rfl ?_
    refine sq.c (v := .bool true) rfl rfl rfl rfl ?_
    refine sq.s (wantF (g := 2) (d := 31) rfl rfl rfl) rfl ?_
    refine sq.s (wantF (g := 2) (d := 31) rfl rfl rfl) rfl ?_
    refine sq.s (wantF (g := 2) (d := 31) rfl rfl rfl) rfl ?_
    refine sq.s (wantF (g := 2) (d := 31) rfl rfl rfl) rfl ?_
    refine sq.s (wantF (g := 2) (d := 31) rfl rfl rfl) rfl ?_
    refine sq.c (v := .bool true) rfl rfl rfl rfl ?_
    refine sq.e ?_
    refine AWp.condT rfl rfl ?_
    refine AWp.seq (AWp.rowV (l := _) pok ?_)
    refine sq.c (v := .bool false) rfl rfl rfl rfl ?_
    refine sq.e ?_
    refine AWp.ret ?_
    refine ⟨rfl, [.bool false], rfl, .bool false, rfl, hs, hn, ?_⟩
    show Value.bool false = .bool (eqSt Sx Sy)
    refine congrArg Value.bool ?_
    unfold eqSt
    rw [decide_eq_true (show Sx.length = Sy.length by omega), Bool.true_and]
    obtain ⟨s_, ms_, _⟩ := hSx.mem mem_x8
    refine (List.all_eq_false.2 ⟨_, ms_, ?_⟩).symm
    intro e
    have e := of_decide_eq_true e
    rw [hSy.some] at c6_2
    rw [show mget Sy (x8.1.1, x8.1.2) = none by cases em : mget Sy (x8.1.1, x8.1.2) with | none => rfl | some v => rw [em] at c6_2; cases c6_2] at e
    cases e
 ·rw [decide_eq_false c1_4]
  refine AWp.condT rfl rfl ?_
  refine AWp.seq (AWp.rowV (l := _) pok ?_)
  refine sq.c (v := .bool false) rfl rfl rfl rfl ?_
  refine sq.e ?_
  refine AWp.ret ?_
  refine ⟨rfl, [.bool false], rfl, .bool false, rfl, hs, hn, ?_⟩
  show Value.bool false = .bool (eqSt Sx Sy)
  refine congrArg Value.bool ?_
  unfold eqSt
  rw [decide_eq_false (show ¬ Sx.length = Sy.length by omega)]; rfl
theorem same_spec {h : Heap} {n : Nat} {bu fu gu kfu kgu : Nat} {cu : CI} (Fu : FM) (Gu : SM) (Su : SP) (hb_u : h.get bu = some (.cells [.map (some fu), .map (some gu)] true cu)) (hf_u : h.get fu = some (.map (mapE plV intV Fu) kfu)) (hg_u : h.get gu = some (.map (mapE plV ownV Gu) kgu)) (okFu : MOk Fu kfu) (okGu : MOk Gu kgu) (hSu : SMIs h Gu Su) (ne_fu_gu : fu ≠ gu) {bv fv gv kfv kgv : Nat} {cv : CI} (Fv : FM) (Gv : SM) (Sv : SP) (hb_v : h.get bv = some (.cells [.map (some fv), .map (some gv)] true cv)) (hf_v : h.get fv = some (.map (mapE plV intV Fv) kfv)) (hg_v : h.get gv = some (.map (mapE plV ownV Gv) kgv)) (okFv : MOk Fv kfv) (okGv : MOk Gv kgv) (hSv : SMIs h Gv Sv) (ne_fv_gv : fv ≠ gv) (q1 : Fu.length ≤ 1000000000000) (q2 : Fv.length ≤ 1000000000000) (q3 : Gu.length ≤ 1000000000000) (q4 : Gv.length ≤ 1000000000000) (hlen : ∀ x ∈ Su, x.2.1.2.length < 4000000000000000000) :
    Tells Tryd.prog 22 [.pointer (some ⟨bu, 0, none⟩), .pointer (some ⟨bv, 0, none⟩)] h n (.bool (eqM Fu Fv && eqSt Su Sv)) := by
 refine Makes.tells (Makes.free fun hf => ?_)
 have ne_bu_fu : bu ≠ fu := by intro e; subst e; rw [hb_u] at hf_u; cases hf_u
 have ne_bu_gu : bu ≠ gu := by intro e; subst e; rw [hb_u] at hg_u; cases hg_u
 have ne_bv_fv : bv ≠ fv := by intro e; subst e; rw [hb_v] at hf_v; cases hf_v
 have ne_bv_gv : bv ≠ gv := by intro e; subst e; rw [hb_v] at hg_v; cases hg_v
 have hs : SubBut h h ([]) := .refl _ _
 have hn : n ≤ n := Nat.le_refl _
 have hf0 := hf
 refine Makes.of_bodyV (args := [.pointer (some ⟨bu, 0, none⟩), .pointer (some ⟨bv, 0, none⟩)]) (vs := [.pointer (some ⟨bu, 0, none⟩), .pointer (some ⟨bv, 0, none⟩), undef, undef, undef, undef, undef, undef, undef, undef, undef, undef, undef, undef, undef, undef, undef, undef, undef, undef, undef, undef, undef, undef, undef, undef, undef, undef, undef, undef, undef, undef, undef, undef, undef, undef, undef]) Tryd.func22 rfl rfl ?_
 refine AWp.seq (AWp.rowV (l := _) pok ?_)
 refine sq.c (v := .bool false) rfl rfl rfl rfl ?_
 refine sq.e (AWp.seq (AWp.seq (AWp.rowV (l := _) pok ?_)))
 refine sq.c (v := .pointer (some ⟨bu, 0, none⟩)) rfl rfl rfl rfl ?_
 refine sq.c (v := .bool false) rfl rfl (by kernel_rfl) rfl ?_
 refine sq.c (v := .bool false) rfl rfl rfl rfl ?_
 refine sq.c (v := .pointer (some ⟨bv, 0, none⟩)) (wantT (g := 2) (d := 7) rfl rfl rfl) rfl rfl rfl ?_
 refine sq.c (v := .bool false) (wantT (g := 2) (d := 7) rfl rfl rfl) rfl (by kernel_rfl) rfl ?_
 refine sq.c (v := .bool false) rfl rfl rfl rfl ?_
 refine sq.e ?_
 refine AWp.condF rfl rfl ?_
 refine AWp.skip (AWp.seq ?_)
 refine AWp.anyK pok [0, 1, 2, 3, 4, 5, 6, 7, 8, 9, 10, 11, 12, 13, 14, 15, 16, 17, 18, 19, 20] (by kernel_rfl) (by kernel_rfl) rfl (fun x fr fr' h n hd _ q => ⟨hd ▸ q.1, q.2⟩) ?_
 refine dk.c (v := .pointer (some ⟨bu, 0, none⟩)) rfl (by kernel_rfl) rfl rfl rfl rfl ?_
 refine dk.c (v := .pointer (some ⟨bu, 0, none⟩)) rfl (by kernel_rfl) rfl rfl rfl rfl ?_
 refine dk.c (v := .pointer (some ⟨bu, 0, none⟩)) rfl (by kernel_rfl) rfl rfl (by kernel_rfl) rfl ?_
 refine dk.gB (v := .map (some fu)) bu rfl (by kernel_rfl) rfl rfl (fun _ q_ => (ld1 (P := Tryd.prog) (t := 66) (p := 0) (v := .map (some fu)) (by kernel_rfl) (by kernel_rfl) (q_ _ hb_u) rfl)) rfl ?_
 refine dk.c (v := .pointer (some ⟨bv, 0, none⟩)) rfl (by kernel_rfl) rfl rfl rfl rfl ?_
 refine dk.c (v := .pointer (some ⟨bv, 0, none⟩)) rfl (by kernel_rfl) rfl rfl rfl rfl ?_
 refine dk.c (v := .pointer (some ⟨bv, 0, none⟩)) rfl (by kernel_rfl) rfl rfl (by kernel_rfl) rfl ?_
 refine dk.gB (v := .map (some fv)) bv rfl (by kernel_rfl) rfl rfl (fun _ q_ => (ld1 (P := Tryd.prog) (t := 66) (p := 0) (v := .map (some fv)) (by kernel_rfl) (by kernel_rfl) (q_ _ hb_v) rfl)) rfl ?_
 refine dk.t (v := .bool (eqM Fu Fv)) rfl (by kernel_rfl) rfl (CallsF.fn rfl (by kernel_rfl) rfl rfl) (fun hf => eqF_spec _ _ hf_u hf_v okFu okFv q1 q2) hf rfl ?_
 intro n1 hn2 hf
 have hn := Nat.le_trans hn hn2
 refine dk.c (v := .bool (eqM Fu Fv)) rfl (by kernel_rfl) rfl rfl rfl rfl ?_
 rcases Bool.eq_false_or_eq_true (eqM Fu Fv) with cM | cM
 ·rw [cM]
  refine dk.c (v := .pointer (some ⟨bu, 0, none⟩)) rfl (by kernel_rfl) (wantT (g := 9) (d := 26) rfl rfl rfl) rfl rfl rfl ?_
  refine dk.c (v := .pointer (some ⟨bu, 0, none⟩)) rfl (by kernel_rfl) (wantT (g := 9) (d := 26) rfl rfl rfl) rfl rfl rfl ?_
  refine dk.c (v := .pointer (some ⟨bu, 1, none⟩)) rfl (by kernel_rfl) (wantT (g := 9) (d := 26) rfl rfl rfl) rfl (by kernel_rfl) rfl ?_
  refine dk.gB (v := .map (some gu)) bu rfl (by kernel_rfl) (wantT (g := 9) (d := 26) rfl rfl rfl) rfl (fun _ q_ => (ld1 (P := Tryd.prog) (t := 67) (p := 1) (v := .map (some gu)) (by kernel_rfl) (by kernel_rfl) (q_ _ hb_u) rfl)) rfl ?_
  refine dk.c (v := .pointer (some ⟨bv, 0, none⟩)) rfl (by kernel_rfl) (wantT (g := 9) (d := 26) rfl rfl rfl) rfl rfl rfl ?_
  refine dk.c (v := .pointer (some ⟨bv, 0, none⟩)) rfl (by kernel_rfl) (wantT (g := 9) (d := 26) rfl rfl rfl) rfl rfl rfl ?_
  refine dk.c (v := .pointer (some ⟨bv, 1, none⟩)) rfl (by kernel_rfl) (wantT (g := 9) (d := 26) rfl rfl rfl) rfl (by kernel_rfl) rfl ?_
  refine dk.gB (v := .map (some gv)) bv rfl (by kernel_rfl) (wantT (g := 9) (d := 26) rfl rfl rfl) rfl (fun _ q_ => (ld1 (P := Tryd.prog) (t := 67) (p := 1) (v := .map (some gv)) (by kernel_rfl) (by kernel_rfl) (q_ _ hb_v) rfl)) rfl ?_
  refine dk.t (v := .bool (eqSt Su Sv)) rfl (by kernel_rfl) (wantT (g := 9) (d := 26) rfl rfl rfl) (CallsF.fn rfl (by kernel_rfl) rfl rfl) (fun hf => eqG_spec _ _ _ _ hg_u hg_v okGu okGv hSu hSv q3 q4 hlen) hf rfl ?_
  intro n2 hn2 hf
  have hn := Nat.le_trans hn hn2
  refine dk.c (v := .bool (eqSt Su Sv)) rfl (by kernel_rfl) rfl rfl rfl rfl ?_
  refine dk.c (v := .bool (eqSt Su Sv)) rfl (by kernel_rfl) rfl rfl rfl rfl ?_
  refine dk.e ?_
  refine AWp.ret ?_
  refine ⟨rfl, [.bool (eqSt Su Sv)], rfl, .bool (eqSt Su Sv), rfl, hs, hn, ?_⟩
  rfl
 ·rw [cM]
  refine dk.s rfl (wantF (g := 9) (d := 26) rfl rfl rfl) rfl ?_
  refine dk.s rfl (wantF (g := 9) (d := 26) rfl rfl rfl) rfl ?_
  refine dk.s rfl (wantF (g := 9) (d := 26) rfl rfl rfl) rfl ?_
  refine dk.s rfl (wantF (g := 9) (d := 26) rfl rfl rfl) rfl ?_
  refine dk.s rfl (wantF (g := 9) (d := 26) rfl rfl rfl) rfl ?_
  refine dk.s rfl (wantF (g := 9) (d := 26) rfl rfl rfl) rfl ?_
  refine dk.s rfl (wantF (g := 9) (d := 26) rfl rfl rfl) rfl ?_
  refine dk.s rfl (wantF (g := 9) (d := 26) rfl rfl rfl) rfl ?_
  refine dk.s rfl (wantF (g := 9) (d := 26) rfl rfl rfl) rfl ?_
  refine dk.c (v := .bool false) rfl (by kernel_rfl) rfl rfl rfl rfl ?_
  refine dk.c (v := .bool false) rfl (by kernel_rfl) rfl rfl rfl rfl ?_
  refine dk.e ?_
  refine AWp.ret ?_
  refine ⟨rfl, [.bool false], rfl, .bool false, rfl, hs, hn, ?_⟩
  rfl
end Go.Proofs.YtkpaklofdkjinaaDoor
