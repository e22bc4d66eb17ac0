/- Operations that read memory, and write none. -/
import Derived.Test.YtkpjfibpaojelaaGreatDoorAbs10
namespace Go.Abs
open Go

/-- A bound of a slice expression: none, or a number from 0 to a most one. -/
def boundE (v : Option Value) (most dflt : Nat) : Option Nat :=
  match v with
  | none => some dflt
  | some (.int _ i) => if 0 ≤ i ∧ i ≤ most then some i.toNat else none
  | some _ => none

inductive ORelV (μ : Mu) : Option Value → Option Value → Prop
  | none : ORelV μ none none
  | some {x y : Value} (h : VRel μ x y) : ORelV μ (some x) (some y)

theorem boundE_sound {P : Program} {μ : Mu} {v v' : Value} {most dflt n : Nat} (hv : VRel μ v v') (e : boundE (some v) most dflt = some n) (code : BoundsCode) {most' : Nat} (hm : most ≤ most') (w : World) :
    (Instr.sliceBound v' most' code).run P w = .ok n w ∧ n ≤ most := by
  unfold boundE at e
  split at e
  · cases ‹some v = none›
  · rename_i k i heq
    cases heq
    cases hv
    split at e
    · rename_i hb
      cases e
      refine ⟨?_, by omega⟩
      have : 0 ≤ i ∧ i ≤ (most' : Int) := ⟨hb.1, by omega⟩
      simp [Instr.sliceBound, asIntOf, this]
    · cases e
  · cases e

/-- The bounds low, high, max of a slice of that length; 'cap': how far one may reach, 'none': no further than the length. -/
def boundsE (len : Nat) (cap : Nat) (lo hi mx : Option Value) : Option (Nat × Nat × Option Nat) :=
  match mx with
  | none => match boundE hi cap len with
    | some h => match boundE lo h 0 with
      | some l => some (l, h, none)
      | none => none
    | none => none
  | some m => match boundE (some m) cap 0 with
    | some m => match hi with
      | some hv => match boundE (some hv) m 0 with
        | some h => match boundE lo h 0 with
          | some l => some (l, h, some m)
          | none => none
        | none => none
      | none => none
    | none => none

theorem boundE_none (most dflt : Nat) : boundE none most dflt = some dflt := rfl

theorem boundsE_sound {P : Program} {μ : Mu} {len cap cap' : Nat} {lo hi mx lo' hi' mx' : Option Value} {l h : Nat} {m : Option Nat} (isSlice : Bool) (h1 : ORelV μ lo lo') (h2 : ORelV μ hi hi') (h3 : ORelV μ mx mx')
    (hc : cap ≤ cap') (hlen : len ≤ cap) (e : boundsE len cap lo hi mx = some (l, h, m)) (w : World) :
    (Instr.sliceBounds isSlice len cap' lo' hi' mx').run P w = .ok (l, h, m.getD cap') w ∧ l ≤ h ∧ h ≤ cap ∧ (∀ x, m = some x → h ≤ x ∧ x ≤ cap) := by
  cases h3 with
  | none =>
    cases h2 with
    | none =>
      cases h1 with
      | none =>
        simp [boundsE, boundE] at e
        obtain ⟨rfl, rfl, rfl⟩ := e
        exact ⟨by simp [Instr.sliceBounds], by omega, hlen, by simp⟩
      | some hv =>
        simp only [boundsE, boundE_none] at e
        split at e
        · rename_i l0 e0
          cases e
          obtain ⟨q1, q2⟩ := boundE_sound (P := P) hv e0 .sliceB (Nat.le_refl _) w
          exact ⟨by simp [Instr.sliceBounds, q1], q2, hlen, by simp⟩
        · cases e
    | some hh =>
      cases h1 with
      | none =>
        simp only [boundsE, boundE_none] at e
        split at e
        · rename_i u0 e0
          cases e
          obtain ⟨q1, q2⟩ := boundE_sound (P := P) hh e0 (if isSlice then .sliceAcap else .sliceAlen) hc w
          exact ⟨by simp [Instr.sliceBounds, q1], by omega, q2, by simp⟩
        · cases e
      | some hv =>
        simp only [boundsE] at e
        split at e
        · rename_i u0 e0
          split at e
          · rename_i l0 e1
            cases e
            obtain ⟨q1, q2⟩ := boundE_sound (P := P) hh e0 (if isSlice then .sliceAcap else .sliceAlen) hc w
            obtain ⟨q3, q4⟩ := boundE_sound (P := P) hv e1 .sliceB (Nat.le_refl _) w
            exact ⟨by simp [Instr.sliceBounds, q1, q3], q4, q2, by simp⟩
          · cases e
        · cases e
  | some hmx =>
    cases h2 with
    | none =>
      simp only [boundsE] at e
      split at e <;> cases e
    | some hh =>
      simp only [boundsE] at e
      split at e
      · rename_i m0 e0
        split at e
        · rename_i u0 e1
          split at e
          · rename_i l0 e2
            cases e
            obtain ⟨p1, p2⟩ := boundE_sound (P := P) hmx e0 (if isSlice then .slice3Acap else .slice3Alen) hc w
            obtain ⟨q1, q2⟩ := boundE_sound (P := P) hh e1 .slice3B (Nat.le_refl _) w
            cases h1 with
            | none =>
              simp [boundE] at e2
              subst e2
              exact ⟨by simp [Instr.sliceBounds, p1, q1], by omega, by omega, fun x hx => by cases hx; exact ⟨q2, p2⟩⟩
            | some hv =>
              obtain ⟨q3, q4⟩ := boundE_sound (P := P) hv e2 .slice3C (Nat.le_refl _) w
              exact ⟨by simp [Instr.sliceBounds, p1, q1, q3], q4, by omega, fun x hx => by cases hx; exact ⟨q2, p2⟩⟩
          · cases e
        · cases e
      · cases e

def sliceE (P : Program) (t : TypeId) (x : Value) (lo hi mx : Option Value) (h : Heap) : Option Value :=
  match P.underlying t, x with
  | some .string, .string s => match mx, boundsE s.data.toList.length s.data.toList.length lo hi none with
    | none, some (l, u, _) => some (.string (sliceS s l u))
    | _, _ => none
  | some (.slice elem), .slice none 0 0 => match P.info? elem, boundsE 0 0 lo hi mx with
    | some _, some _ => some (.slice none 0 0)
    | _, _ => none
  | some (.slice elem), .slice (some ⟨b, o, none⟩) len cap =>
    match P.info? elem with
    | some i =>
      if len ≥ U then none else
      if cap = U then
        match boundsE len len lo hi mx with
        | some (l, u, some m) => some (.slice (some (if m = l then ⟨b, o, none⟩ else ⟨b, o + l * i.size, none⟩)) (u - l) (m - l))
        | some (l, u, none) =>
          if l < len ∨ l = 0 then
            match h.get b with
            | some (.cells cs _ ci) => if ci.k = i.size ∨ (ci.k = 0 ∧ o + l * i.size ≤ cs.length) then some (.slice (some ⟨b, o + l * i.size, none⟩) (u - l) U) else none
            | _ => none
          else none
        | none => none
      else if len ≤ cap ∧ cap < U then
        match boundsE len cap lo hi mx with
        | some (l, u, m) =>
          some (.slice (some (if m.getD cap = l then ⟨b, o, none⟩ else ⟨b, o + l * i.size, none⟩)) (u - l) (m.getD cap - l))
        | none => none
      else none
    | none => none
  | some (.array n elem), .pointer (some ⟨b, o, none⟩) =>
    match P.info? elem, boundsE n n lo hi mx with
    | some i, some (l, u, m) =>
      if n < U then some (.slice (some (if m.getD n = l then ⟨b, o, none⟩ else ⟨b, o + l * i.size, none⟩)) (u - l) (m.getD n - l)) else none
    | _, _ => none
  | _, _ => none

theorem sliceE_sound {P : Program} {μ : Mu} {h : Heap} {n : Nat} {w : World} (r : Rel P μ h n w) {t : TypeId} {x x' v : Value} {lo hi mx lo' hi' mx' : Option Value} (hx : VRel μ x x') (h1 : ORelV μ lo lo') (h2 : ORelV μ hi hi') (h3 : ORelV μ mx mx')
    (e : sliceE P t x lo hi mx h = some v) : ∃ v', (Instr.sliceAt t x' lo' hi' mx').run P w = .ok v' w ∧ VRel μ v v' := by
  unfold sliceE at e
  split at e
  · rename_i s hu
    cases hx
    split at e
    · rename_i l u m eb
      cases e
      cases h3
      obtain ⟨q1, q2, q3, _⟩ := boundsE_sound (P := P) false h1 h2 .none (Nat.le_refl _) (Nat.le_refl _) eb w
      refine ⟨_, ?_, .string _⟩
      have hs : s.data.toList.length = s.size := by simp
      rw [hs] at q1
      simp only [Instr.sliceAt, Sem.run_bind, run_underlying_of hu, Result.andThen_ok, Instr.slice, Option.isSome_none, Bool.false_eq_true, if_false, Sem.run_pure]
      rw [q1]
      simp [sliceS_eq]
    · cases e
  · rename_i el hu
    cases hx
    split at e
    · rename_i i y hi eb
      cases e
      obtain ⟨l, u, m⟩ := y
      obtain ⟨q1, q2, q3, q4⟩ := boundsE_sound (P := P) true h1 h2 h3 (Nat.le_refl _) (Nat.le_refl _) eb w
      have hl : l = 0 := by omega
      have hu0 : u = 0 := by omega
      have hm : m.getD 0 = 0 := by
        cases m with
        | none => rfl
        | some z => have := q4 z rfl; simp; omega
      rw [hm, hl, hu0] at q1
      refine ⟨_, ?_, .snil⟩
      simp only [Instr.sliceAt, Sem.run_bind, run_underlying_of hu, Result.andThen_ok, Instr.slice]
      rw [q1]
      simp [run_sizeOf_of hi]
    · cases e
  · rename_i el b o len cap hu
    cases hx with
    | slice _ _ _ cap' hm hcc =>
      rename_i m0
      split at e
      · rename_i i hi
        split at e
        · cases e
        rename_i hlU
        split at e
        · rename_i hU
          have hle : len ≤ cap' ∧ m0.off + o + cap' * m0.k ≤ m0.sz := by
            rcases hcc with ⟨h, _⟩ | ⟨_, c1, c2⟩
            · omega
            · exact ⟨c1, c2⟩
          split at e
          · rename_i l u m eb
            cases e
            obtain ⟨q1, q2, q3, q4⟩ := boundsE_sound (P := P) true h1 h2 h3 hle.1 (Nat.le_refl _) eb w
            have hrun : (Instr.sliceAt t (.slice (some ⟨m0.blk, m0.off + o, none⟩) len cap') lo' hi' mx').run P w = .ok (.slice (some (if m = l then ⟨m0.blk, m0.off + o, none⟩ else ⟨m0.blk, m0.off + (o + l * i.size), none⟩)) (u - l) (m - l)) w := by
              simp only [Instr.sliceAt, Sem.run_bind, run_underlying_of hu, Result.andThen_ok, Instr.slice]
              rw [q1]
              simp only [Result.andThen_ok, run_sizeOf_of hi, Sem.run_pure, Option.getD_some, Addr.add_plain, Option.map_some, Nat.add_assoc]
              congr 2
              split <;> rfl
            refine ⟨_, hrun, ?_⟩
            have hmU : m - l < U := by have := q4 m rfl; omega
            split
            · exact .slice _ _ _ _ hm (.inl ⟨hmU, rfl⟩)
            · exact .slice _ _ _ _ hm (.inl ⟨hmU, rfl⟩)
          · rename_i l u eb
            split at e
            · rename_i hlt
              split at e
              · rename_i cs own ci hb
                split at e
                · rename_i hk
                  cases e
                  obtain ⟨q1, q2, q3, q4⟩ := boundsE_sound (P := P) true h1 h2 h3 hle.1 (Nat.le_refl _) eb w
                  obtain ⟨m1, x1, f1, f2, f3⟩ := r.obj b _ hb
                  rw [hm] at f1; cases f1
                  have hkk : m0.k = ci.k ∧ m0.off + cs.length ≤ m0.sz := by
                    cases x1 with
                    | cells c e' fr => obtain ⟨g1, g2, _, _, g5, _⟩ := f3; exact ⟨g5, by omega⟩
                    | _ => exact f3.elim
                  have hrun : (Instr.sliceAt t (.slice (some ⟨m0.blk, m0.off + o, none⟩) len cap') lo' hi' mx').run P w = .ok (.slice (some ⟨m0.blk, m0.off + (o + l * i.size), none⟩) (u - l) (cap' - l)) w := by
                    simp only [Instr.sliceAt, Sem.run_bind, run_underlying_of hu, Result.andThen_ok, Instr.slice]
                    rw [q1]
                    simp only [Result.andThen_ok, run_sizeOf_of hi, Sem.run_pure, Option.getD_none, Addr.add_plain, Option.map_some, Nat.add_assoc]
                    by_cases hcl : cap' = l
                    · have : l = 0 := by omega
                      subst this
                      simp
                    · rw [if_neg hcl]
                  refine ⟨_, hrun, .slice _ _ _ _ hm (.inr ⟨rfl, by omega, ?_⟩)⟩
                  have hlc : l ≤ cap' := by omega
                  rcases hk with hk | ⟨hk, hk2⟩
                  · have e1 : l * i.size + (cap' - l) * m0.k = cap' * m0.k := by
                      rw [hkk.1, hk, ← Nat.add_mul]
                      congr 1; omega
                    omega
                  · rw [hkk.1, hk]; omega
                · cases e
              · cases e
            · cases e
          · cases e
        · rename_i hU
          split at e
          · rename_i hlen
            obtain ⟨hlen, hcU⟩ := hlen
            have hcc' : cap = cap' := by
              rcases hcc with ⟨_, h⟩ | ⟨h, _⟩
              · exact h
              · exact (hU h).elim
            subst hcc'
            split at e
            · rename_i l u m eb
              cases e
              obtain ⟨q1, q2, q3, q4⟩ := boundsE_sound (P := P) true h1 h2 h3 (Nat.le_refl _) hlen eb w
              have hrun : (Instr.sliceAt t (.slice (some ⟨m0.blk, m0.off + o, none⟩) len cap) lo' hi' mx').run P w = .ok (.slice (some (if m.getD cap = l then ⟨m0.blk, m0.off + o, none⟩ else ⟨m0.blk, m0.off + (o + l * i.size), none⟩)) (u - l) (m.getD cap - l)) w := by
                simp only [Instr.sliceAt, Sem.run_bind, run_underlying_of hu, Result.andThen_ok, Instr.slice]
                rw [q1]
                simp only [Result.andThen_ok, run_sizeOf_of hi, Sem.run_pure, Addr.add_plain, Option.map_some, Nat.add_assoc]
                congr 2
                split <;> rfl
              refine ⟨_, hrun, ?_⟩
              have hmU : m.getD cap - l < U := by
                cases m with
                | none => simp; omega
                | some z => have := q4 z rfl; simp; omega
              split
              · exact .slice _ _ _ _ hm (.inl ⟨hmU, rfl⟩)
              · exact .slice _ _ _ _ hm (.inl ⟨hmU, rfl⟩)
            · cases e
          · cases e
      · cases e
  · rename_i k el b o hu
    cases hx with
    | ptr _ hm =>
      rename_i m0
      split at e
      · rename_i i l u m hi eb
        split at e
        · rename_i hkU
          cases e
          obtain ⟨q1, q2, q3, q4⟩ := boundsE_sound (P := P) false h1 h2 h3 (Nat.le_refl _) (Nat.le_refl _) eb w
          have hrun : (Instr.sliceAt t (.pointer (some ⟨m0.blk, m0.off + o, none⟩)) lo' hi' mx').run P w = .ok (.slice (some (if m.getD k = l then ⟨m0.blk, m0.off + o, none⟩ else ⟨m0.blk, m0.off + (o + l * i.size), none⟩)) (u - l) (m.getD k - l)) w := by
            simp only [Instr.sliceAt, Sem.run_bind, run_underlying_of hu, Result.andThen_ok, Instr.sureAddr, Sem.run_pure]
            rw [q1]
            simp only [Result.andThen_ok, run_sizeOf_of hi, Addr.add_plain, Nat.add_assoc]
          refine ⟨_, hrun, ?_⟩
          have hmU : m.getD k - l < U := by
            cases m with
            | none => simp; omega
            | some z => have := q4 z rfl; simp; omega
          split
          · exact .slice _ _ _ _ hm (.inl ⟨hmU, rfl⟩)
          · exact .slice _ _ _ _ hm (.inl ⟨hmU, rfl⟩)
        · cases e
      · cases e
  · cases e
end Go.Abs
