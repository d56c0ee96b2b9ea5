/- Tables of blocks: what Check answers, the program's and the reference's. -/
import Derived.Test.YtmfghgaboaocgaaFrLw46n
set_option linter.all false
namespace Go.Proofs.Ytmfghgaboaocgaa.Dn
open Go Go.Pev
set_option linter.unusedVariables false
set_option linter.unusedSimpArgs false
set_option maxRecDepth 4000
theorem qbqy (v6 : Bool) (hi lo : Int) (w6 : Bool) (whi wlo : Int) : qqs v6 hi lo w6 whi wlo = some (cmpA v6 hi lo w6 whi wlo) := by
  rw [q1a]; unfold qwb cmpA
  simp only [q2u, qyi, q5a, oB_s]
  by_cases h1 : v6 = w6
  · subst h1
    by_cases h2 : hi = whi
    · subst h2; simp
    · by_cases h3 : hi < whi
      · simp [h2, h3]
      · have : hi > whi := by omega
        simp [h2, h3, this]
  · cases v6 <;> cases w6 <;> simp at h1 ⊢
theorem qbok (v6 : Bool) (hi lo bits : Int) (w6 : Bool) (whi wlo wbits : Int) : qk2 v6 hi lo bits w6 whi wlo wbits = some (cmpP v6 hi lo bits w6 whi wlo wbits) := by
  rw [qy1]; unfold qta cmpP
  simp only [qbqy, oB_s, q5a]
theorem q5d (v6 : Bool) (hi lo bits : Int) (w6 : Bool) (whi wlo wbits : Int) :
    (cmpP v6 hi lo bits w6 whi wlo wbits < 0 ∧ ltP v6 hi lo bits w6 whi wlo wbits) ∨ (cmpP v6 hi lo bits w6 whi wlo wbits = 0 ∧ v6 = w6 ∧ hi = whi ∧ lo = wlo ∧ bits = wbits) ∨ (cmpP v6 hi lo bits w6 whi wlo wbits > 0 ∧ ltP w6 whi wlo wbits v6 hi lo bits) := by
  unfold cmpP cmpA ltP
  by_cases h1 : v6 = w6
  · subst h1
    by_cases h2 : hi = whi
    · subst h2
      by_cases h3 : lo < wlo
      · left; simp [h3]
      · by_cases h4 : lo > wlo
        · right; right; simp [h3, h4]
        · have : lo = wlo := by omega
          subst this
          by_cases h5 : bits < wbits
          · left; simp [h5]
          · by_cases h6 : bits > wbits
            · right; right; simp [h5, h6]
            · right; left
              have : bits = wbits := by omega
              subst this; simp
    · have h2' : (hi != whi) = true := by simpa using h2
      by_cases h3 : hi < whi
      · left; simp [h2', h3]
      · have h4 : whi < hi := by omega
        right; right; simp [h2', h3, h4]
  · cases v6 <;> cases w6 <;> simp at h1 ⊢
def cmpY (y z : AV) : Int := cmpP (gB y.cells 0) (gI y.cells 1) (gI y.cells 2) (gI y.cells 3) (gB z.cells 0) (gI z.cells 1) (gI z.cells 2) (gI z.cells 3)
def samP (y z : AV) : Bool := (gB y.cells 0 == gB z.cells 0) && ((gI y.cells 1 == gI z.cells 1) && ((gI y.cells 2 == gI z.cells 2) && ((gI y.cells 3 == gI z.cells 3) && true)))
theorem qbky {y z : AV} : samP y z = true ↔ gB y.cells 0 = gB z.cells 0 ∧ gI y.cells 1 = gI z.cells 1 ∧ gI y.cells 2 = gI z.cells 2 ∧ gI y.cells 3 = gI z.cells 3 := by simp [samP]
theorem q5e {y z : AV} : samP y z = true ↔ cmpY y z = 0 := by
  rw [qbky]
  unfold cmpY
  rcases q5d (gB y.cells 0) (gI y.cells 1) (gI y.cells 2) (gI y.cells 3) (gB z.cells 0) (gI z.cells 1) (gI z.cells 2) (gI z.cells 3) with ⟨h, h2⟩ | ⟨h, h2⟩ | ⟨h, h2⟩
  · constructor
    · rintro ⟨a, b, c, d⟩; rw [a, b, c, d] at h2; exact absurd h2 qkx
    · intro h3; omega
  · exact ⟨fun _ => h, fun _ => h2⟩
  · constructor
    · rintro ⟨a, b, c, d⟩; rw [a, b, c, d] at h2; exact absurd h2 qkx
    · intro h3; omega
theorem qx7 (y z : AV) : (cmpY y z > 0 ↔ cmpY z y < 0) ∧ (cmpY y z = 0 ↔ cmpY z y = 0) ∧ (cmpY y z < 0 ↔ ltY y z) := by
  unfold cmpY ltY
  have irr : ∀ {a : Bool} {b c d : Int} {a' : Bool} {b' c' d' : Int}, ltP a b c d a' b' c' d' → ¬ ltP a' b' c' d' a b c d := fun h1 h2 => qkx (q89 h1 h2)
  rcases q5d (gB y.cells 0) (gI y.cells 1) (gI y.cells 2) (gI y.cells 3) (gB z.cells 0) (gI z.cells 1) (gI z.cells 2) (gI z.cells 3) with ⟨h, h2⟩ | ⟨h, a, b, c, d⟩ | ⟨h, h2⟩ <;>
  rcases q5d (gB z.cells 0) (gI z.cells 1) (gI z.cells 2) (gI z.cells 3) (gB y.cells 0) (gI y.cells 1) (gI y.cells 2) (gI y.cells 3) with ⟨k, k2⟩ | ⟨k, a', b', c', d'⟩ | ⟨k, k2⟩
  · exact absurd k2 (irr h2)
  · rw [a', b', c', d'] at h2; exact absurd h2 qkx
  · exact ⟨by constructor <;> intro <;> omega, by constructor <;> intro <;> omega, ⟨fun _ => h2, fun _ => h⟩⟩
  · rw [a, b, c, d] at k2; exact absurd k2 qkx
  · refine ⟨by constructor <;> intro <;> omega, by constructor <;> intro <;> omega, ⟨fun _ => by omega, fun h3 => ?_⟩⟩
    rw [a, b, c, d] at h3; exact absurd h3 qkx
  · rw [a, b, c, d] at k2; exact absurd k2 qkx
  · refine ⟨by constructor <;> intro <;> omega, by constructor <;> intro <;> omega, ⟨fun _ => by omega, fun h3 => absurd h3 (irr h2)⟩⟩
  · rw [a', b', c', d'] at h2; exact absurd h2 qkx
  · exact absurd k2 (irr h2)
def qbi8 (y z : AV) : Bool := decide (gI y.cells 3 > gI z.cells 3) && qbgv y z
def qsw (v6 : Bool) (hi lo bits : Int) (w6 : Bool) (whi wlo wbits : Int) : Bool := decide (bits > wbits) && qm8 v6 hi lo bits w6 whi wlo wbits
theorem qbkz (v6 : Bool) (hi lo bits : Int) (w6 : Bool) (whi wlo wbits : Int) : ql3 v6 hi lo bits w6 whi wlo wbits = some (qsw v6 hi lo bits w6 whi wlo wbits) := by
  rw [q2g]; unfold qyb qsw
  simp only [qx6, oB_s]
  cases decide (bits > wbits) <;> rfl
theorem qbhy (s : List UInt8) (lo hi : Int) (hs : s.length ≤ 9223372036854775807) : qk1 s lo hi = some (decide ((s.length : Int) ≥ lo) && (decide ((s.length : Int) ≤ hi) && qva s)) := by
  rw [qyy]; unfold qs7
  have e : qj2 s (s.length : Int) (fun (_ : Unit) => some true) FU 0 = some (qva s) := by
    rw [qtp, q1p s hs (qks s (s.length : Int) fun _ => some true) (fun i nx => qfy s (s.length : Int) i nx fun _ => some true) (fun _ _ => rfl) (fun r => some (qva r))]
    · intro nx; simp [qfy, qva]
    · intro i y r nx h1 h2 h3 h4 h5
      have h6 : (i : Int) < (s.length : Int) := by omega
      unfold qfy
      simp only [h6, decide_true, cond_t, ixB_nat, h2, oB_s, h4, h5, qva, List.all_cons]
      by_cases a1 : (y.toNat : Int) < 33
      · have a2 : ¬ 33 ≤ y.toNat := by omega
        simp [a1, a2]
      · have a2 : 33 ≤ y.toNat := by omega
        by_cases b1 : (y.toNat : Int) > 126
        · have b2 : ¬ y.toNat ≤ 126 := by omega
          simp [a1, a2, b1, b2]
        · have b2 : y.toNat ≤ 126 := by omega
          simp [a1, a2, b1, b2]
  rw [e]
  by_cases h1 : (s.length : Int) < lo
  · have : ¬ (s.length : Int) ≥ lo := by omega
    simp [h1, this]
  · have h1' : (s.length : Int) ≥ lo := by omega
    by_cases h2 : (s.length : Int) > hi
    · have : ¬ (s.length : Int) ≤ hi := by omega
      simp [h1, h2, this]
    · have : (s.length : Int) ≤ hi := by omega
      simp [h1, h2, this, h1']
def qvc (y : AV) : Int := bif !qpu y then 3 else bif !mayB y then 1 else 0
theorem qbmf (y : AV) (hy : qu9 y) : qla (gB y.cells 0) (gI y.cells 1) (gI y.cells 2) (gI y.cells 3) (gI y.cells 4) (gS y.cells 5) (gS y.cells 6) (gI y.cells 7) = some (qvc y) := by
  have hw : qqn (gB y.cells 0) (gI y.cells 1) (gI y.cells 2) (gI y.cells 3) = some (qt (gB y.cells 0)) := by
    rw [q08]; unfold qv7 qt; cases gB y.cells 0 <;> rfl
  rw [q09]; unfold qv9 qvc qpu mayB
  simp only [qvp, qqp, q0p, qbhy _ _ _ hy.2.2.2.1, qbhy _ _ _ hy.2.2.2.2, hw, oB_s]
  have e1 : decide (((gS y.cells 6).length : Int) ≥ 0) = true := by simp
  rw [e1]
  cases qf2 (gB y.cells 0) (gI y.cells 1) (gI y.cells 2) (gI y.cells 3)
  · rfl
  · have e2 : decide (gI y.cells 7 < 0) = !decide (gI y.cells 7 ≥ 0) := by rw [Bool.eq_iff_iff]; simp
    have e3 : decide (gI y.cells 7 > 4294967295) = !decide (gI y.cells 7 ≤ 4294967295) := by rw [Bool.eq_iff_iff]; simp
    rw [e2, e3]
    cases decide (gI y.cells 4 < 1) <;> cases decide (gI y.cells 4 > 3) <;> cases (gI y.cells 4 == 3) <;> cases (gI y.cells 3 != qt (gB y.cells 0)) <;> simp only [cond_t, cond_f, Bool.not_true, Bool.not_false] <;>
      cases decide (((gS y.cells 5).length : Int) ≥ 1) <;> cases decide (((gS y.cells 5).length : Int) ≤ 63) <;> cases qva (gS y.cells 5) <;> cases decide (((gS y.cells 6).length : Int) ≤ 32) <;> cases qva (gS y.cells 6) <;> cases decide (gI y.cells 7 ≥ 0) <;> cases decide (gI y.cells 7 ≤ 4294967295) <;> rfl
def admF (ko kb : Int) : Bool := bif ko == 1 then true else bif ko == 2 then kb == 3 else false
theorem qbpl (y z : AV) : qoq (gB z.cells 0) (gI z.cells 1) (gI z.cells 2) (gI z.cells 3) (gI z.cells 4) (gS z.cells 5) (gS z.cells 6) (gI z.cells 7) (gB y.cells 0) (gI y.cells 1) (gI y.cells 2) (gI y.cells 3) (gI y.cells 4) (gS y.cells 5) (gS y.cells 6) (gI y.cells 7) = some (admF (gI z.cells 4) (gI y.cells 4)) := by
  rw [qzx]; unfold quj admF
  simp only [q5a]
def misY (y z : AV) : Bool := qbi8 y z && !admF (gI z.cells 4) (gI y.cells 4)
theorem qbmg {y z : AV} (hz : mayB z = true) : misY y z = qda y z := by
  have hk : 1 ≤ gI z.cells 4 ∧ gI z.cells 4 ≤ 3 := by
    unfold mayB at hz
    by_cases h1 : gI z.cells 4 < 1
    · simp [h1] at hz
    · by_cases h2 : gI z.cells 4 > 3
      · simp [h1, h2] at hz
      · omega
  unfold misY qda qbi8 admF
  have h3 : gI z.cells 4 = 1 ∨ gI z.cells 4 = 2 ∨ gI z.cells 4 = 3 := by omega
  rcases h3 with h | h | h <;> rw [h] <;> cases qbgv y z <;> cases decide (gI y.cells 3 > gI z.cells 3) <;> cases hh : gI y.cells 4 == 3 <;> simp [hh, bne]
theorem q0q (q : AV → Bool) (l : List AV) : decide (idxI q l ≥ 0) = l.any q := by
  unfold idxI
  have : (idxO q l).isSome = l.any q := by
    induction l with
    | nil => rfl
    | cons y r ih => unfold idxO; cases hq : q y <;> simp [hq, ih]
  cases h : idxO q l with
  | none => rw [h] at this; simp at this ⊢; simpa using this
  | some k => rw [h] at this; simp at this ⊢; simpa using this
theorem q5f {R : Type} (l : List AV) (hl : qc4 l) (a0 : Bool) (a1 : Int) (a2 : Int) (a3 : Int) (a4 : Int) (a5 : List UInt8) (a6 : List UInt8) (a7 : Int) (kr : Int → Bool → Int → Int → Int → Int → List UInt8 → List UInt8 → Int → Option R) (q : AV → Bool) (hq : ∀ y, qu9 y → ∀ kr : Bool → Bool → Int → Int → Int → Int → List UInt8 → List UInt8 → Int → Option R, qj3 (gB y.cells 0) (gI y.cells 1) (gI y.cells 2) (gI y.cells 3) (gI y.cells 4) (gS y.cells 5) (gS y.cells 6) (gI y.cells 7) a0 a1 a2 a3 a4 a5 a6 a7 kr = kr (q y) a0 a1 a2 a3 a4 a5 a6 a7) :
    qbl l a0 a1 a2 a3 a4 a5 a6 a7 kr = kr (idxI q l) a0 a1 a2 a3 a4 a5 a6 a7 := by
  rw [qec]; unfold qcy
  rw [qdq]
  have key := qkl l hl.1 (fun n i (s : Bool × Int × Int × Int × Int × (List UInt8) × (List UInt8) × Int) => qbt l (l.length : Int) (fun c0 c1 c2 c3 c4 c5 c6 c7 => kr (-1 : Int) c0 c1 c2 c3 c4 c5 c6 c7) kr n i s.1 s.2.1 s.2.2.1 s.2.2.2.1 s.2.2.2.2.1 s.2.2.2.2.2.1 s.2.2.2.2.2.2.1 s.2.2.2.2.2.2.2)
    (fun i s nx => qv l (l.length : Int) i s.1 s.2.1 s.2.2.1 s.2.2.2.1 s.2.2.2.2.1 s.2.2.2.2.2.1 s.2.2.2.2.2.2.1 s.2.2.2.2.2.2.2 (fun i c0 c1 c2 c3 c4 c5 c6 c7 => nx i (c0, c1, c2, c3, c4, c5, c6, c7)) (fun c0 c1 c2 c3 c4 c5 c6 c7 => kr (-1 : Int) c0 c1 c2 c3 c4 c5 c6 c7) kr) (fun _ _ _ => rfl)
    (fun i s => s = (a0, a1, a2, a3, a4, a5, a6, a7)) (fun r s => kr (match idxO q r with | some k => ((l.length - r.length + k : Nat) : Int) | none => -1) a0 a1 a2 a3 a4 a5 a6 a7) ?_ ?_ (a0, a1, a2, a3, a4, a5, a6, a7) FU rfl (qou (by have := hl.1; omega))
  · refine key.trans ?_
    unfold idxI
    cases idxO q l <;> simp
  · intro s nx hs
    subst hs
    simp [qv, idxO]
  · rintro i y r _ nx h1 h2 h3 h4 rfl h5
    have hy := hl.2 y (List.mem_of_getElem? h2)
    have h6 : (i : Int) < (l.length : Int) := by omega
    have hr : r.length = l.length - (i + 1) := by
      have := congrArg List.length h1
      simp at this
      omega
    unfold qv
    simp only [h6, decide_true, cond_t, ixB_nat, h2, oB_s, hy.1, hq y hy, h4]
    unfold idxO
    cases hqq : q y with
    | true =>
      simp only [cond_t, if_true]
      congr 1
      simp
      omega
    | false =>
      simp only [cond_f, Bool.false_eq_true, if_false]
      rw [h5 _ rfl]
      cases idxO q r with
      | none => rfl
      | some k =>
        simp
        congr 1
        omega
theorem qbbm (l : List AV) (hl : qc4 l) (y : AV) : qgp l (gB y.cells 0) (gI y.cells 1) (gI y.cells 2) (gI y.cells 3) (gI y.cells 4) (gS y.cells 5) (gS y.cells 6) (gI y.cells 7) = some (l.any (misY y)) := by
  rw [qvq]; unfold qqq
  rw [qds]; unfold qco
  rw [q5f l hl _ _ _ _ _ _ _ _ _ (misY y), q0q]
  intro z hz kr
  rw [qtr]; unfold qnz
  simp only [qbkz, qbpl, oB_s]
  have e : qsw (gB y.cells 0) (gI y.cells 1) (gI y.cells 2) (gI y.cells 3) (gB z.cells 0) (gI z.cells 1) (gI z.cells 2) (gI z.cells 3) = qbi8 y z := rfl
  rw [e]
  unfold misY
  cases qbi8 y z <;> simp
end Go.Proofs.Ytmfghgaboaocgaa.Dn
