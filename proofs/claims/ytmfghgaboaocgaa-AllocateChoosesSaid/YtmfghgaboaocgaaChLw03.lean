/- Addresses and prefixes: what ddiref02, ddiref03 answer. -/
import Derived.Test.YtmfghgaboaocgaaChDn47
import Derived.Test.YtmfghgaboaocgaaChLibD
set_option linter.all false
namespace Go.Proofs.Ytmfghgaboaocgaa.Dn
open Go Go.Pev
set_option linter.unusedVariables false
set_option linter.unusedSimpArgs false
def qkh (v6 : Bool) (hi lo : Int) : Bool := v6 || (hi == 0 && decide (lo < 4294967296))
def qn (v6 : Bool) : Int := if v6 then 128 else 32
theorem qbml (v6 : Bool) (hi lo : Int) : qkl v6 hi lo = some (qkh v6 hi lo) := by
  rw [q6p]; unfold qyl qkh
  cases v6 <;> cases (hi == 0) <;> simp
theorem qbmm (v6 : Bool) : qgh v6 = some (qn v6) := by
  rw [q77]; unfold q0m qn
  cases v6 <;> rfl
def qb5o (p : Int × Int) : Int × Int := (IntKind.u64.wrap (IntKind.u64.wrap (p.1 * 2) + IntKind.u64.wrap (p.2.tdiv 9223372036854775808)), IntKind.u64.wrap (IntKind.u64.wrap (p.2 * 2) + 1))
def qfd : Nat → Int × Int
  | 0 => (0, 0)
  | n + 1 => qb5o (qfd n)
theorem qb0x (n : Int) : ql6 n = some (qfd (min n 128).toNat) := by
  rw [q78]; unfold q0o
  rw [q2g]
  have key := qb67 (fun k (s : Int × Int × Int) => qn6 n (fun v4 v5 => some (v4, v5)) k s.1 s.2.1 s.2.2) (fun s nx => qlf n s.1 s.2.1 s.2.2 (fun a b c => nx (a, b, c)) (fun v4 v5 => some (v4, v5))) (fun _ _ => rfl)
    (fun s => ∃ i : Nat, s = ((qfd i).1, (qfd i).2, (i : Int)) ∧ i ≤ 128 ∧ (i = 0 ∨ (i : Int) ≤ n)) (fun s => (128 - s.2.2).toNat) (fun _ => some (qfd (min n 128).toNat)) ?_ FU ((0, 0, 0)) ⟨0, rfl, by simp, .inl rfl⟩ (qkg (by simp))
  · exact key
  · rintro _ ⟨i, rfl, hi, hin⟩ nx hn
    simp only
    have hw : IntKind.i64.wrap ((i : Int) + 1) = ((i + 1 : Nat) : Int) := w64 (by omega) (by omega)
    unfold qlf
    by_cases hc : (i : Int) < n ∧ (i : Int) < 128
    · simp only [hc.1, hc.2, decide_true, Bool.and_true, cond_t, hw]
      exact hn (_, _, _) ⟨i + 1, rfl, by omega, .inr (by omega)⟩ (by simp; omega)
    · have e : (decide ((i : Int) < n) && decide ((i : Int) < 128)) = false := by
        by_cases h1 : (i : Int) < n
        · have : ¬ (i : Int) < 128 := fun h => hc ⟨h1, h⟩
          simp [this]
        · simp [h1]
      simp only [e, cond_f]
      have : (min n 128).toNat = i := by
        by_cases h1 : (i : Int) < n
        · have : ¬ (i : Int) < 128 := fun h => hc ⟨h1, h⟩
          omega
        · omega
      rw [this]
def qdy (v6 : Bool) (hi lo bits : Int) : Bool :=
  qkh v6 hi lo && decide (0 ≤ bits) && decide (bits ≤ qn v6) && (qbx .and .u64 hi (qfd (qn v6 - bits).toNat).1 == 0) && (qbx .and .u64 lo (qfd (qn v6 - bits).toNat).2 == 0)
theorem q0d (v6 : Bool) (hi lo bits : Int) : qfq v6 hi lo bits = some (qdy v6 hi lo bits) := by
  rw [q6q]; unfold qyo
  simp only [q0s, qst, qbml, qbmm, qb0x, oB_s]
  unfold qdy
  cases h1 : qkh v6 hi lo
  · simp
  · by_cases h2 : bits < 0
    · have : ¬ 0 ≤ bits := by omega
      simp [h2, this]
    · have h2' : 0 ≤ bits := by omega
      by_cases h3 : qn v6 < bits
      · have : ¬ bits ≤ qn v6 := by omega
        simp [h2, h3, this]
      · have h3' : bits ≤ qn v6 := by omega
        have hl : qn v6 ≤ 128 := by unfold qn; split <;> omega
        have hw : IntKind.i64.wrap (qn v6 - bits) = qn v6 - bits := w64 (by omega) (by omega)
        have hm : (min (qn v6 - bits) 128).toNat = (qn v6 - bits).toNat := by congr 1; omega
        simp [h2, h3, h2', h3', hw, hm]
end Go.Proofs.Ytmfghgaboaocgaa.Dn
