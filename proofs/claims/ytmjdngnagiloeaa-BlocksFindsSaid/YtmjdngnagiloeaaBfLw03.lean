/- Addresses and prefixes: what ddiref02, ddiref03 answer. -/
import Derived.Test.YtmjdngnagiloeaaBfDn46
import Derived.Test.YtmjdngnagiloeaaBfLibD
set_option linter.all false
namespace Go.Proofs.Ytmjdngnagiloeaa.Dn
open Go Go.Pev
set_option linter.unusedVariables false
set_option linter.unusedSimpArgs false
def qkt (v6 : Bool) (hi lo : Int) : Bool := v6 || (hi == 0 && decide (lo < 4294967296))
def qq (v6 : Bool) : Int := if v6 then 128 else 32
theorem qbk7 (v6 : Bool) (hi lo : Int) : qku v6 hi lo = some (qkt v6 hi lo) := by
  rw [q5u]; unfold qxw qkt
  cases v6 <;> cases (hi == 0) <;> simp
theorem qbk8 (v6 : Bool) : qf9 v6 = some (qq v6) := by
  rw [q7p]; unfold qzq qq
  cases v6 <;> rfl
def qb5o (p : Int × Int) : Int × Int := (IntKind.u64.wrap (IntKind.u64.wrap (p.1 * 2) + IntKind.u64.wrap (p.2.tdiv 9223372036854775808)), IntKind.u64.wrap (IntKind.u64.wrap (p.2 * 2) + 1))
def qe8 : Nat → Int × Int
  | 0 => (0, 0)
  | n + 1 => qb5o (qe8 n)
theorem qb0v (n : Int) : qmf n = some (qe8 (min n 128).toNat) := by
  rw [q7q]; unfold qzs
  rw [q1q]
  have key := qb64 (fun k (s : Int × Int × Int) => qou n (fun v4 v5 => some (v4, v5)) k s.1 s.2.1 s.2.2) (fun s nx => qlo n s.1 s.2.1 s.2.2 (fun a b c => nx (a, b, c)) (fun v4 v5 => some (v4, v5))) (fun _ _ => rfl)
    (fun s => ∃ i : Nat, s = ((qe8 i).1, (qe8 i).2, (i : Int)) ∧ i ≤ 128 ∧ (i = 0 ∨ (i : Int) ≤ n)) (fun s => (128 - s.2.2).toNat) (fun _ => some (qe8 (min n 128).toNat)) ?_ FU ((0, 0, 0)) ⟨0, rfl, by simp, .inl rfl⟩ (qhz (by simp))
  · exact key
  · rintro _ ⟨i, rfl, hi, hin⟩ nx hn
    simp only
    have hw : IntKind.i64.wrap ((i : Int) + 1) = ((i + 1 : Nat) : Int) := w64 (by omega) (by omega)
    unfold qlo
    by_cases hc : (i : Int) < n ∧ (i : Int) < 128
    · simp only [hc.1, hc.2, decide_true, Bool.and_true, cond_t, hw]
      exact hn (_, _, _) ⟨i + 1, rfl, by omega, .inr (by omega)⟩ (by simp; omega)
    · have e : (decide ((i : Int) < n) && decide ((i : Int) < 128)) = false := by
        by_cases h1 : (i : Int) < n
        · have : ¬ (i : Int) < 128 := fun h => hc ⟨h1, h⟩
          simp [this]
        · simp [h1]
      simp only [e, cond_f]
      have : (min n 128).toNat = i := by
        by_cases h1 : (i : Int) < n
        · have : ¬ (i : Int) < 128 := fun h => hc ⟨h1, h⟩
          omega
        · omega
      rw [this]
def qew (v6 : Bool) (hi lo bits : Int) : Bool :=
  qkt v6 hi lo && decide (0 ≤ bits) && decide (bits ≤ qq v6) && (qb5 .and .u64 hi (qe8 (qq v6 - bits).toNat).1 == 0) && (qb5 .and .u64 lo (qe8 (qq v6 - bits).toNat).2 == 0)
theorem q4y (v6 : Bool) (hi lo bits : Int) : qge v6 hi lo bits = some (qew v6 hi lo bits) := by
  rw [q5v]; unfold qxz
  simp only [qzw, qsw, qbk7, qbk8, qb0v, oB_s]
  unfold qew
  cases h1 : qkt v6 hi lo
  · simp
  · by_cases h2 : bits < 0
    · have : ¬ 0 ≤ bits := by omega
      simp [h2, this]
    · have h2' : 0 ≤ bits := by omega
      by_cases h3 : qq v6 < bits
      · have : ¬ bits ≤ qq v6 := by omega
        simp [h2, h3, this]
      · have h3' : bits ≤ qq v6 := by omega
        have hl : qq v6 ≤ 128 := by unfold qq; split <;> omega
        have hw : IntKind.i64.wrap (qq v6 - bits) = qq v6 - bits := w64 (by omega) (by omega)
        have hm : (min (qq v6 - bits) 128).toNat = (qq v6 - bits).toNat := by congr 1; omega
        simp [h2, h3, h2', h3', hw, hm]
end Go.Proofs.Ytmjdngnagiloeaa.Dn
