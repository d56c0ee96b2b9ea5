/- Addresses and prefixes: what ddiref02, ddiref03 answer. -/
import Derived.Test.YtmjdngnagiloeaaBgDn46
import Derived.Test.YtmjdngnagiloeaaBgLibD
set_option linter.all false
namespace Go.Proofs.Ytmjdngnagiloeaa.Dn
open Go Go.Pev
set_option linter.unusedVariables false
set_option linter.unusedSimpArgs false
def qki (v6 : Bool) (hi lo : Int) : Bool := v6 || (hi == 0 && decide (lo < 4294967296))
def qp (v6 : Bool) : Int := if v6 then 128 else 32
theorem qbk2 (v6 : Bool) (hi lo : Int) : qkj v6 hi lo = some (qki v6 hi lo) := by
  rw [q53]; unfold qxc qki
  cases v6 <;> cases (hi == 0) <;> simp
theorem qbk3 (v6 : Bool) : qf5 v6 = some (qp v6) := by
  rw [q7v]; unfold qy9 qp
  cases v6 <;> rfl
def qb5n (p : Int × Int) : Int × Int := (IntKind.u64.wrap (IntKind.u64.wrap (p.1 * 2) + IntKind.u64.wrap (p.2.tdiv 9223372036854775808)), IntKind.u64.wrap (IntKind.u64.wrap (p.2 * 2) + 1))
def qe6 : Nat → Int × Int
  | 0 => (0, 0)
  | n + 1 => qb5n (qe6 n)
theorem qb0v (n : Int) : ql8 n = some (qe6 (min n 128).toNat) := by
  rw [q7w]; unfold qzb
  rw [q1e]
  have key := qb67 (fun k (s : Int × Int × Int) => qoj n (fun v4 v5 => some (v4, v5)) k s.1 s.2.1 s.2.2) (fun s nx => qla n s.1 s.2.1 s.2.2 (fun a b c => nx (a, b, c)) (fun v4 v5 => some (v4, v5))) (fun _ _ => rfl)
    (fun s => ∃ i : Nat, s = ((qe6 i).1, (qe6 i).2, (i : Int)) ∧ i ≤ 128 ∧ (i = 0 ∨ (i : Int) ≤ n)) (fun s => (128 - s.2.2).toNat) (fun _ => some (qe6 (min n 128).toNat)) ?_ FU ((0, 0, 0)) ⟨0, rfl, by simp, .inl rfl⟩ (qln (by simp))
  · exact key
  · rintro _ ⟨i, rfl, hi, hin⟩ nx hn
    simp only
    have hw : IntKind.i64.wrap ((i : Int) + 1) = ((i + 1 : Nat) : Int) := w64 (by omega) (by omega)
    unfold qla
    by_cases hc : (i : Int) < n ∧ (i : Int) < 128
    · simp only [hc.1, hc.2, decide_true, Bool.and_true, cond_t, hw]
      exact hn (_, _, _) ⟨i + 1, rfl, by omega, .inr (by omega)⟩ (by simp; omega)
    · have e : (decide ((i : Int) < n) && decide ((i : Int) < 128)) = false := by
        by_cases h1 : (i : Int) < n
        · have : ¬ (i : Int) < 128 := fun h => hc ⟨h1, h⟩
          simp [this]
        · simp [h1]
      simp only [e, cond_f]
      have : (min n 128).toNat = i := by
        by_cases h1 : (i : Int) < n
        · have : ¬ (i : Int) < 128 := fun h => hc ⟨h1, h⟩
          omega
        · omega
      rw [this]
def qdz (v6 : Bool) (hi lo bits : Int) : Bool :=
  qki v6 hi lo && decide (0 ≤ bits) && decide (bits ≤ qp v6) && (qb4 .and .u64 hi (qe6 (qp v6 - bits).toNat).1 == 0) && (qb4 .and .u64 lo (qe6 (qp v6 - bits).toNat).2 == 0)
theorem q45 (v6 : Bool) (hi lo bits : Int) : qgb v6 hi lo bits = some (qdz v6 hi lo bits) := by
  rw [q54]; unfold qxf
  simp only [qzf, qsl, qbk2, qbk3, qb0v, oB_s]
  unfold qdz
  cases h1 : qki v6 hi lo
  · simp
  · by_cases h2 : bits < 0
    · have : ¬ 0 ≤ bits := by omega
      simp [h2, this]
    · have h2' : 0 ≤ bits := by omega
      by_cases h3 : qp v6 < bits
      · have : ¬ bits ≤ qp v6 := by omega
        simp [h2, h3, this]
      · have h3' : bits ≤ qp v6 := by omega
        have hl : qp v6 ≤ 128 := by unfold qp; split <;> omega
        have hw : IntKind.i64.wrap (qp v6 - bits) = qp v6 - bits := w64 (by omega) (by omega)
        have hm : (min (qp v6 - bits) 128).toNat = (qp v6 - bits).toNat := by congr 1; omega
        simp [h2, h3, h2', h3', hw, hm]
end Go.Proofs.Ytmjdngnagiloeaa.Dn
