/- Addresses and prefixes: what ddiref02, ddiref03 answer. -/
import Derived.Test.YtmjdngnagiloeaaBcDn46
import Derived.Test.YtmjdngnagiloeaaBcLibD
set_option linter.all false
namespace Go.Proofs.Ytmjdngnagiloeaa.Dn
open Go Go.Pev
set_option linter.unusedVariables false
set_option linter.unusedSimpArgs false
def addrOk (v6 : Bool) (hi lo : Int) : Bool := v6 || (hi == 0 && decide (lo < 4294967296))
def longOf (v6 : Bool) : Int := if v6 then 128 else 32
theorem p_Valid02 (v6 : Bool) (hi lo : Int) : qhn v6 hi lo = some (addrOk v6 hi lo) := by
  rw [qvj]; unfold qp9 addrOk
  cases v6 <;> cases (hi == 0) <;> simp
theorem p_Long (v6 : Bool) : qgy v6 = some (longOf v6) := by
  rw [qwq]; unfold qrl longOf
  cases v6 <;> rfl
def onesStep (p : Int × Int) : Int × Int := (IntKind.u64.wrap (IntKind.u64.wrap (p.1 * 2) + IntKind.u64.wrap (p.2.tdiv 9223372036854775808)), IntKind.u64.wrap (IntKind.u64.wrap (p.2 * 2) + 1))
def onesF : Nat → Int × Int
  | 0 => (0, 0)
  | n + 1 => onesStep (onesF n)
theorem p_ones (n : Int) : qj6 n = some (onesF (min n 128).toNat) := by
  rw [qwr]; unfold qrn
  rw [qsr]
  have key := loop_is (fun k (s : Int × Int × Int) => qke n (fun v4 v5 => some (v4, v5)) k s.1 s.2.1 s.2.2) (fun s nx => qic n s.1 s.2.1 s.2.2 (fun a b c => nx (a, b, c)) (fun v4 v5 => some (v4, v5))) (fun _ _ => rfl)
    (fun s => ∃ i : Nat, s = ((onesF i).1, (onesF i).2, (i : Int)) ∧ i ≤ 128 ∧ (i = 0 ∨ (i : Int) ≤ n)) (fun s => (128 - s.2.2).toNat) (fun _ => some (onesF (min n 128).toNat)) ?_ FU ((0, 0, 0)) ⟨0, rfl, by simp, .inl rfl⟩ (FU_big (by simp))
  · exact key
  · rintro _ ⟨i, rfl, hi, hin⟩ nx hn
    simp only
    have hw : IntKind.i64.wrap ((i : Int) + 1) = ((i + 1 : Nat) : Int) := w64 (by omega) (by omega)
    unfold qic
    by_cases hc : (i : Int) < n ∧ (i : Int) < 128
    · simp only [hc.1, hc.2, decide_true, Bool.and_true, cond_t, hw]
      exact hn (_, _, _) ⟨i + 1, rfl, by omega, .inr (by omega)⟩ (by simp; omega)
    · have e : (decide ((i : Int) < n) && decide ((i : Int) < 128)) = false := by
        by_cases h1 : (i : Int) < n
        · have : ¬ (i : Int) < 128 := fun h => hc ⟨h1, h⟩
          simp [this]
        · simp [h1]
      simp only [e, cond_f]
      have : (min n 128).toNat = i := by
        by_cases h1 : (i : Int) < n
        · have : ¬ (i : Int) < 128 := fun h => hc ⟨h1, h⟩
          omega
        · omega
      rw [this]
def prefOk (v6 : Bool) (hi lo bits : Int) : Bool :=
  addrOk v6 hi lo && decide (0 ≤ bits) && decide (bits ≤ longOf v6) && (ibits .and .u64 hi (onesF (longOf v6 - bits).toNat).1 == 0) && (ibits .and .u64 lo (onesF (longOf v6 - bits).toNat).2 == 0)
theorem p_Valid03 (v6 : Bool) (hi lo bits : Int) : qho v6 hi lo bits = some (prefOk v6 hi lo bits) := by
  rw [qvk]; unfold qqc
  simp only [qrq, qmv, p_Valid02, p_Long, p_ones, oB_s]
  unfold prefOk
  cases h1 : addrOk v6 hi lo
  · simp
  · by_cases h2 : bits < 0
    · have : ¬ 0 ≤ bits := by omega
      simp [h2, this]
    · have h2' : 0 ≤ bits := by omega
      by_cases h3 : longOf v6 < bits
      · have : ¬ bits ≤ longOf v6 := by omega
        simp [h2, h3, this]
      · have h3' : bits ≤ longOf v6 := by omega
        have hl : longOf v6 ≤ 128 := by unfold longOf; split <;> omega
        have hw : IntKind.i64.wrap (longOf v6 - bits) = longOf v6 - bits := w64 (by omega) (by omega)
        have hm : (min (longOf v6 - bits) 128).toNat = (longOf v6 - bits).toNat := by congr 1; omega
        simp [h2, h3, h2', h3', hw, hm]
end Go.Proofs.Ytmjdngnagiloeaa.Dn
