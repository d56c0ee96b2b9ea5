/- Digests: the program's and the reference's. -/
import Derived.Test.YtmoedhehjonnhaaGreatDoorRoLw01u
set_option linter.all false
namespace Go.Proofs.YtmoedhehjonnhaaGreatDoor.Dn
open Go Go.Pev
set_option linter.unusedVariables false
set_option linter.unusedSimpArgs false
set_option maxRecDepth 8000
def bt (n : Int) (i : Nat) : Int := IntKind.u8.wrap (n / 256 ^ i)
def txtL (n : Int) : List AV := (List.range 8).map fun k => AV.int .u8 (bt n (7 - k))
def TxJ (n : Int) (i : Nat) (s : List AV) : Prop := s.length = 8 ∧ ∀ k, k < 8 → s[k]? = some (.int .u8 (if 8 - i ≤ k then bt n (7 - k) else 0))
theorem qbc5 {n : Int} {s : List AV} (h : TxJ n 8 s) : s = txtL n := by
  apply List.ext_getElem?
  intro k
  by_cases hk : k < 8
  · rw [h.2 k hk]
    simp [txtL, hk]
  · rw [List.getElem?_eq_none (by rw [h.1]; omega), List.getElem?_eq_none (by simp [txtL]; omega)]
theorem qbbb {n : Int} {i : Nat} (hi : i < 8) {s : List AV} (h : TxJ n i s) : TxJ n (i + 1) (s.set (7 - i) (.int .u8 (bt n i))) := by
  refine ⟨by simp [h.1], fun k hk => ?_⟩
  rw [List.getElem?_set]
  by_cases e : 7 - i = k
  · have h8 := h.1
    rw [if_pos e, if_pos (by omega), if_pos (by omega)]
    subst e
    rw [show 7 - (7 - i) = i by omega]
  · rw [if_neg e, h.2 k hk]
    by_cases h1 : 8 - i ≤ k
    · rw [if_pos h1, if_pos (by omega)]
    · rw [if_neg h1, if_neg (by omega)]
theorem qbbc (n : Int) : TxJ n 0 (List.replicate 8 (.int .u8 0)) := by
  refine ⟨by simp, fun k hk => ?_⟩
  rw [List.getElem?_replicate, if_pos hk, if_neg (by omega)]
theorem qbbd (n : Int) (i : Nat) (hi : i < 8) : n.fdiv (2 ^ (8 * i)) = n / 256 ^ i := by
  rw [Int.fdiv_eq_ediv_of_nonneg _ (Int.pow_nonneg (by decide)), Int.pow_mul]
  rfl
theorem q9r {x : Int} {ys : List AV} : putE (.int .u8 x) 0 1 ys = some (ys.headD .undef) := by simp [putE]
theorem q9s {s : List AV} {n : Int} (h : TxJ n 8 s) : (bif hd s s.length then (oB (qb2 s) fun s2 => (some s2)) else none) = qb2 (txtL n) := by
  rw [qbc5 h, hd_self, cond_t]
  cases qb2 (txtL n) <;> rfl
theorem qbea : IntKind.u64.bits = 64 := rfl
theorem q9t (n : Int) (hn : 0 ≤ n) : ql9 n = qb2 (txtL n) := by
  rw [q0n]
  unfold qjp
  have h0 : (List.replicate (8 : Int).toNat ((.int .u8 0) : AV)) = List.replicate 8 (.int .u8 0) := rfl
  rw [h0]
  have key := qde (σ := List AV) (List.range 8) (by simp) (fun m i s => qfh n 8 (fun a0q1 => (bif hd a0q1 a0q1.length then (oB (qb2 a0q1) fun s2 => (some s2)) else none)) m i s)
    (fun i s nx => qfg n 8 i s nx (fun a0q1 => (bif hd a0q1 a0q1.length then (oB (qb2 a0q1) fun s2 => (some s2)) else none))) (fun m i s => rfl) (TxJ n) (fun _ _ => qb2 (txtL n)) (fun s nx hJ => by
      unfold qfg
      simp only [List.length_range] at hJ ⊢
      exact q9s hJ)
    (fun i a r s nx h1 h2 h3 h4 hJ hnx => by
      simp only [List.length_range] at h3
      unfold qfg
      have e1 : IntKind.i64.wrap ((8 : Int) * (i : Int)) = ((8 * i : Nat) : Int) := by rw [w64 (by omega) (by omega)]; omega
      have e2 : IntKind.u64.wrap ((8 * i : Nat) : Int) = ((8 * i : Nat) : Int) := wu64 (by omega) (by omega)
      have e3 : IntKind.i64.wrap ((7 : Int) - (i : Int)) = ((7 - i : Nat) : Int) := by rw [w64 (by omega) (by omega)]; omega
      have hl := hJ.1
      have hg := hJ.2 (7 - i) (by omega)
      have e5 : min (8 * i) IntKind.u64.bits = 8 * i := by rw [qbea]; omega
      simp only [e1, e2, e3, h4, Int.toNat_natCast, e5, qbbd n i h3]
      rw [decide_eq_true (show (i : Int) < 8 by omega), cond_t, decide_eq_false (show ¬ ((8 * i : Nat) : Int) < 0 by omega), cond_f, hd_self, cond_t,
        decide_eq_true (show (0 : Int) ≤ ((7 - i : Nat) : Int) ∧ ((7 - i : Nat) : Int) < s.length by rw [hl]; omega), cond_t, cond_t, hg, oB_s, q9r, oB_s]
      have e6 : ([AV.int .u8 (IntKind.u8.wrap (n / 256 ^ i))] : List AV).headD .undef = .int .u8 (bt n i) := rfl
      rw [e6]
      have e7 : hd (s.set (7 - i) (.int .u8 (bt n i))) s.length = true := by simp [hd]
      rw [e7, cond_t]
      exact hnx _ (qbbb h3 hJ)) (List.replicate 8 (.int .u8 0)) FU (qbbc n) (qek (by simp))
  have h1 : decide ((0 : Int) ≤ (8 : Int) ∧ (8 : Int) ≤ (8 : Int) ∧ (8 : Int) * 1 ≤ 281474976710656) = true := by decide
  rw [h1, cond_t, qwq]
  have h2 : (hd (List.replicate 8 ((.int .u8 0) : AV)) (List.replicate 8 ((.int .u8 0) : AV)).length && true) = true := by rw [hd_self]; rfl
  rw [h2, cond_t]
  exact key
theorem q2k : ∀ (xs : List AV), (∀ x, x ∈ xs → ∃ n, x = .int .u8 n) → ∃ bs, qb2 xs = some bs ∧ bs.length = xs.length
  | [], _ => ⟨[], rfl, rfl⟩
  | x :: r, h => by
    obtain ⟨n, rfl⟩ := h x (by simp)
    obtain ⟨bs, h1, h2⟩ := q2k r (fun y hy => h y (by simp [hy]))
    exact ⟨UInt8.ofNat n.toNat :: bs, by simp only [qb2, Pev.byteOf, h1], by simp [h2]⟩
def txt (n : Int) : List UInt8 := (qb2 (txtL n)).getD []
theorem q1g (n : Int) : (txt n).length = 8 ∧ qb2 (txtL n) = some (txt n) := by
  obtain ⟨bs, h1, h2⟩ := q2k (txtL n) (fun x hx => by
    obtain ⟨k, _, rfl⟩ := List.mem_map.1 hx
    exact ⟨_, rfl⟩)
  unfold txt
  rw [h1]
  exact ⟨by simpa [txtL] using h2, rfl⟩
theorem q3m (x : Int) : 0 ≤ IntKind.u64.wrap x ∧ IntKind.u64.wrap x ≤ 18446744073709551615 := by
  simp [IntKind.wrap, IntKind.signed, IntKind.bits]; omega
def sumS : Int → List UInt8 → Int
  | x, [] => x
  | x, b :: r => sumS (IntKind.u64.wrap ((qd9 .xor .u64 x (IntKind.u64.wrap (b.toNat : Int))) * (1099511628211 : Int))) r
def mixF (x : Int) : Int := IntKind.u64.wrap ((qd9 .xor .u64 x (x / 4294967296)) * (11400714819323198485 : Int))
def sumF (s : List UInt8) : Int := mixF (mixF (mixF (sumS 14695981039346656037 s)))
theorem qbbe (s : List UInt8) : 0 ≤ sumF s ∧ sumF s ≤ 18446744073709551615 := q3m _
theorem qbe4 (x : Int) (hx : 0 ≤ x ∧ x ≤ 18446744073709551615) (kx : Int → Option Int) : qgt kx FU x 0 = kx (mixF (mixF (mixF x))) := by
  obtain ⟨m, hm⟩ : ∃ m, FU = m + 1 + 1 + 1 + 1 := ⟨FU - 4, by rw [qwb]⟩
  have st : ∀ (n : Nat) (y i j : Int), 0 ≤ y → i < 3 → IntKind.i64.wrap (i + 1) = j → qc5 kx (n + 1) y i = qc5 kx n (mixF y) j := fun n y i j hy hi hj => by
    show qem y i (qc5 kx n) kx = _
    unfold qem
    have : y.fdiv (2 ^ min (32 : Int).toNat IntKind.u64.bits) = y / 4294967296 := Int.fdiv_eq_ediv_of_nonneg _ (by decide)
    rw [decide_eq_true hi, cond_t, this, hj]; rfl
  rw [qwr, hm]
  refine (st _ x 0 1 hx.1 (by decide) rfl).trans ((st _ _ 1 2 (q3m _).1 (by decide) rfl).trans ((st _ _ 2 3 (q3m _).1 (by decide) rfl).trans ?_))
  show qem _ 3 _ kx = _
  unfold qem
  rw [decide_eq_false (by decide), cond_f]
  rfl
theorem qbe5 (s : List UInt8) (hs : s.length ≤ 1000000000) : qry s = some (sumF s) := by
  rw [q2o]
  unfold qkq
  rw [qx2]
  have key := qde (σ := Int) s (by omega) (fun m i x => qf2 s (fun v3q1 => (qgt (fun v3q2 => (some v3q2)) FU v3q1 0)) m x i) (fun i x nx => qf1 s x i (fun a b => nx b a) (fun v3q1 => (qgt (fun v3q2 => (some v3q2)) FU v3q1 0)))
    (fun m i x => rfl) (fun _ x => 0 ≤ x ∧ x ≤ 18446744073709551615) (fun r x => some (mixF (mixF (mixF (sumS x r))))) (fun x nx hx => by
      unfold qf1
      rw [decide_eq_false (by omega), cond_f]
      exact qbe4 x hx _)
    (fun i b r x nx h1 h2 h3 h4 hx hnx => by
      unfold qf1
      rw [decide_eq_true (by omega), cond_t, ixB_nat, h2, oB_s, h4]
      exact hnx _ (q3m _)) 14695981039346656037 FU ⟨by decide, by decide⟩ (qek (by omega))
  exact key
def macF (k s : List UInt8) : List UInt8 := txt (sumF ((txt (k.length : Int) ++ k) ++ s))
theorem qbc6 (k s : List UInt8) : (macF k s).length = 8 := (q1g _).1
theorem qbe6 (k s : List UInt8) (hk : k.length ≤ 100000000) (hs : s.length ≤ 100000000) : qrz k s = some (macF k s) := by
  rw [q2p]
  unfold qkr
  have h1 := (q1g (k.length : Int))
  have h2 := (q1g (sumF ((txt (k.length : Int) ++ k) ++ s)))
  rw [wu64 (by omega) (by omega), q9t _ (by omega), h1.2, oB_s, decide_eq_true (by omega), cond_t, decide_eq_true (by rw [List.length_append]; omega), cond_t,
    qbe5 _ (by simp only [List.length_append]; omega), oB_s, q9t _ (qbbe _).1, h2.2]
  rfl
end Go.Proofs.YtmoedhehjonnhaaGreatDoor.Dn
