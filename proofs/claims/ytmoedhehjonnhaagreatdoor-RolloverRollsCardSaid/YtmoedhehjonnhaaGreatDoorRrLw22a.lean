/- Digests: the program's and the reference's. -/
import Derived.Test.YtmoedhehjonnhaaGreatDoorRrLw01u
set_option linter.all false
namespace Go.Proofs.YtmoedhehjonnhaaGreatDoor.Dn
open Go Go.Pev
set_option linter.unusedVariables false
set_option linter.unusedSimpArgs false
set_option maxRecDepth 8000
def bt (n : Int) (i : Nat) : Int := IntKind.u8.wrap (n / 256 ^ i)
def txtL (n : Int) : List AV := (List.range 8).map fun k => AV.int .u8 (bt n (7 - k))
def TxJ (n : Int) (i : Nat) (s : List AV) : Prop := s.length = 8 ∧ ∀ k, k < 8 → s[k]? = some (.int .u8 (if 8 - i ≤ k then bt n (7 - k) else 0))
theorem qbl2 {n : Int} {s : List AV} (h : TxJ n 8 s) : s = txtL n := by
  apply List.ext_getElem?
  intro k
  by_cases hk : k < 8
  · rw [h.2 k hk]
    simp [txtL, hk]
  · rw [List.getElem?_eq_none (by rw [h.1]; omega), List.getElem?_eq_none (by simp [txtL]; omega)]
theorem qbd6 {n : Int} {i : Nat} (hi : i < 8) {s : List AV} (h : TxJ n i s) : TxJ n (i + 1) (s.set (7 - i) (.int .u8 (bt n i))) := by
  refine ⟨by simp [h.1], fun k hk => ?_⟩
  rw [List.getElem?_set]
  by_cases e : 7 - i = k
  · have h8 := h.1
    rw [if_pos e, if_pos (by omega), if_pos (by omega)]
    subst e
    rw [show 7 - (7 - i) = i by omega]
  · rw [if_neg e, h.2 k hk]
    by_cases h1 : 8 - i ≤ k
    · rw [if_pos h1, if_pos (by omega)]
    · rw [if_neg h1, if_neg (by omega)]
theorem qbd7 (n : Int) : TxJ n 0 (List.replicate 8 (.int .u8 0)) := by
  refine ⟨by simp, fun k hk => ?_⟩
  rw [List.getElem?_replicate, if_pos hk, if_neg (by omega)]
theorem qbj4 (n : Int) (i : Nat) (hi : i < 8) : n.fdiv (2 ^ (8 * i)) = n / 256 ^ i := by
  rw [Int.fdiv_eq_ediv_of_nonneg _ (Int.pow_nonneg (by decide)), Int.pow_mul]
  rfl
theorem qba6 {x : Int} {ys : List AV} : putE (.int .u8 x) 0 1 ys = some (ys.headD .undef) := by simp [putE]
theorem qba7 {s : List AV} {n : Int} (h : TxJ n 8 s) : (bif hd s s.length then (oB (qy s) fun s2 => (some s2)) else none) = qy (txtL n) := by
  rw [qbl2 h, hd_self, cond_t]
  cases qy (txtL n) <;> rfl
theorem qbnb : IntKind.u64.bits = 64 := rfl
theorem qbih (n : Int) (hn : 0 ≤ n) : qpv n = qy (txtL n) := by
  rw [q84]
  unfold qmo
  have h0 : (List.replicate (8 : Int).toNat ((.int .u8 0) : AV)) = List.replicate 8 (.int .u8 0) := rfl
  rw [h0]
  have key := qcc (σ := List AV) (List.range 8) (by simp) (fun m i s => qgl n 8 (fun a0q1 => (bif hd a0q1 a0q1.length then (oB (qy a0q1) fun s2 => (some s2)) else none)) m i s)
    (fun i s nx => qgk n 8 i s nx (fun a0q1 => (bif hd a0q1 a0q1.length then (oB (qy a0q1) fun s2 => (some s2)) else none))) (fun m i s => rfl) (TxJ n) (fun _ _ => qy (txtL n)) (fun s nx hJ => by
      unfold qgk
      simp only [List.length_range] at hJ ⊢
      exact qba7 hJ)
    (fun i a r s nx h1 h2 h3 h4 hJ hnx => by
      simp only [List.length_range] at h3
      unfold qgk
      have e1 : IntKind.i64.wrap ((8 : Int) * (i : Int)) = ((8 * i : Nat) : Int) := by rw [w64 (by omega) (by omega)]; omega
      have e2 : IntKind.u64.wrap ((8 * i : Nat) : Int) = ((8 * i : Nat) : Int) := wu64 (by omega) (by omega)
      have e3 : IntKind.i64.wrap ((7 : Int) - (i : Int)) = ((7 - i : Nat) : Int) := by rw [w64 (by omega) (by omega)]; omega
      have hl := hJ.1
      have hg := hJ.2 (7 - i) (by omega)
      have e5 : min (8 * i) IntKind.u64.bits = 8 * i := by rw [qbnb]; omega
      simp only [e1, e2, e3, h4, Int.toNat_natCast, e5, qbj4 n i h3]
      rw [decide_eq_true (show (i : Int) < 8 by omega), cond_t, decide_eq_false (show ¬ ((8 * i : Nat) : Int) < 0 by omega), cond_f, hd_self, cond_t,
        decide_eq_true (show (0 : Int) ≤ ((7 - i : Nat) : Int) ∧ ((7 - i : Nat) : Int) < s.length by rw [hl]; omega), cond_t, cond_t, hg, oB_s, qba6, oB_s]
      have e6 : ([AV.int .u8 (IntKind.u8.wrap (n / 256 ^ i))] : List AV).headD .undef = .int .u8 (bt n i) := rfl
      rw [e6]
      have e7 : hd (s.set (7 - i) (.int .u8 (bt n i))) s.length = true := by simp [hd]
      rw [e7, cond_t]
      exact hnx _ (qbd6 h3 hJ)) (List.replicate 8 (.int .u8 0)) FU (qbd7 n) (qch (by simp))
  have h1 : decide ((0 : Int) ≤ (8 : Int) ∧ (8 : Int) ≤ (8 : Int) ∧ (8 : Int) * 1 ≤ 281474976710656) = true := by decide
  rw [h1, cond_t, q4b]
  have h2 : (hd (List.replicate 8 ((.int .u8 0) : AV)) (List.replicate 8 ((.int .u8 0) : AV)).length && true) = true := by rw [hd_self]; rfl
  rw [h2, cond_t]
  exact key
theorem qbl3 (n : Int) (i : Nat) : n / 256 ^ i / 256 = n / 256 ^ (i + 1) := by
  rw [Int.ediv_ediv_of_nonneg (Int.pow_nonneg (by decide)), ← Int.pow_succ]
theorem qbnc (n : Int) (i : Nat) (hn : 0 ≤ n) : IntKind.u8.wrap ((n / 256 ^ i).tmod 256) = bt n i := by
  have h0 : 0 ≤ n / 256 ^ i := Int.ediv_nonneg hn (Int.pow_nonneg (by decide))
  rw [Int.tmod_eq_emod_of_nonneg h0]
  unfold bt
  simp [IntKind.wrap, IntKind.signed, IntKind.bits]
theorem qbfo (n : Int) (hn : 0 ≤ n) (hn2 : n ≤ 18446744073709551615) : qms n = qy (txtL n) := by
  rw [q56]
  unfold qj9
  have h0 : (List.replicate (8 : Int).toNat ((.int .u8 0) : AV)) = List.replicate 8 (.int .u8 0) := rfl
  rw [h0]
  have key := q3w (σ := Int × Int × List AV) (fun m s => qfp (fun a0q1 => (bif hd a0q1 a0q1.length then (oB (qy a0q1) fun s2 => (some s2)) else none)) m s.1 s.2.1 s.2.2)
    (fun s nx => qhp s.1 s.2.1 s.2.2 (fun a b c => nx (a, b, c)) (fun a0q1 => (bif hd a0q1 a0q1.length then (oB (qy a0q1) fun s2 => (some s2)) else none))) (fun m s => rfl)
    (fun s => ∃ i : Nat, i ≤ 8 ∧ s.1 = n / 256 ^ i ∧ s.2.1 = 7 - (i : Int) ∧ TxJ n i s.2.2) (fun s => (s.2.1 + 1).toNat) (fun _ => qy (txtL n))
    (fun s ⟨i, hi, h1, h2, hJ⟩ nx hnx => by
      obtain ⟨v, j, s⟩ := s
      simp only at h1 h2 hJ hnx ⊢
      subst h1 h2
      unfold qhp
      by_cases h8 : i = 8
      · subst h8
        rw [decide_eq_false (by omega), cond_f]
        exact qba7 hJ
      · have h3 : i < 8 := by omega
        have e3 : (7 : Int) - (i : Int) = ((7 - i : Nat) : Int) := by omega
        have hl := hJ.1
        have hg := hJ.2 (7 - i) (by omega)
        have hq : 0 ≤ n / 256 ^ i := Int.ediv_nonneg hn (Int.pow_nonneg (by decide))
        have hq2 : n / 256 ^ (i + 1) ≤ n := Int.ediv_le_self _ hn
        have hq3 : 0 ≤ n / 256 ^ (i + 1) := Int.ediv_nonneg hn (Int.pow_nonneg (by decide))
        have e4 : IntKind.u64.wrap ((n / 256 ^ i).tdiv 256) = n / 256 ^ (i + 1) := by
          rw [Int.tdiv_eq_ediv_of_nonneg hq, qbl3, wu64 hq3 (by omega)]
        have e5 : IntKind.i64.wrap (((7 - i : Nat) : Int) - 1) = 7 - ((i + 1 : Nat) : Int) := by rw [w64 (by omega) (by omega)]; omega
        rw [e3, decide_eq_true (show ((7 - i : Nat) : Int) ≥ 0 by omega), cond_t, hd_self, cond_t,
          decide_eq_true (show (0 : Int) ≤ ((7 - i : Nat) : Int) ∧ ((7 - i : Nat) : Int) < s.length by rw [hl]; omega), cond_t, cond_t, Int.toNat_natCast, hg, oB_s, qba6, oB_s, qbnc n i hn, e4, e5]
        have e6 : ([AV.int .u8 (bt n i)] : List AV).headD .undef = .int .u8 (bt n i) := rfl
        rw [e6]
        have e7 : hd (s.set (7 - i) (.int .u8 (bt n i))) s.length = true := by simp [hd]
        rw [e7, cond_t]
        exact hnx (_, _, _) ⟨i + 1, by omega, rfl, rfl, qbd6 h3 hJ⟩ (by simp only; omega)) FU (n, 7, List.replicate 8 (.int .u8 0)) ⟨0, by omega, by simp, by simp, qbd7 n⟩ (qch (by simp))
  have h1 : decide ((0 : Int) ≤ (8 : Int) ∧ (8 : Int) ≤ (8 : Int) ∧ (8 : Int) * 1 ≤ 281474976710656) = true := by decide
  rw [h1, cond_t, q0p]
  have h2 : (hd (List.replicate 8 ((.int .u8 0) : AV)) (List.replicate 8 ((.int .u8 0) : AV)).length && true) = true := by rw [hd_self]; rfl
  rw [h2, cond_t]
  exact key
theorem qba8 : ∀ (xs : List AV), (∀ x, x ∈ xs → ∃ n, x = .int .u8 n) → ∃ bs, qy xs = some bs ∧ bs.length = xs.length
  | [], _ => ⟨[], rfl, rfl⟩
  | x :: r, h => by
    obtain ⟨n, rfl⟩ := h x (by simp)
    obtain ⟨bs, h1, h2⟩ := qba8 r (fun y hy => h y (by simp [hy]))
    exact ⟨UInt8.ofNat n.toNat :: bs, by simp only [qy, Pev.byteOf, h1], by simp [h2]⟩
def txt (n : Int) : List UInt8 := (qy (txtL n)).getD []
theorem qxf (n : Int) : (txt n).length = 8 ∧ qy (txtL n) = some (txt n) := by
  obtain ⟨bs, h1, h2⟩ := qba8 (txtL n) (fun x hx => by
    obtain ⟨k, _, rfl⟩ := List.mem_map.1 hx
    exact ⟨_, rfl⟩)
  unfold txt
  rw [h1]
  exact ⟨by simpa [txtL] using h2, rfl⟩
theorem qz1 (x : Int) : 0 ≤ IntKind.u64.wrap x ∧ IntKind.u64.wrap x ≤ 18446744073709551615 := by
  simp [IntKind.wrap, IntKind.signed, IntKind.bits]; omega
def sumS : Int → List UInt8 → Int
  | x, [] => x
  | x, b :: r => sumS (IntKind.u64.wrap ((qdf .xor .u64 x (IntKind.u64.wrap (b.toNat : Int))) * (1099511628211 : Int))) r
def mixF (x : Int) : Int := IntKind.u64.wrap ((qdf .xor .u64 x (x / 4294967296)) * (11400714819323198485 : Int))
def sumF (s : List UInt8) : Int := mixF (mixF (mixF (sumS 14695981039346656037 s)))
theorem q6u (s : List UInt8) : 0 ≤ sumF s ∧ sumF s ≤ 18446744073709551615 := qz1 _
theorem qbob (x : Int) (hx : 0 ≤ x ∧ x ≤ 18446744073709551615) (kx : Int → Option Int) : qih kx FU x 0 = kx (mixF (mixF (mixF x))) := by
  obtain ⟨m, hm⟩ : ∃ m, FU = m + 1 + 1 + 1 + 1 := ⟨FU - 4, by rw [qzo]⟩
  have st : ∀ (n : Nat) (y i j : Int), 0 ≤ y → i < 3 → IntKind.i64.wrap (i + 1) = j → qdh kx (n + 1) y i = qdh kx n (mixF y) j := fun n y i j hy hi hj => by
    show qfa y i (qdh kx n) kx = _
    unfold qfa
    have : y.fdiv (2 ^ min (32 : Int).toNat IntKind.u64.bits) = y / 4294967296 := Int.fdiv_eq_ediv_of_nonneg _ (by decide)
    rw [decide_eq_true hi, cond_t, this, hj]; rfl
  rw [q4c, hm]
  refine (st _ x 0 1 hx.1 (by decide) rfl).trans ((st _ _ 1 2 (qz1 _).1 (by decide) rfl).trans ((st _ _ 2 3 (qz1 _).1 (by decide) rfl).trans ?_))
  show qfa _ 3 _ kx = _
  unfold qfa
  rw [decide_eq_false (by decide), cond_f]
  rfl
theorem qbnd (x : Int) (hx : 0 ≤ x ∧ x ≤ 18446744073709551615) (kx : Int → Option Int) : qgo kx FU x 0 = kx (mixF (mixF (mixF x))) := by
  obtain ⟨m, hm⟩ : ∃ m, FU = m + 1 + 1 + 1 + 1 := ⟨FU - 4, by rw [qzo]⟩
  have st : ∀ (n : Nat) (y i j : Int), 0 ≤ y ∧ y ≤ 18446744073709551615 → i < 3 → IntKind.i64.wrap (i + 1) = j → qcq kx (n + 1) y i = qcq kx n (mixF y) j := fun n y i j hy hi hj => by
    show qdr y i (qcq kx n) kx = _
    unfold qdr
    have h1 : IntKind.u64.wrap (y.tdiv (4294967296 : Int)) = y / 4294967296 := by
      rw [Int.tdiv_eq_ediv_of_nonneg hy.1]
      exact wu64 (by omega) (by omega)
    rw [decide_eq_true hi, cond_t, h1, hj]; rfl
  rw [q0q, hm]
  refine (st _ x 0 1 hx (by decide) rfl).trans ((st _ _ 1 2 (qz1 _) (by decide) rfl).trans ((st _ _ 2 3 (qz1 _) (by decide) rfl).trans ?_))
  show qdr _ 3 _ kx = _
  unfold qdr
  rw [decide_eq_false (by decide), cond_f]
  rfl
theorem qboc (s : List UInt8) (hs : s.length ≤ 1000000000) : qxo s = some (sumF s) := by
  rw [qbbd]
  unfold qnz
  rw [q5w]
  have key := qcc (σ := Int) s (by omega) (fun m i x => qhi s (fun v3q1 => (qih (fun v3q2 => (some v3q2)) FU v3q1 0)) m x i) (fun i x nx => qhh s x i (fun a b => nx b a) (fun v3q1 => (qih (fun v3q2 => (some v3q2)) FU v3q1 0)))
    (fun m i x => rfl) (fun _ x => 0 ≤ x ∧ x ≤ 18446744073709551615) (fun r x => some (mixF (mixF (mixF (sumS x r))))) (fun x nx hx => by
      unfold qhh
      rw [decide_eq_false (by omega), cond_f]
      exact qbob x hx _)
    (fun i b r x nx h1 h2 h3 h4 hx hnx => by
      unfold qhh
      rw [decide_eq_true (by omega), cond_t, ixB_nat, h2, oB_s, h4]
      exact hnx _ (qz1 _)) 14695981039346656037 FU ⟨by decide, by decide⟩ (qch (by omega))
  exact key
theorem qbne (s : List UInt8) (hs : s.length ≤ 1000000000) : qsn s = some (sumF s) := by
  rw [q7d]
  unfold qk9
  rw [q18]
  have key := qcc (σ := Int) s (by omega) (fun m i x => qf2 s (fun v3q1 => (qgo (fun v3q2 => (some v3q2)) FU v3q1 0)) m x i) (fun i x nx => qf1 s x i (fun a b => nx b a) (fun v3q1 => (qgo (fun v3q2 => (some v3q2)) FU v3q1 0)))
    (fun m i x => rfl) (fun _ x => 0 ≤ x ∧ x ≤ 18446744073709551615) (fun r x => some (mixF (mixF (mixF (sumS x r))))) (fun x nx hx => by
      unfold qf1
      rw [decide_eq_false (by omega), cond_f]
      exact qbnd x hx _)
    (fun i b r x nx h1 h2 h3 h4 hx hnx => by
      unfold qf1
      rw [decide_eq_true (by omega), cond_t, ixB_nat, h2, oB_s, h4]
      exact hnx _ (qz1 _)) 14695981039346656037 FU ⟨by decide, by decide⟩ (qch (by omega))
  exact key
def macF (k s : List UInt8) : List UInt8 := txt (sumF ((txt (k.length : Int) ++ k) ++ s))
theorem qbfp (k s : List UInt8) : (macF k s).length = 8 := (qxf _).1
theorem qbod (k s : List UInt8) (hk : k.length ≤ 100000000) (hs : s.length ≤ 100000000) : qxp k s = some (macF k s) := by
  rw [qbbe]
  unfold qn0
  have h1 := (qxf (k.length : Int))
  have h2 := (qxf (sumF ((txt (k.length : Int) ++ k) ++ s)))
  rw [wu64 (by omega) (by omega), qbih _ (by omega), h1.2, oB_s, decide_eq_true (by omega), cond_t, decide_eq_true (by rw [List.length_append]; omega), cond_t,
    qboc _ (by simp only [List.length_append]; omega), oB_s, qbih _ (q6u _).1, h2.2]
  rfl
theorem qbnf (k s : List UInt8) (hk : k.length ≤ 100000000) (hs : s.length ≤ 100000000) : qso k s = some (macF k s) := by
  rw [q7e]
  unfold qla
  have h1 := (qxf (k.length : Int))
  have h2 := (qxf (sumF ((txt (k.length : Int) ++ k) ++ s)))
  rw [wu64 (by omega) (by omega), qbfo _ (by omega) (by omega), h1.2, oB_s, decide_eq_true (by omega), cond_t, decide_eq_true (by rw [List.length_append]; omega), cond_t,
    qbne _ (by simp only [List.length_append]; omega), oB_s, qbfo _ (q6u _).1 (q6u _).2, h2.2]
  rfl
end Go.Proofs.YtmoedhehjonnhaaGreatDoor.Dn
