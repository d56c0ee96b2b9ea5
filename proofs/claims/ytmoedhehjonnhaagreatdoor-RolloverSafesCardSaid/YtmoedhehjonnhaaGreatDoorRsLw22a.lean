/- Digests: the program's and the reference's. -/
import Derived.Test.YtmoedhehjonnhaaGreatDoorRsLw01u
set_option linter.all false
namespace Go.Proofs.YtmoedhehjonnhaaGreatDoor.Dn
open Go Go.Pev
set_option linter.unusedVariables false
set_option linter.unusedSimpArgs false
set_option maxRecDepth 8000
def bt (n : Int) (i : Nat) : Int := IntKind.u8.wrap (n / 256 ^ i)
def txtL (n : Int) : List AV := (List.range 8).map fun k => AV.int .u8 (bt n (7 - k))
def TxJ (n : Int) (i : Nat) (s : List AV) : Prop := s.length = 8 ∧ ∀ k, k < 8 → s[k]? = some (.int .u8 (if 8 - i ≤ k then bt n (7 - k) else 0))
theorem qbob {n : Int} {s : List AV} (h : TxJ n 8 s) : s = txtL n := by
  apply List.ext_getElem?
  intro k
  by_cases hk : k < 8
  · rw [h.2 k hk]
    simp [txtL, hk]
  · rw [List.getElem?_eq_none (by rw [h.1]; omega), List.getElem?_eq_none (by simp [txtL]; omega)]
theorem qbfy {n : Int} {i : Nat} (hi : i < 8) {s : List AV} (h : TxJ n i s) : TxJ n (i + 1) (s.set (7 - i) (.int .u8 (bt n i))) := by
  refine ⟨by simp [h.1], fun k hk => ?_⟩
  rw [List.getElem?_set]
  by_cases e : 7 - i = k
  · have h8 := h.1
    rw [if_pos e, if_pos (by omega), if_pos (by omega)]
    subst e
    rw [show 7 - (7 - i) = i by omega]
  · rw [if_neg e, h.2 k hk]
    by_cases h1 : 8 - i ≤ k
    · rw [if_pos h1, if_pos (by omega)]
    · rw [if_neg h1, if_neg (by omega)]
theorem qbfz (n : Int) : TxJ n 0 (List.replicate 8 (.int .u8 0)) := by
  refine ⟨by simp, fun k hk => ?_⟩
  rw [List.getElem?_replicate, if_pos hk, if_neg (by omega)]
theorem qbma (n : Int) (i : Nat) (hi : i < 8) : n.fdiv (2 ^ (8 * i)) = n / 256 ^ i := by
  rw [Int.fdiv_eq_ediv_of_nonneg _ (Int.pow_nonneg (by decide)), Int.pow_mul]
  rfl
theorem qbcy {x : Int} {ys : List AV} : putE (.int .u8 x) 0 1 ys = some (ys.headD .undef) := by simp [putE]
theorem qbcz {s : List AV} {n : Int} (h : TxJ n 8 s) : (bif hd s s.length then (oB (qy s) fun s2 => (some s2)) else none) = qy (txtL n) := by
  rw [qbob h, hd_self, cond_t]
  cases qy (txtL n) <;> rfl
theorem qbpl : IntKind.u64.bits = 64 := rfl
theorem qbkl (n : Int) (hn : 0 ≤ n) : qqt n = qy (txtL n) := by
  rw [qbau]
  unfold qnb
  have h0 : (List.replicate (8 : Int).toNat ((.int .u8 0) : AV)) = List.replicate 8 (.int .u8 0) := rfl
  rw [h0]
  have key := qbw (σ := List AV) (List.range 8) (by simp) (fun m i s => qgv n 8 (fun a0q1 => (bif hd a0q1 a0q1.length then (oB (qy a0q1) fun s2 => (some s2)) else none)) m i s)
    (fun i s nx => qgu n 8 i s nx (fun a0q1 => (bif hd a0q1 a0q1.length then (oB (qy a0q1) fun s2 => (some s2)) else none))) (fun m i s => rfl) (TxJ n) (fun _ _ => qy (txtL n)) (fun s nx hJ => by
      unfold qgu
      simp only [List.length_range] at hJ ⊢
      exact qbcz hJ)
    (fun i a r s nx h1 h2 h3 h4 hJ hnx => by
      simp only [List.length_range] at h3
      unfold qgu
      have e1 : IntKind.i64.wrap ((8 : Int) * (i : Int)) = ((8 * i : Nat) : Int) := by rw [w64 (by omega) (by omega)]; omega
      have e2 : IntKind.u64.wrap ((8 * i : Nat) : Int) = ((8 * i : Nat) : Int) := wu64 (by omega) (by omega)
      have e3 : IntKind.i64.wrap ((7 : Int) - (i : Int)) = ((7 - i : Nat) : Int) := by rw [w64 (by omega) (by omega)]; omega
      have hl := hJ.1
      have hg := hJ.2 (7 - i) (by omega)
      have e5 : min (8 * i) IntKind.u64.bits = 8 * i := by rw [qbpl]; omega
      simp only [e1, e2, e3, h4, Int.toNat_natCast, e5, qbma n i h3]
      rw [decide_eq_true (show (i : Int) < 8 by omega), cond_t, decide_eq_false (show ¬ ((8 * i : Nat) : Int) < 0 by omega), cond_f, hd_self, cond_t,
        decide_eq_true (show (0 : Int) ≤ ((7 - i : Nat) : Int) ∧ ((7 - i : Nat) : Int) < s.length by rw [hl]; omega), cond_t, cond_t, hg, oB_s, qbcy, oB_s]
      have e6 : ([AV.int .u8 (IntKind.u8.wrap (n / 256 ^ i))] : List AV).headD .undef = .int .u8 (bt n i) := rfl
      rw [e6]
      have e7 : hd (s.set (7 - i) (.int .u8 (bt n i))) s.length = true := by simp [hd]
      rw [e7, cond_t]
      exact hnx _ (qbfy h3 hJ)) (List.replicate 8 (.int .u8 0)) FU (qbfz n) (qcc (by simp))
  have h1 : decide ((0 : Int) ≤ (8 : Int) ∧ (8 : Int) ≤ (8 : Int) ∧ (8 : Int) * 1 ≤ 281474976710656) = true := by decide
  rw [h1, cond_t, q5v]
  have h2 : (hd (List.replicate 8 ((.int .u8 0) : AV)) (List.replicate 8 ((.int .u8 0) : AV)).length && true) = true := by rw [hd_self]; rfl
  rw [h2, cond_t]
  exact key
theorem qboc (n : Int) (i : Nat) : n / 256 ^ i / 256 = n / 256 ^ (i + 1) := by
  rw [Int.ediv_ediv_of_nonneg (Int.pow_nonneg (by decide)), ← Int.pow_succ]
theorem qbpm (n : Int) (i : Nat) (hn : 0 ≤ n) : IntKind.u8.wrap ((n / 256 ^ i).tmod 256) = bt n i := by
  have h0 : 0 ≤ n / 256 ^ i := Int.ediv_nonneg hn (Int.pow_nonneg (by decide))
  rw [Int.tmod_eq_emod_of_nonneg h0]
  unfold bt
  simp [IntKind.wrap, IntKind.signed, IntKind.bits]
theorem qbho (n : Int) (hn : 0 ≤ n) (hn2 : n ≤ 18446744073709551615) : qnf n = qy (txtL n) := by
  rw [q7q]
  unfold qkp
  have h0 : (List.replicate (8 : Int).toNat ((.int .u8 0) : AV)) = List.replicate 8 (.int .u8 0) := rfl
  rw [h0]
  have key := q5h (σ := Int × Int × List AV) (fun m s => qfw (fun a0q1 => (bif hd a0q1 a0q1.length then (oB (qy a0q1) fun s2 => (some s2)) else none)) m s.1 s.2.1 s.2.2)
    (fun s nx => qh1 s.1 s.2.1 s.2.2 (fun a b c => nx (a, b, c)) (fun a0q1 => (bif hd a0q1 a0q1.length then (oB (qy a0q1) fun s2 => (some s2)) else none))) (fun m s => rfl)
    (fun s => ∃ i : Nat, i ≤ 8 ∧ s.1 = n / 256 ^ i ∧ s.2.1 = 7 - (i : Int) ∧ TxJ n i s.2.2) (fun s => (s.2.1 + 1).toNat) (fun _ => qy (txtL n))
    (fun s ⟨i, hi, h1, h2, hJ⟩ nx hnx => by
      obtain ⟨v, j, s⟩ := s
      simp only at h1 h2 hJ hnx ⊢
      subst h1 h2
      unfold qh1
      by_cases h8 : i = 8
      · subst h8
        rw [decide_eq_false (by omega), cond_f]
        exact qbcz hJ
      · have h3 : i < 8 := by omega
        have e3 : (7 : Int) - (i : Int) = ((7 - i : Nat) : Int) := by omega
        have hl := hJ.1
        have hg := hJ.2 (7 - i) (by omega)
        have hq : 0 ≤ n / 256 ^ i := Int.ediv_nonneg hn (Int.pow_nonneg (by decide))
        have hq2 : n / 256 ^ (i + 1) ≤ n := Int.ediv_le_self _ hn
        have hq3 : 0 ≤ n / 256 ^ (i + 1) := Int.ediv_nonneg hn (Int.pow_nonneg (by decide))
        have e4 : IntKind.u64.wrap ((n / 256 ^ i).tdiv 256) = n / 256 ^ (i + 1) := by
          rw [Int.tdiv_eq_ediv_of_nonneg hq, qboc, wu64 hq3 (by omega)]
        have e5 : IntKind.i64.wrap (((7 - i : Nat) : Int) - 1) = 7 - ((i + 1 : Nat) : Int) := by rw [w64 (by omega) (by omega)]; omega
        rw [e3, decide_eq_true (show ((7 - i : Nat) : Int) ≥ 0 by omega), cond_t, hd_self, cond_t,
          decide_eq_true (show (0 : Int) ≤ ((7 - i : Nat) : Int) ∧ ((7 - i : Nat) : Int) < s.length by rw [hl]; omega), cond_t, cond_t, Int.toNat_natCast, hg, oB_s, qbcy, oB_s, qbpm n i hn, e4, e5]
        have e6 : ([AV.int .u8 (bt n i)] : List AV).headD .undef = .int .u8 (bt n i) := rfl
        rw [e6]
        have e7 : hd (s.set (7 - i) (.int .u8 (bt n i))) s.length = true := by simp [hd]
        rw [e7, cond_t]
        exact hnx (_, _, _) ⟨i + 1, by omega, rfl, rfl, qbfy h3 hJ⟩ (by simp only; omega)) FU (n, 7, List.replicate 8 (.int .u8 0)) ⟨0, by omega, by simp, by simp, qbfz n⟩ (qcc (by simp))
  have h1 : decide ((0 : Int) ≤ (8 : Int) ∧ (8 : Int) ≤ (8 : Int) ∧ (8 : Int) * 1 ≤ 281474976710656) = true := by decide
  rw [h1, cond_t, q1x]
  have h2 : (hd (List.replicate 8 ((.int .u8 0) : AV)) (List.replicate 8 ((.int .u8 0) : AV)).length && true) = true := by rw [hd_self]; rfl
  rw [h2, cond_t]
  exact key
theorem qbc0 : ∀ (xs : List AV), (∀ x, x ∈ xs → ∃ n, x = .int .u8 n) → ∃ bs, qy xs = some bs ∧ bs.length = xs.length
  | [], _ => ⟨[], rfl, rfl⟩
  | x :: r, h => by
    obtain ⟨n, rfl⟩ := h x (by simp)
    obtain ⟨bs, h1, h2⟩ := qbc0 r (fun y hy => h y (by simp [hy]))
    exact ⟨UInt8.ofNat n.toNat :: bs, by simp only [qy, Pev.byteOf, h1], by simp [h2]⟩
def txt (n : Int) : List UInt8 := (qy (txtL n)).getD []
theorem qyc (n : Int) : (txt n).length = 8 ∧ qy (txtL n) = some (txt n) := by
  obtain ⟨bs, h1, h2⟩ := qbc0 (txtL n) (fun x hx => by
    obtain ⟨k, _, rfl⟩ := List.mem_map.1 hx
    exact ⟨_, rfl⟩)
  unfold txt
  rw [h1]
  exact ⟨by simpa [txtL] using h2, rfl⟩
theorem q08 (x : Int) : 0 ≤ IntKind.u64.wrap x ∧ IntKind.u64.wrap x ≤ 18446744073709551615 := by
  simp [IntKind.wrap, IntKind.signed, IntKind.bits]; omega
def sumS : Int → List UInt8 → Int
  | x, [] => x
  | x, b :: r => sumS (IntKind.u64.wrap ((qdf .xor .u64 x (IntKind.u64.wrap (b.toNat : Int))) * (1099511628211 : Int))) r
def mixF (x : Int) : Int := IntKind.u64.wrap ((qdf .xor .u64 x (x / 4294967296)) * (11400714819323198485 : Int))
def sumF (s : List UInt8) : Int := mixF (mixF (mixF (sumS 14695981039346656037 s)))
theorem q8f (s : List UInt8) : 0 ≤ sumF s ∧ sumF s ≤ 18446744073709551615 := q08 _
theorem qbqn (x : Int) (hx : 0 ≤ x ∧ x ≤ 18446744073709551615) (kx : Int → Option Int) : qiv kx FU x 0 = kx (mixF (mixF (mixF x))) := by
  obtain ⟨m, hm⟩ : ∃ m, FU = m + 1 + 1 + 1 + 1 := ⟨FU - 4, by rw [q0v]⟩
  have st : ∀ (n : Nat) (y i j : Int), 0 ≤ y → i < 3 → IntKind.i64.wrap (i + 1) = j → qdh kx (n + 1) y i = qdh kx n (mixF y) j := fun n y i j hy hi hj => by
    show qfi y i (qdh kx n) kx = _
    unfold qfi
    have : y.fdiv (2 ^ min (32 : Int).toNat IntKind.u64.bits) = y / 4294967296 := Int.fdiv_eq_ediv_of_nonneg _ (by decide)
    rw [decide_eq_true hi, cond_t, this, hj]; rfl
  rw [q5w, hm]
  refine (st _ x 0 1 hx.1 (by decide) rfl).trans ((st _ _ 1 2 (q08 _).1 (by decide) rfl).trans ((st _ _ 2 3 (q08 _).1 (by decide) rfl).trans ?_))
  show qfi _ 3 _ kx = _
  unfold qfi
  rw [decide_eq_false (by decide), cond_f]
  rfl
theorem qbpn (x : Int) (hx : 0 ≤ x ∧ x ≤ 18446744073709551615) (kx : Int → Option Int) : qgz kx FU x 0 = kx (mixF (mixF (mixF x))) := by
  obtain ⟨m, hm⟩ : ∃ m, FU = m + 1 + 1 + 1 + 1 := ⟨FU - 4, by rw [q0v]⟩
  have st : ∀ (n : Nat) (y i j : Int), 0 ≤ y ∧ y ≤ 18446744073709551615 → i < 3 → IntKind.i64.wrap (i + 1) = j → qcp kx (n + 1) y i = qcp kx n (mixF y) j := fun n y i j hy hi hj => by
    show qdr y i (qcp kx n) kx = _
    unfold qdr
    have h1 : IntKind.u64.wrap (y.tdiv (4294967296 : Int)) = y / 4294967296 := by
      rw [Int.tdiv_eq_ediv_of_nonneg hy.1]
      exact wu64 (by omega) (by omega)
    rw [decide_eq_true hi, cond_t, h1, hj]; rfl
  rw [q1y, hm]
  refine (st _ x 0 1 hx (by decide) rfl).trans ((st _ _ 1 2 (q08 _) (by decide) rfl).trans ((st _ _ 2 3 (q08 _) (by decide) rfl).trans ?_))
  show qdr _ 3 _ kx = _
  unfold qdr
  rw [decide_eq_false (by decide), cond_f]
  rfl
theorem qbqo (s : List UInt8) (hs : s.length ≤ 1000000000) : qyl s = some (sumF s) := by
  rw [qbc6]
  unfold qor
  rw [q7g]
  have key := qbw (σ := Int) s (by omega) (fun m i x => qht s (fun v3q1 => (qiv (fun v3q2 => (some v3q2)) FU v3q1 0)) m x i) (fun i x nx => qhs s x i (fun a b => nx b a) (fun v3q1 => (qiv (fun v3q2 => (some v3q2)) FU v3q1 0)))
    (fun m i x => rfl) (fun _ x => 0 ≤ x ∧ x ≤ 18446744073709551615) (fun r x => some (mixF (mixF (mixF (sumS x r))))) (fun x nx hx => by
      unfold qhs
      rw [decide_eq_false (by omega), cond_f]
      exact qbqn x hx _)
    (fun i b r x nx h1 h2 h3 h4 hx hnx => by
      unfold qhs
      rw [decide_eq_true (by omega), cond_t, ixB_nat, h2, oB_s, h4]
      exact hnx _ (q08 _)) 14695981039346656037 FU ⟨by decide, by decide⟩ (qcc (by omega))
  exact key
theorem qbpo (s : List UInt8) (hs : s.length ≤ 1000000000) : qtn s = some (sumF s) := by
  rw [q8y]
  unfold qls
  rw [q3r]
  have key := qbw (σ := Int) s (by omega) (fun m i x => qgb s (fun v3q1 => (qgz (fun v3q2 => (some v3q2)) FU v3q1 0)) m x i) (fun i x nx => qga s x i (fun a b => nx b a) (fun v3q1 => (qgz (fun v3q2 => (some v3q2)) FU v3q1 0)))
    (fun m i x => rfl) (fun _ x => 0 ≤ x ∧ x ≤ 18446744073709551615) (fun r x => some (mixF (mixF (mixF (sumS x r))))) (fun x nx hx => by
      unfold qga
      rw [decide_eq_false (by omega), cond_f]
      exact qbpn x hx _)
    (fun i b r x nx h1 h2 h3 h4 hx hnx => by
      unfold qga
      rw [decide_eq_true (by omega), cond_t, ixB_nat, h2, oB_s, h4]
      exact hnx _ (q08 _)) 14695981039346656037 FU ⟨by decide, by decide⟩ (qcc (by omega))
  exact key
def macF (k s : List UInt8) : List UInt8 := txt (sumF ((txt (k.length : Int) ++ k) ++ s))
theorem qbhp (k s : List UInt8) : (macF k s).length = 8 := (qyc _).1
theorem qbqp (k s : List UInt8) (hk : k.length ≤ 100000000) (hs : s.length ≤ 100000000) : qym k s = some (macF k s) := by
  rw [qbc7]
  unfold qos
  have h1 := (qyc (k.length : Int))
  have h2 := (qyc (sumF ((txt (k.length : Int) ++ k) ++ s)))
  rw [wu64 (by omega) (by omega), qbkl _ (by omega), h1.2, oB_s, decide_eq_true (by omega), cond_t, decide_eq_true (by rw [List.length_append]; omega), cond_t,
    qbqo _ (by simp only [List.length_append]; omega), oB_s, qbkl _ (q8f _).1, h2.2]
  rfl
theorem qbpp (k s : List UInt8) (hk : k.length ≤ 100000000) (hs : s.length ≤ 100000000) : qto k s = some (macF k s) := by
  rw [q8z]
  unfold qlt
  have h1 := (qyc (k.length : Int))
  have h2 := (qyc (sumF ((txt (k.length : Int) ++ k) ++ s)))
  rw [wu64 (by omega) (by omega), qbho _ (by omega) (by omega), h1.2, oB_s, decide_eq_true (by omega), cond_t, decide_eq_true (by rw [List.length_append]; omega), cond_t,
    qbpo _ (by simp only [List.length_append]; omega), oB_s, qbho _ (q8f _).1 (q8f _).2, h2.2]
  rfl
end Go.Proofs.YtmoedhehjonnhaaGreatDoor.Dn
