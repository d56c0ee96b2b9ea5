/- Tags of keys; whether a list is a plan. -/
import Derived.Test.YtmoedhehjonnhaaGreatDoorRoLw22b
set_option linter.all false
namespace Go.Proofs.YtmoedhehjonnhaaGreatDoor.Dn
open Go Go.Pev
set_option linter.unusedVariables false
set_option linter.unusedSimpArgs false
set_option maxRecDepth 8000
def evn (i : Nat) : Bool := i % 2 == 0
theorem qbe7 (i : Nat) : (((i : Int).tmod (2 : Int)) == 0) = evn i := by
  rw [Int.tmod_eq_emod_of_nonneg (by omega), Bool.eq_iff_iff]
  simp only [beq_iff_eq, evn]
  omega
theorem q9u (i : Nat) (n : Int) (b : UInt8) (r : List UInt8) : tagS (evn i) n (b :: r) = tagS (evn (i + 1)) (n + (bif evn i then 256 * (b.toNat : Int) else (b.toNat : Int))) r := by
  by_cases h : i % 2 = 0
  · have h1 : evn i = true := by simp [evn, h]
    have h2 : evn (i + 1) = false := by simp [evn]; omega
    rw [h1, h2]; rfl
  · have h1 : evn i = false := by simp [evn, h]
    have h2 : evn (i + 1) = true := by simp [evn]; omega
    rw [h1, h2]; rfl
theorem qbc9 (n : Int) (h0 : 0 ≤ n) (h1 : n ≤ 1000000000000) : qd9 .and .i64 (IntKind.i64.wrap (n + (qd9 .and .i64 (n.fdiv (2 ^ min (16 : Int).toNat IntKind.i64.bits)) (65535 : Int)))) (65535 : Int) = (n + n / 65536 % 65536) % 65536 := by
  have e1 : n.fdiv (2 ^ min (16 : Int).toNat IntKind.i64.bits) = n / 65536 := Int.fdiv_eq_ediv_of_nonneg _ (by decide)
  rw [e1, q5i (n / 65536) (by omega) (by omega), w64 (show -9223372036854775808 ≤ n + n / 65536 % 65536 by omega) (by omega), q5i _ (by omega) (by omega)]
theorem qbda (w : List UInt8) (hw : w.length ≤ 1000000) : qr2 w = some (tagL w) := by
  rw [q2z]
  unfold qk1
  rw [qya]
  have key := qde (σ := Int) w (by omega) (fun m i n => qf4 w (fun v3q1 => (some (qd9 .and .i64 (IntKind.i64.wrap (v3q1 + (qd9 .and .i64 (v3q1.fdiv (2 ^ min (16 : Int).toNat IntKind.i64.bits)) (65535 : Int)))) (65535 : Int)))) m n i)
    (fun i n nx => qf3 w n i (fun a b => nx b a) (fun v3q1 => (some (qd9 .and .i64 (IntKind.i64.wrap (v3q1 + (qd9 .and .i64 (v3q1.fdiv (2 ^ min (16 : Int).toNat IntKind.i64.bits)) (65535 : Int)))) (65535 : Int))))) (fun m i n => rfl)
    (fun i n => 0 ≤ n ∧ n ≤ 65536 * i ∧ tagS (evn i) n (w.drop i) = tagS true 0 w) (fun r n => some (tagL w)) (fun n nx hJ => by
      unfold qf3
      rw [decide_eq_false (by omega), cond_f]
      dsimp only
      rw [qbc9 n hJ.1 (by omega)]
      have h := hJ.2.2
      rw [List.drop_length] at h
      have h2 : tagS (evn w.length) n [] = n := by cases evn w.length <;> rfl
      rw [h2] at h
      unfold tagL
      rw [← h])
    (fun i b r n nx h1 h2 h3 h4 hJ hnx => by
      unfold qf3
      have hb : b.toNat < 256 := b.toNat_lt
      rw [decide_eq_true (by omega), cond_t, qbe7, ixB_nat, h2, oB_s, oB_s, h4]
      have e1 : (IntKind.i64.wrap (b.toNat : Int)) * 2 ^ min (8 : Int).toNat IntKind.i64.bits = 256 * (b.toNat : Int) := by
        rw [w64 (by omega) (by omega)]
        have : (2 : Int) ^ min (8 : Int).toNat IntKind.i64.bits = 256 := rfl
        rw [this]; omega
      have hd := hJ.2.2
      rw [h1, q9u] at hd
      have hr : w.drop (i + 1) = r := by rw [← List.tail_drop, h1]; rfl
      cases he : evn i <;> rw [he] at hd <;> simp only [cond_t, cond_f] at hd ⊢
      · rw [w64 (show -9223372036854775808 ≤ (b.toNat : Int) by omega) (by omega), w64 (by omega) (by omega)]
        exact hnx _ ⟨by omega, by omega, by rw [hr]; exact hd⟩
      · rw [e1, w64 (show -9223372036854775808 ≤ 256 * (b.toNat : Int) by omega) (by omega), w64 (by omega) (by omega)]
        exact hnx _ ⟨by omega, by omega, by rw [hr]; exact hd⟩) 0 FU ⟨by omega, by omega, rfl⟩ (qek (by omega))
  exact key
def keyW (k : Bool) (t : List UInt8) : List UInt8 := [1, bif k then 1 else 0, 3, 253] ++ t
theorem FU20 : ∃ m, FU = m + 20 := ⟨FU - 20, by rw [qwb]⟩
theorem qbbf : qnj 48 = some (.agg [(.int .i64 (48 : Int)), (.str ([68, 78, 83, 75, 69, 89] : List UInt8)), (.str ([65, 98, 99, 114] : List UInt8))], true) := by
  rw [q2r]
  unfold qku
  rw [q0p, qx5]
  obtain ⟨m, hm⟩ := FU20
  rw [hm]
  kernel_rfl
theorem qbec (k : Bool) : qw (qcn k) 2 = some [1, bif k then 1 else 0] := by
  rw [qkz]
  unfold qfd
  rw [qif]
  obtain ⟨m, hm⟩ := FU20
  rw [hm]
  cases k <;> kernel_rfl
theorem qbed : qw 3 1 = some [3] := by
  rw [qkz]
  unfold qfd
  rw [qif]
  obtain ⟨m, hm⟩ := FU20
  rw [hm]
  kernel_rfl
theorem qbbg : qw 253 1 = some [253] := by
  rw [qkz]
  unfold qfd
  rw [qif]
  obtain ⟨m, hm⟩ := FU20
  rw [hm]
  kernel_rfl
theorem q9v (k : Bool) (t : List UInt8) (ht : t.length = 8) : qqa 48 false 0 0 [] [] t (qcn k) 3 253 0 0 0 0 = some true := by
  have h1 : qkw t = some true := by
    rw [q2s]
    unfold qkv
    rw [ht]; rfl
  have h2 : qx 253 255 = some true := by rw [qyy]; rfl
  rw [q0s]
  cases k <;> simp [qjr, qcn, qwx, qg6, quq, qgk, quu, qgl, h1, h2]
theorem qbbh (k : Bool) (t : List UInt8) (ht : t.length = 8) : qr1 48 false 0 0 [] [] t (qcn k) 3 253 0 0 0 0 = some (keyW k t, 0) := by
  have hv := q9v k t ht
  have J : ∀ (v : List UInt8) (j : Nat) (o : List UInt8) (kn : List UInt8 → Option (List UInt8 × Int)), (j = 0 ∧ o = [1, bif k then 1 else 0] ∨ j = 1 ∧ o = [3] ∨ j = 2 ∧ o = [253] ∨ j = 3 ∧ o = t) → v.length ≤ 1000 →
      qlw v 4 (j : Int) false 0 0 [] [] t (qcn k) 3 253 0 0 0 0 48 [68, 78, 83, 75, 69, 89] [65, 98, 99, 114] kn = kn (v ++ o) := by
    intro v j o kn hj hv
    rw [qw6]
    unfold qg7
    rw [ixB_nat]
    rcases hj with ⟨rfl, rfl⟩ | ⟨rfl, rfl⟩ | ⟨rfl, rfl⟩ | ⟨rfl, rfl⟩
    · have : v.length + 2 ≤ 9223372036854775807 := by omega
      simp [qgn, qc6, qbec, this]
    · have : v.length + 1 ≤ 9223372036854775807 := by omega
      simp [qgn, qc6, qbed, this]
    · have : v.length + 1 ≤ 9223372036854775807 := by omega
      simp [qgn, qc6, qbbg, this]
    · have : v.length + o.length ≤ 9223372036854775807 := by omega
      simp [qgn, qc6, this]
  rw [q2y]
  unfold qk0
  rw [qbbf, oB_s]
  simp only [Bool.not_true, cond_f]
  rw [hv, oB_s]
  simp only [Bool.not_true, cond_f]
  obtain ⟨m, hm⟩ : ∃ m, FU = m + 1 + 1 + 1 + 1 + 1 := ⟨FU - 5, by rw [qwb]⟩
  rw [qw7, hm]
  have st : ∀ (n : Nat) (v : List UInt8) (j : Nat) (o : List UInt8) (kx : List UInt8 → Option (List UInt8 × Int)), (j = 0 ∧ o = [1, bif k then 1 else 0] ∨ j = 1 ∧ o = [3] ∨ j = 2 ∧ o = [253] ∨ j = 3 ∧ o = t) → v.length ≤ 1000 →
      qc7 4 false 0 0 [] [] t (qcn k) 3 253 0 0 0 0 48 [68, 78, 83, 75, 69, 89] [65, 98, 99, 114] kx (n + 1) v (j : Int) = qc7 4 false 0 0 [] [] t (qcn k) 3 253 0 0 0 0 48 [68, 78, 83, 75, 69, 89] [65, 98, 99, 114] kx n (v ++ o) ((j + 1 : Nat) : Int) := fun n v j o kx hj hv => by
    show qfj _ _ _ _ _ _ _ _ _ _ _ _ _ _ _ _ _ _ _ _ _ = _
    unfold qfj
    have hj4 : j < 4 := by omega
    rw [decide_eq_true (by omega), cond_t, J v j o _ hj hv, w64 (by omega) (by omega)]
    rfl
  refine (st _ [] 0 _ _ (.inl ⟨rfl, rfl⟩) (by simp)).trans ((st _ _ 1 _ _ (.inr (.inl ⟨rfl, rfl⟩)) (by simp)).trans ((st _ _ 2 _ _ (.inr (.inr (.inl ⟨rfl, rfl⟩))) (by simp)).trans ((st _ _ 3 _ _ (.inr (.inr (.inr ⟨rfl, rfl⟩))) (by simp)).trans ?_)))
  simp only [qc7, qfj]
  rw [decide_eq_false (by decide), cond_f]
  simp [keyW]
def tagK (z : List UInt8) (k : Bool) (s : Int) : Int := tagL (keyW k (keyT z k s))
theorem qbbi (k : Bool) (t : List UInt8) (ht : t.length = 8) : (keyW k t).length = 12 := by simp [keyW, ht]
theorem qbee (k : Bool) (t : List UInt8) (ht : t.length = 8) : qnk false 0 0 [] [] t (qcn k) 3 253 0 0 0 0 = some (tagL (keyW k t)) := by
  rw [q20]
  unfold qk2
  rw [qbbh k t ht, oB_s]
  simp only [bne_self_eq_false, cond_f]
  rw [qbda _ (by rw [qbbi k t ht]; omega)]
  rfl
end Go.Proofs.YtmoedhehjonnhaaGreatDoor.Dn
