/- Tags of keys; whether a list is a plan. -/
import Derived.Test.YtmoedhehjonnhaaGreatDoorRsLw22b
set_option linter.all false
namespace Go.Proofs.YtmoedhehjonnhaaGreatDoor.Dn
open Go Go.Pev
set_option linter.unusedVariables false
set_option linter.unusedSimpArgs false
set_option maxRecDepth 8000
def evn (i : Nat) : Bool := i % 2 == 0
theorem qbm6 (i : Nat) : (((i : Int).tmod (2 : Int)) == 0) = evn i := by
  rw [Int.tmod_eq_emod_of_nonneg (by omega), Bool.eq_iff_iff]
  simp only [beq_iff_eq, evn]
  omega
theorem qbc1 (i : Nat) (n : Int) (b : UInt8) (r : List UInt8) : tagS (evn i) n (b :: r) = tagS (evn (i + 1)) (n + (bif evn i then 256 * (b.toNat : Int) else (b.toNat : Int))) r := by
  by_cases h : i % 2 = 0
  · have h1 : evn i = true := by simp [evn, h]
    have h2 : evn (i + 1) = false := by simp [evn]; omega
    rw [h1, h2]; rfl
  · have h1 : evn i = false := by simp [evn, h]
    have h2 : evn (i + 1) = true := by simp [evn]; omega
    rw [h1, h2]; rfl
theorem qbof (n : Int) (h0 : 0 ≤ n) (h1 : n ≤ 1000000000000) : qdf .and .i64 (IntKind.i64.wrap (n + (qdf .and .i64 (n.fdiv (2 ^ min (16 : Int).toNat IntKind.i64.bits)) (65535 : Int)))) (65535 : Int) = (n + n / 65536 % 65536) % 65536 := by
  have e1 : n.fdiv (2 ^ min (16 : Int).toNat IntKind.i64.bits) = n / 65536 := Int.fdiv_eq_ediv_of_nonneg _ (by decide)
  rw [e1, qbf0 (n / 65536) (by omega) (by omega), w64 (show -9223372036854775808 ≤ n + n / 65536 % 65536 by omega) (by omega), qbf0 _ (by omega) (by omega)]
theorem qbmb (n : Int) (h0 : 0 ≤ n) (h1 : n ≤ 1000000000000) : (IntKind.i64.wrap (n + ((IntKind.i64.wrap (n.tdiv (65536 : Int))).tmod (65536 : Int)))).tmod (65536 : Int) = (n + n / 65536 % 65536) % 65536 := by
  rw [Int.tdiv_eq_ediv_of_nonneg h0, w64 (show -9223372036854775808 ≤ n / 65536 by omega) (by omega), Int.tmod_eq_emod_of_nonneg (show 0 ≤ n / 65536 by omega), w64 (by omega) (by omega), Int.tmod_eq_emod_of_nonneg (by omega)]
theorem qbog (w : List UInt8) (hw : w.length ≤ 1000000) : qyp w = some (tagL w) := by
  rw [qbdh]
  unfold qo2
  rw [q7o]
  have key := qbw (σ := Int) w (by omega) (fun m i n => qhw w (fun v3q1 => (some (qdf .and .i64 (IntKind.i64.wrap (v3q1 + (qdf .and .i64 (v3q1.fdiv (2 ^ min (16 : Int).toNat IntKind.i64.bits)) (65535 : Int)))) (65535 : Int)))) m n i)
    (fun i n nx => qhv w n i (fun a b => nx b a) (fun v3q1 => (some (qdf .and .i64 (IntKind.i64.wrap (v3q1 + (qdf .and .i64 (v3q1.fdiv (2 ^ min (16 : Int).toNat IntKind.i64.bits)) (65535 : Int)))) (65535 : Int))))) (fun m i n => rfl)
    (fun i n => 0 ≤ n ∧ n ≤ 65536 * i ∧ tagS (evn i) n (w.drop i) = tagS true 0 w) (fun r n => some (tagL w)) (fun n nx hJ => by
      unfold qhv
      rw [decide_eq_false (by omega), cond_f]
      dsimp only
      rw [qbof n hJ.1 (by omega)]
      have h := hJ.2.2
      rw [List.drop_length] at h
      have h2 : tagS (evn w.length) n [] = n := by cases evn w.length <;> rfl
      rw [h2] at h
      unfold tagL
      rw [← h])
    (fun i b r n nx h1 h2 h3 h4 hJ hnx => by
      unfold qhv
      have hb : b.toNat < 256 := b.toNat_lt
      rw [decide_eq_true (by omega), cond_t, qbm6, ixB_nat, h2, oB_s, oB_s, h4]
      have e1 : (IntKind.i64.wrap (b.toNat : Int)) * 2 ^ min (8 : Int).toNat IntKind.i64.bits = 256 * (b.toNat : Int) := by
        rw [w64 (by omega) (by omega)]
        have : (2 : Int) ^ min (8 : Int).toNat IntKind.i64.bits = 256 := rfl
        rw [this]; omega
      have hd := hJ.2.2
      rw [h1, qbc1] at hd
      have hr : w.drop (i + 1) = r := by rw [← List.tail_drop, h1]; rfl
      cases he : evn i <;> rw [he] at hd <;> simp only [cond_t, cond_f] at hd ⊢
      · rw [w64 (show -9223372036854775808 ≤ (b.toNat : Int) by omega) (by omega), w64 (by omega) (by omega)]
        exact hnx _ ⟨by omega, by omega, by rw [hr]; exact hd⟩
      · rw [e1, w64 (show -9223372036854775808 ≤ 256 * (b.toNat : Int) by omega) (by omega), w64 (by omega) (by omega)]
        exact hnx _ ⟨by omega, by omega, by rw [hr]; exact hd⟩) 0 FU ⟨by omega, by omega, rfl⟩ (qcc (by omega))
  exact key
theorem qbmc (w : List UInt8) (hw : w.length ≤ 1000000) : qtu w = some (tagL w) := by
  rw [q84]
  unfold qlv
  rw [q30]
  have key := qbw (σ := Int) w (by omega) (fun m i n => qgd w (fun v3q1 => (some ((IntKind.i64.wrap (v3q1 + ((IntKind.i64.wrap (v3q1.tdiv (65536 : Int))).tmod (65536 : Int)))).tmod (65536 : Int)))) m n i)
    (fun i n nx => qgc w n i (fun a b => nx b a) (fun v3q1 => (some ((IntKind.i64.wrap (v3q1 + ((IntKind.i64.wrap (v3q1.tdiv (65536 : Int))).tmod (65536 : Int)))).tmod (65536 : Int))))) (fun m i n => rfl)
    (fun i n => 0 ≤ n ∧ n ≤ 65536 * i ∧ tagS (evn i) n (w.drop i) = tagS true 0 w) (fun r n => some (tagL w)) (fun n nx hJ => by
      unfold qgc
      rw [decide_eq_false (by omega), cond_f]
      dsimp only
      rw [qbmb n hJ.1 (by omega)]
      have h := hJ.2.2
      rw [List.drop_length] at h
      have h2 : tagS (evn w.length) n [] = n := by cases evn w.length <;> rfl
      rw [h2] at h
      unfold tagL
      rw [← h])
    (fun i b r n nx h1 h2 h3 h4 hJ hnx => by
      unfold qgc
      have hb : b.toNat < 256 := b.toNat_lt
      rw [decide_eq_true (by omega), cond_t, qbm6, ixB_nat, h2, oB_s, oB_s, h4]
      have e1 : (256 : Int) * (IntKind.i64.wrap (b.toNat : Int)) = 256 * (b.toNat : Int) := by rw [w64 (by omega) (by omega)]
      have hd := hJ.2.2
      rw [h1, qbc1] at hd
      have hr : w.drop (i + 1) = r := by rw [← List.tail_drop, h1]; rfl
      cases he : evn i <;> rw [he] at hd <;> simp only [cond_t, cond_f] at hd ⊢
      · rw [w64 (show -9223372036854775808 ≤ (b.toNat : Int) by omega) (by omega), w64 (by omega) (by omega)]
        exact hnx _ ⟨by omega, by omega, by rw [hr]; exact hd⟩
      · rw [e1, w64 (show -9223372036854775808 ≤ 256 * (b.toNat : Int) by omega) (by omega), w64 (by omega) (by omega)]
        exact hnx _ ⟨by omega, by omega, by rw [hr]; exact hd⟩) 0 FU ⟨by omega, by omega, rfl⟩ (qcc (by omega))
  exact key
def keyW (k : Bool) (t : List UInt8) : List UInt8 := [1, bif k then 1 else 0, 3, 253] ++ t
theorem FU20 : ∃ m, FU = m + 20 := ⟨FU - 20, by rw [q0v]⟩
theorem qbc2 : qgr 48 = some true := by
  rw [q6h]
  unfold qjj
  rw [qyx]
  kernel_rfl
theorem qbmd : qsp 48 = some (.agg [(.int .i64 (48 : Int)), (.str ([68, 78, 83, 75, 69, 89] : List UInt8)), (.str ([65, 98, 99, 114] : List UInt8))], true) := by
  rw [qbc9]
  unfold qov
  rw [qbaw, q7j]
  obtain ⟨m, hm⟩ := FU20
  rw [hm]
  kernel_rfl
theorem qbps (k : Bool) : qz (qb2 k) 2 = some [1, bif k then 1 else 0] := by
  rw [qo0]
  unfold qgq
  rw [qk4]
  obtain ⟨m, hm⟩ := FU20
  rw [hm]
  cases k <;> kernel_rfl
theorem qbpt : qz 3 1 = some [3] := by
  rw [qo0]
  unfold qgq
  rw [qk4]
  obtain ⟨m, hm⟩ := FU20
  rw [hm]
  kernel_rfl
theorem qbme : qz 253 1 = some [253] := by
  rw [qo0]
  unfold qgq
  rw [qk4]
  obtain ⟨m, hm⟩ := FU20
  rw [hm]
  kernel_rfl
theorem qbkn (k : Bool) (t : List UInt8) (ht : t.length = 8) : qv7 48 false 0 0 [] [] t (qb2 k) 3 253 0 0 0 0 = some true := by
  have h1 : qox t = some true := by
    rw [qbda]
    unfold qow
    rw [ht]; rfl
  have h2 : q9 253 255 = some true := by rw [q8p]; rfl
  rw [qbaz]
  cases k <;> simp [qnd, qb2, q52, qjb, q3e, qil, q3i, qim, h1, h2]
theorem qbao (k : Bool) (t : List UInt8) (ht : t.length = 8) : qlu 48 false 0 0 [] [] t (qb2 k) 3 253 0 0 0 0 = some true := by
  have h1 : qj5 t = some true := by
    rw [q7u]
    unfold qks
    rw [ht]; rfl
  have h2 : qbm 253 255 = some true := by rw [qba6]; rfl
  have h3 := qbc2
  have h4 : qru 48 false 0 0 [] [] t (qb2 k) 3 253 0 0 0 0 = some (.agg [(.bool false), (.int .u64 0), (.int .u64 0), (.str ([] : List UInt8)), (.str ([] : List UInt8)), (.str t), (.int .i64 (qb2 k)), (.int .i64 (3 : Int)), (.int .i64 (253 : Int)), (.int .i64 0), (.int .i64 0), (.int .i64 0), (.int .u64 0)]) := by
    rw [q7s]
    simp [qkr, q14, qh3, qyz, qg6, qy1, qg7]
  rw [q6j]
  unfold qjl
  rw [qy3]
  unfold qg8
  rw [h3, oB_s, h4, oB_s]
  cases k <;> simp [qb2, qxf, qgi, h1, h2, AV.cells, gB, gI, gS, gC, aB, aI, aS]
theorem qbmf (k : Bool) (t : List UInt8) (ht : t.length = 8) : qyo 48 false 0 0 [] [] t (qb2 k) 3 253 0 0 0 0 = some (keyW k t, 0) := by
  have hv := qbkn k t ht
  have J : ∀ (v : List UInt8) (j : Nat) (o : List UInt8) (kn : List UInt8 → Option (List UInt8 × Int)), (j = 0 ∧ o = [1, bif k then 1 else 0] ∨ j = 1 ∧ o = [3] ∨ j = 2 ∧ o = [253] ∨ j = 3 ∧ o = t) → v.length ≤ 1000 →
      qqf v 4 (j : Int) false 0 0 [] [] t (qb2 k) 3 253 0 0 0 0 48 [68, 78, 83, 75, 69, 89] [65, 98, 99, 114] kn = kn (v ++ o) := by
    intro v j o kn hj hv
    rw [q6b]
    unfold qjc
    rw [ixB_nat]
    rcases hj with ⟨rfl, rfl⟩ | ⟨rfl, rfl⟩ | ⟨rfl, rfl⟩ | ⟨rfl, rfl⟩
    · have : v.length + 2 ≤ 9223372036854775807 := by omega
      simp [qio, qdi, qbps, this]
    · have : v.length + 1 ≤ 9223372036854775807 := by omega
      simp [qio, qdi, qbpt, this]
    · have : v.length + 1 ≤ 9223372036854775807 := by omega
      simp [qio, qdi, qbme, this]
    · have : v.length + o.length ≤ 9223372036854775807 := by omega
      simp [qio, qdi, this]
  rw [qbdg]
  unfold qo1
  rw [qbmd, oB_s]
  simp only [Bool.not_true, cond_f]
  rw [hv, oB_s]
  simp only [Bool.not_true, cond_f]
  obtain ⟨m, hm⟩ : ∃ m, FU = m + 1 + 1 + 1 + 1 + 1 := ⟨FU - 5, by rw [q0v]⟩
  rw [q6c, hm]
  have st : ∀ (n : Nat) (v : List UInt8) (j : Nat) (o : List UInt8) (kx : List UInt8 → Option (List UInt8 × Int)), (j = 0 ∧ o = [1, bif k then 1 else 0] ∨ j = 1 ∧ o = [3] ∨ j = 2 ∧ o = [253] ∨ j = 3 ∧ o = t) → v.length ≤ 1000 →
      qdj 4 false 0 0 [] [] t (qb2 k) 3 253 0 0 0 0 48 [68, 78, 83, 75, 69, 89] [65, 98, 99, 114] kx (n + 1) v (j : Int) = qdj 4 false 0 0 [] [] t (qb2 k) 3 253 0 0 0 0 48 [68, 78, 83, 75, 69, 89] [65, 98, 99, 114] kx n (v ++ o) ((j + 1 : Nat) : Int) := fun n v j o kx hj hv => by
    show qgy _ _ _ _ _ _ _ _ _ _ _ _ _ _ _ _ _ _ _ _ _ = _
    unfold qgy
    have hj4 : j < 4 := by omega
    rw [decide_eq_true (by omega), cond_t, J v j o _ hj hv, w64 (by omega) (by omega)]
    rfl
  refine (st _ [] 0 _ _ (.inl ⟨rfl, rfl⟩) (by simp)).trans ((st _ _ 1 _ _ (.inr (.inl ⟨rfl, rfl⟩)) (by simp)).trans ((st _ _ 2 _ _ (.inr (.inr (.inl ⟨rfl, rfl⟩))) (by simp)).trans ((st _ _ 3 _ _ (.inr (.inr (.inr ⟨rfl, rfl⟩))) (by simp)).trans ?_)))
  simp only [qdj, qgy]
  rw [decide_eq_false (by decide), cond_f]
  simp [keyW]
noncomputable def NLb (f : Nat) (n v6 : Int) (a : List AV) (nx : Int → List AV → Option (List UInt8)) (kx : List AV → Option (List UInt8)) : Option (List UInt8) :=
  (bif (decide (v6 ≥ 0)) then (bif (hd a (a.length) && true) then (qds n v6 a (fun v7q1 => (bif hd a a.length then (bif hd ([(.int .u8 (IntKind.u8.wrap (v7q1.tmod (256 : Int))))] : List AV) (([(.int .u8 (IntKind.u8.wrap (v7q1.tmod (256 : Int))))] : List AV).length) then (bif decide ((a.length + ([(.int .u8 (IntKind.u8.wrap (v7q1.tmod (256 : Int))))] : List AV).length) * 1 ≤ 140737488355328) then (nx (IntKind.i64.wrap (v6 - 1)) (a ++ ([(.int .u8 (IntKind.u8.wrap (v7q1.tmod (256 : Int))))] : List AV))) else none) else none) else none)) f n 0) else none) else (kx a))
noncomputable def NL (f : Nat) (n : Int) (kx : List AV → Option (List UInt8)) : Nat → Int → List AV → Option (List UInt8)
  | 0 => fun _ _ => none
  | m + 1 => fun v6 a => NLb f n v6 a (NL f n kx m) kx
theorem qbd3 (n : Int) (kx : List AV → Option (List UInt8)) : ∀ m, qct n kx m = NL FU n kx m
  | 0 => rfl
  | m + 1 => by
    funext v6 a
    show qgj n v6 a (qct n kx m) kx = NLb FU n v6 a (NL FU n kx m) kx
    rw [qbd3 n kx m]
    unfold qgj NLb
    rw [qwc]
theorem qbpu (k : Bool) : qi (qb2 k) 2 = some [1, bif k then 1 else 0] := by
  rw [qk7]
  unfold qeo
  rw [qiz, qbd3]
  obtain ⟨m, hm⟩ := FU20
  rw [hm]
  cases k <;> kernel_rfl
theorem qbpv : qi 3 1 = some [3] := by
  rw [qk7]
  unfold qeo
  rw [qiz, qbd3]
  obtain ⟨m, hm⟩ := FU20
  rw [hm]
  kernel_rfl
theorem qbmg : qi 253 1 = some [253] := by
  rw [qk7]
  unfold qeo
  rw [qiz, qbd3]
  obtain ⟨m, hm⟩ := FU20
  rw [hm]
  kernel_rfl
theorem qbko (k : Bool) (t : List UInt8) (ht : t.length = 8) : qrw 48 false 0 0 [] [] t (qb2 k) 3 253 0 0 0 0 = some (keyW k t, 0) := by
  have hv := qbao k t ht
  have h3 := qbc2
  have h8 : t.length ≤ 100 := by omega
  rw [q7v]
  unfold qku
  rw [h3, oB_s]
  simp only [Bool.not_true, cond_f]
  rw [hv, oB_s]
  simp only [Bool.not_true, cond_f]
  rw [qzc]
  unfold qg9
  rw [qze]
  unfold qha
  have h9 : 4 + t.length ≤ 9223372036854775807 := by omega
  have e1 : ((48 : Int) == 1) = false := rfl
  have e2 : ((48 : Int) == 28) = false := rfl
  simp [qbpu, qbpv, qbmg, keyW, ht]
def tagK (z : List UInt8) (k : Bool) (s : Int) : Int := tagL (keyW k (keyT z k s))
theorem qbf1 (k : Bool) (t : List UInt8) (ht : t.length = 8) : (keyW k t).length = 12 := by simp [keyW, ht]
theorem qbpw (k : Bool) (t : List UInt8) (ht : t.length = 8) : qsq false 0 0 [] [] t (qb2 k) 3 253 0 0 0 0 = some (tagL (keyW k t)) := by
  rw [qbdi]
  unfold qo3
  rw [qbmf k t ht, oB_s]
  simp only [bne_self_eq_false, cond_f]
  rw [qbog _ (by rw [qbf1 k t ht]; omega)]
  rfl
theorem qboh (k : Bool) (t : List UInt8) (ht : t.length = 8) : qtv false 0 0 [] [] t (qb2 k) 3 253 0 0 0 0 = some (tagL (keyW k t)) := by
  rw [q85]
  unfold qlw
  rw [qbao k t ht, oB_s]
  simp only [Bool.not_true, cond_f]
  rw [qbko k t ht, oB_s, qbmc _ (by rw [qbf1 k t ht]; omega)]
  rfl
theorem qbkp (z : List UInt8) (k : Bool) (s : Int) (hz : z.length ≤ 1000000) (he : errD z s = 0) : qpe z k s = some (tagK z k s) := by
  rw [q86]
  unfold qlx
  rw [qbhr z k s hz, oB_s]
  unfold datF
  rw [he]
  have h0 : ((0 : Int) == 0) = true := rfl
  rw [h0, cond_t]
  exact (congrArg (fun q => oB q fun r2 => some r2) (qboh k (keyT z k s) (qbhp _ _))).trans rfl
end Go.Proofs.YtmoedhehjonnhaaGreatDoor.Dn
