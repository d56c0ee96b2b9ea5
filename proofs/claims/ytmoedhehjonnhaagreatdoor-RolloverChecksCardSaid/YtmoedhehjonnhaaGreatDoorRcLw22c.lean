/- Tags of keys; whether a list is a plan. -/
import Derived.Test.YtmoedhehjonnhaaGreatDoorRcLw22b
set_option linter.all false
namespace Go.Proofs.YtmoedhehjonnhaaGreatDoor.Dn
open Go Go.Pev
set_option linter.unusedVariables false
set_option linter.unusedSimpArgs false
set_option maxRecDepth 8000
def evn (i : Nat) : Bool := i % 2 == 0
theorem qbmv (i : Nat) : (((i : Int).tmod (2 : Int)) == 0) = evn i := by
  rw [Int.tmod_eq_emod_of_nonneg (by omega), Bool.eq_iff_iff]
  simp only [beq_iff_eq, evn]
  omega
theorem qbc1 (i : Nat) (n : Int) (b : UInt8) (r : List UInt8) : tagS (evn i) n (b :: r) = tagS (evn (i + 1)) (n + (bif evn i then 256 * (b.toNat : Int) else (b.toNat : Int))) r := by
  by_cases h : i % 2 = 0
  · have h1 : evn i = true := by simp [evn, h]
    have h2 : evn (i + 1) = false := by simp [evn]; omega
    rw [h1, h2]; rfl
  · have h1 : evn i = false := by simp [evn, h]
    have h2 : evn (i + 1) = true := by simp [evn]; omega
    rw [h1, h2]; rfl
theorem qbn1 (n : Int) (h0 : 0 ≤ n) (h1 : n ≤ 1000000000000) : qdm .and .i64 (IntKind.i64.wrap (n + (qdm .and .i64 (n.fdiv (2 ^ min (16 : Int).toNat IntKind.i64.bits)) (65535 : Int)))) (65535 : Int) = (n + n / 65536 % 65536) % 65536 := by
  have e1 : n.fdiv (2 ^ min (16 : Int).toNat IntKind.i64.bits) = n / 65536 := Int.fdiv_eq_ediv_of_nonneg _ (by decide)
  rw [e1, qbf0 (n / 65536) (by omega) (by omega), w64 (show -9223372036854775808 ≤ n + n / 65536 % 65536 by omega) (by omega), qbf0 _ (by omega) (by omega)]
theorem qbl2 (n : Int) (h0 : 0 ≤ n) (h1 : n ≤ 1000000000000) : (IntKind.i64.wrap (n + ((IntKind.i64.wrap (n.tdiv (65536 : Int))).tmod (65536 : Int)))).tmod (65536 : Int) = (n + n / 65536 % 65536) % 65536 := by
  rw [Int.tdiv_eq_ediv_of_nonneg h0, w64 (show -9223372036854775808 ≤ n / 65536 by omega) (by omega), Int.tmod_eq_emod_of_nonneg (show 0 ≤ n / 65536 by omega), w64 (by omega) (by omega), Int.tmod_eq_emod_of_nonneg (by omega)]
theorem qbn2 (w : List UInt8) (hw : w.length ≤ 1000000) : qzh w = some (tagL w) := by
  rw [qbdh]
  unfold qpb
  rw [q7u]
  have key := qbr (σ := Int) w (by omega) (fun m i n => qh2 w (fun v3q1 => (some (qdm .and .i64 (IntKind.i64.wrap (v3q1 + (qdm .and .i64 (v3q1.fdiv (2 ^ min (16 : Int).toNat IntKind.i64.bits)) (65535 : Int)))) (65535 : Int)))) m n i)
    (fun i n nx => qh1 w n i (fun a b => nx b a) (fun v3q1 => (some (qdm .and .i64 (IntKind.i64.wrap (v3q1 + (qdm .and .i64 (v3q1.fdiv (2 ^ min (16 : Int).toNat IntKind.i64.bits)) (65535 : Int)))) (65535 : Int))))) (fun m i n => rfl)
    (fun i n => 0 ≤ n ∧ n ≤ 65536 * i ∧ tagS (evn i) n (w.drop i) = tagS true 0 w) (fun r n => some (tagL w)) (fun n nx hJ => by
      unfold qh1
      rw [decide_eq_false (by omega), cond_f]
      dsimp only
      rw [qbn1 n hJ.1 (by omega)]
      have h := hJ.2.2
      rw [List.drop_length] at h
      have h2 : tagS (evn w.length) n [] = n := by cases evn w.length <;> rfl
      rw [h2] at h
      unfold tagL
      rw [← h])
    (fun i b r n nx h1 h2 h3 h4 hJ hnx => by
      unfold qh1
      have hb : b.toNat < 256 := b.toNat_lt
      rw [decide_eq_true (by omega), cond_t, qbmv, ixB_nat, h2, oB_s, oB_s, h4]
      have e1 : (IntKind.i64.wrap (b.toNat : Int)) * 2 ^ min (8 : Int).toNat IntKind.i64.bits = 256 * (b.toNat : Int) := by
        rw [w64 (by omega) (by omega)]
        have : (2 : Int) ^ min (8 : Int).toNat IntKind.i64.bits = 256 := rfl
        rw [this]; omega
      have hd := hJ.2.2
      rw [h1, qbc1] at hd
      have hr : w.drop (i + 1) = r := by rw [← List.tail_drop, h1]; rfl
      cases he : evn i <;> rw [he] at hd <;> simp only [cond_t, cond_f] at hd ⊢
      · rw [w64 (show -9223372036854775808 ≤ (b.toNat : Int) by omega) (by omega), w64 (by omega) (by omega)]
        exact hnx _ ⟨by omega, by omega, by rw [hr]; exact hd⟩
      · rw [e1, w64 (show -9223372036854775808 ≤ 256 * (b.toNat : Int) by omega) (by omega), w64 (by omega) (by omega)]
        exact hnx _ ⟨by omega, by omega, by rw [hr]; exact hd⟩) 0 FU ⟨by omega, by omega, rfl⟩ (qb5 (by omega))
  exact key
theorem qbl3 (w : List UInt8) (hw : w.length ≤ 1000000) : qt4 w = some (tagL w) := by
  rw [q9a]
  unfold ql5
  rw [q36]
  have key := qbr (σ := Int) w (by omega) (fun m i n => qgl w (fun v3q1 => (some ((IntKind.i64.wrap (v3q1 + ((IntKind.i64.wrap (v3q1.tdiv (65536 : Int))).tmod (65536 : Int)))).tmod (65536 : Int)))) m n i)
    (fun i n nx => qgk w n i (fun a b => nx b a) (fun v3q1 => (some ((IntKind.i64.wrap (v3q1 + ((IntKind.i64.wrap (v3q1.tdiv (65536 : Int))).tmod (65536 : Int)))).tmod (65536 : Int))))) (fun m i n => rfl)
    (fun i n => 0 ≤ n ∧ n ≤ 65536 * i ∧ tagS (evn i) n (w.drop i) = tagS true 0 w) (fun r n => some (tagL w)) (fun n nx hJ => by
      unfold qgk
      rw [decide_eq_false (by omega), cond_f]
      dsimp only
      rw [qbl2 n hJ.1 (by omega)]
      have h := hJ.2.2
      rw [List.drop_length] at h
      have h2 : tagS (evn w.length) n [] = n := by cases evn w.length <;> rfl
      rw [h2] at h
      unfold tagL
      rw [← h])
    (fun i b r n nx h1 h2 h3 h4 hJ hnx => by
      unfold qgk
      have hb : b.toNat < 256 := b.toNat_lt
      rw [decide_eq_true (by omega), cond_t, qbmv, ixB_nat, h2, oB_s, oB_s, h4]
      have e1 : (256 : Int) * (IntKind.i64.wrap (b.toNat : Int)) = 256 * (b.toNat : Int) := by rw [w64 (by omega) (by omega)]
      have hd := hJ.2.2
      rw [h1, qbc1] at hd
      have hr : w.drop (i + 1) = r := by rw [← List.tail_drop, h1]; rfl
      cases he : evn i <;> rw [he] at hd <;> simp only [cond_t, cond_f] at hd ⊢
      · rw [w64 (show -9223372036854775808 ≤ (b.toNat : Int) by omega) (by omega), w64 (by omega) (by omega)]
        exact hnx _ ⟨by omega, by omega, by rw [hr]; exact hd⟩
      · rw [e1, w64 (show -9223372036854775808 ≤ 256 * (b.toNat : Int) by omega) (by omega), w64 (by omega) (by omega)]
        exact hnx _ ⟨by omega, by omega, by rw [hr]; exact hd⟩) 0 FU ⟨by omega, by omega, rfl⟩ (qb5 (by omega))
  exact key
def keyW (k : Bool) (t : List UInt8) : List UInt8 := [1, bif k then 1 else 0, 3, 253] ++ t
theorem FU20 : ∃ m, FU = m + 20 := ⟨FU - 20, by rw [q09]⟩
theorem qbc2 : qg0 48 = some true := by
  rw [q6m]
  unfold qjp
  rw [qzp]
  kernel_rfl
theorem qbl4 : qsy 48 = some (.agg [(.int .i64 (48 : Int)), (.str ([68, 78, 83, 75, 69, 89] : List UInt8)), (.str ([65, 98, 99, 114] : List UInt8))], true) := by
  rw [qbc9]
  unfold qo4
  rw [qbay, q7p]
  obtain ⟨m, hm⟩ := FU20
  rw [hm]
  kernel_rfl
theorem qbpe (k : Bool) : qz (qb6 k) 2 = some [1, bif k then 1 else 0] := by
  rw [qo9]
  unfold qgz
  rw [qld]
  obtain ⟨m, hm⟩ := FU20
  rw [hm]
  cases k <;> kernel_rfl
theorem qbpf : qz 3 1 = some [3] := by
  rw [qo9]
  unfold qgz
  rw [qld]
  obtain ⟨m, hm⟩ := FU20
  rw [hm]
  kernel_rfl
theorem qbl5 : qz 253 1 = some [253] := by
  rw [qo9]
  unfold qgz
  rw [qld]
  obtain ⟨m, hm⟩ := FU20
  rw [hm]
  kernel_rfl
theorem qbkd (k : Bool) (t : List UInt8) (ht : t.length = 8) : qwo 48 false 0 0 [] [] t (qb6 k) 3 253 0 0 0 0 = some true := by
  have h1 : qo6 t = some true := by
    rw [qbda]
    unfold qo5
    rw [ht]; rfl
  have h2 : q9 253 255 = some true := by rw [q8v]; rfl
  rw [qba1]
  cases k <;> simp [qni, qb6, q57, qji, q3k, qit, q3o, qiu, h1, h2]
theorem qbaq (k : Bool) (t : List UInt8) (ht : t.length = 8) : ql4 48 false 0 0 [] [] t (qb6 k) 3 253 0 0 0 0 = some true := by
  have h1 : qka t = some true := by
    rw [q70]
    unfold qk1
    rw [ht]; rfl
  have h2 : qbo 253 255 = some true := by rw [qba8]; rfl
  have h3 := qbc2
  have h4 : qr3 48 false 0 0 [] [] t (qb6 k) 3 253 0 0 0 0 = some (.agg [(.bool false), (.int .u64 0), (.int .u64 0), (.str ([] : List UInt8)), (.str ([] : List UInt8)), (.str t), (.int .i64 (qb6 k)), (.int .i64 (3 : Int)), (.int .i64 (253 : Int)), (.int .i64 0), (.int .i64 0), (.int .i64 0), (.int .u64 0)]) := by
    rw [q7y]
    simp [qk0, q2j, qh9, qzr, qhh, qzt, qhi]
  rw [q6o]
  unfold qjr
  rw [qzv]
  unfold qhj
  rw [h3, oB_s, h4, oB_s]
  cases k <;> simp [qb6, qx0, qgq, h1, h2, AV.cells, gB, gI, gS, gC, aB, aI, aS]
theorem qbl6 (k : Bool) (t : List UInt8) (ht : t.length = 8) : qzg 48 false 0 0 [] [] t (qb6 k) 3 253 0 0 0 0 = some (keyW k t, 0) := by
  have hv := qbkd k t ht
  have J : ∀ (v : List UInt8) (j : Nat) (o : List UInt8) (kn : List UInt8 → Option (List UInt8 × Int)), (j = 0 ∧ o = [1, bif k then 1 else 0] ∨ j = 1 ∧ o = [3] ∨ j = 2 ∧ o = [253] ∨ j = 3 ∧ o = t) → v.length ≤ 1000 →
      qqo v 4 (j : Int) false 0 0 [] [] t (qb6 k) 3 253 0 0 0 0 48 [68, 78, 83, 75, 69, 89] [65, 98, 99, 114] kn = kn (v ++ o) := by
    intro v j o kn hj hv
    rw [q6g]
    unfold qjj
    rw [ixB_nat]
    rcases hj with ⟨rfl, rfl⟩ | ⟨rfl, rfl⟩ | ⟨rfl, rfl⟩ | ⟨rfl, rfl⟩
    · have : v.length + 2 ≤ 9223372036854775807 := by omega
      simp [qiw, qdp, qbpe, this]
    · have : v.length + 1 ≤ 9223372036854775807 := by omega
      simp [qiw, qdp, qbpf, this]
    · have : v.length + 1 ≤ 9223372036854775807 := by omega
      simp [qiw, qdp, qbl5, this]
    · have : v.length + o.length ≤ 9223372036854775807 := by omega
      simp [qiw, qdp, this]
  rw [qbdg]
  unfold qpa
  rw [qbl4, oB_s]
  simp only [Bool.not_true, cond_f]
  rw [hv, oB_s]
  simp only [Bool.not_true, cond_f]
  obtain ⟨m, hm⟩ : ∃ m, FU = m + 1 + 1 + 1 + 1 + 1 := ⟨FU - 5, by rw [q09]⟩
  rw [q6h, hm]
  have st : ∀ (n : Nat) (v : List UInt8) (j : Nat) (o : List UInt8) (kx : List UInt8 → Option (List UInt8 × Int)), (j = 0 ∧ o = [1, bif k then 1 else 0] ∨ j = 1 ∧ o = [3] ∨ j = 2 ∧ o = [253] ∨ j = 3 ∧ o = t) → v.length ≤ 1000 →
      qdq 4 false 0 0 [] [] t (qb6 k) 3 253 0 0 0 0 48 [68, 78, 83, 75, 69, 89] [65, 98, 99, 114] kx (n + 1) v (j : Int) = qdq 4 false 0 0 [] [] t (qb6 k) 3 253 0 0 0 0 48 [68, 78, 83, 75, 69, 89] [65, 98, 99, 114] kx n (v ++ o) ((j + 1 : Nat) : Int) := fun n v j o kx hj hv => by
    show qg7 _ _ _ _ _ _ _ _ _ _ _ _ _ _ _ _ _ _ _ _ _ = _
    unfold qg7
    have hj4 : j < 4 := by omega
    rw [decide_eq_true (by omega), cond_t, J v j o _ hj hv, w64 (by omega) (by omega)]
    rfl
  refine (st _ [] 0 _ _ (.inl ⟨rfl, rfl⟩) (by simp)).trans ((st _ _ 1 _ _ (.inr (.inl ⟨rfl, rfl⟩)) (by simp)).trans ((st _ _ 2 _ _ (.inr (.inr (.inl ⟨rfl, rfl⟩))) (by simp)).trans ((st _ _ 3 _ _ (.inr (.inr (.inr ⟨rfl, rfl⟩))) (by simp)).trans ?_)))
  simp only [qdq, qg7]
  rw [decide_eq_false (by decide), cond_f]
  simp [keyW]
noncomputable def NLb (f : Nat) (n v6 : Int) (a : List AV) (nx : Int → List AV → Option (List UInt8)) (kx : List AV → Option (List UInt8)) : Option (List UInt8) :=
  (bif (decide (v6 ≥ 0)) then (bif (hd a (a.length) && true) then (qdy n v6 a (fun v7q1 => (bif hd a a.length then (bif hd ([(.int .u8 (IntKind.u8.wrap (v7q1.tmod (256 : Int))))] : List AV) (([(.int .u8 (IntKind.u8.wrap (v7q1.tmod (256 : Int))))] : List AV).length) then (bif decide ((a.length + ([(.int .u8 (IntKind.u8.wrap (v7q1.tmod (256 : Int))))] : List AV).length) * 1 ≤ 140737488355328) then (nx (IntKind.i64.wrap (v6 - 1)) (a ++ ([(.int .u8 (IntKind.u8.wrap (v7q1.tmod (256 : Int))))] : List AV))) else none) else none) else none)) f n 0) else none) else (kx a))
noncomputable def NL (f : Nat) (n : Int) (kx : List AV → Option (List UInt8)) : Nat → Int → List AV → Option (List UInt8)
  | 0 => fun _ _ => none
  | m + 1 => fun v6 a => NLb f n v6 a (NL f n kx m) kx
theorem qbd4 (n : Int) (kx : List AV → Option (List UInt8)) : ∀ m, qcy n kx m = NL FU n kx m
  | 0 => rfl
  | m + 1 => by
    funext v6 a
    show qgr n v6 a (qcy n kx m) kx = NLb FU n v6 a (NL FU n kx m) kx
    rw [qbd4 n kx m]
    unfold qgr NLb
    rw [qwt]
theorem qbpg (k : Bool) : qi (qb6 k) 2 = some [1, bif k then 1 else 0] := by
  rw [qlg]
  unfold qey
  rw [qi7, qbd4]
  obtain ⟨m, hm⟩ := FU20
  rw [hm]
  cases k <;> kernel_rfl
theorem qbph : qi 3 1 = some [3] := by
  rw [qlg]
  unfold qey
  rw [qi7, qbd4]
  obtain ⟨m, hm⟩ := FU20
  rw [hm]
  kernel_rfl
theorem qbl7 : qi 253 1 = some [253] := by
  rw [qlg]
  unfold qey
  rw [qi7, qbd4]
  obtain ⟨m, hm⟩ := FU20
  rw [hm]
  kernel_rfl
theorem qbke (k : Bool) (t : List UInt8) (ht : t.length = 8) : qr5 48 false 0 0 [] [] t (qb6 k) 3 253 0 0 0 0 = some (keyW k t, 0) := by
  have hv := qbaq k t ht
  have h3 := qbc2
  have h8 : t.length ≤ 100 := by omega
  rw [q71]
  unfold qk3
  rw [h3, oB_s]
  simp only [Bool.not_true, cond_f]
  rw [hv, oB_s]
  simp only [Bool.not_true, cond_f]
  rw [qz4]
  unfold qhk
  rw [qz6]
  unfold qhl
  have h9 : 4 + t.length ≤ 9223372036854775807 := by omega
  have e1 : ((48 : Int) == 1) = false := rfl
  have e2 : ((48 : Int) == 28) = false := rfl
  simp [qbpg, qbph, qbl7, keyW, ht]
def tagK (z : List UInt8) (k : Bool) (s : Int) : Int := tagL (keyW k (keyT z k s))
theorem qbf1 (k : Bool) (t : List UInt8) (ht : t.length = 8) : (keyW k t).length = 12 := by simp [keyW, ht]
theorem qbpi (k : Bool) (t : List UInt8) (ht : t.length = 8) : qsz false 0 0 [] [] t (qb6 k) 3 253 0 0 0 0 = some (tagL (keyW k t)) := by
  rw [qbdi]
  unfold qpc
  rw [qbl6 k t ht, oB_s]
  simp only [bne_self_eq_false, cond_f]
  rw [qbn2 _ (by rw [qbf1 k t ht]; omega)]
  rfl
theorem qbn3 (k : Bool) (t : List UInt8) (ht : t.length = 8) : qt5 false 0 0 [] [] t (qb6 k) 3 253 0 0 0 0 = some (tagL (keyW k t)) := by
  rw [q9b]
  unfold ql6
  rw [qbaq k t ht, oB_s]
  simp only [Bool.not_true, cond_f]
  rw [qbke k t ht, oB_s, qbl3 _ (by rw [qbf1 k t ht]; omega)]
  rfl
theorem qbkf (z : List UInt8) (k : Bool) (s : Int) (hz : z.length ≤ 1000000) (he : errD z s = 0) : qpn z k s = some (tagK z k s) := by
  rw [q9c]
  unfold ql7
  rw [qbhk z k s hz, oB_s]
  unfold datF
  rw [he]
  have h0 : ((0 : Int) == 0) = true := rfl
  rw [h0, cond_t]
  exact (congrArg (fun q => oB q fun r2 => some r2) (qbn3 k (keyT z k s) (qbhi _ _))).trans rfl
end Go.Proofs.YtmoedhehjonnhaaGreatDoor.Dn
