/- Tags of keys; whether a list is a plan. -/
import Derived.Test.YtmoedhehjonnhaaGreatDoorRrLw22b
set_option linter.all false
namespace Go.Proofs.YtmoedhehjonnhaaGreatDoor.Dn
open Go Go.Pev
set_option linter.unusedVariables false
set_option linter.unusedSimpArgs false
set_option maxRecDepth 8000
def evn (i : Nat) : Bool := i % 2 == 0
theorem qbky (i : Nat) : (((i : Int).tmod (2 : Int)) == 0) = evn i := by
  rw [Int.tmod_eq_emod_of_nonneg (by omega), Bool.eq_iff_iff]
  simp only [beq_iff_eq, evn]
  omega
theorem qba9 (i : Nat) (n : Int) (b : UInt8) (r : List UInt8) : tagS (evn i) n (b :: r) = tagS (evn (i + 1)) (n + (bif evn i then 256 * (b.toNat : Int) else (b.toNat : Int))) r := by
  by_cases h : i % 2 = 0
  · have h1 : evn i = true := by simp [evn, h]
    have h2 : evn (i + 1) = false := by simp [evn]; omega
    rw [h1, h2]; rfl
  · have h1 : evn i = false := by simp [evn, h]
    have h2 : evn (i + 1) = true := by simp [evn]; omega
    rw [h1, h2]; rfl
theorem qbl6 (n : Int) (h0 : 0 ≤ n) (h1 : n ≤ 1000000000000) : qdf .and .i64 (IntKind.i64.wrap (n + (qdf .and .i64 (n.fdiv (2 ^ min (16 : Int).toNat IntKind.i64.bits)) (65535 : Int)))) (65535 : Int) = (n + n / 65536 % 65536) % 65536 := by
  have e1 : n.fdiv (2 ^ min (16 : Int).toNat IntKind.i64.bits) = n / 65536 := Int.fdiv_eq_ediv_of_nonneg _ (by decide)
  rw [e1, qbd8 (n / 65536) (by omega) (by omega), w64 (show -9223372036854775808 ≤ n + n / 65536 % 65536 by omega) (by omega), qbd8 _ (by omega) (by omega)]
theorem qbj5 (n : Int) (h0 : 0 ≤ n) (h1 : n ≤ 1000000000000) : (IntKind.i64.wrap (n + ((IntKind.i64.wrap (n.tdiv (65536 : Int))).tmod (65536 : Int)))).tmod (65536 : Int) = (n + n / 65536 % 65536) % 65536 := by
  rw [Int.tdiv_eq_ediv_of_nonneg h0, w64 (show -9223372036854775808 ≤ n / 65536 by omega) (by omega), Int.tmod_eq_emod_of_nonneg (show 0 ≤ n / 65536 by omega), w64 (by omega) (by omega), Int.tmod_eq_emod_of_nonneg (by omega)]
theorem qbl7 (w : List UInt8) (hw : w.length ≤ 1000000) : qxs w = some (tagL w) := by
  rw [qbbo]
  unfold qoa
  rw [q54]
  have key := qcc (σ := Int) w (by omega) (fun m i n => qhk w (fun v3q1 => (some (qdf .and .i64 (IntKind.i64.wrap (v3q1 + (qdf .and .i64 (v3q1.fdiv (2 ^ min (16 : Int).toNat IntKind.i64.bits)) (65535 : Int)))) (65535 : Int)))) m n i)
    (fun i n nx => qhj w n i (fun a b => nx b a) (fun v3q1 => (some (qdf .and .i64 (IntKind.i64.wrap (v3q1 + (qdf .and .i64 (v3q1.fdiv (2 ^ min (16 : Int).toNat IntKind.i64.bits)) (65535 : Int)))) (65535 : Int))))) (fun m i n => rfl)
    (fun i n => 0 ≤ n ∧ n ≤ 65536 * i ∧ tagS (evn i) n (w.drop i) = tagS true 0 w) (fun r n => some (tagL w)) (fun n nx hJ => by
      unfold qhj
      rw [decide_eq_false (by omega), cond_f]
      dsimp only
      rw [qbl6 n hJ.1 (by omega)]
      have h := hJ.2.2
      rw [List.drop_length] at h
      have h2 : tagS (evn w.length) n [] = n := by cases evn w.length <;> rfl
      rw [h2] at h
      unfold tagL
      rw [← h])
    (fun i b r n nx h1 h2 h3 h4 hJ hnx => by
      unfold qhj
      have hb : b.toNat < 256 := b.toNat_lt
      rw [decide_eq_true (by omega), cond_t, qbky, ixB_nat, h2, oB_s, oB_s, h4]
      have e1 : (IntKind.i64.wrap (b.toNat : Int)) * 2 ^ min (8 : Int).toNat IntKind.i64.bits = 256 * (b.toNat : Int) := by
        rw [w64 (by omega) (by omega)]
        have : (2 : Int) ^ min (8 : Int).toNat IntKind.i64.bits = 256 := rfl
        rw [this]; omega
      have hd := hJ.2.2
      rw [h1, qba9] at hd
      have hr : w.drop (i + 1) = r := by rw [← List.tail_drop, h1]; rfl
      cases he : evn i <;> rw [he] at hd <;> simp only [cond_t, cond_f] at hd ⊢
      · rw [w64 (show -9223372036854775808 ≤ (b.toNat : Int) by omega) (by omega), w64 (by omega) (by omega)]
        exact hnx _ ⟨by omega, by omega, by rw [hr]; exact hd⟩
      · rw [e1, w64 (show -9223372036854775808 ≤ 256 * (b.toNat : Int) by omega) (by omega), w64 (by omega) (by omega)]
        exact hnx _ ⟨by omega, by omega, by rw [hr]; exact hd⟩) 0 FU ⟨by omega, by omega, rfl⟩ (qch (by omega))
  exact key
theorem qbj6 (w : List UInt8) (hw : w.length ≤ 1000000) : qsu w = some (tagL w) := by
  rw [q7j]
  unfold qlc
  rw [q2h]
  have key := qcc (σ := Int) w (by omega) (fun m i n => qf4 w (fun v3q1 => (some ((IntKind.i64.wrap (v3q1 + ((IntKind.i64.wrap (v3q1.tdiv (65536 : Int))).tmod (65536 : Int)))).tmod (65536 : Int)))) m n i)
    (fun i n nx => qf3 w n i (fun a b => nx b a) (fun v3q1 => (some ((IntKind.i64.wrap (v3q1 + ((IntKind.i64.wrap (v3q1.tdiv (65536 : Int))).tmod (65536 : Int)))).tmod (65536 : Int))))) (fun m i n => rfl)
    (fun i n => 0 ≤ n ∧ n ≤ 65536 * i ∧ tagS (evn i) n (w.drop i) = tagS true 0 w) (fun r n => some (tagL w)) (fun n nx hJ => by
      unfold qf3
      rw [decide_eq_false (by omega), cond_f]
      dsimp only
      rw [qbj5 n hJ.1 (by omega)]
      have h := hJ.2.2
      rw [List.drop_length] at h
      have h2 : tagS (evn w.length) n [] = n := by cases evn w.length <;> rfl
      rw [h2] at h
      unfold tagL
      rw [← h])
    (fun i b r n nx h1 h2 h3 h4 hJ hnx => by
      unfold qf3
      have hb : b.toNat < 256 := b.toNat_lt
      rw [decide_eq_true (by omega), cond_t, qbky, ixB_nat, h2, oB_s, oB_s, h4]
      have e1 : (256 : Int) * (IntKind.i64.wrap (b.toNat : Int)) = 256 * (b.toNat : Int) := by rw [w64 (by omega) (by omega)]
      have hd := hJ.2.2
      rw [h1, qba9] at hd
      have hr : w.drop (i + 1) = r := by rw [← List.tail_drop, h1]; rfl
      cases he : evn i <;> rw [he] at hd <;> simp only [cond_t, cond_f] at hd ⊢
      · rw [w64 (show -9223372036854775808 ≤ (b.toNat : Int) by omega) (by omega), w64 (by omega) (by omega)]
        exact hnx _ ⟨by omega, by omega, by rw [hr]; exact hd⟩
      · rw [e1, w64 (show -9223372036854775808 ≤ 256 * (b.toNat : Int) by omega) (by omega), w64 (by omega) (by omega)]
        exact hnx _ ⟨by omega, by omega, by rw [hr]; exact hd⟩) 0 FU ⟨by omega, by omega, rfl⟩ (qch (by omega))
  exact key
def keyW (k : Bool) (t : List UInt8) : List UInt8 := [1, bif k then 1 else 0, 3, 253] ++ t
theorem FU20 : ∃ m, FU = m + 20 := ⟨FU - 20, by rw [qzo]⟩
theorem qbba : qgh 48 = some true := by
  rw [q4x]
  unfold qi3
  rw [qx0]
  kernel_rfl
theorem qbj7 : qrp 48 = some (.agg [(.int .i64 (48 : Int)), (.str ([68, 78, 83, 75, 69, 89] : List UInt8)), (.str ([65, 98, 99, 114] : List UInt8))], true) := by
  rw [qbbg]
  unfold qn3
  rw [q86, q5z]
  obtain ⟨m, hm⟩ := FU20
  rw [hm]
  kernel_rfl
theorem qbni (k : Bool) : qz (qb2 k) 2 = some [1, bif k then 1 else 0] := by
  rw [qn8]
  unfold qgg
  rw [qkn]
  obtain ⟨m, hm⟩ := FU20
  rw [hm]
  cases k <;> kernel_rfl
theorem qbnj : qz 3 1 = some [3] := by
  rw [qn8]
  unfold qgg
  rw [qkn]
  obtain ⟨m, hm⟩ := FU20
  rw [hm]
  kernel_rfl
theorem qbj8 : qz 253 1 = some [253] := by
  rw [qn8]
  unfold qgg
  rw [qkn]
  obtain ⟨m, hm⟩ := FU20
  rw [hm]
  kernel_rfl
theorem qbij (k : Bool) (t : List UInt8) (ht : t.length = 8) : qu9 48 false 0 0 [] [] t (qb2 k) 3 253 0 0 0 0 = some true := by
  have h1 : qn5 t = some true := by
    rw [qbbh]
    unfold qn4
    rw [ht]; rfl
  have h2 : qba 253 255 = some true := by rw [q64]; rfl
  rw [q89]
  cases k <;> simp [qmq, qb2, q4i, qiv, q1v, qh6, q1z, qh7, h1, h2]
theorem q80 (k : Bool) (t : List UInt8) (ht : t.length = 8) : qlb 48 false 0 0 [] [] t (qb2 k) 3 253 0 0 0 0 = some true := by
  have h1 : qjq t = some true := by
    rw [q6a]
    unfold qkc
    rw [ht]; rfl
  have h2 : qbn 253 255 = some true := by rw [q9g]; rfl
  have h3 := qbba
  have h4 : qqx 48 false 0 0 [] [] t (qb2 k) 3 253 0 0 0 0 = some (.agg [(.bool false), (.int .u64 0), (.int .u64 0), (.str ([] : List UInt8)), (.str ([] : List UInt8)), (.str t), (.int .i64 (qb2 k)), (.int .i64 (3 : Int)), (.int .i64 (253 : Int)), (.int .i64 0), (.int .i64 0), (.int .i64 0), (.int .u64 0)]) := by
    rw [q58]
    simp [qkb, q0w, qhr, qx2, qgx, qx4, qgy]
  rw [q4z]
  unfold qi5
  rw [qx6]
  unfold qgz
  rw [h3, oB_s, h4, oB_s]
  cases k <;> simp [qb2, qwh, qf9, h1, h2, AV.cells, gB, gI, gS, gC, aB, aI, aS]
theorem qbj9 (k : Bool) (t : List UInt8) (ht : t.length = 8) : qxr 48 false 0 0 [] [] t (qb2 k) 3 253 0 0 0 0 = some (keyW k t, 0) := by
  have hv := qbij k t ht
  have J : ∀ (v : List UInt8) (j : Nat) (o : List UInt8) (kn : List UInt8 → Option (List UInt8 × Int)), (j = 0 ∧ o = [1, bif k then 1 else 0] ∨ j = 1 ∧ o = [3] ∨ j = 2 ∧ o = [253] ∨ j = 3 ∧ o = t) → v.length ≤ 1000 →
      qpi v 4 (j : Int) false 0 0 [] [] t (qb2 k) 3 253 0 0 0 0 48 [68, 78, 83, 75, 69, 89] [65, 98, 99, 114] kn = kn (v ++ o) := by
    intro v j o kn hj hv
    rw [q4r]
    unfold qiw
    rw [ixB_nat]
    rcases hj with ⟨rfl, rfl⟩ | ⟨rfl, rfl⟩ | ⟨rfl, rfl⟩ | ⟨rfl, rfl⟩
    · have : v.length + 2 ≤ 9223372036854775807 := by omega
      simp [qh9, qdi, qbni, this]
    · have : v.length + 1 ≤ 9223372036854775807 := by omega
      simp [qh9, qdi, qbnj, this]
    · have : v.length + 1 ≤ 9223372036854775807 := by omega
      simp [qh9, qdi, qbj8, this]
    · have : v.length + o.length ≤ 9223372036854775807 := by omega
      simp [qh9, qdi, this]
  rw [qbbn]
  unfold qn9
  rw [qbj7, oB_s]
  simp only [Bool.not_true, cond_f]
  rw [hv, oB_s]
  simp only [Bool.not_true, cond_f]
  obtain ⟨m, hm⟩ : ∃ m, FU = m + 1 + 1 + 1 + 1 + 1 := ⟨FU - 5, by rw [qzo]⟩
  rw [q4s, hm]
  have st : ∀ (n : Nat) (v : List UInt8) (j : Nat) (o : List UInt8) (kx : List UInt8 → Option (List UInt8 × Int)), (j = 0 ∧ o = [1, bif k then 1 else 0] ∨ j = 1 ∧ o = [3] ∨ j = 2 ∧ o = [253] ∨ j = 3 ∧ o = t) → v.length ≤ 1000 →
      qdj 4 false 0 0 [] [] t (qb2 k) 3 253 0 0 0 0 48 [68, 78, 83, 75, 69, 89] [65, 98, 99, 114] kx (n + 1) v (j : Int) = qdj 4 false 0 0 [] [] t (qb2 k) 3 253 0 0 0 0 48 [68, 78, 83, 75, 69, 89] [65, 98, 99, 114] kx n (v ++ o) ((j + 1 : Nat) : Int) := fun n v j o kx hj hv => by
    show qgn _ _ _ _ _ _ _ _ _ _ _ _ _ _ _ _ _ _ _ _ _ = _
    unfold qgn
    have hj4 : j < 4 := by omega
    rw [decide_eq_true (by omega), cond_t, J v j o _ hj hv, w64 (by omega) (by omega)]
    rfl
  refine (st _ [] 0 _ _ (.inl ⟨rfl, rfl⟩) (by simp)).trans ((st _ _ 1 _ _ (.inr (.inl ⟨rfl, rfl⟩)) (by simp)).trans ((st _ _ 2 _ _ (.inr (.inr (.inl ⟨rfl, rfl⟩))) (by simp)).trans ((st _ _ 3 _ _ (.inr (.inr (.inr ⟨rfl, rfl⟩))) (by simp)).trans ?_)))
  simp only [qdj, qgn]
  rw [decide_eq_false (by decide), cond_f]
  simp [keyW]
noncomputable def NLb (f : Nat) (n v6 : Int) (a : List AV) (nx : Int → List AV → Option (List UInt8)) (kx : List AV → Option (List UInt8)) : Option (List UInt8) :=
  (bif (decide (v6 ≥ 0)) then (bif (hd a (a.length) && true) then (qds n v6 a (fun v7q1 => (bif hd a a.length then (bif hd ([(.int .u8 (IntKind.u8.wrap (v7q1.tmod (256 : Int))))] : List AV) (([(.int .u8 (IntKind.u8.wrap (v7q1.tmod (256 : Int))))] : List AV).length) then (bif decide ((a.length + ([(.int .u8 (IntKind.u8.wrap (v7q1.tmod (256 : Int))))] : List AV).length) * 1 ≤ 140737488355328) then (nx (IntKind.i64.wrap (v6 - 1)) (a ++ ([(.int .u8 (IntKind.u8.wrap (v7q1.tmod (256 : Int))))] : List AV))) else none) else none) else none)) f n 0) else none) else (kx a))
noncomputable def NL (f : Nat) (n : Int) (kx : List AV → Option (List UInt8)) : Nat → Int → List AV → Option (List UInt8)
  | 0 => fun _ _ => none
  | m + 1 => fun v6 a => NLb f n v6 a (NL f n kx m) kx
theorem qbca (n : Int) (kx : List AV → Option (List UInt8)) : ∀ m, qcu n kx m = NL FU n kx m
  | 0 => rfl
  | m + 1 => by
    funext v6 a
    show qga n v6 a (qcu n kx m) kx = NLb FU n v6 a (NL FU n kx m) kx
    rw [qbca n kx m]
    unfold qga NLb
    rw [qve]
theorem qbnk (k : Bool) : qi (qb2 k) 2 = some [1, bif k then 1 else 0] := by
  rw [qkq]
  unfold qeo
  rw [qil, qbca]
  obtain ⟨m, hm⟩ := FU20
  rw [hm]
  cases k <;> kernel_rfl
theorem qbnl : qi 3 1 = some [3] := by
  rw [qkq]
  unfold qeo
  rw [qil, qbca]
  obtain ⟨m, hm⟩ := FU20
  rw [hm]
  kernel_rfl
theorem qbka : qi 253 1 = some [253] := by
  rw [qkq]
  unfold qeo
  rw [qil, qbca]
  obtain ⟨m, hm⟩ := FU20
  rw [hm]
  kernel_rfl
theorem qbik (k : Bool) (t : List UInt8) (ht : t.length = 8) : qqz 48 false 0 0 [] [] t (qb2 k) 3 253 0 0 0 0 = some (keyW k t, 0) := by
  have hv := q80 k t ht
  have h3 := qbba
  have h8 : t.length ≤ 100 := by omega
  rw [q6b]
  unfold qke
  rw [h3, oB_s]
  simp only [Bool.not_true, cond_f]
  rw [hv, oB_s]
  simp only [Bool.not_true, cond_f]
  rw [qyf]
  unfold qg0
  rw [qyh]
  unfold qg1
  have h9 : 4 + t.length ≤ 9223372036854775807 := by omega
  have e1 : ((48 : Int) == 1) = false := rfl
  have e2 : ((48 : Int) == 28) = false := rfl
  simp [qbnk, qbnl, qbka, keyW, ht]
def tagK (z : List UInt8) (k : Bool) (s : Int) : Int := tagL (keyW k (keyT z k s))
theorem qbd9 (k : Bool) (t : List UInt8) (ht : t.length = 8) : (keyW k t).length = 12 := by simp [keyW, ht]
theorem qbnm (k : Bool) (t : List UInt8) (ht : t.length = 8) : qrq false 0 0 [] [] t (qb2 k) 3 253 0 0 0 0 = some (tagL (keyW k t)) := by
  rw [qbbp]
  unfold qob
  rw [qbj9 k t ht, oB_s]
  simp only [bne_self_eq_false, cond_f]
  rw [qbl7 _ (by rw [qbd9 k t ht]; omega)]
  rfl
theorem qbl8 (k : Bool) (t : List UInt8) (ht : t.length = 8) : qsv false 0 0 [] [] t (qb2 k) 3 253 0 0 0 0 = some (tagL (keyW k t)) := by
  rw [q7k]
  unfold qld
  rw [q80 k t ht, oB_s]
  simp only [Bool.not_true, cond_f]
  rw [qbik k t ht, oB_s, qbj6 _ (by rw [qbd9 k t ht]; omega)]
  rfl
theorem qbil (z : List UInt8) (k : Bool) (s : Int) (hz : z.length ≤ 1000000) (he : errD z s = 0) : qom z k s = some (tagK z k s) := by
  rw [q7l]
  unfold qle
  rw [qbfr z k s hz, oB_s]
  unfold datF
  rw [he]
  have h0 : ((0 : Int) == 0) = true := rfl
  rw [h0, cond_t]
  exact (congrArg (fun q => oB q fun r2 => some r2) (qbl8 k (keyT z k s) (qbfp _ _))).trans rfl
end Go.Proofs.YtmoedhehjonnhaaGreatDoor.Dn
