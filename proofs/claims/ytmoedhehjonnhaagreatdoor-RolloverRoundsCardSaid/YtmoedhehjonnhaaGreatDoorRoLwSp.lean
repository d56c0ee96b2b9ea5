/- strings.Split at a dot. -/
import Derived.Test.YtmoedhehjonnhaaGreatDoorRoDn22
import Derived.Test.YtmoedhehjonnhaaGreatDoorRoLibD
set_option linter.all false
namespace Go.Proofs.YtmoedhehjonnhaaGreatDoor.Dn
open Go Go.Pev
set_option linter.unusedVariables false
set_option linter.unusedSimpArgs false
set_option maxRecDepth 4000
def qcg : List UInt8 → List UInt8 → List (List UInt8)
  | cur, [] => [cur]
  | cur, c :: r => if c = 46 then cur :: qcg [] r else qcg (cur ++ [c]) r
theorem qmx : ∀ (s cur : List UInt8), (qcg cur s).length = s.count 46 + 1
  | [], cur => rfl
  | c :: r, cur => by
    unfold qcg
    split
    · rename_i h; subst h; simp [qmx r]
    · rename_i h
      rw [qmx r, List.count_cons_of_ne (fun e => h e)]
theorem q0i : ∀ (s cur : List UInt8), s.count 46 = 0 → qcg cur s = [cur ++ s]
  | [], cur, _ => by simp [qcg]
  | c :: r, cur, h => by
    unfold qcg
    split
    · rename_i h'; subst h'; simp at h
    · rename_i h'
      rw [List.count_cons_of_ne (fun e => h' e)] at h
      rw [q0i r _ h]
      simp
theorem q0j : ∀ (s cur : List UInt8), 0 < s.count 46 → ∃ pre post, s = pre ++ 46 :: post ∧ Lib.indexByte s 46 = (pre.length : Int) ∧ qcg cur s = (cur ++ pre) :: qcg [] post
  | [], cur, h => by simp at h
  | c :: r, cur, h => by
    by_cases h' : c = 46
    · subst h'
      exact ⟨[], r, rfl, by simp [Lib.indexByte], by simp [qcg]⟩
    · rw [List.count_cons_of_ne (fun e => h' e)] at h
      obtain ⟨pre, post, h1, h2, h3⟩ := q0j r (cur ++ [c]) h
      refine ⟨c :: pre, post, by simp [h1], ?_, ?_⟩
      · have hb : (c == 46) = false := by simpa using h'
        have hn : ¬ ((Lib.indexByte r 46) = -1) := by omega
        unfold Lib.indexByte
        simp [hb, hn, h2]
      · show (if c = 46 then cur :: qcg [] r else qcg (cur ++ [c]) r) = _
        rw [if_neg h', h3]
        simp
theorem qbc1 (s : List UInt8) : qjl s [46] = some (Lib.indexByte s 46) := by
  rw [qxx]; unfold qh1
  rw [qrv]; unfold qfp
  rw [qn8]; unfold qd6 qn1
  by_cases h : ([46] : List UInt8) = s
  · subst h; rfl
  · have hb : (([46] : List UInt8) == s) = false := by simpa using h
    rw [hb]
    rfl
theorem qbc2 (s : List UInt8) : qmz s [46] = some ((s.count 46 : Nat) : Int) := by
  rw [qxy]; unfold qh2 qn0 Lib.countByte
  rfl
theorem qbc3 (pre post : List UInt8) : cutI (pre ++ 46 :: post) none (some ((pre.length : Nat) : Int)) = some pre := by
  unfold cutI
  simp only [Option.getD_none, Option.getD_some]
  rw [if_pos ⟨by omega, by omega, by simp; omega⟩]
  simp
theorem qba9 (pre post : List UInt8) : cutI (pre ++ 46 :: post) (some ((pre.length + 1 : Nat) : Int)) none = some post := by
  unfold cutI
  simp only [Option.getD_none, Option.getD_some]
  rw [if_pos ⟨by omega, by simp; omega, by omega⟩]
  rw [Int.toNat_natCast, Int.toNat_natCast, List.take_length]
  rw [List.drop_append]
  simp
theorem qbc4 (s : List UInt8) (hs : s.length ≤ 1000000000) : qjm s [46] = some ((qcg [] s).map AV.str) := by
  rw [qxz]; unfold qh3
  rw [qtz]; unfold qf0
  have hc : s.count 46 ≤ s.length := List.count_le_length
  have w1 : IntKind.i64.wrap (((s.count 46 : Nat) : Int) + 1) = ((s.count 46 + 1 : Nat) : Int) := w64 (by omega) (by omega)
  have w2 : IntKind.i64.wrap ((s.length : Int) + 1) = ((s.length + 1 : Nat) : Int) := w64 (by omega) (by omega)
  have hm : (if ((s.length + 1 : Nat) : Int) < ((s.count 46 + 1 : Nat) : Int) then ((s.length + 1 : Nat) : Int) else ((s.count 46 + 1 : Nat) : Int)) = ((s.count 46 + 1 : Nat) : Int) := if_neg (by omega)
  have hd1 : decide (0 ≤ ((s.count 46 + 1 : Nat) : Int) ∧ ((s.count 46 + 1 : Nat) : Int) ≤ ((s.count 46 + 1 : Nat) : Int) ∧ ((s.count 46 + 1 : Nat) : Int) * 16 ≤ 281474976710656) = true := decide_eq_true ⟨by omega, by omega, by omega⟩
  have w3 : IntKind.i64.wrap (((s.count 46 + 1 : Nat) : Int) - 1) = ((s.count 46 : Nat) : Int) := by rw [w64 (by omega) (by omega)]; omega
  have b1 : (((-1 : Int)) == 0) = false := rfl
  have b2 : (([46] : List UInt8) == ([] : List UInt8)) = false := rfl
  have b3 : decide ((-1 : Int) < 0) = true := rfl
  simp only [b1, b2, cond_f, qo4, qep, b3, cond_t, qbc2, oB_s, w1, w2, hm, hd1, hd_self, Bool.and_true, w3, Int.toNat_natCast]
  generalize hn : s.count 46 = n at *
  rw [qo5]
  let kx : List UInt8 → Int → List AV → Option (List AV) := fun v0 v10 a0 => (bif decide (0 ≤ v10 ∧ v10 < a0.length) then (oB (a0[v10.toNat]?) fun y1 => (oB (putE y1 0 1 [(.str v0)]) fun z2 => (bif hd (a0.set v10.toNat z2) a0.length then (oB (cutI (a0.set v10.toNat z2) none (some (IntKind.i64.wrap (v10 + 1)))) fun s3 => (some s3)) else none))) else none)
  have key := q6x (fun k (q : List UInt8 × Int × List AV) => qb0 [46] 0 (n : Int) kx k q.1 q.2.1 q.2.2)
    (fun q nx => qcr q.1 [46] 0 (n : Int) q.2.1 q.2.2 (fun a b c => nx (a, (b, c))) kx) (fun _ _ => rfl)
    (fun q => ∃ dn : List (List UInt8), q.2.1 = dn.length ∧ q.2.2 = dn.map AV.str ++ List.replicate (n + 1 - dn.length) (AV.str []) ∧ dn.length ≤ n ∧ q.1.count 46 = n - dn.length ∧ dn ++ qcg [] q.1 = qcg [] s ∧ q.1.length ≤ 1000000000)
    (fun q => n - q.2.1.toNat) (fun q => some ((qcg [] s).map AV.str)) ?_ FU (s, (0, List.replicate (n + 1) (AV.str []))) ⟨[], rfl, by simp, by simp, by simpa using hn, rfl, hs⟩ (qek (by simp; omega))
  · have key' : qb0 [46] 0 (n : Int) kx FU s 0 (List.replicate (n + 1) (AV.str [])) = some ((qcg [] s).map AV.str) := key
    show oB (qb0 [46] 0 (n : Int) kx FU s 0 (List.replicate (n + 1) (AV.str []))) _ = _
    rw [key']
    rfl
  · rintro ⟨v0, v10, a0⟩ ⟨dn, rfl, rfl, h1, h2, h3, h5⟩ nx hnx
    simp only at h1 h2 h3 h5
    show qcr v0 [46] 0 (n : Int) (dn.length : Int) (dn.map AV.str ++ List.replicate (n + 1 - dn.length) (AV.str [])) (fun a b c => nx (a, (b, c))) kx = some ((qcg [] s).map AV.str)
    have hlen : (dn.map AV.str ++ List.replicate (n + 1 - dn.length) (AV.str [])).length = n + 1 := by simp; omega
    have hget : (dn.map AV.str ++ List.replicate (n + 1 - dn.length) (AV.str []))[dn.length]? = some (.str []) := by
      rw [List.getElem?_append_right (by simp)]
      simp only [List.length_map, Nat.sub_self]
      rw [List.getElem?_replicate, if_pos (by omega)]
    have hdec : decide (0 ≤ (dn.length : Int) ∧ (dn.length : Int) < ((dn.map AV.str ++ List.replicate (n + 1 - dn.length) (AV.str [])).length : Int)) = true := decide_eq_true ⟨by omega, by rw [hlen]; omega⟩
    have hset : ∀ x, (dn.map AV.str ++ List.replicate (n + 1 - dn.length) (AV.str [])).set dn.length (.str x) = (dn ++ [x]).map AV.str ++ List.replicate (n + 1 - (dn.length + 1)) (AV.str []) := by
      intro x
      rw [List.set_append_right _ _ (by simp)]
      simp only [List.length_map, Nat.sub_self]
      rw [show n + 1 - dn.length = (n + 1 - (dn.length + 1)) + 1 by omega, List.replicate_succ]
      simp
    have hhd : ∀ x, hd ((dn.map AV.str ++ List.replicate (n + 1 - dn.length) (AV.str [])).set dn.length (.str x)) (dn.map AV.str ++ List.replicate (n + 1 - dn.length) (AV.str [])).length = true := fun x => by simp [hd]
    unfold qcr
    by_cases hlt : dn.length < n
    · have c1 : decide ((dn.length : Int) < (n : Int)) = true := decide_eq_true (by omega)
      obtain ⟨pre, post, e1, e2, e3⟩ := q0j v0 [] (by omega)
      subst e1
      have hpl : pre.length + 1 + post.length = (pre ++ 46 :: post).length := by simp; omega
      generalize hv : pre ++ 46 :: post = v0 at *
      have c2 : decide (Lib.indexByte v0 46 < 0) = false := decide_eq_false (by omega)
      have w4 : IntKind.i64.wrap (Lib.indexByte v0 46 + 0) = (pre.length : Int) := by rw [e2, w64 (by omega) (by omega)]; omega
      have w5 : IntKind.i64.wrap (Lib.indexByte v0 46 + (([46] : List UInt8).length : Int)) = ((pre.length + 1 : Nat) : Int) := by rw [e2]; simp; rw [w64 (by omega) (by omega)]
      have w6 : IntKind.i64.wrap ((dn.length : Int) + 1) = ((dn.length + 1 : Nat) : Int) := w64 (by omega) (by omega)
      have k1 : cutI v0 none (some ((pre.length : Nat) : Int)) = some pre := by rw [← hv]; exact qbc3 pre post
      have k2 : cutI v0 (some ((pre.length + 1 : Nat) : Int)) none = some post := by rw [← hv]; exact qba9 pre post
      have hp : putE (.str []) 0 1 [AV.str pre] = some (.str pre) := rfl
      simp only [c1, cond_t, qbc1, oB_s, c2, cond_f, w4, k1, hd_self, hdec, Int.toNat_natCast, hget, hp, w5, k2, hhd, w6]
      refine hnx _ ⟨dn ++ [pre], by simp, by rw [hset]; simp, by simp; omega, ?_, ?_, by show post.length ≤ 1000000000; omega⟩ (by simp; omega)
      · have hcp : v0.count 46 = (qcg [] v0).length - 1 := by rw [qmx]; simp
        have : (qcg [] post).length = post.count 46 + 1 := qmx post []
        rw [e3] at hcp
        simp at hcp
        simp
        omega
      · rw [← h3, e3]
        simp
    · have hdn : dn.length = n := by omega
      have c1 : decide ((dn.length : Int) < (n : Int)) = false := decide_eq_false (by omega)
      have hp : putE (.str []) 0 1 [AV.str v0] = some (.str v0) := rfl
      have w6 : IntKind.i64.wrap ((dn.length : Int) + 1) = ((n + 1 : Nat) : Int) := by rw [w64 (by omega) (by omega)]; omega
      have k3 : cutI ((dn ++ [v0]).map AV.str ++ List.replicate (n + 1 - (dn.length + 1)) (AV.str [])) none (some ((n + 1 : Nat) : Int)) = some ((dn ++ [v0]).map AV.str) := by
        have hz : n + 1 - (dn.length + 1) = 0 := by omega
        rw [hz]
        simp only [List.replicate_zero, List.append_nil]
        have hL : ((dn ++ [v0]).map AV.str).length = n + 1 := by simp; omega
        generalize (dn ++ [v0]).map AV.str = L at hL ⊢
        unfold cutI
        simp only [Option.getD_none, Option.getD_some]
        rw [if_pos ⟨by omega, by omega, by omega⟩, Int.toNat_natCast, ← hL, List.take_length]
        rfl
      simp only [c1, cond_f]
      show kx v0 (dn.length : Int) _ = _
      simp only [kx, cond_t, hdec, Int.toNat_natCast, hget, oB_s, hp, hhd, w6]
      rw [hset, k3]
      simp only [oB_s]
      rw [← h3, q0i v0 [] (by omega)]
      simp
end Go.Proofs.YtmoedhehjonnhaaGreatDoor.Dn
