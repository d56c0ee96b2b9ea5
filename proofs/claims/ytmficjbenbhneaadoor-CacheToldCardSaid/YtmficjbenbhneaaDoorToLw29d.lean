/- Caches: Put, Deny, Get, Closest, Flush, Purge. -/
import Derived.Test.YtmficjbenbhneaaDoorToLw29c
set_option linter.all false
namespace Go.Proofs.YtmficjbenbhneaaDoor.Dn
open Go Go.Pev
set_option linter.unusedVariables false
set_option linter.unusedSimpArgs false
set_option maxRecDepth 8000
structure Good (L : List En) : Prop where
  len : L.length ≤ 100000
  uq : Uniq L
  ok : ∀ e, e ∈ L → enOk e
def qdz (most : Int) (L : List En) : AV := .agg [.int .i64 most, .sl 9 (avL L)]
theorem qss (most : Int) (l : List AV) (L : List En) (h : Good L) : qbf most l (avL L) = some (.agg [.int .i64 most, .fr true 9 (avL L)]) := qbc8 most l L (by have := h.len; omega) (fun e he => (h.ok e he).2)
theorem Good.filter {L : List En} (h : Good L) (P : En → Bool) : Good (L.filter P) :=
  ⟨Nat.le_trans (List.length_filter_le ..) h.len, h.uq.sublist (List.filter_sublist ..), fun e he => h.ok e (List.mem_filter.1 he).1⟩
def qoo (L : List En) (n : List UInt8) (t l : Int) (d : List AV) (rank now : Int) : Bool :=
  ((!qq7 n t l d || decide (now < 0)) || decide (now > 4294967295)) || qon L rank now (fun e => e.about n t || e.denies n)
def putE (n : List UInt8) (t l : Int) (d : List AV) (rank state now : Int) : En := ⟨0, n, t, l, d, rank, state, endF l now, now⟩
def PutF (most : Int) (L : List En) (n : List UInt8) (t l : Int) (d : List AV) (rank state now : Int) : List En :=
  if qoo L n t l d rank now then L else qgk most (L.filter fun e => !e.denies n) (putE n t l d rank state now) now
theorem q6c (most : Int) (L : List En) (h : Good L) (n : List UInt8) (t l : Int) (d : List AV) (rank state now : Int) (hn : n.length ≤ 9223372036854775807) (hd1 : d.length ≤ 1000000) (hd2 : qlj d) :
    qe8 most (avL L) n t l d rank state now = some (qdz most (PutF most L n t l d rank state now)) := by
  have hlen := h.len
  rw [q6t]; unfold qmp PutF
  have hJ : ∀ kn : Bool → Option AV, qo4 rank state now n t l d (.func qif [.cptr [.str n, .int .i64 t, .int .i64 l, .sl 13 d]]) most (avL L) 0 kn = kn (qoo L n t l d rank now) := fun kn => by
    rw [q05]; unfold qik qoo
    rw [qbbe n t l d hn hd2, oB_s]
    cases hc : ((!qq7 n t l d || decide (now < 0)) || decide (now > 4294967295)) with
    | true => rfl
    | false =>
      rw [cond_f, q2q most L (by omega) rank now _ (fun e => e.about n t || e.denies n) (fun e _ => qbhv e n t l d), oB_s]
      rfl
  rw [hJ]
  cases qoo L n t l d rank now with
  | true =>
    rw [cond_t, qss _ _ L h, oB_s]; rfl
  | false =>
    rw [cond_f, qsp L (by omega) _ (fun e => !e.denies n) (fun e _ => qbhw e n t l d), oB_s, qbe7, oB_s]
    have hg := h.filter fun e => !e.denies n
    rw [show qfi most (avL (L.filter fun e => !e.denies n)) 0 n t l d rank state (endF l now) now now = some (qdz most (qgk most (L.filter fun e => !e.denies n) (putE n t l d rank state now) now)) from
      q93 (putE n t l d rank state now) most now _ hg.len hg.uq hg.ok ⟨hn, hd1⟩, oB_s]
    rfl
def qop (n : List UInt8) (t : Int) (nx : Bool) (ttl now : Int) : Bool :=
  ((((!qu n || decide (ttl < 1)) || decide (ttl > 2147483647)) || decide (now < 0)) || decide (now > 4294967295)) || (!nx && decide (t < 1))
def q2s (n : List UInt8) (t : Int) (nx : Bool) (e : En) : Bool := if nx then e.n == n else e.about n t || e.denies n
def qoe (n : List UInt8) (nx : Bool) (e : En) : Bool := if nx then e.n == n else e.denies n
def qg2 (n : List UInt8) (t : Int) (nx : Bool) (ttl rank state now : Int) : En := ⟨if nx then 2 else 1, n, if nx then 0 else t, ttl, [], rank, state, endF ttl now, now⟩
def qt9 (most : Int) (L : List En) (n : List UInt8) (t : Int) (nx : Bool) (ttl rank state now : Int) : List En :=
  if qop n t nx ttl now || qon L rank now (q2s n t nx) then L else qgk most (L.filter fun e => !qoe n nx e) (qg2 n t nx ttl rank state now) now
theorem qbdb (most : Int) (L : List En) (h : Good L) (n : List UInt8) (t : Int) (nx : Bool) (ttl rank state now : Int) (hn : n.length ≤ 9223372036854775807) :
    qk3 most (avL L) n t nx ttl rank state now = some (qdz most (qt9 most L n t nx ttl rank state now)) := by
  have hlen := h.len
  rw [q5w]; unfold qk2 qt9
  have hJ : ∀ kn : Bool → Option AV, qnm nx ttl rank state now most (avL L) n t 0 kn = kn (qop n t nx ttl now) := fun kn => by
    rw [qzy]; unfold qhy qop
    rw [qfh n hn, oB_s]
    cases ((((!qu n || decide (ttl < 1)) || decide (ttl > 2147483647)) || decide (now < 0)) || decide (now > 4294967295)) <;> cases nx <;> rfl
  rw [hJ]
  cases qop n t nx ttl now with
  | true =>
    rw [cond_t, qss _ _ L h, oB_s]; rfl
  | false =>
    rw [cond_f, qbe7, oB_s]
    have fin : ∀ (q1 q2 : AV) (k2 t2 : Int), (∀ e, e ∈ L → ap0.ap q1 [e.av] = some (q2s n t nx e)) → (∀ e, e ∈ L → ap0.ap q2 [e.av] = some (qoe n nx e)) → k2 = (if nx then 2 else 1) → t2 = (if nx then 0 else t) →
        (oB (qgc most (avL L) rank now q1) fun r8 => (bif r8 then (oB (qbf most (avL L) (avL L)) fun r9 => (some (.agg [(.int .i64 (gI r9.cells 0)), (.sl 9 (gL r9.cells 1))]))) else (oB (q8 (avL L) (.func qhx [(.cptr [(.fv q2)])])) fun r10 => (oB (qfi most r10 k2 n t2 ttl [] rank state (endF ttl now) now now) fun r11 => (some (.agg [(.int .i64 (gI r11.cells 0)), (.sl 9 (gL r11.cells 1))])))))) =
        some (qdz most (if qon L rank now (q2s n t nx) then L else qgk most (L.filter fun e => !qoe n nx e) (qg2 n t nx ttl rank state now) now)) := by
      intro q1 q2 k2 t2 h1 h2 hk ht
      subst hk; subst ht
      rw [q2q most L (by omega) rank now q1 _ h1, oB_s]
      cases qon L rank now (q2s n t nx) with
      | true => rw [cond_t, qss _ _ L h, oB_s]; rfl
      | false =>
        rw [cond_f, qsp L (by omega) _ (fun e => !qoe n nx e) (fun e he => qbgn e q2 _ (h2 e he)), oB_s]
        have hg := h.filter fun e => !qoe n nx e
        rw [show qfi most (avL (L.filter fun e => !qoe n nx e)) (if nx then 2 else 1) n (if nx then 0 else t) ttl [] rank state (endF ttl now) now now = some (qdz most (qgk most (L.filter fun e => !qoe n nx e) (qg2 n t nx ttl rank state now) now)) from
          q93 (qg2 n t nx ttl rank state now) most now _ hg.len hg.uq hg.ok ⟨hn, by simp [qsr, qg2]⟩, oB_s]
        rfl
    rw [Bool.false_or, qyn]; unfold qgt
    cases nx with
    | true => exact fin _ _ 2 0 (fun e _ => q92 e n t) (fun e _ => q92 e n t) rfl rfl
    | false => exact fin _ _ 1 t (fun e _ => qbgl e n t) (fun e _ => qbgm e n t) rfl rfl
def qof (L : List En) (n : List UInt8) (t now : Int) : Int :=
  let a := fidx (fun e => e.alive now && e.about n t) 0 L
  let b := if a < 0 then fidx (fun e => e.alive now && e.k == 0 && e.about n 5) 0 L else a
  if b < 0 then fidx (fun e => e.alive now && e.denies n) 0 L else b
def q6d (u now : Int) : Int := IntKind.i64.wrap (u - (if 0 > now then 0 else now))
def qcw (e : En) (now : Int) : En := { e with v := now }
def qbr (e : En) (now : Int) : En := { e with v := now, l := q6d e.u now }
def qbic : En := ⟨0, [], 0, 0, [], 0, 0, 0, 0⟩
def qiu (L : List En) (n : List UInt8) (t now : Int) : Option (Nat × En) :=
  if qof L n t now < 0 then none else match L[(qof L n t now).toNat]? with
    | some e => some ((qof L n t now).toNat, e)
    | none => none
def getL (L : List En) (now : Int) : Option (Nat × En) → List En
  | none => L
  | some p => L.set p.1 (qcw p.2 now)
def getR (now : Int) : Option (Nat × En) → En
  | none => qbic
  | some p => qbr p.2 now
theorem qbeo (L : List En) (n : List UInt8) (t now : Int) : qof L n t now = -1 ∨ ∃ k, k < L.length ∧ qof L n t now = (k : Int) := by
  have z : ∀ P, fidx P 0 L = -1 ∨ ∃ k, k < L.length ∧ fidx P 0 L = (k : Int) := fun P => by
    rcases qxw P L 0 with h | ⟨k, h1, h2⟩
    · exact .inl h
    · exact .inr ⟨k, h1, by rw [h2]; omega⟩
  unfold qof
  simp only
  repeat' split
  all_goals exact z _
theorem q2t (most : Int) (L : List En) (h : Good L) (n : List UInt8) (t now : Int) :
    qgl most (avL L) n t now = some (qdz most (getL L now (qiu L n t now)), (getR now (qiu L n t now)).av, (qiu L n t now).isSome) := by
  have hlen := h.len
  have hal := qgj L
  rw [q6u]; unfold qmr
  rw [qsq L (by omega) _ (fun e => e.alive now && e.about n t) (fun e _ => qbhs e now n t), oB_s]
  have e1 : ∀ (a : Int) (kn : Int → Option (AV × AV × Bool)), qk0 n t now a most (avL L) 0 0 [] 0 0 0 0 0 0 kn = kn (if a < 0 then fidx (fun e => e.alive now && e.k == 0 && e.about n 5) 0 L else a) := fun a kn => by
    rw [q07]; unfold qil
    by_cases ha : a < 0
    · simp only [ha, decide_true, cond_t, if_true]
      rw [qsq L (by omega) _ (fun e => e.alive now && e.k == 0 && e.about n 5) (fun e _ => qbht e now n t), oB_s]
    · simp only [ha, decide_false, cond_f, if_false]
  have e2 : ∀ (a : Int) (kn : Int → Option (AV × AV × Bool)), qjn n t now a most (avL L) 0 0 [] 0 0 0 0 0 0 kn = kn (if a < 0 then fidx (fun e => e.alive now && e.denies n) 0 L else a) := fun a kn => by
    rw [qzw]; unfold qhw
    by_cases ha : a < 0
    · simp only [ha, decide_true, cond_t, if_true]
      rw [qsq L (by omega) _ (fun e => e.alive now && e.denies n) (fun e _ => qbhu e now n t), oB_s]
    · simp only [ha, decide_false, cond_f, if_false]
  have e12 : ∀ kn : Int → Option (AV × AV × Bool), qk0 n t now (fidx (fun e => e.alive now && e.about n t) 0 L) most (avL L) 0 0 [] 0 0 0 0 0 0 (fun v => qjn n t now v most (avL L) 0 0 [] 0 0 0 0 0 0 kn) = kn (qof L n t now) := fun kn => by
    rw [e1, e2]; rfl
  rw [e12, qss _ _ L h, oB_s]
  unfold qiu
  rcases qbeo L n t now with hi | ⟨k, hk, hi⟩
  · rw [hi]
    simp only [show decide ((-1 : Int) < 0) = true from rfl, cond_t, show ((-1 : Int) < 0) = True from by simp, if_true]
    show (bif hd (avL L) ((avL L).length) then _ else _) = _
    rw [hd_self, cond_t]; rfl
  · obtain ⟨e, he⟩ : ∃ e, L[k]? = some e := ⟨L[k], by simp⟩
    have hav : (avL L)[k]? = some e.av := by rw [qsn, he]; rfl
    have hneg : decide ((k : Int) < 0) = false := by simp
    have hneg' : ¬ ((k : Int) < 0) := by omega
    have hin : decide (0 ≤ (k : Int) ∧ (k : Int) < ((avL L).length)) = true := by simp; omega
    have hset : (avL L).set k (qcw e now).av = avL (L.set k (qcw e now)) := by simp [avL, List.map_set]
    have hhd : hd ((avL L).set k (qcw e now).av) ((avL L).length) = true := by
      have := hd_self ((avL L).set k (qcw e now).av)
      rwa [List.length_set] at this
    have hgL : gL (AV.agg [AV.int .i64 most, AV.fr true 9 (avL L)]).cells 1 = avL L := rfl
    rw [hi]
    simp only [hneg, cond_f, hgL, hd_self, cond_t, hin, Int.toNat_natCast, hav, oB_s, if_neg hneg', he]
    rw [show Go.Pev.putE e.av 8 1 [.int .i64 now] = some (qcw e now).av from rfl, oB_s]
    simp only [hhd, cond_t]
    rw [show ((avL L).set k (qcw e now).av)[k]? = some (qcw e now).av from by rw [List.getElem?_set_self (by omega)], oB_s]
    rw [show rdE (qcw e now).av 0 true 9 = some (qcw e now).av from rfl, oB_s, q91, cond_t]
    rw [show qe6 (gI (qcw e now).av.cells 0) (gS (qcw e now).av.cells 1) (gI (qcw e now).av.cells 2) (gI (qcw e now).av.cells 3) (gL (qcw e now).av.cells 4) (gI (qcw e now).av.cells 5) (gI (qcw e now).av.cells 6) (gI (qcw e now).av.cells 7) (gI (qcw e now).av.cells 8) = some (qcw e now).av from qbbd _ (h.ok e (List.mem_of_getElem? he)).2, oB_s, hset]
    rfl
def labN (e : En) : Int := ((qbx e.n).length : Int)
def nsB (name : List UInt8) (now : Int) (e : En) : Bool := !(((e.k != 0) || (e.t != 2)) || (!e.alive now || !qsl name e.n))
def clO : Option En → Int
  | none => -1
  | some e => labN e
def clF (name : List UInt8) (now : Int) : Option En → List En → Option En
  | b, [] => b
  | b, e :: r => clF name now (if nsB name now e && decide (labN e > clO b) then some e else b) r
def qbe9 (now : Int) : Option En → AV
  | none => .agg [.str [], .int .i64 0, .int .i64 0, .sl 13 []]
  | some e => .agg [.str e.n, .int .i64 e.t, .int .i64 (q6d e.u now), .sl 13 e.d]
theorem qbdc (most : Int) (L : List En) (h : Good L) (name : List UInt8) (now : Int) (hn : name.length ≤ 9223372036854775807) :
    qjo most (avL L) name now = some (qbe9 now (clF name now none L), (clF name now none L).isSome) := by
  have hlen := h.len
  have hal := qgj L
  rw [qz0]; unfold qhz
  let kx : Int → Option (AV × Bool) := fun v8q1 => (bif (decide (v8q1 < 0)) then (some ((.agg [(.str ([] : List UInt8)), (.int .i64 (0 : Int)), (.int .i64 (0 : Int)), (.sl 13 ([] : List AV))]), false)) else (oB (ixB (avL L) v8q1) fun y2 => (bif fitC qc y2.cells then (oB (qe6 (gI y2.cells 0) (gS y2.cells 1) (gI y2.cells 2) (gI y2.cells 3) (gL y2.cells 4) (gI y2.cells 5) (gI y2.cells 6) (gI y2.cells 7) (gI y2.cells 8)) fun r3 => (some ((.agg [(.str (gS r3.cells 1)), (.int .i64 (gI r3.cells 2)), (.int .i64 (IntKind.i64.wrap ((gI r3.cells 7) - (if (0 : Int) > now then (0 : Int) else now)))), (.sl 13 (gL r3.cells 4))]), true))) else none)))
  let dec : Int → Option En := fun a => if a < 0 then none else L[a.toNat]?
  let J : Nat → Int × Int → Prop := fun i s => s.2 = clO (dec s.1) ∧ (s.1 = -1 ∨ ∃ (k : Nat) (e : En), s.1 = (k : Int) ∧ L[k]? = some e)
  have key := qfn (avL L) (by omega) (fun m i (s : Int × Int) => qd7 name now (avL L) ((avL L).length : Int) most (avL L) [] 0 0 kx m s.1 s.2 i)
    (fun i s nx => qd6 name now s.1 s.2 (avL L) ((avL L).length : Int) i most (avL L) [] 0 0 (fun a b j => nx j (a, b)) kx) (fun _ _ _ => rfl) J (fun r s => some (qbe9 now (clF name now (dec s.1) (r.map enOf)), (clF name now (dec s.1) (r.map enOf)).isSome))
    (fun s nx hJ => by
      obtain ⟨a, b⟩ := s
      have hb : decide (((avL L).length : Int) < ((avL L).length : Int)) = false := by simp
      unfold qd6
      simp only [hb, cond_f, List.map_nil, clF]
      rcases hJ.2 with hs | ⟨k, e, hs, he⟩
      · simp only at hs
        subst hs; rfl
      · simp only at hs
        subst hs
        have hav : (avL L)[k]? = some e.av := by rw [qsn, he]; rfl
        have hk0 : decide ((k : Int) < 0) = false := by simp
        have hdk : dec (k : Int) = some e := by
          simp only [dec]
          rw [if_neg (by omega)]
          simpa using he
        simp only [kx, hk0, cond_f, ixB_nat, hav, oB_s, qxf, cond_t, hdk]
        rw [show qe6 (gI e.av.cells 0) (gS e.av.cells 1) (gI e.av.cells 2) (gI e.av.cells 3) (gL e.av.cells 4) (gI e.av.cells 5) (gI e.av.cells 6) (gI e.av.cells 7) (gI e.av.cells 8) = some e.av from qbbd e (h.ok e (List.mem_of_getElem? he)).2, oB_s]
        rfl)
    (fun i y r s nx h1 h2 h3 h4 hJ h6 => by
      obtain ⟨a, b⟩ := s
      obtain ⟨e, he, rfl⟩ := qsm (List.mem_of_getElem? h2)
      have hle : L[i]? = some e := by
        rw [qsn] at h2
        obtain ⟨e', h8, h9⟩ := Option.map_eq_some_iff.1 h2
        rw [h8, show e' = e from by rw [← qgi e', h9, qgi]]
      have h7 : decide ((i : Int) < ((avL L).length : Int)) = true := by simp; omega
      have hen := (h.ok e he).1
      unfold qd6
      simp only [h7, cond_t, ixB_nat, h2, oB_s, qxf, h4, List.map_cons, qgi, clF]
      have hJ21 : ∀ kn : Bool → Option (AV × Bool), qiy name now a b (i : Int) (avL L) ((avL L).length : Int) (i : Int) most (avL L) [] 0 0 (gI e.av.cells 0) (gS e.av.cells 1) (gI e.av.cells 2) (gI e.av.cells 3) (gL e.av.cells 4) (gI e.av.cells 5) (gI e.av.cells 6) (gI e.av.cells 7) (gI e.av.cells 8) kn = kn (!nsB name now e) := fun kn => by
        rw [qs3]
        show (bif ((e.k != 0) || (e.t != 2)) then (kn true) else (oB (qbi e.k e.n e.t e.l e.d e.r e.s e.u e.v now) fun r1 => (bif (!r1) then (kn true) else (oB (qi1 name e.n) fun r2 => (kn (!r2)))))) = _
        rw [qmj, oB_s, q9y _ _ hn hen]
        unfold nsB
        cases ((e.k != 0) || (e.t != 2)) <;> cases e.alive now <;> simp
      rw [hJ21]
      have hin : J (i + 1) ((i : Int), labN e) := by
        have hdi : dec (i : Int) = some e := by
          simp only [dec]
          rw [if_neg (by omega)]
          simpa using hle
        exact ⟨by simp only [hdi]; rfl, .inr ⟨i, e, rfl, hle⟩⟩
      have hdi : dec (i : Int) = some e := by
        simp only [dec]
        rw [if_neg (by omega)]
        simpa using hle
      cases hns : nsB name now e with
      | false =>
        simp only [Bool.not_false, cond_t, Bool.false_and, Bool.false_eq_true, if_false]
        exact h6 (a, b) ⟨hJ.1, hJ.2⟩
      | true =>
        simp only [Bool.not_true, cond_f, Bool.true_and]
        rw [show qgb (gS e.av.cells 1) = some (avS (qbx e.n)) from q0g e.n hen, oB_s]
        have hll : ((avS (qbx e.n)).length : Int) = labN e := by simp [avS, labN]
        rw [hll]
        have hb2 : b = clO (dec a) := hJ.1
        cases hlt : decide (labN e > b) with
        | true =>
          rw [cond_t, ← hb2, hlt, if_pos rfl, ← hdi]
          exact h6 _ hin
        | false =>
          rw [cond_f, ← hb2, hlt, if_neg (by simp)]
          exact h6 (a, b) ⟨hJ.1, hJ.2⟩)
    (-1, -1) FU ⟨rfl, .inl rfl⟩ (qff (by omega))
  rw [qu7]
  have hm : (avL L).map enOf = L := by simp [avL, Function.comp_def, qgi]
  rw [hm] at key
  exact key
def q8g (L : List En) (n : List UInt8) : List En := L.filter fun e => !qsl e.n n
def q8h (L : List En) (now : Int) : List En := L.filter fun e => e.alive now
theorem q94 (most : Int) (L : List En) (h : Good L) (n : List UInt8) (hn : n.length ≤ 9223372036854775807) : qfj most (avL L) n = some (qdz most (q8g L n)) := by
  have hlen := h.len
  rw [q3i]; unfold qjp
  rw [qsp L (by omega) _ (fun e => !qsl e.n n) (fun e he => qbek e n (h.ok e he).1 hn), oB_s, qss _ _ _ (h.filter _), oB_s]
  rfl
theorem q95 (most : Int) (L : List En) (h : Good L) (now : Int) : qfk most (avL L) now = some (qdz most (q8h L now)) := by
  have hlen := h.len
  rw [q3j]; unfold qjq
  rw [qsp L (by omega) _ (fun e => e.alive now) (fun e _ => qbej e now), oB_s, qss _ _ _ (h.filter _), oB_s]
  rfl
end Go.Proofs.YtmficjbenbhneaaDoor.Dn
