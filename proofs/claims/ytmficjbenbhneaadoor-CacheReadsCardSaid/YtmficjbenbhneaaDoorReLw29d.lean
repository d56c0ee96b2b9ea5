/- Caches: Put, Deny, Get, Closest, Flush, Purge. -/
import Derived.Test.YtmficjbenbhneaaDoorReLw29c
set_option linter.all false
namespace Go.Proofs.YtmficjbenbhneaaDoor.Dn
open Go Go.Pev
set_option linter.unusedVariables false
set_option linter.unusedSimpArgs false
set_option maxRecDepth 8000
structure Good (L : List En) : Prop where
  len : L.length ≤ 100000
  uq : Uniq L
  ok : ∀ e, e ∈ L → enOk e
def qdv (most : Int) (L : List En) : AV := .agg [.int .i64 most, .sl 9 (avL L)]
theorem qr9 (most : Int) (l : List AV) (L : List En) (h : Good L) : qbc most l (avL L) = some (.agg [.int .i64 most, .fr true 9 (avL L)]) := qbcp most l L (by have := h.len; omega) (fun e he => (h.ok e he).2)
theorem Good.filter {L : List En} (h : Good L) (P : En → Bool) : Good (L.filter P) :=
  ⟨Nat.le_trans (List.length_filter_le ..) h.len, h.uq.sublist (List.filter_sublist ..), fun e he => h.ok e (List.mem_filter.1 he).1⟩
def qio (L : List En) (n : List UInt8) (t l : Int) (d : List AV) (rank now : Int) : Bool :=
  ((!qin n t l d || decide (now < 0)) || decide (now > 4294967295)) || qkc L rank now (fun e => e.about n t || e.denies n)
def putE (n : List UInt8) (t l : Int) (d : List AV) (rank state now : Int) : En := ⟨0, n, t, l, d, rank, state, endF l now, now⟩
def PutF (most : Int) (L : List En) (n : List UInt8) (t l : Int) (d : List AV) (rank state now : Int) : List En :=
  if qio L n t l d rank now then L else qea most (L.filter fun e => !e.denies n) (putE n t l d rank state now) now
theorem qxg (most : Int) (L : List En) (h : Good L) (n : List UInt8) (t l : Int) (d : List AV) (rank state now : Int) (hn : n.length ≤ 9223372036854775807) (hd1 : d.length ≤ 1000000) (hd2 : qn3 d) :
    qcz most (avL L) n t l d rank state now = some (qdv most (PutF most L n t l d rank state now)) := by
  have hlen := h.len
  rw [q6a]; unfold qmi PutF
  have hJ : ∀ kn : Bool → Option AV, qop rank state now n t l d (.func qh8 [.cptr [.str n, .int .i64 t, .int .i64 l, .sl 13 d]]) most (avL L) 0 kn = kn (qio L n t l d rank now) := fun kn => by
    rw [q0s]; unfold qid qio
    rw [qbaw n t l d hn hd2, oB_s]
    cases hc : ((!qin n t l d || decide (now < 0)) || decide (now > 4294967295)) with
    | true => rfl
    | false =>
      rw [cond_f, q2d most L (by omega) rank now _ (fun e => e.about n t || e.denies n) (fun e _ => qbhe e n t l d), oB_s]
      rfl
  rw [hJ]
  cases qio L n t l d rank now with
  | true =>
    rw [cond_t, qr9 _ _ L h, oB_s]; rfl
  | false =>
    rw [cond_f, qr6 L (by omega) _ (fun e => !e.denies n) (fun e _ => qbhf e n t l d), oB_s, qbep, oB_s]
    have hg := h.filter fun e => !e.denies n
    rw [show qff most (avL (L.filter fun e => !e.denies n)) 0 n t l d rank state (endF l now) now now = some (qdv most (qea most (L.filter fun e => !e.denies n) (putE n t l d rank state now) now)) from
      q9k (putE n t l d rank state now) most now _ hg.len hg.uq hg.ok ⟨hn, hd1⟩, oB_s]
    rfl
def qmc (n : List UInt8) (t : Int) (nx : Bool) (ttl now : Int) : Bool :=
  ((((!qq n || decide (ttl < 1)) || decide (ttl > 2147483647)) || decide (now < 0)) || decide (now > 4294967295)) || (!nx && decide (t < 1))
def q2f (n : List UInt8) (t : Int) (nx : Bool) (e : En) : Bool := if nx then e.n == n else e.about n t || e.denies n
def qla (n : List UInt8) (nx : Bool) (e : En) : Bool := if nx then e.n == n else e.denies n
def qf3 (n : List UInt8) (t : Int) (nx : Bool) (ttl rank state now : Int) : En := ⟨if nx then 2 else 1, n, if nx then 0 else t, ttl, [], rank, state, endF ttl now, now⟩
def qjl (most : Int) (L : List En) (n : List UInt8) (t : Int) (nx : Bool) (ttl rank state now : Int) : List En :=
  if qmc n t nx ttl now || qkc L rank now (q2f n t nx) then L else qea most (L.filter fun e => !qla n nx e) (qf3 n t nx ttl rank state now) now
theorem q7v (most : Int) (L : List En) (h : Good L) (n : List UInt8) (t : Int) (nx : Bool) (ttl rank state now : Int) (hn : n.length ≤ 9223372036854775807) :
    qgp most (avL L) n t nx ttl rank state now = some (qdv most (qjl most L n t nx ttl rank state now)) := by
  have hlen := h.len
  rw [q5f]; unfold qku qjl
  have hJ : ∀ kn : Bool → Option AV, qne nx ttl rank state now most (avL L) n t 0 kn = kn (qmc n t nx ttl now) := fun kn => by
    rw [qzi]; unfold qhs qmc
    rw [qef n hn, oB_s]
    cases ((((!qq n || decide (ttl < 1)) || decide (ttl > 2147483647)) || decide (now < 0)) || decide (now > 4294967295)) <;> cases nx <;> rfl
  rw [hJ]
  cases qmc n t nx ttl now with
  | true =>
    rw [cond_t, qr9 _ _ L h, oB_s]; rfl
  | false =>
    rw [cond_f, qbep, oB_s]
    have fin : ∀ (q1 q2 : AV) (k2 t2 : Int), (∀ e, e ∈ L → ap0.ap q1 [e.av] = some (q2f n t nx e)) → (∀ e, e ∈ L → ap0.ap q2 [e.av] = some (qla n nx e)) → k2 = (if nx then 2 else 1) → t2 = (if nx then 0 else t) →
        (oB (qga most (avL L) rank now q1) fun r8 => (bif r8 then (oB (qbc most (avL L) (avL L)) fun r9 => (some (.agg [(.int .i64 (gI r9.cells 0)), (.sl 9 (gL r9.cells 1))]))) else (oB (qx (avL L) (.func qhr [(.cptr [(.fv q2)])])) fun r10 => (oB (qff most r10 k2 n t2 ttl [] rank state (endF ttl now) now now) fun r11 => (some (.agg [(.int .i64 (gI r11.cells 0)), (.sl 9 (gL r11.cells 1))])))))) =
        some (qdv most (if qkc L rank now (q2f n t nx) then L else qea most (L.filter fun e => !qla n nx e) (qf3 n t nx ttl rank state now) now)) := by
      intro q1 q2 k2 t2 h1 h2 hk ht
      subst hk; subst ht
      rw [q2d most L (by omega) rank now q1 _ h1, oB_s]
      cases qkc L rank now (q2f n t nx) with
      | true => rw [cond_t, qr9 _ _ L h, oB_s]; rfl
      | false =>
        rw [cond_f, qr6 L (by omega) _ (fun e => !qla n nx e) (fun e he => qbf6 e q2 _ (h2 e he)), oB_s]
        have hg := h.filter fun e => !qla n nx e
        rw [show qff most (avL (L.filter fun e => !qla n nx e)) (if nx then 2 else 1) n (if nx then 0 else t) ttl [] rank state (endF ttl now) now now = some (qdv most (qea most (L.filter fun e => !qla n nx e) (qf3 n t nx ttl rank state now) now)) from
          q9k (qf3 n t nx ttl rank state now) most now _ hg.len hg.uq hg.ok ⟨hn, by simp [qr8, qf3]⟩, oB_s]
        rfl
    rw [Bool.false_or, qx7]; unfold qgo
    cases nx with
    | true => exact fin _ _ 2 0 (fun e _ => q9j e n t) (fun e _ => q9j e n t) rfl rfl
    | false => exact fin _ _ 1 t (fun e _ => qbf4 e n t) (fun e _ => qbf5 e n t) rfl rfl
def qlb (L : List En) (n : List UInt8) (t now : Int) : Int :=
  let a := fidx (fun e => e.alive now && e.about n t) 0 L
  let b := if a < 0 then fidx (fun e => e.alive now && e.k == 0 && e.about n 5) 0 L else a
  if b < 0 then fidx (fun e => e.alive now && e.denies n) 0 L else b
def q5v (u now : Int) : Int := IntKind.i64.wrap (u - (if 0 > now then 0 else now))
def qcs (e : En) (now : Int) : En := { e with v := now }
def qber (e : En) (now : Int) : En := { e with v := now, l := q5v e.u now }
def qbhu : En := ⟨0, [], 0, 0, [], 0, 0, 0, 0⟩
def qbk (L : List En) (n : List UInt8) (t now : Int) : Option (Nat × En) :=
  if qlb L n t now < 0 then none else match L[(qlb L n t now).toNat]? with
    | some e => some ((qlb L n t now).toNat, e)
    | none => none
def getL (L : List En) (now : Int) : Option (Nat × En) → List En
  | none => L
  | some p => L.set p.1 (qcs p.2 now)
def getR (now : Int) : Option (Nat × En) → En
  | none => qbhu
  | some p => qber p.2 now
theorem qbd4 (L : List En) (n : List UInt8) (t now : Int) : qlb L n t now = -1 ∨ ∃ k, k < L.length ∧ qlb L n t now = (k : Int) := by
  have z : ∀ P, fidx P 0 L = -1 ∨ ∃ k, k < L.length ∧ fidx P 0 L = (k : Int) := fun P => by
    rcases qxe P L 0 with h | ⟨k, h1, h2⟩
    · exact .inl h
    · exact .inr ⟨k, h1, by rw [h2]; omega⟩
  unfold qlb
  simp only
  repeat' split
  all_goals exact z _
theorem qxh (most : Int) (L : List En) (h : Good L) (n : List UInt8) (t now : Int) :
    qd0 most (avL L) n t now = some (qdv most (getL L now (qbk L n t now)), (getR now (qbk L n t now)).av, (qbk L n t now).isSome) := by
  have hlen := h.len
  have hal := qex L
  rw [q6b]; unfold qmj
  rw [qr7 L (by omega) _ (fun e => e.alive now && e.about n t) (fun e _ => qbhb e now n t), oB_s]
  have e1 : ∀ (a : Int) (kn : Int → Option (AV × AV × Bool)), qks n t now a most (avL L) 0 0 [] 0 0 0 0 0 0 kn = kn (if a < 0 then fidx (fun e => e.alive now && e.k == 0 && e.about n 5) 0 L else a) := fun a kn => by
    rw [q0u]; unfold qie
    by_cases ha : a < 0
    · simp only [ha, decide_true, cond_t, if_true]
      rw [qr7 L (by omega) _ (fun e => e.alive now && e.k == 0 && e.about n 5) (fun e _ => qbhc e now n t), oB_s]
    · simp only [ha, decide_false, cond_f, if_false]
  have e2 : ∀ (a : Int) (kn : Int → Option (AV × AV × Bool)), qjd n t now a most (avL L) 0 0 [] 0 0 0 0 0 0 kn = kn (if a < 0 then fidx (fun e => e.alive now && e.denies n) 0 L else a) := fun a kn => by
    rw [qzg]; unfold qhq
    by_cases ha : a < 0
    · simp only [ha, decide_true, cond_t, if_true]
      rw [qr7 L (by omega) _ (fun e => e.alive now && e.denies n) (fun e _ => qbhd e now n t), oB_s]
    · simp only [ha, decide_false, cond_f, if_false]
  have e12 : ∀ kn : Int → Option (AV × AV × Bool), qks n t now (fidx (fun e => e.alive now && e.about n t) 0 L) most (avL L) 0 0 [] 0 0 0 0 0 0 (fun v => qjd n t now v most (avL L) 0 0 [] 0 0 0 0 0 0 kn) = kn (qlb L n t now) := fun kn => by
    rw [e1, e2]; rfl
  rw [e12, qr9 _ _ L h, oB_s]
  unfold qbk
  rcases qbd4 L n t now with hi | ⟨k, hk, hi⟩
  · rw [hi]
    simp only [show decide ((-1 : Int) < 0) = true from rfl, cond_t, show ((-1 : Int) < 0) = True from by simp, if_true]
    show (bif hd (avL L) ((avL L).length) then _ else _) = _
    rw [hd_self, cond_t]; rfl
  · obtain ⟨e, he⟩ : ∃ e, L[k]? = some e := ⟨L[k], by simp⟩
    have hav : (avL L)[k]? = some e.av := by rw [qr4, he]; rfl
    have hneg : decide ((k : Int) < 0) = false := by simp
    have hneg' : ¬ ((k : Int) < 0) := by omega
    have hin : decide (0 ≤ (k : Int) ∧ (k : Int) < ((avL L).length)) = true := by simp; omega
    have hset : (avL L).set k (qcs e now).av = avL (L.set k (qcs e now)) := by simp [avL, List.map_set]
    have hhd : hd ((avL L).set k (qcs e now).av) ((avL L).length) = true := by
      have := hd_self ((avL L).set k (qcs e now).av)
      rwa [List.length_set] at this
    have hgL : gL (AV.agg [AV.int .i64 most, AV.fr true 9 (avL L)]).cells 1 = avL L := rfl
    rw [hi]
    simp only [hneg, cond_f, hgL, hd_self, cond_t, hin, Int.toNat_natCast, hav, oB_s, if_neg hneg', he]
    rw [show Go.Pev.putE e.av 8 1 [.int .i64 now] = some (qcs e now).av from rfl, oB_s]
    simp only [hhd, cond_t]
    rw [show ((avL L).set k (qcs e now).av)[k]? = some (qcs e now).av from by rw [List.getElem?_set_self (by omega)], oB_s]
    rw [show rdE (qcs e now).av 0 true 9 = some (qcs e now).av from rfl, oB_s, q9i, cond_t]
    rw [show qe6 (gI (qcs e now).av.cells 0) (gS (qcs e now).av.cells 1) (gI (qcs e now).av.cells 2) (gI (qcs e now).av.cells 3) (gL (qcs e now).av.cells 4) (gI (qcs e now).av.cells 5) (gI (qcs e now).av.cells 6) (gI (qcs e now).av.cells 7) (gI (qcs e now).av.cells 8) = some (qcs e now).av from qbav _ (h.ok e (List.mem_of_getElem? he)).2, oB_s, hset]
    rfl
def labN (e : En) : Int := ((qbt e.n).length : Int)
def nsB (name : List UInt8) (now : Int) (e : En) : Bool := !(((e.k != 0) || (e.t != 2)) || (!e.alive now || !qr2 name e.n))
def clO : Option En → Int
  | none => -1
  | some e => labN e
def clF (name : List UInt8) (now : Int) : Option En → List En → Option En
  | b, [] => b
  | b, e :: r => clF name now (if nsB name now e && decide (labN e > clO b) then some e else b) r
def qbes (now : Int) : Option En → AV
  | none => .agg [.str [], .int .i64 0, .int .i64 0, .sl 13 []]
  | some e => .agg [.str e.n, .int .i64 e.t, .int .i64 (q5v e.u now), .sl 13 e.d]
theorem qbcs (most : Int) (L : List En) (h : Good L) (name : List UInt8) (now : Int) (hn : name.length ≤ 9223372036854775807) :
    qje most (avL L) name now = some (qbes now (clF name now none L), (clF name now none L).isSome) := by
  have hlen := h.len
  have hal := qex L
  rw [qzk]; unfold qht
  let kx : Int → Option (AV × Bool) := fun v8q1 => (bif (decide (v8q1 < 0)) then (some ((.agg [(.str ([] : List UInt8)), (.int .i64 (0 : Int)), (.int .i64 (0 : Int)), (.sl 13 ([] : List AV))]), false)) else (oB (ixB (avL L) v8q1) fun y2 => (bif fitC qc y2.cells then (oB (qe6 (gI y2.cells 0) (gS y2.cells 1) (gI y2.cells 2) (gI y2.cells 3) (gL y2.cells 4) (gI y2.cells 5) (gI y2.cells 6) (gI y2.cells 7) (gI y2.cells 8)) fun r3 => (some ((.agg [(.str (gS r3.cells 1)), (.int .i64 (gI r3.cells 2)), (.int .i64 (IntKind.i64.wrap ((gI r3.cells 7) - (if (0 : Int) > now then (0 : Int) else now)))), (.sl 13 (gL r3.cells 4))]), true))) else none)))
  let dec : Int → Option En := fun a => if a < 0 then none else L[a.toNat]?
  let J : Nat → Int × Int → Prop := fun i s => s.2 = clO (dec s.1) ∧ (s.1 = -1 ∨ ∃ (k : Nat) (e : En), s.1 = (k : Int) ∧ L[k]? = some e)
  have key := qfk (avL L) (by omega) (fun m i (s : Int × Int) => qd2 name now (avL L) ((avL L).length : Int) most (avL L) [] 0 0 kx m s.1 s.2 i)
    (fun i s nx => qd1 name now s.1 s.2 (avL L) ((avL L).length : Int) i most (avL L) [] 0 0 (fun a b j => nx j (a, b)) kx) (fun _ _ _ => rfl) J (fun r s => some (qbes now (clF name now (dec s.1) (r.map enOf)), (clF name now (dec s.1) (r.map enOf)).isSome))
    (fun s nx hJ => by
      obtain ⟨a, b⟩ := s
      have hb : decide (((avL L).length : Int) < ((avL L).length : Int)) = false := by simp
      unfold qd1
      simp only [hb, cond_f, List.map_nil, clF]
      rcases hJ.2 with hs | ⟨k, e, hs, he⟩
      · simp only at hs
        subst hs; rfl
      · simp only at hs
        subst hs
        have hav : (avL L)[k]? = some e.av := by rw [qr4, he]; rfl
        have hk0 : decide ((k : Int) < 0) = false := by simp
        have hdk : dec (k : Int) = some e := by
          simp only [dec]
          rw [if_neg (by omega)]
          simpa using he
        simp only [kx, hk0, cond_f, ixB_nat, hav, oB_s, qr3, cond_t, hdk]
        rw [show qe6 (gI e.av.cells 0) (gS e.av.cells 1) (gI e.av.cells 2) (gI e.av.cells 3) (gL e.av.cells 4) (gI e.av.cells 5) (gI e.av.cells 6) (gI e.av.cells 7) (gI e.av.cells 8) = some e.av from qbav e (h.ok e (List.mem_of_getElem? he)).2, oB_s]
        rfl)
    (fun i y r s nx h1 h2 h3 h4 hJ h6 => by
      obtain ⟨a, b⟩ := s
      obtain ⟨e, he, rfl⟩ := qoa (List.mem_of_getElem? h2)
      have hle : L[i]? = some e := by
        rw [qr4] at h2
        obtain ⟨e', h8, h9⟩ := Option.map_eq_some_iff.1 h2
        rw [h8, show e' = e from by rw [← qej e', h9, qej]]
      have h7 : decide ((i : Int) < ((avL L).length : Int)) = true := by simp; omega
      have hen := (h.ok e he).1
      unfold qd1
      simp only [h7, cond_t, ixB_nat, h2, oB_s, qr3, h4, List.map_cons, qej, clF]
      have hJ21 : ∀ kn : Bool → Option (AV × Bool), qis name now a b (i : Int) (avL L) ((avL L).length : Int) (i : Int) most (avL L) [] 0 0 (gI e.av.cells 0) (gS e.av.cells 1) (gI e.av.cells 2) (gI e.av.cells 3) (gL e.av.cells 4) (gI e.av.cells 5) (gI e.av.cells 6) (gI e.av.cells 7) (gI e.av.cells 8) kn = kn (!nsB name now e) := fun kn => by
        rw [qsm]
        show (bif ((e.k != 0) || (e.t != 2)) then (kn true) else (oB (qbf e.k e.n e.t e.l e.d e.r e.s e.u e.v now) fun r1 => (bif (!r1) then (kn true) else (oB (qiv name e.n) fun r2 => (kn (!r2)))))) = _
        rw [qmb, oB_s, q9f _ _ hn hen]
        unfold nsB
        cases ((e.k != 0) || (e.t != 2)) <;> cases e.alive now <;> simp
      rw [hJ21]
      have hin : J (i + 1) ((i : Int), labN e) := by
        have hdi : dec (i : Int) = some e := by
          simp only [dec]
          rw [if_neg (by omega)]
          simpa using hle
        exact ⟨by simp only [hdi]; rfl, .inr ⟨i, e, rfl, hle⟩⟩
      have hdi : dec (i : Int) = some e := by
        simp only [dec]
        rw [if_neg (by omega)]
        simpa using hle
      cases hns : nsB name now e with
      | false =>
        simp only [Bool.not_false, cond_t, Bool.false_and, Bool.false_eq_true, if_false]
        exact h6 (a, b) ⟨hJ.1, hJ.2⟩
      | true =>
        simp only [Bool.not_true, cond_f, Bool.true_and]
        rw [show qf9 (gS e.av.cells 1) = some (avS (qbt e.n)) from qz0 e.n hen, oB_s]
        have hll : ((avS (qbt e.n)).length : Int) = labN e := by simp [avS, labN]
        rw [hll]
        have hb2 : b = clO (dec a) := hJ.1
        cases hlt : decide (labN e > b) with
        | true =>
          rw [cond_t, ← hb2, hlt, if_pos rfl, ← hdi]
          exact h6 _ hin
        | false =>
          rw [cond_f, ← hb2, hlt, if_neg (by simp)]
          exact h6 (a, b) ⟨hJ.1, hJ.2⟩)
    (-1, -1) FU ⟨rfl, .inl rfl⟩ (qfd (by omega))
  rw [quq]
  have hm : (avL L).map enOf = L := by simp [avL, Function.comp_def, qej]
  rw [hm] at key
  exact key
def q7w (L : List En) (n : List UInt8) : List En := L.filter fun e => !qr2 e.n n
def q7x (L : List En) (now : Int) : List En := L.filter fun e => e.alive now
theorem q9l (most : Int) (L : List En) (h : Good L) (n : List UInt8) (hn : n.length ≤ 9223372036854775807) : qfg most (avL L) n = some (qdv most (q7w L n)) := by
  have hlen := h.len
  rw [q24]; unfold qjf
  rw [qr6 L (by omega) _ (fun e => !qr2 e.n n) (fun e he => qbd0 e n (h.ok e he).1 hn), oB_s, qr9 _ _ _ (h.filter _), oB_s]
  rfl
theorem q9m (most : Int) (L : List En) (h : Good L) (now : Int) : qfh most (avL L) now = some (qdv most (q7x L now)) := by
  have hlen := h.len
  rw [q25]; unfold qjg
  rw [qr6 L (by omega) _ (fun e => e.alive now) (fun e _ => qbdz e now), oB_s, qr9 _ _ _ (h.filter _), oB_s]
  rfl
end Go.Proofs.YtmficjbenbhneaaDoor.Dn
