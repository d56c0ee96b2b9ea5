/- Caches: Put, Deny, Get, Closest, Flush, Purge. -/
import Derived.Test.YtmficjbenbhneaaDoorPuLw29c
set_option linter.all false
namespace Go.Proofs.YtmficjbenbhneaaDoor.Dn
open Go Go.Pev
set_option linter.unusedVariables false
set_option linter.unusedSimpArgs false
set_option maxRecDepth 8000
structure Good (L : List En) : Prop where
  len : L.length ≤ 100000
  uq : Uniq L
  ok : ∀ e, e ∈ L → enOk e
def qd4 (most : Int) (L : List En) : AV := .agg [.int .i64 most, .sl 9 (avL L)]
theorem qst (most : Int) (l : List AV) (L : List En) (h : Good L) : qbe most l (avL L) = some (.agg [.int .i64 most, .fr true 9 (avL L)]) := qbc6 most l L (by have := h.len; omega) (fun e he => (h.ok e he).2)
theorem Good.filter {L : List En} (h : Good L) (P : En → Bool) : Good (L.filter P) :=
  ⟨Nat.le_trans (List.length_filter_le ..) h.len, h.uq.sublist (List.filter_sublist ..), fun e he => h.ok e (List.mem_filter.1 he).1⟩
def qsu (L : List En) (n : List UInt8) (t l : Int) (d : List AV) (rank now : Int) : Bool :=
  ((!quc n t l d || decide (now < 0)) || decide (now > 4294967295)) || qox L rank now (fun e => e.about n t || e.denies n)
def putE (n : List UInt8) (t l : Int) (d : List AV) (rank state now : Int) : En := ⟨0, n, t, l, d, rank, state, endF l now, now⟩
def PutF (most : Int) (L : List En) (n : List UInt8) (t l : Int) (d : List AV) (rank state now : Int) : List En :=
  if qsu L n t l d rank now then L else qgt most (L.filter fun e => !e.denies n) (putE n t l d rank state now) now
theorem q6g (most : Int) (L : List En) (h : Good L) (n : List UInt8) (t l : Int) (d : List AV) (rank state now : Int) (hn : n.length ≤ 9223372036854775807) (hd1 : d.length ≤ 1000000) (hd2 : qlk d) :
    qfh most (avL L) n t l d rank state now = some (qd4 most (PutF most L n t l d rank state now)) := by
  have hlen := h.len
  rw [q6w]; unfold qmr PutF
  have hJ : ∀ kn : Bool → Option AV, qpd rank state now n t l d (.func qij [.cptr [.str n, .int .i64 t, .int .i64 l, .sl 13 d]]) most (avL L) 0 kn = kn (qsu L n t l d rank now) := fun kn => by
    rw [q07]; unfold qio qsu
    rw [qbbb n t l d hn hd2, oB_s]
    cases hc : ((!quc n t l d || decide (now < 0)) || decide (now > 4294967295)) with
    | true => rfl
    | false =>
      rw [cond_f, q2q most L (by omega) rank now _ (fun e => e.about n t || e.denies n) (fun e _ => qbhw e n t l d), oB_s]
      rfl
  rw [hJ]
  cases qsu L n t l d rank now with
  | true =>
    rw [cond_t, qst _ _ L h, oB_s]; rfl
  | false =>
    rw [cond_f, qsq L (by omega) _ (fun e => !e.denies n) (fun e _ => qbhx e n t l d), oB_s, qbe7, oB_s]
    have hg := h.filter fun e => !e.denies n
    rw [show qfs most (avL (L.filter fun e => !e.denies n)) 0 n t l d rank state (endF l now) now now = some (qd4 most (qgt most (L.filter fun e => !e.denies n) (putE n t l d rank state now) now)) from
      q92 (putE n t l d rank state now) most now _ hg.len hg.uq hg.ok ⟨hn, hd1⟩, oB_s]
    rfl
def qsv (n : List UInt8) (t : Int) (nx : Bool) (ttl now : Int) : Bool :=
  ((((!qu n || decide (ttl < 1)) || decide (ttl > 2147483647)) || decide (now < 0)) || decide (now > 4294967295)) || (!nx && decide (t < 1))
def q2s (n : List UInt8) (t : Int) (nx : Bool) (e : En) : Bool := if nx then e.n == n else e.about n t || e.denies n
def qop (n : List UInt8) (nx : Bool) (e : En) : Bool := if nx then e.n == n else e.denies n
def qjt (n : List UInt8) (t : Int) (nx : Bool) (ttl rank state now : Int) : En := ⟨if nx then 2 else 1, n, if nx then 0 else t, ttl, [], rank, state, endF ttl now, now⟩
def qxy (most : Int) (L : List En) (n : List UInt8) (t : Int) (nx : Bool) (ttl rank state now : Int) : List En :=
  if qsv n t nx ttl now || qox L rank now (q2s n t nx) then L else qgt most (L.filter fun e => !qop n nx e) (qjt n t nx ttl rank state now) now
theorem qbc9 (most : Int) (L : List En) (h : Good L) (n : List UInt8) (t : Int) (nx : Bool) (ttl rank state now : Int) (hn : n.length ≤ 9223372036854775807) :
    qk2 most (avL L) n t nx ttl rank state now = some (qd4 most (qxy most L n t nx ttl rank state now)) := by
  have hlen := h.len
  rw [q50]; unfold qk1 qxy
  have hJ : ∀ kn : Bool → Option AV, qnz nx ttl rank state now most (avL L) n t 0 kn = kn (qsv n t nx ttl now) := fun kn => by
    rw [qzy]; unfold qh2 qsv
    rw [qfq n hn, oB_s]
    cases ((((!qu n || decide (ttl < 1)) || decide (ttl > 2147483647)) || decide (now < 0)) || decide (now > 4294967295)) <;> cases nx <;> rfl
  rw [hJ]
  cases qsv n t nx ttl now with
  | true =>
    rw [cond_t, qst _ _ L h, oB_s]; rfl
  | false =>
    rw [cond_f, qbe7, oB_s]
    have fin : ∀ (q1 q2 : AV) (k2 t2 : Int), (∀ e, e ∈ L → ap0.ap q1 [e.av] = some (q2s n t nx e)) → (∀ e, e ∈ L → ap0.ap q2 [e.av] = some (qop n nx e)) → k2 = (if nx then 2 else 1) → t2 = (if nx then 0 else t) →
        (oB (qgl most (avL L) rank now q1) fun r8 => (bif r8 then (oB (qbe most (avL L) (avL L)) fun r9 => (some (.agg [(.int .i64 (gI r9.cells 0)), (.sl 9 (gL r9.cells 1))]))) else (oB (qz (avL L) (.func qh1 [(.cptr [(.fv q2)])])) fun r10 => (oB (qfs most r10 k2 n t2 ttl [] rank state (endF ttl now) now now) fun r11 => (some (.agg [(.int .i64 (gI r11.cells 0)), (.sl 9 (gL r11.cells 1))])))))) =
        some (qd4 most (if qox L rank now (q2s n t nx) then L else qgt most (L.filter fun e => !qop n nx e) (qjt n t nx ttl rank state now) now)) := by
      intro q1 q2 k2 t2 h1 h2 hk ht
      subst hk; subst ht
      rw [q2q most L (by omega) rank now q1 _ h1, oB_s]
      cases qox L rank now (q2s n t nx) with
      | true => rw [cond_t, qst _ _ L h, oB_s]; rfl
      | false =>
        rw [cond_f, qsq L (by omega) _ (fun e => !qop n nx e) (fun e he => qbgo e q2 _ (h2 e he)), oB_s]
        have hg := h.filter fun e => !qop n nx e
        rw [show qfs most (avL (L.filter fun e => !qop n nx e)) (if nx then 2 else 1) n (if nx then 0 else t) ttl [] rank state (endF ttl now) now now = some (qd4 most (qgt most (L.filter fun e => !qop n nx e) (qjt n t nx ttl rank state now) now)) from
          q92 (qjt n t nx ttl rank state now) most now _ hg.len hg.uq hg.ok ⟨hn, by simp [qss, qjt]⟩, oB_s]
        rfl
    rw [Bool.false_or, qyo]; unfold qg0
    cases nx with
    | true => exact fin _ _ 2 0 (fun e _ => q91 e n t) (fun e _ => q91 e n t) rfl rfl
    | false => exact fin _ _ 1 t (fun e _ => qbgm e n t) (fun e _ => qbgn e n t) rfl rfl
def qge (L : List En) (n : List UInt8) (t now : Int) : Int :=
  let a := fidx (fun e => e.alive now && e.about n t) 0 L
  let b := if a < 0 then fidx (fun e => e.alive now && e.k == 0 && e.about n 5) 0 L else a
  if b < 0 then fidx (fun e => e.alive now && e.denies n) 0 L else b
def qbe9 (u now : Int) : Int := IntKind.i64.wrap (u - (if 0 > now then 0 else now))
def qcz (e : En) (now : Int) : En := { e with v := now }
def qbib (e : En) (now : Int) : En := { e with v := now, l := qbe9 e.u now }
def qbbd : En := ⟨0, [], 0, 0, [], 0, 0, 0, 0⟩
def qce (L : List En) (n : List UInt8) (t now : Int) : Option (Nat × En) :=
  if qge L n t now < 0 then none else match L[(qge L n t now).toNat]? with
    | some e => some ((qge L n t now).toNat, e)
    | none => none
def getL (L : List En) (now : Int) : Option (Nat × En) → List En
  | none => L
  | some p => L.set p.1 (qcz p.2 now)
def getR (now : Int) : Option (Nat × En) → En
  | none => qbbd
  | some p => qbib p.2 now
theorem qbel (L : List En) (n : List UInt8) (t now : Int) : qge L n t now = -1 ∨ ∃ k, k < L.length ∧ qge L n t now = (k : Int) := by
  have z : ∀ P, fidx P 0 L = -1 ∨ ∃ k, k < L.length ∧ fidx P 0 L = (k : Int) := fun P => by
    rcases qxw P L 0 with h | ⟨k, h1, h2⟩
    · exact .inl h
    · exact .inr ⟨k, h1, by rw [h2]; omega⟩
  unfold qge
  simp only
  repeat' split
  all_goals exact z _
theorem qxz (most : Int) (L : List En) (h : Good L) (n : List UInt8) (t now : Int) :
    qfi most (avL L) n t now = some (qd4 most (getL L now (qce L n t now)), (getR now (qce L n t now)).av, (qce L n t now).isSome) := by
  have hlen := h.len
  have hal := qes L
  rw [q6x]; unfold qmt
  rw [qsr L (by omega) _ (fun e => e.alive now && e.about n t) (fun e _ => qbht e now n t), oB_s]
  have e1 : ∀ (a : Int) (kn : Int → Option (AV × AV × Bool)), qkz n t now a most (avL L) 0 0 [] 0 0 0 0 0 0 kn = kn (if a < 0 then fidx (fun e => e.alive now && e.k == 0 && e.about n 5) 0 L else a) := fun a kn => by
    rw [q09]; unfold qip
    by_cases ha : a < 0
    · simp only [ha, decide_true, cond_t, if_true]
      rw [qsr L (by omega) _ (fun e => e.alive now && e.k == 0 && e.about n 5) (fun e _ => qbhu e now n t), oB_s]
    · simp only [ha, decide_false, cond_f, if_false]
  have e2 : ∀ (a : Int) (kn : Int → Option (AV × AV × Bool)), qjl n t now a most (avL L) 0 0 [] 0 0 0 0 0 0 kn = kn (if a < 0 then fidx (fun e => e.alive now && e.denies n) 0 L else a) := fun a kn => by
    rw [qzw]; unfold qh0
    by_cases ha : a < 0
    · simp only [ha, decide_true, cond_t, if_true]
      rw [qsr L (by omega) _ (fun e => e.alive now && e.denies n) (fun e _ => qbhv e now n t), oB_s]
    · simp only [ha, decide_false, cond_f, if_false]
  have e12 : ∀ kn : Int → Option (AV × AV × Bool), qkz n t now (fidx (fun e => e.alive now && e.about n t) 0 L) most (avL L) 0 0 [] 0 0 0 0 0 0 (fun v => qjl n t now v most (avL L) 0 0 [] 0 0 0 0 0 0 kn) = kn (qge L n t now) := fun kn => by
    rw [e1, e2]; rfl
  rw [e12, qst _ _ L h, oB_s]
  unfold qce
  rcases qbel L n t now with hi | ⟨k, hk, hi⟩
  · rw [hi]
    simp only [show decide ((-1 : Int) < 0) = true from rfl, cond_t, show ((-1 : Int) < 0) = True from by simp, if_true]
    show (bif hd (avL L) ((avL L).length) then _ else _) = _
    rw [hd_self, cond_t]; rfl
  · obtain ⟨e, he⟩ : ∃ e, L[k]? = some e := ⟨L[k], by simp⟩
    have hav : (avL L)[k]? = some e.av := by rw [qml, he]; rfl
    have hneg : decide ((k : Int) < 0) = false := by simp
    have hneg' : ¬ ((k : Int) < 0) := by omega
    have hin : decide (0 ≤ (k : Int) ∧ (k : Int) < ((avL L).length)) = true := by simp; omega
    have hset : (avL L).set k (qcz e now).av = avL (L.set k (qcz e now)) := by simp [avL, List.map_set]
    have hhd : hd ((avL L).set k (qcz e now).av) ((avL L).length) = true := by
      have := hd_self ((avL L).set k (qcz e now).av)
      rwa [List.length_set] at this
    have hgL : gL (AV.agg [AV.int .i64 most, AV.fr true 9 (avL L)]).cells 1 = avL L := rfl
    rw [hi]
    simp only [hneg, cond_f, hgL, hd_self, cond_t, hin, Int.toNat_natCast, hav, oB_s, if_neg hneg', he]
    rw [show Go.Pev.putE e.av 8 1 [.int .i64 now] = some (qcz e now).av from rfl, oB_s]
    simp only [hhd, cond_t]
    rw [show ((avL L).set k (qcz e now).av)[k]? = some (qcz e now).av from by rw [List.getElem?_set_self (by omega)], oB_s]
    rw [show rdE (qcz e now).av 0 true 9 = some (qcz e now).av from rfl, oB_s, q90, cond_t]
    rw [show qff (gI (qcz e now).av.cells 0) (gS (qcz e now).av.cells 1) (gI (qcz e now).av.cells 2) (gI (qcz e now).av.cells 3) (gL (qcz e now).av.cells 4) (gI (qcz e now).av.cells 5) (gI (qcz e now).av.cells 6) (gI (qcz e now).av.cells 7) (gI (qcz e now).av.cells 8) = some (qcz e now).av from qbba _ (h.ok e (List.mem_of_getElem? he)).2, oB_s, hset]
    rfl
def labN (e : En) : Int := ((qbu e.n).length : Int)
def nsB (name : List UInt8) (now : Int) (e : En) : Bool := !(((e.k != 0) || (e.t != 2)) || (!e.alive now || !qnp name e.n))
def clO : Option En → Int
  | none => -1
  | some e => labN e
def clF (name : List UInt8) (now : Int) : Option En → List En → Option En
  | b, [] => b
  | b, e :: r => clF name now (if nsB name now e && decide (labN e > clO b) then some e else b) r
def qbbe (now : Int) : Option En → AV
  | none => .agg [.str [], .int .i64 0, .int .i64 0, .sl 13 []]
  | some e => .agg [.str e.n, .int .i64 e.t, .int .i64 (qbe9 e.u now), .sl 13 e.d]
theorem qxj (most : Int) (L : List En) (h : Good L) (name : List UInt8) (now : Int) (hn : name.length ≤ 9223372036854775807) :
    qe4 most (avL L) name now = some (qbbe now (clF name now none L), (clF name now none L).isSome) := by
  have hlen := h.len
  have hal := qes L
  rw [qz0]; unfold qh3
  let kx : Int → Option (AV × Bool) := fun v8q1 => (bif (decide (v8q1 < 0)) then (some ((.agg [(.str ([] : List UInt8)), (.int .i64 (0 : Int)), (.int .i64 (0 : Int)), (.sl 13 ([] : List AV))]), false)) else (oB (ixB (avL L) v8q1) fun y2 => (bif fitC qc y2.cells then (oB (qff (gI y2.cells 0) (gS y2.cells 1) (gI y2.cells 2) (gI y2.cells 3) (gL y2.cells 4) (gI y2.cells 5) (gI y2.cells 6) (gI y2.cells 7) (gI y2.cells 8)) fun r3 => (some ((.agg [(.str (gS r3.cells 1)), (.int .i64 (gI r3.cells 2)), (.int .i64 (IntKind.i64.wrap ((gI r3.cells 7) - (if (0 : Int) > now then (0 : Int) else now)))), (.sl 13 (gL r3.cells 4))]), true))) else none)))
  let dec : Int → Option En := fun a => if a < 0 then none else L[a.toNat]?
  let J : Nat → Int × Int → Prop := fun i s => s.2 = clO (dec s.1) ∧ (s.1 = -1 ∨ ∃ (k : Nat) (e : En), s.1 = (k : Int) ∧ L[k]? = some e)
  have key := qfv (avL L) (by omega) (fun m i (s : Int × Int) => qeb name now (avL L) ((avL L).length : Int) most (avL L) [] 0 0 kx m s.1 s.2 i)
    (fun i s nx => qea name now s.1 s.2 (avL L) ((avL L).length : Int) i most (avL L) [] 0 0 (fun a b j => nx j (a, b)) kx) (fun _ _ _ => rfl) J (fun r s => some (qbbe now (clF name now (dec s.1) (r.map enOf)), (clF name now (dec s.1) (r.map enOf)).isSome))
    (fun s nx hJ => by
      obtain ⟨a, b⟩ := s
      have hb : decide (((avL L).length : Int) < ((avL L).length : Int)) = false := by simp
      unfold qea
      simp only [hb, cond_f, List.map_nil, clF]
      rcases hJ.2 with hs | ⟨k, e, hs, he⟩
      · simp only at hs
        subst hs; rfl
      · simp only at hs
        subst hs
        have hav : (avL L)[k]? = some e.av := by rw [qml, he]; rfl
        have hk0 : decide ((k : Int) < 0) = false := by simp
        have hdk : dec (k : Int) = some e := by
          simp only [dec]
          rw [if_neg (by omega)]
          simpa using he
        simp only [kx, hk0, cond_f, ixB_nat, hav, oB_s, qso, cond_t, hdk]
        rw [show qff (gI e.av.cells 0) (gS e.av.cells 1) (gI e.av.cells 2) (gI e.av.cells 3) (gL e.av.cells 4) (gI e.av.cells 5) (gI e.av.cells 6) (gI e.av.cells 7) (gI e.av.cells 8) = some e.av from qbba e (h.ok e (List.mem_of_getElem? he)).2, oB_s]
        rfl)
    (fun i y r s nx h1 h2 h3 h4 hJ h6 => by
      obtain ⟨a, b⟩ := s
      obtain ⟨e, he, rfl⟩ := qow (List.mem_of_getElem? h2)
      have hle : L[i]? = some e := by
        rw [qml] at h2
        obtain ⟨e', h8, h9⟩ := Option.map_eq_some_iff.1 h2
        rw [h8, show e' = e from by rw [← qer e', h9, qer]]
      have h7 : decide ((i : Int) < ((avL L).length : Int)) = true := by simp; omega
      have hen := (h.ok e he).1
      unfold qea
      simp only [h7, cond_t, ixB_nat, h2, oB_s, qso, h4, List.map_cons, qer, clF]
      have hJ21 : ∀ kn : Bool → Option (AV × Bool), qi0 name now a b (i : Int) (avL L) ((avL L).length : Int) (i : Int) most (avL L) [] 0 0 (gI e.av.cells 0) (gS e.av.cells 1) (gI e.av.cells 2) (gI e.av.cells 3) (gL e.av.cells 4) (gI e.av.cells 5) (gI e.av.cells 6) (gI e.av.cells 7) (gI e.av.cells 8) kn = kn (!nsB name now e) := fun kn => by
        rw [qs7]
        show (bif ((e.k != 0) || (e.t != 2)) then (kn true) else (oB (qbh e.k e.n e.t e.l e.d e.r e.s e.u e.v now) fun r1 => (bif (!r1) then (kn true) else (oB (qfr name e.n) fun r2 => (kn (!r2)))))) = _
        rw [qmm, oB_s, q35 _ _ hn hen]
        unfold nsB
        cases ((e.k != 0) || (e.t != 2)) <;> cases e.alive now <;> simp
      rw [hJ21]
      have hin : J (i + 1) ((i : Int), labN e) := by
        have hdi : dec (i : Int) = some e := by
          simp only [dec]
          rw [if_neg (by omega)]
          simpa using hle
        exact ⟨by simp only [hdi]; rfl, .inr ⟨i, e, rfl, hle⟩⟩
      have hdi : dec (i : Int) = some e := by
        simp only [dec]
        rw [if_neg (by omega)]
        simpa using hle
      cases hns : nsB name now e with
      | false =>
        simp only [Bool.not_false, cond_t, Bool.false_and, Bool.false_eq_true, if_false]
        exact h6 (a, b) ⟨hJ.1, hJ.2⟩
      | true =>
        simp only [Bool.not_true, cond_f, Bool.true_and]
        rw [show qgk (gS e.av.cells 1) = some (avS (qbu e.n)) from q0i e.n hen, oB_s]
        have hll : ((avS (qbu e.n)).length : Int) = labN e := by simp [avS, labN]
        rw [hll]
        have hb2 : b = clO (dec a) := hJ.1
        cases hlt : decide (labN e > b) with
        | true =>
          rw [cond_t, ← hb2, hlt, if_pos rfl, ← hdi]
          exact h6 _ hin
        | false =>
          rw [cond_f, ← hb2, hlt, if_neg (by simp)]
          exact h6 (a, b) ⟨hJ.1, hJ.2⟩)
    (-1, -1) FU ⟨rfl, .inl rfl⟩ (qfo (by omega))
  rw [qu9]
  have hm : (avL L).map enOf = L := by simp [avL, Function.comp_def, qer]
  rw [hm] at key
  exact key
def qi4 (L : List En) (n : List UInt8) : List En := L.filter fun e => !qnp e.n n
def qdl (L : List En) (now : Int) : List En := L.filter fun e => e.alive now
theorem q38 (most : Int) (L : List En) (h : Good L) (n : List UInt8) (hn : n.length ≤ 9223372036854775807) : qc9 most (avL L) n = some (qd4 most (qi4 L n)) := by
  have hlen := h.len
  rw [q3j]; unfold qjm
  rw [qsq L (by omega) _ (fun e => !qnp e.n n) (fun e he => qbeh e n (h.ok e he).1 hn), oB_s, qst _ _ _ (h.filter _), oB_s]
  rfl
theorem q39 (most : Int) (L : List En) (h : Good L) (now : Int) : qen most (avL L) now = some (qd4 most (qdl L now)) := by
  have hlen := h.len
  rw [q3k]; unfold qjn
  rw [qsq L (by omega) _ (fun e => e.alive now) (fun e _ => qbeg e now), oB_s, qst _ _ _ (h.filter _), oB_s]
  rfl
end Go.Proofs.YtmficjbenbhneaaDoor.Dn
