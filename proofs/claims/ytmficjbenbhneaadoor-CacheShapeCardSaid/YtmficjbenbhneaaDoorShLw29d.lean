/- Caches: Put, Deny, Get, Closest, Flush, Purge. -/
import Derived.Test.YtmficjbenbhneaaDoorShLw29c
set_option linter.all false
namespace Go.Proofs.YtmficjbenbhneaaDoor.Dn
open Go Go.Pev
set_option linter.unusedVariables false
set_option linter.unusedSimpArgs false
set_option maxRecDepth 8000
structure Good (L : List En) : Prop where
  len : L.length ≤ 100000
  uq : Uniq L
  ok : ∀ e, e ∈ L → enOk e
def qdm (most : Int) (L : List En) : AV := .agg [.int .i64 most, .sl 9 (avL L)]
theorem qr5 (most : Int) (l : List AV) (L : List En) (h : Good L) : qbc most l (avL L) = some (.agg [.int .i64 most, .fr true 9 (avL L)]) := qbb8 most l L (by have := h.len; omega) (fun e he => (h.ok e he).2)
theorem Good.filter {L : List En} (h : Good L) (P : En → Bool) : Good (L.filter P) :=
  ⟨Nat.le_trans (List.length_filter_le ..) h.len, h.uq.sublist (List.filter_sublist ..), fun e he => h.ok e (List.mem_filter.1 he).1⟩
def qr6 (L : List En) (n : List UInt8) (t l : Int) (d : List AV) (rank now : Int) : Bool :=
  ((!qto n t l d || decide (now < 0)) || decide (now > 4294967295)) || qn9 L rank now (fun e => e.about n t || e.denies n)
def putE (n : List UInt8) (t l : Int) (d : List AV) (rank state now : Int) : En := ⟨0, n, t, l, d, rank, state, endF l now, now⟩
def PutF (most : Int) (L : List En) (n : List UInt8) (t l : Int) (d : List AV) (rank state now : Int) : List En :=
  if qr6 L n t l d rank now then L else qga most (L.filter fun e => !e.denies n) (putE n t l d rank state now) now
theorem q5g (most : Int) (L : List En) (h : Good L) (n : List UInt8) (t l : Int) (d : List AV) (rank state now : Int) (hn : n.length ≤ 9223372036854775807) (hd1 : d.length ≤ 1000000) (hd2 : qny d) :
    qe2 most (avL L) n t l d rank state now = some (qdm most (PutF most L n t l d rank state now)) := by
  have hlen := h.len
  rw [q5w]; unfold ql9 PutF
  have hJ : ∀ kn : Bool → Option AV, qon rank state now n t l d (.func qh5 [.cptr [.str n, .int .i64 t, .int .i64 l, .sl 13 d]]) most (avL L) 0 kn = kn (qr6 L n t l d rank now) := fun kn => by
    rw [q0c]; unfold qia qr6
    rw [qbaf n t l d hn hd2, oB_s]
    cases hc : ((!qto n t l d || decide (now < 0)) || decide (now > 4294967295)) with
    | true => rfl
    | false =>
      rw [cond_f, q1x most L (by omega) rank now _ (fun e => e.about n t || e.denies n) (fun e _ => qbgu e n t l d), oB_s]
      rfl
  rw [hJ]
  cases qr6 L n t l d rank now with
  | true =>
    rw [cond_t, qr5 _ _ L h, oB_s]; rfl
  | false =>
    rw [cond_f, qr2 L (by omega) _ (fun e => !e.denies n) (fun e _ => qbgv e n t l d), oB_s, qbd8, oB_s]
    have hg := h.filter fun e => !e.denies n
    rw [show qfa most (avL (L.filter fun e => !e.denies n)) 0 n t l d rank state (endF l now) now now = some (qdm most (qga most (L.filter fun e => !e.denies n) (putE n t l d rank state now) now)) from
      q85 (putE n t l d rank state now) most now _ hg.len hg.uq hg.ok ⟨hn, hd1⟩, oB_s]
    rfl
def qr7 (n : List UInt8) (t : Int) (nx : Bool) (ttl now : Int) : Bool :=
  ((((!qr n || decide (ttl < 1)) || decide (ttl > 2147483647)) || decide (now < 0)) || decide (now > 4294967295)) || (!nx && decide (t < 1))
def q1z (n : List UInt8) (t : Int) (nx : Bool) (e : En) : Bool := if nx then e.n == n else e.about n t || e.denies n
def qnz (n : List UInt8) (nx : Bool) (e : En) : Bool := if nx then e.n == n else e.denies n
def qjg (n : List UInt8) (t : Int) (nx : Bool) (ttl rank state now : Int) : En := ⟨if nx then 2 else 1, n, if nx then 0 else t, ttl, [], rank, state, endF ttl now, now⟩
def qw7 (most : Int) (L : List En) (n : List UInt8) (t : Int) (nx : Bool) (ttl rank state now : Int) : List En :=
  if qr7 n t nx ttl now || qn9 L rank now (q1z n t nx) then L else qga most (L.filter fun e => !qnz n nx e) (qjg n t nx ttl rank state now) now
theorem qbcb (most : Int) (L : List En) (h : Good L) (n : List UInt8) (t : Int) (nx : Bool) (ttl rank state now : Int) (hn : n.length ≤ 9223372036854775807) :
    qkn most (avL L) n t nx ttl rank state now = some (qdm most (qw7 most L n t nx ttl rank state now)) := by
  have hlen := h.len
  rw [q40]; unfold qkm qw7
  have hJ : ∀ kn : Bool → Option AV, qm6 nx ttl rank state now most (avL L) n t 0 kn = kn (qr7 n t nx ttl now) := fun kn => by
    rw [qy6]; unfold qhm qr7
    rw [qd7 n hn, oB_s]
    cases ((((!qr n || decide (ttl < 1)) || decide (ttl > 2147483647)) || decide (now < 0)) || decide (now > 4294967295)) <;> cases nx <;> rfl
  rw [hJ]
  cases qr7 n t nx ttl now with
  | true =>
    rw [cond_t, qr5 _ _ L h, oB_s]; rfl
  | false =>
    rw [cond_f, qbd8, oB_s]
    have fin : ∀ (q1 q2 : AV) (k2 t2 : Int), (∀ e, e ∈ L → ap0.ap q1 [e.av] = some (q1z n t nx e)) → (∀ e, e ∈ L → ap0.ap q2 [e.av] = some (qnz n nx e)) → k2 = (if nx then 2 else 1) → t2 = (if nx then 0 else t) →
        (oB (qf2 most (avL L) rank now q1) fun r8 => (bif r8 then (oB (qbc most (avL L) (avL L)) fun r9 => (some (.agg [(.int .i64 (gI r9.cells 0)), (.sl 9 (gL r9.cells 1))]))) else (oB (qx (avL L) (.func qhl [(.cptr [(.fv q2)])])) fun r10 => (oB (qfa most r10 k2 n t2 ttl [] rank state (endF ttl now) now now) fun r11 => (some (.agg [(.int .i64 (gI r11.cells 0)), (.sl 9 (gL r11.cells 1))])))))) =
        some (qdm most (if qn9 L rank now (q1z n t nx) then L else qga most (L.filter fun e => !qnz n nx e) (qjg n t nx ttl rank state now) now)) := by
      intro q1 q2 k2 t2 h1 h2 hk ht
      subst hk; subst ht
      rw [q1x most L (by omega) rank now q1 _ h1, oB_s]
      cases qn9 L rank now (q1z n t nx) with
      | true => rw [cond_t, qr5 _ _ L h, oB_s]; rfl
      | false =>
        rw [cond_f, qr2 L (by omega) _ (fun e => !qnz n nx e) (fun e he => qbfo e q2 _ (h2 e he)), oB_s]
        have hg := h.filter fun e => !qnz n nx e
        rw [show qfa most (avL (L.filter fun e => !qnz n nx e)) (if nx then 2 else 1) n (if nx then 0 else t) ttl [] rank state (endF ttl now) now now = some (qdm most (qga most (L.filter fun e => !qnz n nx e) (qjg n t nx ttl rank state now) now)) from
          q85 (qjg n t nx ttl rank state now) most now _ hg.len hg.uq hg.ok ⟨hn, by simp [qr4, qjg]⟩, oB_s]
        rfl
    rw [Bool.false_or, qxw]; unfold qgi
    cases nx with
    | true => exact fin _ _ 2 0 (fun e _ => q84 e n t) (fun e _ => q84 e n t) rfl rfl
    | false => exact fin _ _ 1 t (fun e _ => qbfm e n t) (fun e _ => qbfn e n t) rfl rfl
def qtp (L : List En) (n : List UInt8) (t now : Int) : Int :=
  let a := fidx (fun e => e.alive now && e.about n t) 0 L
  let b := if a < 0 then fidx (fun e => e.alive now && e.k == 0 && e.about n 5) 0 L else a
  if b < 0 then fidx (fun e => e.alive now && e.denies n) 0 L else b
def qbea (u now : Int) : Int := IntKind.i64.wrap (u - (if 0 > now then 0 else now))
def qcp (e : En) (now : Int) : En := { e with v := now }
def qbg9 (e : En) (now : Int) : En := { e with v := now, l := qbea e.u now }
def qbha : En := ⟨0, [], 0, 0, [], 0, 0, 0, 0⟩
def qn0 (L : List En) (n : List UInt8) (t now : Int) : Option (Nat × En) :=
  if qtp L n t now < 0 then none else match L[(qtp L n t now).toNat]? with
    | some e => some ((qtp L n t now).toNat, e)
    | none => none
def getL (L : List En) (now : Int) : Option (Nat × En) → List En
  | none => L
  | some p => L.set p.1 (qcp p.2 now)
def getR (now : Int) : Option (Nat × En) → En
  | none => qbha
  | some p => qbg9 p.2 now
theorem qbdo (L : List En) (n : List UInt8) (t now : Int) : qtp L n t now = -1 ∨ ∃ k, k < L.length ∧ qtp L n t now = (k : Int) := by
  have z : ∀ P, fidx P 0 L = -1 ∨ ∃ k, k < L.length ∧ fidx P 0 L = (k : Int) := fun P => by
    rcases qw5 P L 0 with h | ⟨k, h1, h2⟩
    · exact .inl h
    · exact .inr ⟨k, h1, by rw [h2]; omega⟩
  unfold qtp
  simp only
  repeat' split
  all_goals exact z _
theorem q5h (most : Int) (L : List En) (h : Good L) (n : List UInt8) (t now : Int) :
    qhw most (avL L) n t now = some (qdm most (getL L now (qn0 L n t now)), (getR now (qn0 L n t now)).av, (qn0 L n t now).isSome) := by
  have hlen := h.len
  have hal := qer L
  rw [q5x]; unfold qmb
  rw [qr3 L (by omega) _ (fun e => e.alive now && e.about n t) (fun e _ => qbgr e now n t), oB_s]
  have e1 : ∀ (a : Int) (kn : Int → Option (AV × AV × Bool)), qkk n t now a most (avL L) 0 0 [] 0 0 0 0 0 0 kn = kn (if a < 0 then fidx (fun e => e.alive now && e.k == 0 && e.about n 5) 0 L else a) := fun a kn => by
    rw [q0e]; unfold qib
    by_cases ha : a < 0
    · simp only [ha, decide_true, cond_t, if_true]
      rw [qr3 L (by omega) _ (fun e => e.alive now && e.k == 0 && e.about n 5) (fun e _ => qbgs e now n t), oB_s]
    · simp only [ha, decide_false, cond_f, if_false]
  have e2 : ∀ (a : Int) (kn : Int → Option (AV × AV × Bool)), qi8 n t now a most (avL L) 0 0 [] 0 0 0 0 0 0 kn = kn (if a < 0 then fidx (fun e => e.alive now && e.denies n) 0 L else a) := fun a kn => by
    rw [qy4]; unfold qhk
    by_cases ha : a < 0
    · simp only [ha, decide_true, cond_t, if_true]
      rw [qr3 L (by omega) _ (fun e => e.alive now && e.denies n) (fun e _ => qbgt e now n t), oB_s]
    · simp only [ha, decide_false, cond_f, if_false]
  have e12 : ∀ kn : Int → Option (AV × AV × Bool), qkk n t now (fidx (fun e => e.alive now && e.about n t) 0 L) most (avL L) 0 0 [] 0 0 0 0 0 0 (fun v => qi8 n t now v most (avL L) 0 0 [] 0 0 0 0 0 0 kn) = kn (qtp L n t now) := fun kn => by
    rw [e1, e2]; rfl
  rw [e12, qr5 _ _ L h, oB_s]
  unfold qn0
  rcases qbdo L n t now with hi | ⟨k, hk, hi⟩
  · rw [hi]
    simp only [show decide ((-1 : Int) < 0) = true from rfl, cond_t, show ((-1 : Int) < 0) = True from by simp, if_true]
    show (bif hd (avL L) ((avL L).length) then _ else _) = _
    rw [hd_self, cond_t]; rfl
  · obtain ⟨e, he⟩ : ∃ e, L[k]? = some e := ⟨L[k], by simp⟩
    have hav : (avL L)[k]? = some e.av := by rw [ql2, he]; rfl
    have hneg : decide ((k : Int) < 0) = false := by simp
    have hneg' : ¬ ((k : Int) < 0) := by omega
    have hin : decide (0 ≤ (k : Int) ∧ (k : Int) < ((avL L).length)) = true := by simp; omega
    have hset : (avL L).set k (qcp e now).av = avL (L.set k (qcp e now)) := by simp [avL, List.map_set]
    have hhd : hd ((avL L).set k (qcp e now).av) ((avL L).length) = true := by
      have := hd_self ((avL L).set k (qcp e now).av)
      rwa [List.length_set] at this
    have hgL : gL (AV.agg [AV.int .i64 most, AV.fr true 9 (avL L)]).cells 1 = avL L := rfl
    rw [hi]
    simp only [hneg, cond_f, hgL, hd_self, cond_t, hin, Int.toNat_natCast, hav, oB_s, if_neg hneg', he]
    rw [show Go.Pev.putE e.av 8 1 [.int .i64 now] = some (qcp e now).av from rfl, oB_s]
    simp only [hhd, cond_t]
    rw [show ((avL L).set k (qcp e now).av)[k]? = some (qcp e now).av from by rw [List.getElem?_set_self (by omega)], oB_s]
    rw [show rdE (qcp e now).av 0 true 9 = some (qcp e now).av from rfl, oB_s, q83, cond_t]
    rw [show qe0 (gI (qcp e now).av.cells 0) (gS (qcp e now).av.cells 1) (gI (qcp e now).av.cells 2) (gI (qcp e now).av.cells 3) (gL (qcp e now).av.cells 4) (gI (qcp e now).av.cells 5) (gI (qcp e now).av.cells 6) (gI (qcp e now).av.cells 7) (gI (qcp e now).av.cells 8) = some (qcp e now).av from qbae _ (h.ok e (List.mem_of_getElem? he)).2, oB_s, hset]
    rfl
def labN (e : En) : Int := ((qbr e.n).length : Int)
def nsB (name : List UInt8) (now : Int) (e : En) : Bool := !(((e.k != 0) || (e.t != 2)) || (!e.alive now || !qr0 name e.n))
def clO : Option En → Int
  | none => -1
  | some e => labN e
def clF (name : List UInt8) (now : Int) : Option En → List En → Option En
  | b, [] => b
  | b, e :: r => clF name now (if nsB name now e && decide (labN e > clO b) then some e else b) r
def qbeb (now : Int) : Option En → AV
  | none => .agg [.str [], .int .i64 0, .int .i64 0, .sl 13 []]
  | some e => .agg [.str e.n, .int .i64 e.t, .int .i64 (qbea e.u now), .sl 13 e.d]
theorem qbcc (most : Int) (L : List En) (h : Good L) (name : List UInt8) (now : Int) (hn : name.length ≤ 9223372036854775807) :
    qi9 most (avL L) name now = some (qbeb now (clF name now none L), (clF name now none L).isSome) := by
  have hlen := h.len
  have hal := qer L
  rw [qy8]; unfold qhn
  let kx : Int → Option (AV × Bool) := fun v8q1 => (bif (decide (v8q1 < 0)) then (some ((.agg [(.str ([] : List UInt8)), (.int .i64 (0 : Int)), (.int .i64 (0 : Int)), (.sl 13 ([] : List AV))]), false)) else (oB (ixB (avL L) v8q1) fun y2 => (bif fitC qc y2.cells then (oB (qe0 (gI y2.cells 0) (gS y2.cells 1) (gI y2.cells 2) (gI y2.cells 3) (gL y2.cells 4) (gI y2.cells 5) (gI y2.cells 6) (gI y2.cells 7) (gI y2.cells 8)) fun r3 => (some ((.agg [(.str (gS r3.cells 1)), (.int .i64 (gI r3.cells 2)), (.int .i64 (IntKind.i64.wrap ((gI r3.cells 7) - (if (0 : Int) > now then (0 : Int) else now)))), (.sl 13 (gL r3.cells 4))]), true))) else none)))
  let dec : Int → Option En := fun a => if a < 0 then none else L[a.toNat]?
  let J : Nat → Int × Int → Prop := fun i s => s.2 = clO (dec s.1) ∧ (s.1 = -1 ∨ ∃ (k : Nat) (e : En), s.1 = (k : Int) ∧ L[k]? = some e)
  have key := qgr (avL L) (by omega) (fun m i (s : Int × Int) => qdt name now (avL L) ((avL L).length : Int) most (avL L) [] 0 0 kx m s.1 s.2 i)
    (fun i s nx => qds name now s.1 s.2 (avL L) ((avL L).length : Int) i most (avL L) [] 0 0 (fun a b j => nx j (a, b)) kx) (fun _ _ _ => rfl) J (fun r s => some (qbeb now (clF name now (dec s.1) (r.map enOf)), (clF name now (dec s.1) (r.map enOf)).isSome))
    (fun s nx hJ => by
      obtain ⟨a, b⟩ := s
      have hb : decide (((avL L).length : Int) < ((avL L).length : Int)) = false := by simp
      unfold qds
      simp only [hb, cond_f, List.map_nil, clF]
      rcases hJ.2 with hs | ⟨k, e, hs, he⟩
      · simp only at hs
        subst hs; rfl
      · simp only at hs
        subst hs
        have hav : (avL L)[k]? = some e.av := by rw [ql2, he]; rfl
        have hk0 : decide ((k : Int) < 0) = false := by simp
        have hdk : dec (k : Int) = some e := by
          simp only [dec]
          rw [if_neg (by omega)]
          simpa using he
        simp only [kx, hk0, cond_f, ixB_nat, hav, oB_s, qpb, cond_t, hdk]
        rw [show qe0 (gI e.av.cells 0) (gS e.av.cells 1) (gI e.av.cells 2) (gI e.av.cells 3) (gL e.av.cells 4) (gI e.av.cells 5) (gI e.av.cells 6) (gI e.av.cells 7) (gI e.av.cells 8) = some e.av from qbae e (h.ok e (List.mem_of_getElem? he)).2, oB_s]
        rfl)
    (fun i y r s nx h1 h2 h3 h4 hJ h6 => by
      obtain ⟨a, b⟩ := s
      obtain ⟨e, he, rfl⟩ := qn8 (List.mem_of_getElem? h2)
      have hle : L[i]? = some e := by
        rw [ql2] at h2
        obtain ⟨e', h8, h9⟩ := Option.map_eq_some_iff.1 h2
        rw [h8, show e' = e from by rw [← qea e', h9, qea]]
      have h7 : decide ((i : Int) < ((avL L).length : Int)) = true := by simp; omega
      have hen := (h.ok e he).1
      unfold qds
      simp only [h7, cond_t, ixB_nat, h2, oB_s, qpb, h4, List.map_cons, qea, clF]
      have hJ21 : ∀ kn : Bool → Option (AV × Bool), qim name now a b (i : Int) (avL L) ((avL L).length : Int) (i : Int) most (avL L) [] 0 0 (gI e.av.cells 0) (gS e.av.cells 1) (gI e.av.cells 2) (gI e.av.cells 3) (gL e.av.cells 4) (gI e.av.cells 5) (gI e.av.cells 6) (gI e.av.cells 7) (gI e.av.cells 8) kn = kn (!nsB name now e) := fun kn => by
        rw [qsk]
        show (bif ((e.k != 0) || (e.t != 2)) then (kn true) else (oB (qbf e.k e.n e.t e.l e.d e.r e.s e.u e.v now) fun r1 => (bif (!r1) then (kn true) else (oB (qip name e.n) fun r2 => (kn (!r2)))))) = _
        rw [ql3, oB_s, q8z _ _ hn hen]
        unfold nsB
        cases ((e.k != 0) || (e.t != 2)) <;> cases e.alive now <;> simp
      rw [hJ21]
      have hin : J (i + 1) ((i : Int), labN e) := by
        have hdi : dec (i : Int) = some e := by
          simp only [dec]
          rw [if_neg (by omega)]
          simpa using hle
        exact ⟨by simp only [hdi]; rfl, .inr ⟨i, e, rfl, hle⟩⟩
      have hdi : dec (i : Int) = some e := by
        simp only [dec]
        rw [if_neg (by omega)]
        simpa using hle
      cases hns : nsB name now e with
      | false =>
        simp only [Bool.not_false, cond_t, Bool.false_and, Bool.false_eq_true, if_false]
        exact h6 (a, b) ⟨hJ.1, hJ.2⟩
      | true =>
        simp only [Bool.not_true, cond_f, Bool.true_and]
        rw [show qf1 (gS e.av.cells 1) = some (avS (qbr e.n)) from qzn e.n hen, oB_s]
        have hll : ((avS (qbr e.n)).length : Int) = labN e := by simp [avS, labN]
        rw [hll]
        have hb2 : b = clO (dec a) := hJ.1
        cases hlt : decide (labN e > b) with
        | true =>
          rw [cond_t, ← hb2, hlt, if_pos rfl, ← hdi]
          exact h6 _ hin
        | false =>
          rw [cond_f, ← hb2, hlt, if_neg (by simp)]
          exact h6 (a, b) ⟨hJ.1, hJ.2⟩)
    (-1, -1) FU ⟨rfl, .inl rfl⟩ (qf8 (by omega))
  rw [qum]
  have hm : (avL L).map enOf = L := by simp [avL, Function.comp_def, qea]
  rw [hm] at key
  exact key
def q7k (L : List En) (n : List UInt8) : List En := L.filter fun e => !qr0 e.n n
def q7l (L : List En) (now : Int) : List En := L.filter fun e => e.alive now
theorem q86 (most : Int) (L : List En) (h : Good L) (n : List UInt8) (hn : n.length ≤ 9223372036854775807) : qfb most (avL L) n = some (qdm most (q7k L n)) := by
  have hlen := h.len
  rw [q2l]; unfold qja
  rw [qr2 L (by omega) _ (fun e => !qr0 e.n n) (fun e he => qbdk e n (h.ok e he).1 hn), oB_s, qr5 _ _ _ (h.filter _), oB_s]
  rfl
theorem q87 (most : Int) (L : List En) (h : Good L) (now : Int) : qfc most (avL L) now = some (qdm most (q7l L now)) := by
  have hlen := h.len
  rw [q2m]; unfold qjb
  rw [qr2 L (by omega) _ (fun e => e.alive now) (fun e _ => qbdj e now), oB_s, qr5 _ _ _ (h.filter _), oB_s]
  rfl
end Go.Proofs.YtmficjbenbhneaaDoor.Dn
