/- Caches: entries, and what the program's closures answer about them. -/
import Derived.Test.YtmficjbenbhneaaDoorToLw05r
import Derived.Test.YtmficjbenbhneaaDoorToLw51n
set_option linter.all false
namespace Go.Proofs.YtmficjbenbhneaaDoor.Dn
open Go Go.Pev
set_option linter.unusedVariables false
set_option linter.unusedSimpArgs false
set_option maxRecDepth 8000
structure En where
  k : Int
  n : List UInt8
  t : Int
  l : Int
  d : List AV
  r : Int
  s : Int
  u : Int
  v : Int
def En.av (e : En) : AV := .agg [.int .i64 e.k, .str e.n, .int .i64 e.t, .int .i64 e.l, .sl 13 e.d, .int .i64 e.r, .int .i64 e.s, .int .i64 e.u, .int .i64 e.v]
def avL (L : List En) : List AV := L.map En.av
def enOf (y : AV) : En := ⟨gI y.cells 0, gS y.cells 1, gI y.cells 2, gI y.cells 3, gL y.cells 4, gI y.cells 5, gI y.cells 6, gI y.cells 7, gI y.cells 8⟩
theorem qgi (e : En) : enOf e.av = e := rfl
theorem qxf (e : En) : fitC qc e.av.cells = true := rfl
theorem q91 (e : En) : fitV (.st qc) e.av = true := rfl
theorem qgj (L : List En) : (avL L).length = L.length := by simp [avL]
theorem qbgg : avL [] = [] := rfl
theorem qbgh (L M : List En) : avL (L ++ M) = avL L ++ avL M := by simp [avL]
theorem qsm {y : AV} {L : List En} (h : y ∈ avL L) : ∃ e, e ∈ L ∧ y = e.av := by
  simp only [avL, List.mem_map] at h
  obtain ⟨e, h1, h2⟩ := h
  exact ⟨e, h1, h2.symm⟩
theorem qsn (L : List En) (i : Nat) : (avL L)[i]? = (L[i]?).map En.av := by simp [avL]
theorem qbbc (P : En → Bool) (L : List En) : (avL L).filter (fun y => P (enOf y)) = avL (L.filter P) := by
  simp only [avL, List.filter_map]
  rfl
def En.alive (e : En) (now : Int) : Bool := decide (now < e.u)
def En.about (e : En) (n : List UInt8) (t : Int) : Bool := e.n == n && e.t == t
def En.denies (e : En) (n : List UInt8) : Bool := e.k == 2 && e.n == n
def cmpI (a b : Int) : Int := if a < b then -1 else if a > b then 1 else 0
def ordE (a b : En) : Int := if cmpN a.n b.n ≠ 0 then cmpN a.n b.n else cmpI a.t b.t
def qt6 (e : En) : Prop := e.n.length ≤ 9223372036854775807
theorem qmj (e : En) (now : Int) : qbi e.k e.n e.t e.l e.d e.r e.s e.u e.v now = some (e.alive now) := by rw [qsz]; rfl
theorem qso (e : En) (n : List UInt8) (t : Int) : qcp e.k e.n e.t e.l e.d e.r e.s e.u e.v n t = some (e.about n t) := by
  rw [qs0]; rfl
theorem qpw (e : En) (n : List UInt8) : qcc e.k e.n e.t e.l e.d e.r e.s e.u e.v n = some (e.denies n) := by rw [qrt]; rfl
theorem qbgi (a : Int) : qjj a = some (a != a) := by rw [qzo]; rfl
theorem qbhr (a b : Int) : qkx a b = some (cmpI a b) := by
  rw [qvw]; unfold qfz cmpI
  simp only [qbgi, oB_s, bne_self_eq_false, cond_f]
  by_cases h1 : a < b
  · simp [h1]
  · by_cases h2 : a > b <;> simp [h1, h2]
theorem qbgj (e x : En) (he : qt6 e) (hx : qt6 x) : qrg e.k e.n e.t e.l e.d e.r e.s e.u e.v x.k x.n x.t x.l x.d x.r x.s x.u x.v = some (ordE e x) := by
  rw [q29]; unfold qjk ordE
  rw [qbbb _ _ he hx, oB_s, qbhr, oB_s]
  by_cases h : cmpN e.n x.n = 0
  · simp [h]
  · rw [if_pos h, show (cmpN e.n x.n != 0) = true from by simp [h]]; rfl
theorem qbhs (e : En) (now : Int) (n : List UInt8) (t : Int) : ap1.ap (.func ql3 [.cptr [.int .i64 now], .cptr [.str n, .int .i64 t]]) [e.av] = some (e.alive now && e.about n t) := by
  have h : ap1.ap (.func ql3 [.cptr [.int .i64 now], .cptr [.str n, .int .i64 t]]) [e.av] = oB (qyr e.k e.n e.t e.l e.d e.r e.s e.u e.v now n t) some := by kernel_rfl
  rw [h, q24]; unfold qje
  rw [qmj, oB_s, qso]
  cases e.alive now <;> rfl
theorem qbht (e : En) (now : Int) (n : List UInt8) (t : Int) : ap1.ap (.func ql4 [.cptr [.int .i64 now], .cptr [.str n, .int .i64 t]]) [e.av] = some (e.alive now && e.k == 0 && e.about n 5) := by
  have h : ap1.ap (.func ql4 [.cptr [.int .i64 now], .cptr [.str n, .int .i64 t]]) [e.av] = oB (qys e.k e.n e.t e.l e.d e.r e.s e.u e.v now n t) some := by kernel_rfl
  rw [h, q25]; unfold qjf
  rw [qmj, oB_s, qso]
  cases (e.alive now && e.k == 0) <;> rfl
theorem qbhu (e : En) (now : Int) (n : List UInt8) (t : Int) : ap1.ap (.func ql5 [.cptr [.int .i64 now], .cptr [.str n, .int .i64 t]]) [e.av] = some (e.alive now && e.denies n) := by
  have h : ap1.ap (.func ql5 [.cptr [.int .i64 now], .cptr [.str n, .int .i64 t]]) [e.av] = oB (qyt e.k e.n e.t e.l e.d e.r e.s e.u e.v now n t) some := by kernel_rfl
  rw [h, q26]; unfold qjg
  rw [qmj, oB_s, qpw]
  cases e.alive now <;> rfl
theorem qbhv (e : En) (n : List UInt8) (t l : Int) (d : List AV) : ap0.ap (.func qif [.cptr [.str n, .int .i64 t, .int .i64 l, .sl 13 d]]) [e.av] = some (e.about n t || e.denies n) := by
  have h : ap0.ap (.func qif [.cptr [.str n, .int .i64 t, .int .i64 l, .sl 13 d]]) [e.av] = oB (qyu e.k e.n e.t e.l e.d e.r e.s e.u e.v n t l d) some := by kernel_rfl
  rw [h, q27]; unfold qjh
  rw [qso, oB_s, qpw]
  cases e.about n t <;> rfl
theorem qbhw (e : En) (n : List UInt8) (t l : Int) (d : List AV) : ap1.ap (.func ql0 [.cptr [.str n, .int .i64 t, .int .i64 l, .sl 13 d]]) [e.av] = some (!e.denies n) := by
  have h : ap1.ap (.func ql0 [.cptr [.str n, .int .i64 t, .int .i64 l, .sl 13 d]]) [e.av] = oB (qyv e.k e.n e.t e.l e.d e.r e.s e.u e.v n t l d) some := by kernel_rfl
  rw [h, q28]; unfold qji
  rw [qpw]; rfl
def qcb (x : En) : AV := .func qen [.cptr [.int .i64 x.k, .str x.n, .int .i64 x.t, .int .i64 x.l, .sl 13 x.d, .int .i64 x.r, .int .i64 x.s, .int .i64 x.u, .int .i64 x.v]]
theorem q35 (e x : En) : ap0.ap (qcb x) [e.av] = some (e.about x.n x.t) := by
  have h : ap0.ap (qcb x) [e.av] = oB (quf e.k e.n e.t e.l e.d e.r e.s e.u e.v x.k x.n x.t x.l x.d x.r x.s x.u x.v) some := by kernel_rfl
  rw [h, qzm]; unfold qhm
  rw [qso]; rfl
theorem qbgk (e x : En) : ap1.ap (qcb x) [e.av] = some (e.about x.n x.t) := by
  have h : ap1.ap (qcb x) [e.av] = ap0.ap (qcb x) [e.av] := by kernel_rfl
  rw [h, q35]
theorem qbeg (e x : En) : ap1.ap (.func qjw [.cptr [.fv (qcb x)]]) [e.av] = some (!e.about x.n x.t) := by
  have h : ap1.ap (.func qjw [.cptr [.fv (qcb x)]]) [e.av] = oB (quk e.k e.n e.t e.l e.d e.r e.s e.u e.v (qcb x)) some := by kernel_rfl
  rw [h, qzs]; unfold qhs
  rw [show ap0.ap (qcb x) [.agg [.int .i64 e.k, .str e.n, .int .i64 e.t, .int .i64 e.l, .sl 13 e.d, .int .i64 e.r, .int .i64 e.s, .int .i64 e.u, .int .i64 e.v]] = some (e.about x.n x.t) from q35 e x]; rfl
theorem qbeh (e x : En) (he : qt6 e) (hx : qt6 x) : ap1.ap (.func qjx [.cptr [.int .i64 x.k, .str x.n, .int .i64 x.t, .int .i64 x.l, .sl 13 x.d, .int .i64 x.r, .int .i64 x.s, .int .i64 x.u, .int .i64 x.v]]) [e.av] = some (decide (ordE e x > 0)) := by
  have h : ap1.ap (.func qjx [.cptr [.int .i64 x.k, .str x.n, .int .i64 x.t, .int .i64 x.l, .sl 13 x.d, .int .i64 x.r, .int .i64 x.s, .int .i64 x.u, .int .i64 x.v]]) [e.av] = oB (qug e.k e.n e.t e.l e.d e.r e.s e.u e.v x.k x.n x.t x.l x.d x.r x.s x.u x.v) some := by kernel_rfl
  rw [h, qzp]; unfold qhp
  rw [qbgj e x he hx]; rfl
theorem qbei (e x : En) (now : Int) : ap1.ap (.func qjy [.cptr [.fv (qcb x)], .cptr [.int .i64 now]]) [e.av] = some (e.about x.n x.t || e.alive now) := by
  have h : ap1.ap (.func qjy [.cptr [.fv (qcb x)], .cptr [.int .i64 now]]) [e.av] = oB (qul e.k e.n e.t e.l e.d e.r e.s e.u e.v (qcb x) now) some := by kernel_rfl
  rw [h, qzt]; unfold qht
  rw [show ap0.ap (qcb x) [.agg [.int .i64 e.k, .str e.n, .int .i64 e.t, .int .i64 e.l, .sl 13 e.d, .int .i64 e.r, .int .i64 e.s, .int .i64 e.u, .int .i64 e.v]] = some (e.about x.n x.t) from q35 e x, oB_s, qmj]
  cases e.about x.n x.t <;> rfl
def qbc5 (n : List UInt8) (t : Int) : AV := .func qqj [.cptr [.str n, .int .i64 t]]
def qbc6 (n : List UInt8) (t : Int) : AV := .func qqk [.cptr [.str n, .int .i64 t]]
def qbc7 (n : List UInt8) (t : Int) : AV := .func qk1 [.cptr [.str n, .int .i64 t]]
theorem qbgl (e : En) (n : List UInt8) (t : Int) : ap0.ap (qbc5 n t) [e.av] = some (e.about n t || e.denies n) := by
  have h : ap0.ap (qbc5 n t) [e.av] = oB (qvx e.k e.n e.t e.l e.d e.r e.s e.u e.v n t) some := by kernel_rfl
  rw [h, q0v]; unfold qih
  rw [qso, oB_s, qpw]
  cases e.about n t <;> rfl
theorem qbgm (e : En) (n : List UInt8) (t : Int) : ap0.ap (qbc6 n t) [e.av] = some (e.denies n) := by
  have h : ap0.ap (qbc6 n t) [e.av] = oB (qvy e.k e.n e.t e.l e.d e.r e.s e.u e.v n t) some := by kernel_rfl
  rw [h, q0w]; unfold qii
  rw [qpw]; rfl
theorem q92 (e : En) (n : List UInt8) (t : Int) : ap0.ap (qbc7 n t) [e.av] = some (e.n == n) := by
  have h : ap0.ap (qbc7 n t) [e.av] = oB (qvz e.k e.n e.t e.l e.d e.r e.s e.u e.v n t) some := by kernel_rfl
  rw [h, q0x]; rfl
theorem qbgn (e : En) (q : AV) (b : Bool) (hq : ap0.ap q [e.av] = some b) : ap1.ap (.func qhx [.cptr [.fv q]]) [e.av] = some (!b) := by
  have h : ap1.ap (.func qhx [.cptr [.fv q]]) [e.av] = oB (qv0 e.k e.n e.t e.l e.d e.r e.s e.u e.v q) some := by kernel_rfl
  rw [h, q03]; unfold qij
  rw [show ap0.ap q [.agg [.int .i64 e.k, .str e.n, .int .i64 e.t, .int .i64 e.l, .sl 13 e.d, .int .i64 e.r, .int .i64 e.s, .int .i64 e.u, .int .i64 e.v]] = some b from hq]; rfl
theorem qbej (e : En) (now : Int) : ap1.ap (.func qj0 [.cptr [.int .i64 now]]) [e.av] = some (e.alive now) := by
  have h : ap1.ap (.func qj0 [.cptr [.int .i64 now]]) [e.av] = oB (quh e.k e.n e.t e.l e.d e.r e.s e.u e.v now) some := by kernel_rfl
  rw [h, qzq]; unfold qhq
  rw [qmj]; rfl
theorem qbek (e : En) (n : List UInt8) (he : qt6 e) (hn : n.length ≤ 9223372036854775807) : ap1.ap (.func qjz [.cptr [.str n]]) [e.av] = some (!qsl e.n n) := by
  have h : ap1.ap (.func qjz [.cptr [.str n]]) [e.av] = oB (quj e.k e.n e.t e.l e.d e.r e.s e.u e.v n) some := by kernel_rfl
  rw [h, qzr]; unfold qhr
  rw [q9y _ _ he hn]; rfl
theorem q9b (e : En) (q : AV) (now rank : Int) (b : Bool) (hq : ap0.ap q [e.av] = some b) : ap1.ap (.func qhd [.cptr [.fv q], .cptr [.int .i64 now], .cptr [.int .i64 rank]]) [e.av] = some (b && e.alive now && decide (e.r > rank)) := by
  have h : ap1.ap (.func qhd [.cptr [.fv q], .cptr [.int .i64 now], .cptr [.int .i64 rank]]) [e.av] = oB (qo2 e.k e.n e.t e.l e.d e.r e.s e.u e.v q now rank) some := by kernel_rfl
  rw [h, qu4]; unfold qe4
  rw [show ap0.ap q [.agg [.int .i64 e.k, .str e.n, .int .i64 e.t, .int .i64 e.l, .sl 13 e.d, .int .i64 e.r, .int .i64 e.s, .int .i64 e.u, .int .i64 e.v]] = some b from hq, oB_s, qmj]
  cases b <;> rfl
def fidx (P : En → Bool) : Nat → List En → Int
  | _, [] => -1
  | i, e :: L => bif P e then (i : Int) else fidx P (i + 1) L
theorem qsp (L : List En) (hL : L.length ≤ 1000000) (q : AV) (P : En → Bool) (h : ∀ e, e ∈ L → ap1.ap q [e.av] = some (P e)) : q8 (avL L) q = some (avL (L.filter P)) := by
  have hlen := qgj L
  rw [qnv]; unfold qda
  have key := qfn (avL L) (by omega) (fun n i s => qbh q (avL L) ((avL L).length : Int) (fun a0 => bif hd a0 a0.length then some a0 else none) n i s)
    (fun i s nx => qby q (avL L) ((avL L).length : Int) i s nx (fun a0 => bif hd a0 a0.length then some a0 else none)) (fun _ _ _ => rfl) (fun i s => s.length ≤ i) (fun r s => some (s ++ r.filter fun y => P (enOf y)))
    (fun s nx _ => by simp [qby])
    (fun i y r s nx h1 h2 h3 h4 h5 h6 => by
      obtain ⟨e, he, rfl⟩ := qsm (List.mem_of_getElem? h2)
      have h7 : (i : Int) < ((avL L).length : Int) := by omega
      unfold qby
      simp only [h7, decide_true, cond_t, ixB_nat, h2, oB_s, qxf e]
      rw [show ap1.ap q [.agg [.int .i64 (gI e.av.cells 0), .str (gS e.av.cells 1), .int .i64 (gI e.av.cells 2), .int .i64 (gI e.av.cells 3), .sl 13 (gL e.av.cells 4), .int .i64 (gI e.av.cells 5), .int .i64 (gI e.av.cells 6), .int .i64 (gI e.av.cells 7), .int .i64 (gI e.av.cells 8)]] = some (P e) from h e he, oB_s, h4]
      have hf : (e.av :: r).filter (fun y => P (enOf y)) = if P e then e.av :: r.filter (fun y => P (enOf y)) else r.filter (fun y => P (enOf y)) := by rw [List.filter_cons, qgi]
      rw [hf]
      cases hp : P e with
      | true =>
        have hb : (s.length + ([e.av] : List AV).length) * 96 ≤ 140737488355328 := by simp only [List.length_singleton]; omega
        have hb' : decide ((s.length + ([e.av] : List AV).length) * 96 ≤ 140737488355328) = true := by simpa using hb
        rw [cond_t, hd_self, cond_t]
        show (bif hd [e.av] ([e.av].length) then (bif decide ((s.length + ([e.av] : List AV).length) * 96 ≤ 140737488355328) then nx ((i + 1 : Nat) : Int) (s ++ [e.av]) else none) else none) = _
        rw [hd_self, cond_t, hb', cond_t, h6 _ (by simp; omega)]
        simp
      | false =>
        rw [cond_f, h6 _ (by omega)]
        simp)
    [] FU (Nat.le_refl _) (qff (by omega))
  rw [ql1]
  show qbh q (avL L) ((avL L).length : Int) (fun a0 => bif hd a0 a0.length then some a0 else none) FU 0 [] = _
  rw [key, qbbc]; rfl
theorem qsq (L : List En) (hL : L.length ≤ 1000000) (q : AV) (P : En → Bool) (h : ∀ e, e ∈ L → ap1.ap q [e.av] = some (P e)) : qbk (avL L) q = some (fidx P 0 L) := by
  have hlen := qgj L
  rw [qnk]; unfold qc4
  rw [qll, q34 (avL L) (by omega) (qbt q (avL L) ((avL L).length : Int) fun _ => some (-1)) (fun i nx => qbs q (avL L) ((avL L).length : Int) i nx fun _ => some (-1)) (fun _ _ => rfl) (fun i r => some (fidx P i (r.map enOf)))]
  · rw [show (avL L).map enOf = L by simp [avL, Function.comp_def, qgi]]
  · intro nx; simp [qbs, fidx]
  · intro i y r nx h1 h2 h3 h4 h5
    obtain ⟨e, he, rfl⟩ := qsm (List.mem_of_getElem? h2)
    have h7 : (i : Int) < ((avL L).length : Int) := by omega
    unfold qbs
    simp only [h7, decide_true, cond_t, ixB_nat, h2, oB_s, qxf e, List.map_cons, qgi, fidx]
    rw [show ap1.ap q [.agg [.int .i64 (gI e.av.cells 0), .str (gS e.av.cells 1), .int .i64 (gI e.av.cells 2), .int .i64 (gI e.av.cells 3), .sl 13 (gL e.av.cells 4), .int .i64 (gI e.av.cells 5), .int .i64 (gI e.av.cells 6), .int .i64 (gI e.av.cells 7), .int .i64 (gI e.av.cells 8)]] = some (P e) from h e he, oB_s, h4, h5]
    cases P e <;> rfl
def qsr (e : En) : Prop := e.d.length ≤ 1000000
theorem qbbd (e : En) (h : qsr e) : qe6 e.k e.n e.t e.l e.d e.r e.s e.u e.v = some e.av := by
  rw [q6n]; unfold qmo qem q2f
  unfold qsr at h
  have hb : decide (e.d.length * 128 ≤ 140737488355328) = true := by simp; omega
  rw [hb]; rfl
theorem qbc8 (most : Int) (l : List AV) (L : List En) (hL : L.length ≤ 1000000) (hd0 : ∀ e, e ∈ L → qsr e) : qbf most l (avL L) = some (.agg [.int .i64 most, .fr true 9 (avL L)]) := by
  have hlen := qgj L
  rw [qu5]; unfold qe7
  have key := qfn (avL L) (by omega) (fun n i s => qb9 (avL L) ((avL L).length : Int) most l 0 (fun a2 => bif hd a2 a2.length then some (.agg [.int .i64 most, .fr true 9 a2]) else none) n i s)
    (fun i s nx => qc1 (avL L) ((avL L).length : Int) i most l 0 s nx (fun a2 => bif hd a2 a2.length then some (.agg [.int .i64 most, .fr true 9 a2]) else none)) (fun _ _ _ => rfl) (fun i s => s.length ≤ i) (fun r s => some (.agg [.int .i64 most, .fr true 9 (s ++ r)]))
    (fun s nx _ => by simp [qc1])
    (fun i y r s nx h1 h2 h3 h4 h5 h6 => by
      obtain ⟨e, he, rfl⟩ := qsm (List.mem_of_getElem? h2)
      have h7 : (i : Int) < ((avL L).length : Int) := by omega
      unfold qc1
      simp only [h7, decide_true, cond_t, ixB_nat, h2, oB_s, qxf e]
      rw [show qe6 (gI e.av.cells 0) (gS e.av.cells 1) (gI e.av.cells 2) (gI e.av.cells 3) (gL e.av.cells 4) (gI e.av.cells 5) (gI e.av.cells 6) (gI e.av.cells 7) (gI e.av.cells 8) = some e.av from qbbd e (hd0 e he), oB_s, h4, hd_self, cond_t]
      have hb' : decide ((s.length + ([e.av] : List AV).length) * 96 ≤ 140737488355328) = true := by simp; omega
      show (bif hd [e.av] ([e.av].length) then (bif decide ((s.length + ([e.av] : List AV).length) * 96 ≤ 140737488355328) then nx ((i + 1 : Nat) : Int) (s ++ [e.av]) else none) else none) = _
      rw [hd_self, cond_t, hb', cond_t, h6 _ (by simp; omega)]
      simp)
    [] FU (Nat.le_refl _) (qff (by omega))
  have hb : decide (0 ≤ (0 : Int) ∧ (0 : Int) ≤ ((avL L).length : Int) ∧ ((avL L).length : Int) * 96 ≤ 281474976710656) = true := by simp; omega
  rw [qri, hb]
  show qb9 (avL L) ((avL L).length : Int) most l 0 (fun a2 => bif hd a2 a2.length then some (.agg [.int .i64 most, .fr true 9 a2]) else none) FU 0 [] = _
  rw [key]; rfl
end Go.Proofs.YtmficjbenbhneaaDoor.Dn
