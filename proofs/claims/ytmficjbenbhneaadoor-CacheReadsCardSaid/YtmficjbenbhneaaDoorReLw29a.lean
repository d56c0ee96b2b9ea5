/- Caches: entries, and what the program's closures answer about them. -/
import Derived.Test.YtmficjbenbhneaaDoorReLw05r
import Derived.Test.YtmficjbenbhneaaDoorReLw51n
set_option linter.all false
namespace Go.Proofs.YtmficjbenbhneaaDoor.Dn
open Go Go.Pev
set_option linter.unusedVariables false
set_option linter.unusedSimpArgs false
set_option maxRecDepth 8000
structure En where
  k : Int
  n : List UInt8
  t : Int
  l : Int
  d : List AV
  r : Int
  s : Int
  u : Int
  v : Int
def En.av (e : En) : AV := .agg [.int .i64 e.k, .str e.n, .int .i64 e.t, .int .i64 e.l, .sl 13 e.d, .int .i64 e.r, .int .i64 e.s, .int .i64 e.u, .int .i64 e.v]
def avL (L : List En) : List AV := L.map En.av
def enOf (y : AV) : En := ⟨gI y.cells 0, gS y.cells 1, gI y.cells 2, gI y.cells 3, gL y.cells 4, gI y.cells 5, gI y.cells 6, gI y.cells 7, gI y.cells 8⟩
theorem qej (e : En) : enOf e.av = e := rfl
theorem qr3 (e : En) : fitC qc e.av.cells = true := rfl
theorem q9i (e : En) : fitV (.st qc) e.av = true := rfl
theorem qex (L : List En) : (avL L).length = L.length := by simp [avL]
theorem qbfz : avL [] = [] := rfl
theorem qbf0 (L M : List En) : avL (L ++ M) = avL L ++ avL M := by simp [avL]
theorem qoa {y : AV} {L : List En} (h : y ∈ avL L) : ∃ e, e ∈ L ∧ y = e.av := by
  simp only [avL, List.mem_map] at h
  obtain ⟨e, h1, h2⟩ := h
  exact ⟨e, h1, h2.symm⟩
theorem qr4 (L : List En) (i : Nat) : (avL L)[i]? = (L[i]?).map En.av := by simp [avL]
theorem qbau (P : En → Bool) (L : List En) : (avL L).filter (fun y => P (enOf y)) = avL (L.filter P) := by
  simp only [avL, List.filter_map]
  rfl
def En.alive (e : En) (now : Int) : Bool := decide (now < e.u)
def En.about (e : En) (n : List UInt8) (t : Int) : Bool := e.n == n && e.t == t
def En.denies (e : En) (n : List UInt8) : Bool := e.k == 2 && e.n == n
def cmpI (a b : Int) : Int := if a < b then -1 else if a > b then 1 else 0
def ordE (a b : En) : Int := if cmpN a.n b.n ≠ 0 then cmpN a.n b.n else cmpI a.t b.t
def qtp (e : En) : Prop := e.n.length ≤ 9223372036854775807
theorem qmb (e : En) (now : Int) : qbf e.k e.n e.t e.l e.d e.r e.s e.u e.v now = some (e.alive now) := by rw [qsi]; rfl
theorem qr5 (e : En) (n : List UInt8) (t : Int) : qcm e.k e.n e.t e.l e.d e.r e.s e.u e.v n t = some (e.about n t) := by
  rw [qsj]; rfl
theorem qpe (e : En) (n : List UInt8) : qcc e.k e.n e.t e.l e.d e.r e.s e.u e.v n = some (e.denies n) := by rw [qra]; rfl
theorem qbf1 (a : Int) : qi9 a = some (a != a) := by rw [qy8]; rfl
theorem qbha (a b : Int) : qko a b = some (cmpI a b) := by
  rw [qvf]; unfold qfw cmpI
  simp only [qbf1, oB_s, bne_self_eq_false, cond_f]
  by_cases h1 : a < b
  · simp [h1]
  · by_cases h2 : a > b <;> simp [h1, h2]
theorem qbf2 (e x : En) (he : qtp e) (hx : qtp x) : qqw e.k e.n e.t e.l e.d e.r e.s e.u e.v x.k x.n x.t x.l x.d x.r x.s x.u x.v = some (ordE e x) := by
  rw [q2u]; unfold qja ordE
  rw [qbat _ _ he hx, oB_s, qbha, oB_s]
  by_cases h : cmpN e.n x.n = 0
  · simp [h]
  · rw [if_pos h, show (cmpN e.n x.n != 0) = true from by simp [h]]; rfl
theorem qbhb (e : En) (now : Int) (n : List UInt8) (t : Int) : ap1.ap (.func qlv [.cptr [.int .i64 now], .cptr [.str n, .int .i64 t]]) [e.av] = some (e.alive now && e.about n t) := by
  have h : ap1.ap (.func qlv [.cptr [.int .i64 now], .cptr [.str n, .int .i64 t]]) [e.av] = oB (qya e.k e.n e.t e.l e.d e.r e.s e.u e.v now n t) some := by kernel_rfl
  rw [h, q2p]; unfold qi4
  rw [qmb, oB_s, qr5]
  cases e.alive now <;> rfl
theorem qbhc (e : En) (now : Int) (n : List UInt8) (t : Int) : ap1.ap (.func qlw [.cptr [.int .i64 now], .cptr [.str n, .int .i64 t]]) [e.av] = some (e.alive now && e.k == 0 && e.about n 5) := by
  have h : ap1.ap (.func qlw [.cptr [.int .i64 now], .cptr [.str n, .int .i64 t]]) [e.av] = oB (qyb e.k e.n e.t e.l e.d e.r e.s e.u e.v now n t) some := by kernel_rfl
  rw [h, q2q]; unfold qi5
  rw [qmb, oB_s, qr5]
  cases (e.alive now && e.k == 0) <;> rfl
theorem qbhd (e : En) (now : Int) (n : List UInt8) (t : Int) : ap1.ap (.func qlx [.cptr [.int .i64 now], .cptr [.str n, .int .i64 t]]) [e.av] = some (e.alive now && e.denies n) := by
  have h : ap1.ap (.func qlx [.cptr [.int .i64 now], .cptr [.str n, .int .i64 t]]) [e.av] = oB (qyc e.k e.n e.t e.l e.d e.r e.s e.u e.v now n t) some := by kernel_rfl
  rw [h, q2r]; unfold qi6
  rw [qmb, oB_s, qpe]
  cases e.alive now <;> rfl
theorem qbhe (e : En) (n : List UInt8) (t l : Int) (d : List AV) : ap0.ap (.func qh8 [.cptr [.str n, .int .i64 t, .int .i64 l, .sl 13 d]]) [e.av] = some (e.about n t || e.denies n) := by
  have h : ap0.ap (.func qh8 [.cptr [.str n, .int .i64 t, .int .i64 l, .sl 13 d]]) [e.av] = oB (qyd e.k e.n e.t e.l e.d e.r e.s e.u e.v n t l d) some := by kernel_rfl
  rw [h, q2s]; unfold qi7
  rw [qr5, oB_s, qpe]
  cases e.about n t <;> rfl
theorem qbhf (e : En) (n : List UInt8) (t l : Int) (d : List AV) : ap1.ap (.func qls [.cptr [.str n, .int .i64 t, .int .i64 l, .sl 13 d]]) [e.av] = some (!e.denies n) := by
  have h : ap1.ap (.func qls [.cptr [.str n, .int .i64 t, .int .i64 l, .sl 13 d]]) [e.av] = oB (qye e.k e.n e.t e.l e.d e.r e.s e.u e.v n t l d) some := by kernel_rfl
  rw [h, q2t]; unfold qi8
  rw [qpe]; rfl
def qcb (x : En) : AV := .func qel [.cptr [.int .i64 x.k, .str x.n, .int .i64 x.t, .int .i64 x.l, .sl 13 x.d, .int .i64 x.r, .int .i64 x.s, .int .i64 x.u, .int .i64 x.v]]
theorem q3r (e x : En) : ap0.ap (qcb x) [e.av] = some (e.about x.n x.t) := by
  have h : ap0.ap (qcb x) [e.av] = oB (qty e.k e.n e.t e.l e.d e.r e.s e.u e.v x.k x.n x.t x.l x.d x.r x.s x.u x.v) some := by kernel_rfl
  rw [h, qy6]; unfold qhg
  rw [qr5]; rfl
theorem qbf3 (e x : En) : ap1.ap (qcb x) [e.av] = some (e.about x.n x.t) := by
  have h : ap1.ap (qcb x) [e.av] = ap0.ap (qcb x) [e.av] := by kernel_rfl
  rw [h, q3r]
theorem qbdw (e x : En) : ap1.ap (.func qjm [.cptr [.fv (qcb x)]]) [e.av] = some (!e.about x.n x.t) := by
  have h : ap1.ap (.func qjm [.cptr [.fv (qcb x)]]) [e.av] = oB (qt3 e.k e.n e.t e.l e.d e.r e.s e.u e.v (qcb x)) some := by kernel_rfl
  rw [h, qzc]; unfold qhm
  rw [show ap0.ap (qcb x) [.agg [.int .i64 e.k, .str e.n, .int .i64 e.t, .int .i64 e.l, .sl 13 e.d, .int .i64 e.r, .int .i64 e.s, .int .i64 e.u, .int .i64 e.v]] = some (e.about x.n x.t) from q3r e x]; rfl
theorem qbdx (e x : En) (he : qtp e) (hx : qtp x) : ap1.ap (.func qjn [.cptr [.int .i64 x.k, .str x.n, .int .i64 x.t, .int .i64 x.l, .sl 13 x.d, .int .i64 x.r, .int .i64 x.s, .int .i64 x.u, .int .i64 x.v]]) [e.av] = some (decide (ordE e x > 0)) := by
  have h : ap1.ap (.func qjn [.cptr [.int .i64 x.k, .str x.n, .int .i64 x.t, .int .i64 x.l, .sl 13 x.d, .int .i64 x.r, .int .i64 x.s, .int .i64 x.u, .int .i64 x.v]]) [e.av] = oB (qtz e.k e.n e.t e.l e.d e.r e.s e.u e.v x.k x.n x.t x.l x.d x.r x.s x.u x.v) some := by kernel_rfl
  rw [h, qy9]; unfold qhj
  rw [qbf2 e x he hx]; rfl
theorem qbdy (e x : En) (now : Int) : ap1.ap (.func qjo [.cptr [.fv (qcb x)], .cptr [.int .i64 now]]) [e.av] = some (e.about x.n x.t || e.alive now) := by
  have h : ap1.ap (.func qjo [.cptr [.fv (qcb x)], .cptr [.int .i64 now]]) [e.av] = oB (qt4 e.k e.n e.t e.l e.d e.r e.s e.u e.v (qcb x) now) some := by kernel_rfl
  rw [h, qzd]; unfold qhn
  rw [show ap0.ap (qcb x) [.agg [.int .i64 e.k, .str e.n, .int .i64 e.t, .int .i64 e.l, .sl 13 e.d, .int .i64 e.r, .int .i64 e.s, .int .i64 e.u, .int .i64 e.v]] = some (e.about x.n x.t) from q3r e x, oB_s, qmb]
  cases e.about x.n x.t <;> rfl
def qbcm (n : List UInt8) (t : Int) : AV := .func qp2 [.cptr [.str n, .int .i64 t]]
def qbcn (n : List UInt8) (t : Int) : AV := .func qp3 [.cptr [.str n, .int .i64 t]]
def qbco (n : List UInt8) (t : Int) : AV := .func qkt [.cptr [.str n, .int .i64 t]]
theorem qbf4 (e : En) (n : List UInt8) (t : Int) : ap0.ap (qbcm n t) [e.av] = some (e.about n t || e.denies n) := by
  have h : ap0.ap (qbcm n t) [e.av] = oB (qvg e.k e.n e.t e.l e.d e.r e.s e.u e.v n t) some := by kernel_rfl
  rw [h, q0i]; unfold qia
  rw [qr5, oB_s, qpe]
  cases e.about n t <;> rfl
theorem qbf5 (e : En) (n : List UInt8) (t : Int) : ap0.ap (qbcn n t) [e.av] = some (e.denies n) := by
  have h : ap0.ap (qbcn n t) [e.av] = oB (qvh e.k e.n e.t e.l e.d e.r e.s e.u e.v n t) some := by kernel_rfl
  rw [h, q0j]; unfold qib
  rw [qpe]; rfl
theorem q9j (e : En) (n : List UInt8) (t : Int) : ap0.ap (qbco n t) [e.av] = some (e.n == n) := by
  have h : ap0.ap (qbco n t) [e.av] = oB (qvi e.k e.n e.t e.l e.d e.r e.s e.u e.v n t) some := by kernel_rfl
  rw [h, q0k]; rfl
theorem qbf6 (e : En) (q : AV) (b : Bool) (hq : ap0.ap q [e.av] = some b) : ap1.ap (.func qhr [.cptr [.fv q]]) [e.av] = some (!b) := by
  have h : ap1.ap (.func qhr [.cptr [.fv q]]) [e.av] = oB (qvj e.k e.n e.t e.l e.d e.r e.s e.u e.v q) some := by kernel_rfl
  rw [h, q0q]; unfold qic
  rw [show ap0.ap q [.agg [.int .i64 e.k, .str e.n, .int .i64 e.t, .int .i64 e.l, .sl 13 e.d, .int .i64 e.r, .int .i64 e.s, .int .i64 e.u, .int .i64 e.v]] = some b from hq]; rfl
theorem qbdz (e : En) (now : Int) : ap1.ap (.func qjq [.cptr [.int .i64 now]]) [e.av] = some (e.alive now) := by
  have h : ap1.ap (.func qjq [.cptr [.int .i64 now]]) [e.av] = oB (qt0 e.k e.n e.t e.l e.d e.r e.s e.u e.v now) some := by kernel_rfl
  rw [h, qza]; unfold qhk
  rw [qmb]; rfl
theorem qbd0 (e : En) (n : List UInt8) (he : qtp e) (hn : n.length ≤ 9223372036854775807) : ap1.ap (.func qjp [.cptr [.str n]]) [e.av] = some (!qr2 e.n n) := by
  have h : ap1.ap (.func qjp [.cptr [.str n]]) [e.av] = oB (qt2 e.k e.n e.t e.l e.d e.r e.s e.u e.v n) some := by kernel_rfl
  rw [h, qzb]; unfold qhl
  rw [q9f _ _ he hn]; rfl
theorem q8q (e : En) (q : AV) (now rank : Int) (b : Bool) (hq : ap0.ap q [e.av] = some b) : ap1.ap (.func qg7 [.cptr [.fv q], .cptr [.int .i64 now], .cptr [.int .i64 rank]]) [e.av] = some (b && e.alive now && decide (e.r > rank)) := by
  have h : ap1.ap (.func qg7 [.cptr [.fv q], .cptr [.int .i64 now], .cptr [.int .i64 rank]]) [e.av] = oB (qom e.k e.n e.t e.l e.d e.r e.s e.u e.v q now rank) some := by kernel_rfl
  rw [h, qum]; unfold qe4
  rw [show ap0.ap q [.agg [.int .i64 e.k, .str e.n, .int .i64 e.t, .int .i64 e.l, .sl 13 e.d, .int .i64 e.r, .int .i64 e.s, .int .i64 e.u, .int .i64 e.v]] = some b from hq, oB_s, qmb]
  cases b <;> rfl
def fidx (P : En → Bool) : Nat → List En → Int
  | _, [] => -1
  | i, e :: L => bif P e then (i : Int) else fidx P (i + 1) L
theorem qr6 (L : List En) (hL : L.length ≤ 1000000) (q : AV) (P : En → Bool) (h : ∀ e, e ∈ L → ap1.ap q [e.av] = some (P e)) : qx (avL L) q = some (avL (L.filter P)) := by
  have hlen := qex L
  rw [qnr]; unfold qc9
  have key := qfk (avL L) (by omega) (fun n i s => qbe q (avL L) ((avL L).length : Int) (fun a0 => bif hd a0 a0.length then some a0 else none) n i s)
    (fun i s nx => qbv q (avL L) ((avL L).length : Int) i s nx (fun a0 => bif hd a0 a0.length then some a0 else none)) (fun _ _ _ => rfl) (fun i s => s.length ≤ i) (fun r s => some (s ++ r.filter fun y => P (enOf y)))
    (fun s nx _ => by simp [qbv])
    (fun i y r s nx h1 h2 h3 h4 h5 h6 => by
      obtain ⟨e, he, rfl⟩ := qoa (List.mem_of_getElem? h2)
      have h7 : (i : Int) < ((avL L).length : Int) := by omega
      unfold qbv
      simp only [h7, decide_true, cond_t, ixB_nat, h2, oB_s, qr3 e]
      rw [show ap1.ap q [.agg [.int .i64 (gI e.av.cells 0), .str (gS e.av.cells 1), .int .i64 (gI e.av.cells 2), .int .i64 (gI e.av.cells 3), .sl 13 (gL e.av.cells 4), .int .i64 (gI e.av.cells 5), .int .i64 (gI e.av.cells 6), .int .i64 (gI e.av.cells 7), .int .i64 (gI e.av.cells 8)]] = some (P e) from h e he, oB_s, h4]
      have hf : (e.av :: r).filter (fun y => P (enOf y)) = if P e then e.av :: r.filter (fun y => P (enOf y)) else r.filter (fun y => P (enOf y)) := by rw [List.filter_cons, qej]
      rw [hf]
      cases hp : P e with
      | true =>
        have hb : (s.length + ([e.av] : List AV).length) * 96 ≤ 140737488355328 := by simp only [List.length_singleton]; omega
        have hb' : decide ((s.length + ([e.av] : List AV).length) * 96 ≤ 140737488355328) = true := by simpa using hb
        rw [cond_t, hd_self, cond_t]
        show (bif hd [e.av] ([e.av].length) then (bif decide ((s.length + ([e.av] : List AV).length) * 96 ≤ 140737488355328) then nx ((i + 1 : Nat) : Int) (s ++ [e.av]) else none) else none) = _
        rw [hd_self, cond_t, hb', cond_t, h6 _ (by simp; omega)]
        simp
      | false =>
        rw [cond_f, h6 _ (by omega)]
        simp)
    [] FU (Nat.le_refl _) (qfd (by omega))
  rw [qlt]
  show qbe q (avL L) ((avL L).length : Int) (fun a0 => bif hd a0 a0.length then some a0 else none) FU 0 [] = _
  rw [key, qbau]; rfl
theorem qr7 (L : List En) (hL : L.length ≤ 1000000) (q : AV) (P : En → Bool) (h : ∀ e, e ∈ L → ap1.ap q [e.av] = some (P e)) : qbh (avL L) q = some (fidx P 0 L) := by
  have hlen := qex L
  rw [qnc]; unfold qc2
  rw [qld, q3q (avL L) (by omega) (qbp q (avL L) ((avL L).length : Int) fun _ => some (-1)) (fun i nx => qbo q (avL L) ((avL L).length : Int) i nx fun _ => some (-1)) (fun _ _ => rfl) (fun i r => some (fidx P i (r.map enOf)))]
  · rw [show (avL L).map enOf = L by simp [avL, Function.comp_def, qej]]
  · intro nx; simp [qbo, fidx]
  · intro i y r nx h1 h2 h3 h4 h5
    obtain ⟨e, he, rfl⟩ := qoa (List.mem_of_getElem? h2)
    have h7 : (i : Int) < ((avL L).length : Int) := by omega
    unfold qbo
    simp only [h7, decide_true, cond_t, ixB_nat, h2, oB_s, qr3 e, List.map_cons, qej, fidx]
    rw [show ap1.ap q [.agg [.int .i64 (gI e.av.cells 0), .str (gS e.av.cells 1), .int .i64 (gI e.av.cells 2), .int .i64 (gI e.av.cells 3), .sl 13 (gL e.av.cells 4), .int .i64 (gI e.av.cells 5), .int .i64 (gI e.av.cells 6), .int .i64 (gI e.av.cells 7), .int .i64 (gI e.av.cells 8)]] = some (P e) from h e he, oB_s, h4, h5]
    cases P e <;> rfl
def qr8 (e : En) : Prop := e.d.length ≤ 1000000
theorem qbav (e : En) (h : qr8 e) : qe6 e.k e.n e.t e.l e.d e.r e.s e.u e.v = some e.av := by
  rw [q54]; unfold qmh qek q12
  unfold qr8 at h
  have hb : decide (e.d.length * 128 ≤ 140737488355328) = true := by simp; omega
  rw [hb]; rfl
theorem qbcp (most : Int) (l : List AV) (L : List En) (hL : L.length ≤ 1000000) (hd0 : ∀ e, e ∈ L → qr8 e) : qbc most l (avL L) = some (.agg [.int .i64 most, .fr true 9 (avL L)]) := by
  have hlen := qex L
  rw [qun]; unfold qe7
  have key := qfk (avL L) (by omega) (fun n i s => qb9 (avL L) ((avL L).length : Int) most l 0 (fun a2 => bif hd a2 a2.length then some (.agg [.int .i64 most, .fr true 9 a2]) else none) n i s)
    (fun i s nx => qcy (avL L) ((avL L).length : Int) i most l 0 s nx (fun a2 => bif hd a2 a2.length then some (.agg [.int .i64 most, .fr true 9 a2]) else none)) (fun _ _ _ => rfl) (fun i s => s.length ≤ i) (fun r s => some (.agg [.int .i64 most, .fr true 9 (s ++ r)]))
    (fun s nx _ => by simp [qcy])
    (fun i y r s nx h1 h2 h3 h4 h5 h6 => by
      obtain ⟨e, he, rfl⟩ := qoa (List.mem_of_getElem? h2)
      have h7 : (i : Int) < ((avL L).length : Int) := by omega
      unfold qcy
      simp only [h7, decide_true, cond_t, ixB_nat, h2, oB_s, qr3 e]
      rw [show qe6 (gI e.av.cells 0) (gS e.av.cells 1) (gI e.av.cells 2) (gI e.av.cells 3) (gL e.av.cells 4) (gI e.av.cells 5) (gI e.av.cells 6) (gI e.av.cells 7) (gI e.av.cells 8) = some e.av from qbav e (hd0 e he), oB_s, h4, hd_self, cond_t]
      have hb' : decide ((s.length + ([e.av] : List AV).length) * 96 ≤ 140737488355328) = true := by simp; omega
      show (bif hd [e.av] ([e.av].length) then (bif decide ((s.length + ([e.av] : List AV).length) * 96 ≤ 140737488355328) then nx ((i + 1 : Nat) : Int) (s ++ [e.av]) else none) else none) = _
      rw [hd_self, cond_t, hb', cond_t, h6 _ (by simp; omega)]
      simp)
    [] FU (Nat.le_refl _) (qfd (by omega))
  have hb : decide (0 ≤ (0 : Int) ∧ (0 : Int) ≤ ((avL L).length : Int) ∧ ((avL L).length : Int) * 96 ≤ 281474976710656) = true := by simp; omega
  rw [qqy, hb]
  show qb9 (avL L) ((avL L).length : Int) most l 0 (fun a2 => bif hd a2 a2.length then some (.agg [.int .i64 most, .fr true 9 a2]) else none) FU 0 [] = _
  rw [key]; rfl
end Go.Proofs.YtmficjbenbhneaaDoor.Dn
