/- Caches: entries, and what the program's closures answer about them. -/
import Derived.Test.YtmficjbenbhneaaDoorPuLw05r
import Derived.Test.YtmficjbenbhneaaDoorPuLw51n
set_option linter.all false
namespace Go.Proofs.YtmficjbenbhneaaDoor.Dn
open Go Go.Pev
set_option linter.unusedVariables false
set_option linter.unusedSimpArgs false
set_option maxRecDepth 8000
structure En where
  k : Int
  n : List UInt8
  t : Int
  l : Int
  d : List AV
  r : Int
  s : Int
  u : Int
  v : Int
def En.av (e : En) : AV := .agg [.int .i64 e.k, .str e.n, .int .i64 e.t, .int .i64 e.l, .sl 13 e.d, .int .i64 e.r, .int .i64 e.s, .int .i64 e.u, .int .i64 e.v]
def avL (L : List En) : List AV := L.map En.av
def enOf (y : AV) : En := ⟨gI y.cells 0, gS y.cells 1, gI y.cells 2, gI y.cells 3, gL y.cells 4, gI y.cells 5, gI y.cells 6, gI y.cells 7, gI y.cells 8⟩
theorem qer (e : En) : enOf e.av = e := rfl
theorem qso (e : En) : fitC qc e.av.cells = true := rfl
theorem q90 (e : En) : fitV (.st qc) e.av = true := rfl
theorem qes (L : List En) : (avL L).length = L.length := by simp [avL]
theorem qbgh : avL [] = [] := rfl
theorem qbgi (L M : List En) : avL (L ++ M) = avL L ++ avL M := by simp [avL]
theorem qow {y : AV} {L : List En} (h : y ∈ avL L) : ∃ e, e ∈ L ∧ y = e.av := by
  simp only [avL, List.mem_map] at h
  obtain ⟨e, h1, h2⟩ := h
  exact ⟨e, h1, h2.symm⟩
theorem qml (L : List En) (i : Nat) : (avL L)[i]? = (L[i]?).map En.av := by simp [avL]
theorem qba9 (P : En → Bool) (L : List En) : (avL L).filter (fun y => P (enOf y)) = avL (L.filter P) := by
  simp only [avL, List.filter_map]
  rfl
def En.alive (e : En) (now : Int) : Bool := decide (now < e.u)
def En.about (e : En) (n : List UInt8) (t : Int) : Bool := e.n == n && e.t == t
def En.denies (e : En) (n : List UInt8) : Bool := e.k == 2 && e.n == n
def cmpI (a b : Int) : Int := if a < b then -1 else if a > b then 1 else 0
def ordE (a b : En) : Int := if cmpN a.n b.n ≠ 0 then cmpN a.n b.n else cmpI a.t b.t
def qua (e : En) : Prop := e.n.length ≤ 9223372036854775807
theorem qmm (e : En) (now : Int) : qbh e.k e.n e.t e.l e.d e.r e.s e.u e.v now = some (e.alive now) := by rw [qs3]; rfl
theorem qsp (e : En) (n : List UInt8) (t : Int) : qcp e.k e.n e.t e.l e.d e.r e.s e.u e.v n t = some (e.about n t) := by
  rw [qs4]; rfl
theorem qpz (e : En) (n : List UInt8) : qcf e.k e.n e.t e.l e.d e.r e.s e.u e.v n = some (e.denies n) := by rw [qrx]; rfl
theorem qbgj (a : Int) : qjh a = some (a != a) := by rw [qzo]; rfl
theorem qbhs (a b : Int) : qkw a b = some (cmpI a b) := by
  rw [qvy]; unfold qf7 cmpI
  simp only [qbgj, oB_s, bne_self_eq_false, cond_f]
  by_cases h1 : a < b
  · simp [h1]
  · by_cases h2 : a > b <;> simp [h1, h2]
theorem qbgk (e x : En) (he : qua e) (hx : qua x) : qrj e.k e.n e.t e.l e.d e.r e.s e.u e.v x.k x.n x.t x.l x.d x.r x.s x.u x.v = some (ordE e x) := by
  rw [q3a]; unfold qji ordE
  rw [qba8 _ _ he hx, oB_s, qbhs, oB_s]
  by_cases h : cmpN e.n x.n = 0
  · simp [h]
  · rw [if_pos h, show (cmpN e.n x.n != 0) = true from by simp [h]]; rfl
theorem qbht (e : En) (now : Int) (n : List UInt8) (t : Int) : ap1.ap (.func ql4 [.cptr [.int .i64 now], .cptr [.str n, .int .i64 t]]) [e.av] = some (e.alive now && e.about n t) := by
  have h : ap1.ap (.func ql4 [.cptr [.int .i64 now], .cptr [.str n, .int .i64 t]]) [e.av] = oB (qyr e.k e.n e.t e.l e.d e.r e.s e.u e.v now n t) some := by kernel_rfl
  rw [h, q25]; unfold qjc
  rw [qmm, oB_s, qsp]
  cases e.alive now <;> rfl
theorem qbhu (e : En) (now : Int) (n : List UInt8) (t : Int) : ap1.ap (.func ql5 [.cptr [.int .i64 now], .cptr [.str n, .int .i64 t]]) [e.av] = some (e.alive now && e.k == 0 && e.about n 5) := by
  have h : ap1.ap (.func ql5 [.cptr [.int .i64 now], .cptr [.str n, .int .i64 t]]) [e.av] = oB (qys e.k e.n e.t e.l e.d e.r e.s e.u e.v now n t) some := by kernel_rfl
  rw [h, q26]; unfold qjd
  rw [qmm, oB_s, qsp]
  cases (e.alive now && e.k == 0) <;> rfl
theorem qbhv (e : En) (now : Int) (n : List UInt8) (t : Int) : ap1.ap (.func ql6 [.cptr [.int .i64 now], .cptr [.str n, .int .i64 t]]) [e.av] = some (e.alive now && e.denies n) := by
  have h : ap1.ap (.func ql6 [.cptr [.int .i64 now], .cptr [.str n, .int .i64 t]]) [e.av] = oB (qyt e.k e.n e.t e.l e.d e.r e.s e.u e.v now n t) some := by kernel_rfl
  rw [h, q27]; unfold qje
  rw [qmm, oB_s, qpz]
  cases e.alive now <;> rfl
theorem qbhw (e : En) (n : List UInt8) (t l : Int) (d : List AV) : ap0.ap (.func qij [.cptr [.str n, .int .i64 t, .int .i64 l, .sl 13 d]]) [e.av] = some (e.about n t || e.denies n) := by
  have h : ap0.ap (.func qij [.cptr [.str n, .int .i64 t, .int .i64 l, .sl 13 d]]) [e.av] = oB (qyu e.k e.n e.t e.l e.d e.r e.s e.u e.v n t l d) some := by kernel_rfl
  rw [h, q28]; unfold qjf
  rw [qsp, oB_s, qpz]
  cases e.about n t <;> rfl
theorem qbhx (e : En) (n : List UInt8) (t l : Int) (d : List AV) : ap1.ap (.func ql1 [.cptr [.str n, .int .i64 t, .int .i64 l, .sl 13 d]]) [e.av] = some (!e.denies n) := by
  have h : ap1.ap (.func ql1 [.cptr [.str n, .int .i64 t, .int .i64 l, .sl 13 d]]) [e.av] = oB (qyv e.k e.n e.t e.l e.d e.r e.s e.u e.v n t l d) some := by kernel_rfl
  rw [h, q29]; unfold qjg
  rw [qpz]; rfl
def qcd (x : En) : AV := .func qeu [.cptr [.int .i64 x.k, .str x.n, .int .i64 x.t, .int .i64 x.l, .sl 13 x.d, .int .i64 x.r, .int .i64 x.s, .int .i64 x.u, .int .i64 x.v]]
theorem q37 (e x : En) : ap0.ap (qcd x) [e.av] = some (e.about x.n x.t) := by
  have h : ap0.ap (qcd x) [e.av] = oB (quk e.k e.n e.t e.l e.d e.r e.s e.u e.v x.k x.n x.t x.l x.d x.r x.s x.u x.v) some := by kernel_rfl
  rw [h, qzm]; unfold qhq
  rw [qsp]; rfl
theorem qbgl (e x : En) : ap1.ap (qcd x) [e.av] = some (e.about x.n x.t) := by
  have h : ap1.ap (qcd x) [e.av] = ap0.ap (qcd x) [e.av] := by kernel_rfl
  rw [h, q37]
theorem qbed (e x : En) : ap1.ap (.func qju [.cptr [.fv (qcd x)]]) [e.av] = some (!e.about x.n x.t) := by
  have h : ap1.ap (.func qju [.cptr [.fv (qcd x)]]) [e.av] = oB (qup e.k e.n e.t e.l e.d e.r e.s e.u e.v (qcd x)) some := by kernel_rfl
  rw [h, qzs]; unfold qhw
  rw [show ap0.ap (qcd x) [.agg [.int .i64 e.k, .str e.n, .int .i64 e.t, .int .i64 e.l, .sl 13 e.d, .int .i64 e.r, .int .i64 e.s, .int .i64 e.u, .int .i64 e.v]] = some (e.about x.n x.t) from q37 e x]; rfl
theorem qbee (e x : En) (he : qua e) (hx : qua x) : ap1.ap (.func qjv [.cptr [.int .i64 x.k, .str x.n, .int .i64 x.t, .int .i64 x.l, .sl 13 x.d, .int .i64 x.r, .int .i64 x.s, .int .i64 x.u, .int .i64 x.v]]) [e.av] = some (decide (ordE e x > 0)) := by
  have h : ap1.ap (.func qjv [.cptr [.int .i64 x.k, .str x.n, .int .i64 x.t, .int .i64 x.l, .sl 13 x.d, .int .i64 x.r, .int .i64 x.s, .int .i64 x.u, .int .i64 x.v]]) [e.av] = oB (qul e.k e.n e.t e.l e.d e.r e.s e.u e.v x.k x.n x.t x.l x.d x.r x.s x.u x.v) some := by kernel_rfl
  rw [h, qzp]; unfold qht
  rw [qbgk e x he hx]; rfl
theorem qbef (e x : En) (now : Int) : ap1.ap (.func qjw [.cptr [.fv (qcd x)], .cptr [.int .i64 now]]) [e.av] = some (e.about x.n x.t || e.alive now) := by
  have h : ap1.ap (.func qjw [.cptr [.fv (qcd x)], .cptr [.int .i64 now]]) [e.av] = oB (quq e.k e.n e.t e.l e.d e.r e.s e.u e.v (qcd x) now) some := by kernel_rfl
  rw [h, qzt]; unfold qhx
  rw [show ap0.ap (qcd x) [.agg [.int .i64 e.k, .str e.n, .int .i64 e.t, .int .i64 e.l, .sl 13 e.d, .int .i64 e.r, .int .i64 e.s, .int .i64 e.u, .int .i64 e.v]] = some (e.about x.n x.t) from q37 e x, oB_s, qmm]
  cases e.about x.n x.t <;> rfl
def qbc3 (n : List UInt8) (t : Int) : AV := .func qqn [.cptr [.str n, .int .i64 t]]
def qbc4 (n : List UInt8) (t : Int) : AV := .func qqo [.cptr [.str n, .int .i64 t]]
def qbc5 (n : List UInt8) (t : Int) : AV := .func qk0 [.cptr [.str n, .int .i64 t]]
theorem qbgm (e : En) (n : List UInt8) (t : Int) : ap0.ap (qbc3 n t) [e.av] = some (e.about n t || e.denies n) := by
  have h : ap0.ap (qbc3 n t) [e.av] = oB (qvz e.k e.n e.t e.l e.d e.r e.s e.u e.v n t) some := by kernel_rfl
  rw [h, q0x]; unfold qil
  rw [qsp, oB_s, qpz]
  cases e.about n t <;> rfl
theorem qbgn (e : En) (n : List UInt8) (t : Int) : ap0.ap (qbc4 n t) [e.av] = some (e.denies n) := by
  have h : ap0.ap (qbc4 n t) [e.av] = oB (qv0 e.k e.n e.t e.l e.d e.r e.s e.u e.v n t) some := by kernel_rfl
  rw [h, q0y]; unfold qim
  rw [qpz]; rfl
theorem q91 (e : En) (n : List UInt8) (t : Int) : ap0.ap (qbc5 n t) [e.av] = some (e.n == n) := by
  have h : ap0.ap (qbc5 n t) [e.av] = oB (qv1 e.k e.n e.t e.l e.d e.r e.s e.u e.v n t) some := by kernel_rfl
  rw [h, q0z]; rfl
theorem qbgo (e : En) (q : AV) (b : Bool) (hq : ap0.ap q [e.av] = some b) : ap1.ap (.func qh1 [.cptr [.fv q]]) [e.av] = some (!b) := by
  have h : ap1.ap (.func qh1 [.cptr [.fv q]]) [e.av] = oB (qv2 e.k e.n e.t e.l e.d e.r e.s e.u e.v q) some := by kernel_rfl
  rw [h, q05]; unfold qin
  rw [show ap0.ap q [.agg [.int .i64 e.k, .str e.n, .int .i64 e.t, .int .i64 e.l, .sl 13 e.d, .int .i64 e.r, .int .i64 e.s, .int .i64 e.u, .int .i64 e.v]] = some b from hq]; rfl
theorem qbeg (e : En) (now : Int) : ap1.ap (.func qjy [.cptr [.int .i64 now]]) [e.av] = some (e.alive now) := by
  have h : ap1.ap (.func qjy [.cptr [.int .i64 now]]) [e.av] = oB (qum e.k e.n e.t e.l e.d e.r e.s e.u e.v now) some := by kernel_rfl
  rw [h, qzq]; unfold qhu
  rw [qmm]; rfl
theorem qbeh (e : En) (n : List UInt8) (he : qua e) (hn : n.length ≤ 9223372036854775807) : ap1.ap (.func qjx [.cptr [.str n]]) [e.av] = some (!qnp e.n n) := by
  have h : ap1.ap (.func qjx [.cptr [.str n]]) [e.av] = oB (qun e.k e.n e.t e.l e.d e.r e.s e.u e.v n) some := by kernel_rfl
  rw [h, qzr]; unfold qhv
  rw [q35 _ _ he hn]; rfl
theorem q9b (e : En) (q : AV) (now rank : Int) (b : Bool) (hq : ap0.ap q [e.av] = some b) : ap1.ap (.func qhh [.cptr [.fv q], .cptr [.int .i64 now], .cptr [.int .i64 rank]]) [e.av] = some (b && e.alive now && decide (e.r > rank)) := by
  have h : ap1.ap (.func qhh [.cptr [.fv q], .cptr [.int .i64 now], .cptr [.int .i64 rank]]) [e.av] = oB (qpa e.k e.n e.t e.l e.d e.r e.s e.u e.v q now rank) some := by kernel_rfl
  rw [h, qu6]; unfold qfd
  rw [show ap0.ap q [.agg [.int .i64 e.k, .str e.n, .int .i64 e.t, .int .i64 e.l, .sl 13 e.d, .int .i64 e.r, .int .i64 e.s, .int .i64 e.u, .int .i64 e.v]] = some b from hq, oB_s, qmm]
  cases b <;> rfl
def fidx (P : En → Bool) : Nat → List En → Int
  | _, [] => -1
  | i, e :: L => bif P e then (i : Int) else fidx P (i + 1) L
theorem qsq (L : List En) (hL : L.length ≤ 1000000) (q : AV) (P : En → Bool) (h : ∀ e, e ∈ L → ap1.ap q [e.av] = some (P e)) : qz (avL L) q = some (avL (L.filter P)) := by
  have hlen := qes L
  rw [qof]; unfold qde
  have key := qfv (avL L) (by omega) (fun n i s => qbg q (avL L) ((avL L).length : Int) (fun a0 => bif hd a0 a0.length then some a0 else none) n i s)
    (fun i s nx => qbv q (avL L) ((avL L).length : Int) i s nx (fun a0 => bif hd a0 a0.length then some a0 else none)) (fun _ _ _ => rfl) (fun i s => s.length ≤ i) (fun r s => some (s ++ r.filter fun y => P (enOf y)))
    (fun s nx _ => by simp [qbv])
    (fun i y r s nx h1 h2 h3 h4 h5 h6 => by
      obtain ⟨e, he, rfl⟩ := qow (List.mem_of_getElem? h2)
      have h7 : (i : Int) < ((avL L).length : Int) := by omega
      unfold qbv
      simp only [h7, decide_true, cond_t, ixB_nat, h2, oB_s, qso e]
      rw [show ap1.ap q [.agg [.int .i64 (gI e.av.cells 0), .str (gS e.av.cells 1), .int .i64 (gI e.av.cells 2), .int .i64 (gI e.av.cells 3), .sl 13 (gL e.av.cells 4), .int .i64 (gI e.av.cells 5), .int .i64 (gI e.av.cells 6), .int .i64 (gI e.av.cells 7), .int .i64 (gI e.av.cells 8)]] = some (P e) from h e he, oB_s, h4]
      have hf : (e.av :: r).filter (fun y => P (enOf y)) = if P e then e.av :: r.filter (fun y => P (enOf y)) else r.filter (fun y => P (enOf y)) := by rw [List.filter_cons, qer]
      rw [hf]
      cases hp : P e with
      | true =>
        have hb : (s.length + ([e.av] : List AV).length) * 96 ≤ 140737488355328 := by simp only [List.length_singleton]; omega
        have hb' : decide ((s.length + ([e.av] : List AV).length) * 96 ≤ 140737488355328) = true := by simpa using hb
        rw [cond_t, hd_self, cond_t]
        show (bif hd [e.av] ([e.av].length) then (bif decide ((s.length + ([e.av] : List AV).length) * 96 ≤ 140737488355328) then nx ((i + 1 : Nat) : Int) (s ++ [e.av]) else none) else none) = _
        rw [hd_self, cond_t, hb', cond_t, h6 _ (by simp; omega)]
        simp
      | false =>
        rw [cond_f, h6 _ (by omega)]
        simp)
    [] FU (Nat.le_refl _) (qfo (by omega))
  rw [ql2]
  show qbg q (avL L) ((avL L).length : Int) (fun a0 => bif hd a0 a0.length then some a0 else none) FU 0 [] = _
  rw [key, qba9]; rfl
theorem qsr (L : List En) (hL : L.length ≤ 1000000) (q : AV) (P : En → Bool) (h : ∀ e, e ∈ L → ap1.ap q [e.av] = some (P e)) : qbj (avL L) q = some (fidx P 0 L) := by
  have hlen := qes L
  rw [qnx]; unfold qc7
  rw [qlm, q36 (avL L) (by omega) (qbq q (avL L) ((avL L).length : Int) fun _ => some (-1)) (fun i nx => qbp q (avL L) ((avL L).length : Int) i nx fun _ => some (-1)) (fun _ _ => rfl) (fun i r => some (fidx P i (r.map enOf)))]
  · rw [show (avL L).map enOf = L by simp [avL, Function.comp_def, qer]]
  · intro nx; simp [qbp, fidx]
  · intro i y r nx h1 h2 h3 h4 h5
    obtain ⟨e, he, rfl⟩ := qow (List.mem_of_getElem? h2)
    have h7 : (i : Int) < ((avL L).length : Int) := by omega
    unfold qbp
    simp only [h7, decide_true, cond_t, ixB_nat, h2, oB_s, qso e, List.map_cons, qer, fidx]
    rw [show ap1.ap q [.agg [.int .i64 (gI e.av.cells 0), .str (gS e.av.cells 1), .int .i64 (gI e.av.cells 2), .int .i64 (gI e.av.cells 3), .sl 13 (gL e.av.cells 4), .int .i64 (gI e.av.cells 5), .int .i64 (gI e.av.cells 6), .int .i64 (gI e.av.cells 7), .int .i64 (gI e.av.cells 8)]] = some (P e) from h e he, oB_s, h4, h5]
    cases P e <;> rfl
def qss (e : En) : Prop := e.d.length ≤ 1000000
theorem qbba (e : En) (h : qss e) : qff e.k e.n e.t e.l e.d e.r e.s e.u e.v = some e.av := by
  rw [q6q]; unfold qmq qet q2f
  unfold qss at h
  have hb : decide (e.d.length * 128 ≤ 140737488355328) = true := by simp; omega
  rw [hb]; rfl
theorem qbc6 (most : Int) (l : List AV) (L : List En) (hL : L.length ≤ 1000000) (hd0 : ∀ e, e ∈ L → qss e) : qbe most l (avL L) = some (.agg [.int .i64 most, .fr true 9 (avL L)]) := by
  have hlen := qes L
  rw [qu7]; unfold qfg
  have key := qfv (avL L) (by omega) (fun n i s => qcb (avL L) ((avL L).length : Int) most l 0 (fun a2 => bif hd a2 a2.length then some (.agg [.int .i64 most, .fr true 9 a2]) else none) n i s)
    (fun i s nx => qc4 (avL L) ((avL L).length : Int) i most l 0 s nx (fun a2 => bif hd a2 a2.length then some (.agg [.int .i64 most, .fr true 9 a2]) else none)) (fun _ _ _ => rfl) (fun i s => s.length ≤ i) (fun r s => some (.agg [.int .i64 most, .fr true 9 (s ++ r)]))
    (fun s nx _ => by simp [qc4])
    (fun i y r s nx h1 h2 h3 h4 h5 h6 => by
      obtain ⟨e, he, rfl⟩ := qow (List.mem_of_getElem? h2)
      have h7 : (i : Int) < ((avL L).length : Int) := by omega
      unfold qc4
      simp only [h7, decide_true, cond_t, ixB_nat, h2, oB_s, qso e]
      rw [show qff (gI e.av.cells 0) (gS e.av.cells 1) (gI e.av.cells 2) (gI e.av.cells 3) (gL e.av.cells 4) (gI e.av.cells 5) (gI e.av.cells 6) (gI e.av.cells 7) (gI e.av.cells 8) = some e.av from qbba e (hd0 e he), oB_s, h4, hd_self, cond_t]
      have hb' : decide ((s.length + ([e.av] : List AV).length) * 96 ≤ 140737488355328) = true := by simp; omega
      show (bif hd [e.av] ([e.av].length) then (bif decide ((s.length + ([e.av] : List AV).length) * 96 ≤ 140737488355328) then nx ((i + 1 : Nat) : Int) (s ++ [e.av]) else none) else none) = _
      rw [hd_self, cond_t, hb', cond_t, h6 _ (by simp; omega)]
      simp)
    [] FU (Nat.le_refl _) (qfo (by omega))
  have hb : decide (0 ≤ (0 : Int) ∧ (0 : Int) ≤ ((avL L).length : Int) ∧ ((avL L).length : Int) * 96 ≤ 281474976710656) = true := by simp; omega
  rw [qrl, hb]
  show qcb (avL L) ((avL L).length : Int) most l 0 (fun a2 => bif hd a2 a2.length then some (.agg [.int .i64 most, .fr true 9 a2]) else none) FU 0 [] = _
  rw [key]; rfl
end Go.Proofs.YtmficjbenbhneaaDoor.Dn
