/- Caches: entries, and what the program's closures answer about them. -/
import Derived.Test.YtmficjbenbhneaaDoorShLw05r
import Derived.Test.YtmficjbenbhneaaDoorShLw51n
set_option linter.all false
namespace Go.Proofs.YtmficjbenbhneaaDoor.Dn
open Go Go.Pev
set_option linter.unusedVariables false
set_option linter.unusedSimpArgs false
set_option maxRecDepth 8000
structure En where
  k : Int
  n : List UInt8
  t : Int
  l : Int
  d : List AV
  r : Int
  s : Int
  u : Int
  v : Int
def En.av (e : En) : AV := .agg [.int .i64 e.k, .str e.n, .int .i64 e.t, .int .i64 e.l, .sl 13 e.d, .int .i64 e.r, .int .i64 e.s, .int .i64 e.u, .int .i64 e.v]
def avL (L : List En) : List AV := L.map En.av
def enOf (y : AV) : En := ⟨gI y.cells 0, gS y.cells 1, gI y.cells 2, gI y.cells 3, gL y.cells 4, gI y.cells 5, gI y.cells 6, gI y.cells 7, gI y.cells 8⟩
theorem qea (e : En) : enOf e.av = e := rfl
theorem qpb (e : En) : fitC qc e.av.cells = true := rfl
theorem q83 (e : En) : fitV (.st qc) e.av = true := rfl
theorem qer (L : List En) : (avL L).length = L.length := by simp [avL]
theorem qbfh : avL [] = [] := rfl
theorem qbfi (L M : List En) : avL (L ++ M) = avL L ++ avL M := by simp [avL]
theorem qn8 {y : AV} {L : List En} (h : y ∈ avL L) : ∃ e, e ∈ L ∧ y = e.av := by
  simp only [avL, List.mem_map] at h
  obtain ⟨e, h1, h2⟩ := h
  exact ⟨e, h1, h2.symm⟩
theorem ql2 (L : List En) (i : Nat) : (avL L)[i]? = (L[i]?).map En.av := by simp [avL]
theorem qbad (P : En → Bool) (L : List En) : (avL L).filter (fun y => P (enOf y)) = avL (L.filter P) := by
  simp only [avL, List.filter_map]
  rfl
def En.alive (e : En) (now : Int) : Bool := decide (now < e.u)
def En.about (e : En) (n : List UInt8) (t : Int) : Bool := e.n == n && e.t == t
def En.denies (e : En) (n : List UInt8) : Bool := e.k == 2 && e.n == n
def cmpI (a b : Int) : Int := if a < b then -1 else if a > b then 1 else 0
def ordE (a b : En) : Int := if cmpN a.n b.n ≠ 0 then cmpN a.n b.n else cmpI a.t b.t
def qtm (e : En) : Prop := e.n.length ≤ 9223372036854775807
theorem ql3 (e : En) (now : Int) : qbf e.k e.n e.t e.l e.d e.r e.s e.u e.v now = some (e.alive now) := by rw [qsg]; rfl
theorem qr1 (e : En) (n : List UInt8) (t : Int) : qcj e.k e.n e.t e.l e.d e.r e.s e.u e.v n t = some (e.about n t) := by
  rw [qsh]; rfl
theorem qpc (e : En) (n : List UInt8) : qb9 e.k e.n e.t e.l e.d e.r e.s e.u e.v n = some (e.denies n) := by rw [qq8]; rfl
theorem qbfj (a : Int) : qi4 a = some (a != a) := by rw [qyw]; rfl
theorem qbgq (a b : Int) : qkh a b = some (cmpI a b) := by
  rw [qvb]; unfold qfq cmpI
  simp only [qbfj, oB_s, bne_self_eq_false, cond_f]
  by_cases h1 : a < b
  · simp [h1]
  · by_cases h2 : a > b <;> simp [h1, h2]
theorem qbfk (e x : En) (he : qtm e) (hx : qtm x) : qqu e.k e.n e.t e.l e.d e.r e.s e.u e.v x.k x.n x.t x.l x.d x.r x.s x.u x.v = some (ordE e x) := by
  rw [q2c]; unfold qi5 ordE
  rw [q1u _ _ he hx, oB_s, qbgq, oB_s]
  by_cases h : cmpN e.n x.n = 0
  · simp [h]
  · rw [if_pos h, show (cmpN e.n x.n != 0) = true from by simp [h]]; rfl
theorem qbgr (e : En) (now : Int) (n : List UInt8) (t : Int) : ap1.ap (.func qll [.cptr [.int .i64 now], .cptr [.str n, .int .i64 t]]) [e.av] = some (e.alive now && e.about n t) := by
  have h : ap1.ap (.func qll [.cptr [.int .i64 now], .cptr [.str n, .int .i64 t]]) [e.av] = oB (qxz e.k e.n e.t e.l e.d e.r e.s e.u e.v now n t) some := by kernel_rfl
  rw [h, q17]; unfold qiz
  rw [ql3, oB_s, qr1]
  cases e.alive now <;> rfl
theorem qbgs (e : En) (now : Int) (n : List UInt8) (t : Int) : ap1.ap (.func qlm [.cptr [.int .i64 now], .cptr [.str n, .int .i64 t]]) [e.av] = some (e.alive now && e.k == 0 && e.about n 5) := by
  have h : ap1.ap (.func qlm [.cptr [.int .i64 now], .cptr [.str n, .int .i64 t]]) [e.av] = oB (qx0 e.k e.n e.t e.l e.d e.r e.s e.u e.v now n t) some := by kernel_rfl
  rw [h, q18]; unfold qi0
  rw [ql3, oB_s, qr1]
  cases (e.alive now && e.k == 0) <;> rfl
theorem qbgt (e : En) (now : Int) (n : List UInt8) (t : Int) : ap1.ap (.func qln [.cptr [.int .i64 now], .cptr [.str n, .int .i64 t]]) [e.av] = some (e.alive now && e.denies n) := by
  have h : ap1.ap (.func qln [.cptr [.int .i64 now], .cptr [.str n, .int .i64 t]]) [e.av] = oB (qx1 e.k e.n e.t e.l e.d e.r e.s e.u e.v now n t) some := by kernel_rfl
  rw [h, q19]; unfold qi1
  rw [ql3, oB_s, qpc]
  cases e.alive now <;> rfl
theorem qbgu (e : En) (n : List UInt8) (t l : Int) (d : List AV) : ap0.ap (.func qh5 [.cptr [.str n, .int .i64 t, .int .i64 l, .sl 13 d]]) [e.av] = some (e.about n t || e.denies n) := by
  have h : ap0.ap (.func qh5 [.cptr [.str n, .int .i64 t, .int .i64 l, .sl 13 d]]) [e.av] = oB (qx2 e.k e.n e.t e.l e.d e.r e.s e.u e.v n t l d) some := by kernel_rfl
  rw [h, q2a]; unfold qi2
  rw [qr1, oB_s, qpc]
  cases e.about n t <;> rfl
theorem qbgv (e : En) (n : List UInt8) (t l : Int) (d : List AV) : ap1.ap (.func qli [.cptr [.str n, .int .i64 t, .int .i64 l, .sl 13 d]]) [e.av] = some (!e.denies n) := by
  have h : ap1.ap (.func qli [.cptr [.str n, .int .i64 t, .int .i64 l, .sl 13 d]]) [e.av] = oB (qx3 e.k e.n e.t e.l e.d e.r e.s e.u e.v n t l d) some := by kernel_rfl
  rw [h, q2b]; unfold qi3
  rw [qpc]; rfl
def qb8 (x : En) : AV := .func qec [.cptr [.int .i64 x.k, .str x.n, .int .i64 x.t, .int .i64 x.l, .sl 13 x.d, .int .i64 x.r, .int .i64 x.s, .int .i64 x.u, .int .i64 x.v]]
theorem q29 (e x : En) : ap0.ap (qb8 x) [e.av] = some (e.about x.n x.t) := by
  have h : ap0.ap (qb8 x) [e.av] = oB (qtv e.k e.n e.t e.l e.d e.r e.s e.u e.v x.k x.n x.t x.l x.d x.r x.s x.u x.v) some := by kernel_rfl
  rw [h, qyu]; unfold qha
  rw [qr1]; rfl
theorem qbfl (e x : En) : ap1.ap (qb8 x) [e.av] = some (e.about x.n x.t) := by
  have h : ap1.ap (qb8 x) [e.av] = ap0.ap (qb8 x) [e.av] := by kernel_rfl
  rw [h, q29]
theorem qbdg (e x : En) : ap1.ap (.func qjh [.cptr [.fv (qb8 x)]]) [e.av] = some (!e.about x.n x.t) := by
  have h : ap1.ap (.func qjh [.cptr [.fv (qb8 x)]]) [e.av] = oB (qt0 e.k e.n e.t e.l e.d e.r e.s e.u e.v (qb8 x)) some := by kernel_rfl
  rw [h, qy0]; unfold qhg
  rw [show ap0.ap (qb8 x) [.agg [.int .i64 e.k, .str e.n, .int .i64 e.t, .int .i64 e.l, .sl 13 e.d, .int .i64 e.r, .int .i64 e.s, .int .i64 e.u, .int .i64 e.v]] = some (e.about x.n x.t) from q29 e x]; rfl
theorem qbdh (e x : En) (he : qtm e) (hx : qtm x) : ap1.ap (.func qji [.cptr [.int .i64 x.k, .str x.n, .int .i64 x.t, .int .i64 x.l, .sl 13 x.d, .int .i64 x.r, .int .i64 x.s, .int .i64 x.u, .int .i64 x.v]]) [e.av] = some (decide (ordE e x > 0)) := by
  have h : ap1.ap (.func qji [.cptr [.int .i64 x.k, .str x.n, .int .i64 x.t, .int .i64 x.l, .sl 13 x.d, .int .i64 x.r, .int .i64 x.s, .int .i64 x.u, .int .i64 x.v]]) [e.av] = oB (qtw e.k e.n e.t e.l e.d e.r e.s e.u e.v x.k x.n x.t x.l x.d x.r x.s x.u x.v) some := by kernel_rfl
  rw [h, qyx]; unfold qhd
  rw [qbfk e x he hx]; rfl
theorem qbdi (e x : En) (now : Int) : ap1.ap (.func qjj [.cptr [.fv (qb8 x)], .cptr [.int .i64 now]]) [e.av] = some (e.about x.n x.t || e.alive now) := by
  have h : ap1.ap (.func qjj [.cptr [.fv (qb8 x)], .cptr [.int .i64 now]]) [e.av] = oB (qt1 e.k e.n e.t e.l e.d e.r e.s e.u e.v (qb8 x) now) some := by kernel_rfl
  rw [h, qy1]; unfold qhh
  rw [show ap0.ap (qb8 x) [.agg [.int .i64 e.k, .str e.n, .int .i64 e.t, .int .i64 e.l, .sl 13 e.d, .int .i64 e.r, .int .i64 e.s, .int .i64 e.u, .int .i64 e.v]] = some (e.about x.n x.t) from q29 e x, oB_s, ql3]
  cases e.about x.n x.t <;> rfl
def qbb5 (n : List UInt8) (t : Int) : AV := .func qp0 [.cptr [.str n, .int .i64 t]]
def qbb6 (n : List UInt8) (t : Int) : AV := .func qp1 [.cptr [.str n, .int .i64 t]]
def qbb7 (n : List UInt8) (t : Int) : AV := .func qkl [.cptr [.str n, .int .i64 t]]
theorem qbfm (e : En) (n : List UInt8) (t : Int) : ap0.ap (qbb5 n t) [e.av] = some (e.about n t || e.denies n) := by
  have h : ap0.ap (qbb5 n t) [e.av] = oB (qvc e.k e.n e.t e.l e.d e.r e.s e.u e.v n t) some := by kernel_rfl
  rw [h, qz2]; unfold qh7
  rw [qr1, oB_s, qpc]
  cases e.about n t <;> rfl
theorem qbfn (e : En) (n : List UInt8) (t : Int) : ap0.ap (qbb6 n t) [e.av] = some (e.denies n) := by
  have h : ap0.ap (qbb6 n t) [e.av] = oB (qvd e.k e.n e.t e.l e.d e.r e.s e.u e.v n t) some := by kernel_rfl
  rw [h, qz3]; unfold qh8
  rw [qpc]; rfl
theorem q84 (e : En) (n : List UInt8) (t : Int) : ap0.ap (qbb7 n t) [e.av] = some (e.n == n) := by
  have h : ap0.ap (qbb7 n t) [e.av] = oB (qve e.k e.n e.t e.l e.d e.r e.s e.u e.v n t) some := by kernel_rfl
  rw [h, qz4]; rfl
theorem qbfo (e : En) (q : AV) (b : Bool) (hq : ap0.ap q [e.av] = some b) : ap1.ap (.func qhl [.cptr [.fv q]]) [e.av] = some (!b) := by
  have h : ap1.ap (.func qhl [.cptr [.fv q]]) [e.av] = oB (qvf e.k e.n e.t e.l e.d e.r e.s e.u e.v q) some := by kernel_rfl
  rw [h, q0a]; unfold qh9
  rw [show ap0.ap q [.agg [.int .i64 e.k, .str e.n, .int .i64 e.t, .int .i64 e.l, .sl 13 e.d, .int .i64 e.r, .int .i64 e.s, .int .i64 e.u, .int .i64 e.v]] = some b from hq]; rfl
theorem qbdj (e : En) (now : Int) : ap1.ap (.func qjm [.cptr [.int .i64 now]]) [e.av] = some (e.alive now) := by
  have h : ap1.ap (.func qjm [.cptr [.int .i64 now]]) [e.av] = oB (qtx e.k e.n e.t e.l e.d e.r e.s e.u e.v now) some := by kernel_rfl
  rw [h, qyy]; unfold qhe
  rw [ql3]; rfl
theorem qbdk (e : En) (n : List UInt8) (he : qtm e) (hn : n.length ≤ 9223372036854775807) : ap1.ap (.func qjl [.cptr [.str n]]) [e.av] = some (!qr0 e.n n) := by
  have h : ap1.ap (.func qjl [.cptr [.str n]]) [e.av] = oB (qtz e.k e.n e.t e.l e.d e.r e.s e.u e.v n) some := by kernel_rfl
  rw [h, qyz]; unfold qhf
  rw [q8z _ _ he hn]; rfl
theorem q8c (e : En) (q : AV) (now rank : Int) (b : Bool) (hq : ap0.ap q [e.av] = some b) : ap1.ap (.func qg1 [.cptr [.fv q], .cptr [.int .i64 now], .cptr [.int .i64 rank]]) [e.av] = some (b && e.alive now && decide (e.r > rank)) := by
  have h : ap1.ap (.func qg1 [.cptr [.fv q], .cptr [.int .i64 now], .cptr [.int .i64 rank]]) [e.av] = oB (qol e.k e.n e.t e.l e.d e.r e.s e.u e.v q now rank) some := by kernel_rfl
  rw [h, quj]; unfold qey
  rw [show ap0.ap q [.agg [.int .i64 e.k, .str e.n, .int .i64 e.t, .int .i64 e.l, .sl 13 e.d, .int .i64 e.r, .int .i64 e.s, .int .i64 e.u, .int .i64 e.v]] = some b from hq, oB_s, ql3]
  cases b <;> rfl
def fidx (P : En → Bool) : Nat → List En → Int
  | _, [] => -1
  | i, e :: L => bif P e then (i : Int) else fidx P (i + 1) L
theorem qr2 (L : List En) (hL : L.length ≤ 1000000) (q : AV) (P : En → Bool) (h : ∀ e, e ∈ L → ap1.ap q [e.av] = some (P e)) : qx (avL L) q = some (avL (L.filter P)) := by
  have hlen := qer L
  rw [qnj]; unfold qc3
  have key := qgr (avL L) (by omega) (fun n i s => qbe q (avL L) ((avL L).length : Int) (fun a0 => bif hd a0 a0.length then some a0 else none) n i s)
    (fun i s nx => qbt q (avL L) ((avL L).length : Int) i s nx (fun a0 => bif hd a0 a0.length then some a0 else none)) (fun _ _ _ => rfl) (fun i s => s.length ≤ i) (fun r s => some (s ++ r.filter fun y => P (enOf y)))
    (fun s nx _ => by simp [qbt])
    (fun i y r s nx h1 h2 h3 h4 h5 h6 => by
      obtain ⟨e, he, rfl⟩ := qn8 (List.mem_of_getElem? h2)
      have h7 : (i : Int) < ((avL L).length : Int) := by omega
      unfold qbt
      simp only [h7, decide_true, cond_t, ixB_nat, h2, oB_s, qpb e]
      rw [show ap1.ap q [.agg [.int .i64 (gI e.av.cells 0), .str (gS e.av.cells 1), .int .i64 (gI e.av.cells 2), .int .i64 (gI e.av.cells 3), .sl 13 (gL e.av.cells 4), .int .i64 (gI e.av.cells 5), .int .i64 (gI e.av.cells 6), .int .i64 (gI e.av.cells 7), .int .i64 (gI e.av.cells 8)]] = some (P e) from h e he, oB_s, h4]
      have hf : (e.av :: r).filter (fun y => P (enOf y)) = if P e then e.av :: r.filter (fun y => P (enOf y)) else r.filter (fun y => P (enOf y)) := by rw [List.filter_cons, qea]
      rw [hf]
      cases hp : P e with
      | true =>
        have hb : (s.length + ([e.av] : List AV).length) * 96 ≤ 140737488355328 := by simp only [List.length_singleton]; omega
        have hb' : decide ((s.length + ([e.av] : List AV).length) * 96 ≤ 140737488355328) = true := by simpa using hb
        rw [cond_t, hd_self, cond_t]
        show (bif hd [e.av] ([e.av].length) then (bif decide ((s.length + ([e.av] : List AV).length) * 96 ≤ 140737488355328) then nx ((i + 1 : Nat) : Int) (s ++ [e.av]) else none) else none) = _
        rw [hd_self, cond_t, hb', cond_t, h6 _ (by simp; omega)]
        simp
      | false =>
        rw [cond_f, h6 _ (by omega)]
        simp)
    [] FU (Nat.le_refl _) (qf8 (by omega))
  rw [qlj]
  show qbe q (avL L) ((avL L).length : Int) (fun a0 => bif hd a0 a0.length then some a0 else none) FU 0 [] = _
  rw [key, qbad]; rfl
theorem qr3 (L : List En) (hL : L.length ≤ 1000000) (q : AV) (P : En → Bool) (h : ∀ e, e ∈ L → ap1.ap q [e.av] = some (P e)) : qbh (avL L) q = some (fidx P 0 L) := by
  have hlen := qer L
  rw [qm4]; unfold qcx
  rw [qk3, q80 (avL L) (by omega) (qbn q (avL L) ((avL L).length : Int) fun _ => some (-1)) (fun i nx => qbm q (avL L) ((avL L).length : Int) i nx fun _ => some (-1)) (fun _ _ => rfl) (fun i r => some (fidx P i (r.map enOf)))]
  · rw [show (avL L).map enOf = L by simp [avL, Function.comp_def, qea]]
  · intro nx; simp [qbm, fidx]
  · intro i y r nx h1 h2 h3 h4 h5
    obtain ⟨e, he, rfl⟩ := qn8 (List.mem_of_getElem? h2)
    have h7 : (i : Int) < ((avL L).length : Int) := by omega
    unfold qbm
    simp only [h7, decide_true, cond_t, ixB_nat, h2, oB_s, qpb e, List.map_cons, qea, fidx]
    rw [show ap1.ap q [.agg [.int .i64 (gI e.av.cells 0), .str (gS e.av.cells 1), .int .i64 (gI e.av.cells 2), .int .i64 (gI e.av.cells 3), .sl 13 (gL e.av.cells 4), .int .i64 (gI e.av.cells 5), .int .i64 (gI e.av.cells 6), .int .i64 (gI e.av.cells 7), .int .i64 (gI e.av.cells 8)]] = some (P e) from h e he, oB_s, h4, h5]
    cases P e <;> rfl
def qr4 (e : En) : Prop := e.d.length ≤ 1000000
theorem qbae (e : En) (h : qr4 e) : qe0 e.k e.n e.t e.l e.d e.r e.s e.u e.v = some e.av := by
  rw [q5q]; unfold ql8 qeb q1l
  unfold qr4 at h
  have hb : decide (e.d.length * 128 ≤ 140737488355328) = true := by simp; omega
  rw [hb]; rfl
theorem qbb8 (most : Int) (l : List AV) (L : List En) (hL : L.length ≤ 1000000) (hd0 : ∀ e, e ∈ L → qr4 e) : qbc most l (avL L) = some (.agg [.int .i64 most, .fr true 9 (avL L)]) := by
  have hlen := qer L
  rw [quk]; unfold qe1
  have key := qgr (avL L) (by omega) (fun n i s => qb6 (avL L) ((avL L).length : Int) most l 0 (fun a2 => bif hd a2 a2.length then some (.agg [.int .i64 most, .fr true 9 a2]) else none) n i s)
    (fun i s nx => qcu (avL L) ((avL L).length : Int) i most l 0 s nx (fun a2 => bif hd a2 a2.length then some (.agg [.int .i64 most, .fr true 9 a2]) else none)) (fun _ _ _ => rfl) (fun i s => s.length ≤ i) (fun r s => some (.agg [.int .i64 most, .fr true 9 (s ++ r)]))
    (fun s nx _ => by simp [qcu])
    (fun i y r s nx h1 h2 h3 h4 h5 h6 => by
      obtain ⟨e, he, rfl⟩ := qn8 (List.mem_of_getElem? h2)
      have h7 : (i : Int) < ((avL L).length : Int) := by omega
      unfold qcu
      simp only [h7, decide_true, cond_t, ixB_nat, h2, oB_s, qpb e]
      rw [show qe0 (gI e.av.cells 0) (gS e.av.cells 1) (gI e.av.cells 2) (gI e.av.cells 3) (gL e.av.cells 4) (gI e.av.cells 5) (gI e.av.cells 6) (gI e.av.cells 7) (gI e.av.cells 8) = some e.av from qbae e (hd0 e he), oB_s, h4, hd_self, cond_t]
      have hb' : decide ((s.length + ([e.av] : List AV).length) * 96 ≤ 140737488355328) = true := by simp; omega
      show (bif hd [e.av] ([e.av].length) then (bif decide ((s.length + ([e.av] : List AV).length) * 96 ≤ 140737488355328) then nx ((i + 1 : Nat) : Int) (s ++ [e.av]) else none) else none) = _
      rw [hd_self, cond_t, hb', cond_t, h6 _ (by simp; omega)]
      simp)
    [] FU (Nat.le_refl _) (qf8 (by omega))
  have hb : decide (0 ≤ (0 : Int) ∧ (0 : Int) ≤ ((avL L).length : Int) ∧ ((avL L).length : Int) * 96 ≤ 281474976710656) = true := by simp; omega
  rw [qqw, hb]
  show qb6 (avL L) ((avL L).length : Int) most l 0 (fun a2 => bif hd a2 a2.length then some (.agg [.int .i64 most, .fr true 9 a2]) else none) FU 0 [] = _
  rw [key]; rfl
end Go.Proofs.YtmficjbenbhneaaDoor.Dn
