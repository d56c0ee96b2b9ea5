/- The parent of a prefix, the holder of an address, the children of a block. -/
import Derived.Test.YtmfghgaboaocgaaChLw46p
set_option linter.all false
namespace Go.Proofs.Ytmfghgaboaocgaa.Dn
open Go Go.Pev
set_option linter.unusedVariables false
set_option linter.unusedSimpArgs false
set_option maxRecDepth 4000
def qbna (l : List AV) (v : Bool) (hi lo bits : Int) (y : AV) : Bool := qhb (gB y.cells 0) (gI y.cells 1) (gI y.cells 2) (gI y.cells 3) v hi lo bits && !(l.any fun o => qhb (gB o.cells 0) (gI o.cells 1) (gI o.cells 2) (gI o.cells 3) v hi lo bits && q4k y o)
def q2e (l : List AV) (v : Bool) (hi lo bits : Int) : List AV := l.filter (qbna l v hi lo bits)
theorem qb15 (l : List AV) (hl : qcc l) (hn : l.length ≤ 100000) (v : Bool) (hi lo bits : Int) : qme l v hi lo bits = some (q2e l v hi lo bits) := by
  rw [q09]; unfold qth
  simp only [hd_nil, List.length_nil, Bool.and_self, cond_t]
  rw [qwf]
  have key := qg7 (σ := List AV) l hl.1 (fun n i s => qk4 l v hi lo bits (fun a0q1 => bif hd a0q1 a0q1.length then some a0q1 else none) n i s) (fun i s nx => qfr l i v hi lo bits s nx (fun a0q1 => bif hd a0q1 a0q1.length then some a0q1 else none)) (fun _ _ _ => rfl)
    (fun i s => s.length ≤ i) (fun r s => some (s ++ r.filter (qbna l v hi lo bits))) ?_ ?_ [] FU (by simp) (qkg (by have := hl.1; omega))
  · exact key
  · intro a nx h2; simp [qfr]
  · intro i y r a nx g1 g2 g3 g4 h2 h5
    have hy := hl.2 y (List.mem_of_getElem? g2)
    have h6 : (i : Int) < (l.length : Int) := by omega
    have n1 := h5 (a ++ [y]) (by simp; omega)
    have n2 := h5 a (by omega)
    have hyy := q9i hy.1
    unfold mkB at hyy
    have inner : ∀ kx : Bool → Option (List AV), qhr l (i : Int) v hi lo bits a kx FU true 0 = kx (!(l.any fun o => qhb (gB o.cells 0) (gI o.cells 1) (gI o.cells 2) (gI o.cells 3) v hi lo bits && q4k y o)) := by
      intro kx
      rw [qu4]
      have key := qg7 (σ := Bool) l hl.1 (fun n k s => qjx l (i : Int) v hi lo bits a kx n s k) (fun k s nx => qfh l (i : Int) s k v hi lo bits a (fun s k => nx k s) kx) (fun _ _ _ => rfl)
        (fun _ _ => True) (fun r s => kx (s && !(r.any fun o => qhb (gB o.cells 0) (gI o.cells 1) (gI o.cells 2) (gI o.cells 3) v hi lo bits && q4k y o))) ?_ ?_ true FU trivial (qkg (by have := hl.1; omega))
      · exact key
      · intro s nx _; simp [qfh]
      · intro k z r s nx f1 f2 f3 f4 _ f5
        have hz := hl.2 z (List.mem_of_getElem? f2)
        have f6 : (k : Int) < (l.length : Int) := by omega
        unfold qfh
        simp only [f6, decide_true, cond_t, ixB_nat, f2, g2, oB_s, hz.1, hy.1, f4, qbze _ _ _ _ _ _ _ _ hz.2.1 hz.2.2.1, qbze _ _ _ _ _ _ _ _ hy.2.1 hy.2.2.1, f5 _ trivial]
        rw [show qhb (gB y.cells 0) (gI y.cells 1) (gI y.cells 2) (gI y.cells 3) (gB z.cells 0) (gI z.cells 1) (gI z.cells 2) (gI z.cells 3) = q4k y z from rfl, List.any_cons]
        cases qhb (gB z.cells 0) (gI z.cells 1) (gI z.cells 2) (gI z.cells 3) v hi lo bits <;> cases q4k y z <;> simp
    unfold qfr
    simp only [h6, decide_true, cond_t, ixB_nat, g2, oB_s, hy.1, g4, hd_self, Bool.and_self, qbze _ _ _ _ _ _ _ _ hy.2.1 hy.2.2.1, inner, hyy]
    rw [q9j y (a := a) (by omega), List.filter_cons, n2, n1]
    unfold qbna
    cases qhb (gB y.cells 0) (gI y.cells 1) (gI y.cells 2) (gI y.cells 3) v hi lo bits <;> cases (l.any fun o => qhb (gB o.cells 0) (gI o.cells 1) (gI o.cells 2) (gI o.cells 3) v hi lo bits && q4k y o) <;> simp
end Go.Proofs.Ytmfghgaboaocgaa.Dn
