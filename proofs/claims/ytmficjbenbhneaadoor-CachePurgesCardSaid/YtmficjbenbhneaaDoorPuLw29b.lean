/- Caches: what the program's words of layer 29 answer. -/
import Derived.Test.YtmficjbenbhneaaDoorPuLw29a
set_option linter.all false
namespace Go.Proofs.YtmficjbenbhneaaDoor.Dn
open Go Go.Pev
set_option linter.unusedVariables false
set_option linter.unusedSimpArgs false
set_option maxRecDepth 8000
theorem q8g (P : En → Bool) : ∀ (L : List En) (i : Nat), decide (fidx P i L ≥ 0) = L.any P
  | [], i => rfl
  | e :: L, i => by
    unfold fidx
    rw [List.any_cons]
    cases P e
    · exact q8g P L (i + 1)
    · simp <;> omega
def qox (L : List En) (rank now : Int) (P : En → Bool) : Bool := L.any fun e => P e && e.alive now && decide (e.r > rank)
theorem q2q (most : Int) (L : List En) (hL : L.length ≤ 1000000) (rank now : Int) (q : AV) (P : En → Bool) (h : ∀ e, e ∈ L → ap0.ap q [e.av] = some (P e)) : qgl most (avL L) rank now q = some (qox L rank now P) := by
  rw [qyg]; unfold qgy qox
  rw [qsr L hL _ (fun e => P e && e.alive now && decide (e.r > rank)) (fun e he => q9b e q now rank _ (h e he)), oB_s, q8g]
def endF (ttl now : Int) : Int := if (4294967295 : Int) < IntKind.i64.wrap (now + ttl) then 4294967295 else IntKind.i64.wrap (now + ttl)
theorem qbe7 (ttl now : Int) : qqk ttl now = some (endF ttl now) := by rw [q6r]; rfl
theorem qbc7 (n : List UInt8) (t ttl : Int) (v6 : Bool) (hi lo : Int) (h m x : List UInt8) (a b c d e f bits : Int) (hn : n.length ≤ 9223372036854775807) (hh : h.length ≤ 9223372036854775807) (hm : m.length ≤ 9223372036854775807) (ub : uok bits) :
    qri n t ttl v6 hi lo h m x a b c d e f bits = some (q2p n t ttl v6 hi lo h m x a b c d e f bits) := by
  rw [q24]; unfold qjb q2p
  simp only [qfq n hn, q8e, qbc2 _ _ _ _ _ _ _ _ _ _ _ _ _ _ hh hm ub, oB_s, qbea]
def dFit (y : AV) : Prop := fitC qbn y.cells = true ∧ (gS y.cells 3).length ≤ 9223372036854775807 ∧ (gS y.cells 4).length ≤ 9223372036854775807 ∧ uok (gI y.cells 12)
def qlk (d : List AV) : Prop := ∀ y, y ∈ d → dFit y
def qbe8 (n : List UInt8) (t l : Int) (y : AV) : Bool := q2p n t l (gB y.cells 0) (gI y.cells 1) (gI y.cells 2) (gS y.cells 3) (gS y.cells 4) (gS y.cells 5) (gI y.cells 6) (gI y.cells 7) (gI y.cells 8) (gI y.cells 9) (gI y.cells 10) (gI y.cells 11) (gI y.cells 12)
def qub (n : List UInt8) (t l : Int) (y : AV) : AV := .agg [.str n, .int .i64 t, .int .i64 l, .bool (gB y.cells 0), .int .u64 (gI y.cells 1), .int .u64 (gI y.cells 2), .str (gS y.cells 3), .str (gS y.cells 4), .str (gS y.cells 5), .int .i64 (gI y.cells 6), .int .i64 (gI y.cells 7), .int .i64 (gI y.cells 8), .int .i64 (gI y.cells 9), .int .i64 (gI y.cells 10), .int .i64 (gI y.cells 11), .int .u64 (gI y.cells 12)]
theorem qbc8 (n : List UInt8) (t l : Int) (d : List AV) (hd1 : d.length ≤ 1000000) (hd2 : qlk d) : qnt n t l d = some (d.map (qub n t l)) := by
  rw [qze]; unfold qhm
  have key := qfv d (by omega) (fun k i s => qc3 d (d.length : Int) n t l d (fun a0 => bif hd a0 a0.length then some a0 else none) k i s)
    (fun i s nx => qd9 d (d.length : Int) i n t l d s nx (fun a0 => bif hd a0 a0.length then some a0 else none)) (fun _ _ _ => rfl) (fun i s => s.length ≤ i) (fun r s => some (s ++ r.map (qub n t l)))
    (fun s nx _ => by simp [qd9])
    (fun i y r s nx h1 h2 h3 h4 h5 h6 => by
      have h7 : (i : Int) < (d.length : Int) := by omega
      unfold qd9
      simp only [h7, decide_true, cond_t, ixB_nat, h2, oB_s, (hd2 y (List.mem_of_getElem? h2)).1, h4, hd_self]
      have hb' : decide ((s.length + ([qub n t l y] : List AV).length) * 160 ≤ 140737488355328) = true := by simp; omega
      show (bif hd [qub n t l y] ([qub n t l y].length) then (bif decide ((s.length + ([qub n t l y] : List AV).length) * 160 ≤ 140737488355328) then nx ((i + 1 : Nat) : Int) (s ++ [qub n t l y]) else none) else none) = _
      rw [hd_self, cond_t, hb', cond_t, h6 _ (by simp; omega)]
      simp)
    [] FU (Nat.le_refl _) (qfo (by omega))
  rw [quz]
  show qc3 d (d.length : Int) n t l d (fun a0 => bif hd a0 a0.length then some a0 else none) FU 0 [] = _
  rw [key]; rfl
def ixA (q : AV → Bool) : Nat → List AV → Int
  | _, [] => -1
  | i, y :: r => bif q y then (i : Int) else ixA q (i + 1) r
theorem q8h (q : AV → Bool) : ∀ (r : List AV) (i : Nat), decide (ixA q i r < 0) = !r.any q
  | [], i => rfl
  | y :: r, i => by
    unfold ixA
    rw [List.any_cons]
    cases q y
    · exact q8h q r (i + 1)
    · simp <;> omega
def recB (z : AV) : Bool := q2p (gS z.cells 0) (gI z.cells 1) (gI z.cells 2) (gB z.cells 3) (gI z.cells 4) (gI z.cells 5) (gS z.cells 6) (gS z.cells 7) (gS z.cells 8) (gI z.cells 9) (gI z.cells 10) (gI z.cells 11) (gI z.cells 12) (gI z.cells 13) (gI z.cells 14) (gI z.cells 15)
theorem qbei (l : List AV) (hl : l.length ≤ 1000000) (h : ∀ z, z ∈ l → fitC qkn z.cells = true ∧ (gS z.cells 0).length ≤ 9223372036854775807 ∧ (gS z.cells 6).length ≤ 9223372036854775807 ∧ (gS z.cells 7).length ≤ 9223372036854775807 ∧ uok (gI z.cells 15)) :
    qbx l = some (ixA (fun z => !recB z) 0 l) := by
  rw [qfx]; unfold q8
  rw [qe2, q36 l (by omega) (qp l (l.length : Int) fun _ => some (-1)) (fun i nx => qo l (l.length : Int) i nx fun _ => some (-1)) (fun _ _ => rfl) (fun i r => some (ixA (fun z => !recB z) i r))]
  · intro nx; simp [qo, ixA]
  · intro i z r nx h1 h2 h3 h4 h5
    obtain ⟨f1, f2, f3, f4, f5⟩ := h z (List.mem_of_getElem? h2)
    have h7 : (i : Int) < (l.length : Int) := by omega
    unfold qo
    simp only [h7, decide_true, cond_t, ixB_nat, h2, oB_s, f1, ixA]
    rw [qu4]; unfold qfb
    rw [qbc7 _ _ _ _ _ _ _ _ _ _ _ _ _ _ _ _ f2 f3 f4 f5, oB_s, oB_s, h4, h5]
    show (bif !recB z then some (i : Int) else some (ixA (fun z => !recB z) (i + 1) r)) = _
    cases recB z <;> rfl
def quc (n : List UInt8) (t l : Int) (d : List AV) : Bool := !((decide ((d.length : Int) < 1) || decide ((d.length : Int) > 64)) || l == 0) && d.all (qbe8 n t l)
theorem qbbb (n : List UInt8) (t l : Int) (d : List AV) (hn : n.length ≤ 9223372036854775807) (hd2 : qlk d) : qlx n t l d = some (quc n t l d) := by
  rw [qyd]; unfold qgw quc
  cases hc : ((decide ((d.length : Int) < 1) || decide ((d.length : Int) > 64)) || l == 0) with
  | true => rfl
  | false =>
    have h64 : d.length ≤ 64 := by
      simp only [Bool.or_eq_false_iff, decide_eq_false_iff_not] at hc
      omega
    simp only [cond_f, Bool.not_false, Bool.true_and]
    rw [qbc8 n t l d (by omega) hd2, oB_s, qbei _ (by simp; omega) (fun z hz => by
      obtain ⟨y, hy, rfl⟩ := List.mem_map.1 hz
      obtain ⟨g1, g2, g3, g4⟩ := hd2 y hy
      exact ⟨rfl, hn, g2, g3, g4⟩), oB_s, q8h]
    congr 1
    rw [List.any_map, List.not_any_eq_all_not]
    congr 1
    funext y
    simp only [Function.comp_apply, Bool.not_not]
    rfl
end Go.Proofs.YtmficjbenbhneaaDoor.Dn
