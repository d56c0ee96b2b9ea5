/- Caches: what Get finds; the law of CacheReads. -/
import Derived.Test.YtmficjbenbhneaaDoorReLw29t
set_option linter.all false
namespace Go.Proofs.YtmficjbenbhneaaDoor.Dn
open Go Go.Pev
set_option linter.unusedVariables false
set_option linter.unusedSimpArgs false
set_option maxRecDepth 8000
theorem qbge {L : List En} (hu : Uniq L) {a b : En} (ha : a ∈ L) (hb : b ∈ L) (hn : a.n = b.n) (ht : a.t = b.t) : a = b := by
  obtain ⟨i, hi⟩ := List.getElem?_of_mem ha
  obtain ⟨j, hj⟩ := List.getElem?_of_mem hb
  have hil := List.getElem?_eq_some_iff.1 hi
  have hjl := List.getElem?_eq_some_iff.1 hj
  rcases Nat.lt_trichotomy i j with h | h | h
  · have := List.pairwise_iff_getElem.1 hu i j hil.1 hjl.1 h
    rw [hil.2, hjl.2] at this
    exact absurd ⟨hn, ht⟩ this
  · subst h; rw [hi] at hj; exact Option.some.inj hj
  · have := List.pairwise_iff_getElem.1 hu j i hjl.1 hil.1 h
    rw [hil.2, hjl.2] at this
    exact absurd ⟨hn.symm, ht.symm⟩ this
theorem q72 {P : En → Bool} {L : List En} {x : En} (hx : x ∈ L) (hp : P x = true) : ∃ (k : Nat) (e : En), fidx P 0 L = (k : Int) ∧ L[k]? = some e ∧ P e = true := by
  rcases qw0 P L 0 with h | ⟨k, e, h1, h2, h3⟩
  · have := qz1 P L 0
    rw [h, List.any_eq_true.2 ⟨x, hx, hp⟩] at this
    simp at this
  · exact ⟨k, e, by rw [h1]; omega, h2, h3⟩
theorem qz4 {L : List En} {n : List UInt8} {t now : Int} {k : Nat} {e : En} (h1 : qlb L n t now = (k : Int)) (h2 : L[k]? = some e) : qbk L n t now = some (k, e) := by
  unfold qbk
  rw [h1, if_neg (by omega), Int.toNat_natCast, h2]
theorem q8r {L : List En} (hu : Uniq L) {x : En} (hx : x ∈ L) {now : Int} (hal : now < x.u) : ∃ k, qbk L x.n x.t now = some (k, x) := by
  obtain ⟨k, e, h1, h2, h3⟩ := q72 (P := fun e => e.alive now && e.about x.n x.t) hx (by simp [En.alive, En.about, hal])
  simp only [En.alive, En.about, Bool.and_eq_true, beq_iff_eq, decide_eq_true_eq] at h3
  have he := qbge hu (List.mem_of_getElem? h2) hx h3.2.1 h3.2.2
  subst he
  refine ⟨k, qz4 ?_ h2⟩
  unfold qlb
  simp only
  rw [h1, if_neg (by omega), if_neg (by omega)]
theorem q8s {L : List En} {x : En} (hx : x ∈ L) {now : Int} (hal : now < x.u) (hk : x.k = 2) (ho : ∀ e, e ∈ L → e.n = x.n → e = x) (t : Int) : ∃ k, qbk L x.n t now = some (k, x) := by
  have z : ∀ P : En → Bool, (∀ e, P e = true → e.n = x.n) → fidx P 0 L = -1 ∨ ∃ k : Nat, fidx P 0 L = (k : Int) ∧ L[k]? = some x ∧ P x = true := fun P hP => by
    rcases qw0 P L 0 with h | ⟨k, e, h1, h2, h3⟩
    · exact .inl h
    · have := ho e (List.mem_of_getElem? h2) (hP e h3)
      subst this
      exact .inr ⟨k, by rw [h1]; omega, h2, h3⟩
  obtain ⟨k3, e3, c1, c2, c3⟩ := q72 (P := fun e => e.alive now && e.denies x.n) hx (by simp [En.alive, En.denies, hal, hk])
  have c4 : e3 = x := ho e3 (List.mem_of_getElem? c2) (by simp [En.denies] at c3; exact c3.2.2)
  subst c4
  rcases z (fun e => e.alive now && e.about e3.n t) (fun e he => by simp [En.about] at he; exact he.2.1) with a1 | ⟨k, a1, a2, _⟩
  · rcases z (fun e => e.alive now && e.k == 0 && e.about e3.n 5) (fun e he => by simp [En.about] at he; exact he.2.1) with b1 | ⟨k, _, _, b3⟩
    · refine ⟨k3, qz4 ?_ c2⟩
      unfold qlb
      simp only
      simp only [a1, b1]
      simpa using c1
    · simp [hk] at b3
  · refine ⟨k, qz4 ?_ a2⟩
    unfold qlb
    simp only
    rw [a1, if_neg (by omega), if_neg (by omega)]
def topF (L : List En) (v : Int) : Int := L.foldl (fun v e => if e.r > v then e.r else v) v
theorem qbcy : ∀ (L : List En) (v : Int), v ≤ topF L v ∧ ∀ e, e ∈ L → e.r ≤ topF L v
  | [], v => ⟨Int.le_refl _, by simp⟩
  | e :: L, v => by
    obtain ⟨h1, h2⟩ := qbcy L (if e.r > v then e.r else v)
    have h3 : v ≤ (if e.r > v then e.r else v) ∧ e.r ≤ (if e.r > v then e.r else v) := by split <;> omega
    refine ⟨?_, fun x hx => ?_⟩
    · show v ≤ topF L (if e.r > v then e.r else v)
      exact Int.le_trans h3.1 h1
    · show x.r ≤ topF L (if e.r > v then e.r else v)
      rcases List.mem_cons.1 hx with rfl | hx
      · exact Int.le_trans h3.2 h1
      · exact h2 x hx
theorem qw1 {L : List En} {rank now : Int} {P : En → Bool} (h : ∀ e, e ∈ L → e.r ≤ rank) : qkc L rank now P = false := by
  unfold qkc
  rw [List.any_eq_false]
  intro e he
  have := h e he
  simp
  intro _ _
  exact this
theorem setOk_of {l : List AV} (h : l.length ≤ 9223372036854775807 ∧ ∀ y, y ∈ l → fitC qxj.lts y.cells = true ∧ qxj.good y.cells 0) : ∀ y, y ∈ l → dat0 y := fun y hy => q9p (h.2 y hy).1 (h.2 y hy).2
theorem q73 (l : Int) (h1 : 1 ≤ l) (h2 : l ≤ 1000) : endF l 2147483648 = 2147483648 + l := by
  unfold endF
  rw [w64 (by omega) (by omega), if_neg (by omega)]
theorem qbgf (l : Int) (h1 : 1 ≤ l) (h2 : l ≤ 1000) : q5v (2147483648 + l) 2147483648 = l := by
  unfold q5v
  rw [if_neg (by omega), w64 (by omega) (by omega)]
  omega
theorem law_CacheReads (acts : List AV) (ha : ∀ a, a ∈ acts → qph a) (n0 : List UInt8) (t l0 : Int) (d0 : List AV) (hd : ∀ y, y ∈ d0 → dat0 y) (at_ : Int) : qeq acts n0 t l0 d0 at_ = some true := by
  rw [qq0]; unfold qd4
  rw [qbhg 20 (by omega) (by omega) acts ha, oB_s, q9o _ _ _ _ hd, oB_s]
  have hI := qbd9 (most := 20) (by omega) ha
  have hgd := hI.good (by omega)
  have hdf := qwz hd
  have hdl := q4z d0
  have hn : (qbz n0).length ≤ 9223372036854775807 := Nat.le_trans (qlc _) (by omega)
  generalize qba0 20 acts = L at hI hgd
  generalize qbz n0 = n at hn
  generalize qpg d0 = d at hdf hdl
  have hlen := qex L
  have hll := hgd.len
  show qdn at_ (avL L) ((avL L).length : Int) n t l0 d 20 (avL L) _ FU 0 0 = _
  have key : ∀ kx : Int → Option Bool, qdn at_ (avL L) ((avL L).length : Int) n t l0 d 20 (avL L) kx FU 0 0 = kx (topF L 0) := fun kx => by
    have := qfk (avL L) (by omega) (fun m i s => qb7 at_ (avL L) ((avL L).length : Int) n t l0 d 20 (avL L) kx m s i) (fun i s nx => qb6 at_ s (avL L) ((avL L).length : Int) i n t l0 d 20 (avL L) (fun p q => nx q p) kx) (fun _ _ _ => rfl) (fun _ _ => True)
      (fun r s => kx (topF (r.map enOf) s))
      (fun s nx _ => by simp [qb6, topF])
      (fun i y r s nx g1 g2 g3 g4 _ g6 => by
        obtain ⟨e, he, rfl⟩ := qoa (List.mem_of_getElem? g2)
        have g7 : (i : Int) < ((avL L).length : Int) := by omega
        unfold qb6
        simp only [g7, decide_true, cond_t, ixB_nat, g2, oB_s, qr3 e, g4, List.map_cons, qej]
        exact g6 _ trivial)
      0 FU trivial (qfd (by omega))
    rw [qnh]
    rw [show (avL L).map enOf = L by simp [avL, Function.comp_def, qej]] at this
    exact this
  rw [key]
  obtain ⟨_, htop⟩ := qbcy L 0
  generalize topF L 0 = top at htop
  have hl : 1 ≤ (if (1000 : Int) < (if 1 > l0 then 1 else l0) then (1000 : Int) else (if 1 > l0 then 1 else l0)) ∧ (if (1000 : Int) < (if 1 > l0 then 1 else l0) then (1000 : Int) else (if 1 > l0 then 1 else l0)) ≤ 1000 := by
    constructor <;> split <;> (try split) <;> omega
  have cont : ∀ l : Int, 1 ≤ l → l ≤ 1000 → (oB (qcz 20 (avL L) n t l d top (2 : Int) (2147483648 : Int)) fun r4 => (oB (qd0 (gI r4.cells 0) (gL r4.cells 1) n t (2147483648 : Int)) fun r5 => (oB (qgg (20 : Int)) fun r6 => (oB (qcz (gI r6.1.cells 0) [] n t l d top (2 : Int) (2147483648 : Int)) fun r7 => (qcl at_ top r5.2.2 r6.2 (((gL r7.cells 1).length : Int) == 1) n t l d (gI r4.cells 0) (gL r4.cells 1) (gI r5.2.1.cells 0) (gS r5.2.1.cells 1) (gI r5.2.1.cells 2) (gI r5.2.1.cells 3) (gL r5.2.1.cells 4) (gI r5.2.1.cells 5) (gI r5.2.1.cells 6) (gI r5.2.1.cells 7) (gI r5.2.1.cells 8) (fun v105q8 => (bif v105q8 then (some false) else (oB (qbu n) fun r9 => (bif (!r9) then (oB (qeg) fun r10 => (some r10)) else (oB (qgp (gI r4.cells 0) (gL r4.cells 1) n 0 true (50 : Int) top 1 (2147483648 : Int)) fun r11 => (oB (qd0 (gI r11.cells 0) (gL r11.cells 1) n (IntKind.i64.wrap at_) (2147483648 : Int)) fun r12 => (bif (((r12.2.2 && ((gI r12.2.1.cells 0) == (2 : Int))) && ((gI r12.2.1.cells 3) == (50 : Int))) && ((gI r12.2.1.cells 6) == 1)) then (oB (qeg) fun r13 => (some r13)) else (some false))))))))))))) = some true := by
    intro l hl1 hl2
    refine qdp (qxg 20 L hgd n t l d top 2 2147483648 hn (by omega) hdf) ?_
    have hID : Inv 20 (PutF 20 L n t l d top 2 2147483648) := qxi (by omega) hI _ _ _ _ _ _ _ hdf
    have hgD := hID.good (by omega)
    have hrD : ∀ e, e ∈ PutF 20 L n t l d top 2 2147483648 → e.r ≤ top := fun e he => by
      unfold PutF at he
      split at he
      · exact htop e he
      · rcases qts _ _ _ he with rfl | he
        · exact Int.le_refl _
        · exact htop e (List.mem_filter.1 he).1
    have hst : qio L n t l d top 2147483648 = !qin n t l d := by
      unfold qio
      rw [qw1 htop]
      simp
    have hst0 : qio [] n t l d top 2147483648 = !qin n t l d := by
      unfold qio
      rw [qw1 (by simp)]
      simp
    have hget : qin n t l d = true → ∃ k, qbk (PutF 20 L n t l d top 2 2147483648) n t 2147483648 = some (k, putE n t l d top 2 2147483648) := fun hs => by
      have hm : putE n t l d top 2 2147483648 ∈ PutF 20 L n t l d top 2 2147483648 := by
        unfold PutF
        rw [hst, hs]
        exact qyx ..
      exact q8r (x := putE n t l d top 2 2147483648) hgD.uq hm (by show (2147483648 : Int) < endF l 2147483648; rw [q73 l hl1 hl2]; omega)
    have hval : qin n t l d = false → ((avL (PutF 20 [] n t l d top 2 2147483648)).length : Int) == 1 → False := fun hs h => by
      unfold PutF at h
      rw [hst0, hs] at h
      simp [avL] at h
    generalize PutF 20 L n t l d top 2 2147483648 = D at hID hgD hrD hget
    refine qdp (qxh 20 D hgD n t 2147483648) ?_
    refine qdp (qbay 20 (by omega) (by omega)) ?_
    refine qdp (qxg 20 [] ((qsa (most := 20) (by omega)).good (by omega)) n t l d top 2 2147483648 hn (by omega) hdf) ?_
    have hJ : ∀ kn : Bool → Option Bool, qcl at_ top (qbk D n t 2147483648).isSome 0 (((avL (PutF 20 [] n t l d top 2 2147483648)).length : Int) == 1) n t l d 20 (avL D) (getR 2147483648 (qbk D n t 2147483648)).k (getR 2147483648 (qbk D n t 2147483648)).n (getR 2147483648 (qbk D n t 2147483648)).t (getR 2147483648 (qbk D n t 2147483648)).l (getR 2147483648 (qbk D n t 2147483648)).d (getR 2147483648 (qbk D n t 2147483648)).r (getR 2147483648 (qbk D n t 2147483648)).s (getR 2147483648 (qbk D n t 2147483648)).u (getR 2147483648 (qbk D n t 2147483648)).v kn = kn false := fun kn => by
      rw [qnj]; unfold qc3
      rw [show ((0 : Int) != 0) = false from rfl, cond_f]
      cases hv : (((avL (PutF 20 [] n t l d top 2 2147483648)).length : Int) == 1) with
      | false => rfl
      | true =>
        have hs : qin n t l d = true := by
          cases hs : qin n t l d with
          | true => rfl
          | false => exact (hval hs hv).elim
        obtain ⟨k, hk⟩ := hget hs
        rw [hk, cond_t]
        have er : (getR 2147483648 (some (k, putE n t l d top 2 2147483648))) = ⟨0, n, t, l, d, top, 2, endF l 2147483648, 2147483648⟩ := by
          simp only [getR, qber, putE]
          rw [q73 l hl1 hl2, qbgf l hl1 hl2]
        rw [er]
        rw [show ((some (k, putE n t l d top 2 2147483648)).isSome) = true from rfl, qbhh _ _ _ _ _ _ _ _ (by omega) (fun y hy => (hdf y hy).1) (fun y hy => (hdf y hy).1), qba2]
        simp
    show qcl at_ top (qbk D n t 2147483648).isSome 0 (((avL (PutF 20 [] n t l d top 2 2147483648)).length : Int) == 1) n t l d 20 (avL D) (getR 2147483648 (qbk D n t 2147483648)).k (getR 2147483648 (qbk D n t 2147483648)).n (getR 2147483648 (qbk D n t 2147483648)).t (getR 2147483648 (qbk D n t 2147483648)).l (getR 2147483648 (qbk D n t 2147483648)).d (getR 2147483648 (qbk D n t 2147483648)).r (getR 2147483648 (qbk D n t 2147483648)).s (getR 2147483648 (qbk D n t 2147483648)).u (getR 2147483648 (qbk D n t 2147483648)).v _ = _
    rw [hJ, cond_f, qef n hn, oB_s, qbgd]
    cases hok : qq n with
    | false => rfl
    | true =>
      simp only [Bool.not_true, cond_f]
      refine qdp (q7v 20 D hgD n 0 true 50 top 1 2147483648 hn) ?_
      have hIE : Inv 20 (qjl 20 D n 0 true 50 top 1 2147483648) := qz3 (by omega) hID _ _ _ _ _ _ _
      have hE : qjl 20 D n 0 true 50 top 1 2147483648 = qea 20 (D.filter fun e => !qla n true e) (qf3 n 0 true 50 top 1 2147483648) 2147483648 := by
        unfold qjl
        rw [qw1 hrD, show qmc n 0 true 50 2147483648 = false from by simp [qmc, hok]]
        rfl
      have hm : qf3 n 0 true 50 top 1 2147483648 ∈ qjl 20 D n 0 true 50 top 1 2147483648 := by rw [hE]; exact qyx ..
      have ho : ∀ e, e ∈ qjl 20 D n 0 true 50 top 1 2147483648 → e.n = n → e = qf3 n 0 true 50 top 1 2147483648 := fun e he hen => by
        rw [hE] at he
        rcases qts _ _ _ he with h | h
        · exact h
        · have := (List.mem_filter.1 h).2
          simp [qla, hen] at this
      refine qdp (qxh 20 _ (hIE.good (by omega)) n (IntKind.i64.wrap at_) 2147483648) ?_
      obtain ⟨k, hk⟩ := q8s (x := qf3 n 0 true 50 top 1 2147483648) hm (now := 2147483648) (by show (2147483648 : Int) < endF 50 2147483648; rw [q73 50 (by omega) (by omega)]; omega) rfl ho (IntKind.i64.wrap at_)
      rw [show qbk (qjl 20 D n 0 true 50 top 1 2147483648) n (IntKind.i64.wrap at_) 2147483648 = _ from hk]
      rfl
  exact cont _ hl.1 hl.2
end Go.Proofs.YtmficjbenbhneaaDoor.Dn
