/- Caches: sets, where entries come from, the law of CacheTold. -/
import Derived.Test.YtmficjbenbhneaaDoorToLw29e
set_option linter.all false
namespace Go.Proofs.YtmficjbenbhneaaDoor.Dn
open Go Go.Pev
set_option linter.unusedVariables false
set_option linter.unusedSimpArgs false
set_option maxRecDepth 8000
def qx0 (y z : AV) : Bool := ((gB y.cells 0) == (gB z.cells 0)) && (((gI y.cells 1) == (gI z.cells 1)) && (((gI y.cells 2) == (gI z.cells 2)) && (((gS y.cells 3) == (gS z.cells 3)) && (((gS y.cells 4) == (gS z.cells 4)) && (((gS y.cells 5) == (gS z.cells 5)) && (((gI y.cells 6) == (gI z.cells 6)) && (((gI y.cells 7) == (gI z.cells 7)) && (((gI y.cells 8) == (gI z.cells 8)) && (((gI y.cells 9) == (gI z.cells 9)) && (((gI y.cells 10) == (gI z.cells 10)) && (((gI y.cells 11) == (gI z.cells 11)) && (((gI y.cells 12) == (gI z.cells 12)) && true))))))))))))
theorem qbbi (y : AV) : qx0 y y = true := by simp [qx0]
def qra : List AV → List AV → Bool
  | y :: r, z :: s => qx0 y z && qra r s
  | _, _ => true
theorem q2u : ∀ d, qra d d = true
  | [] => rfl
  | y :: r => by simp [qra, qbbi, q2u r]
def qrb (n : List UInt8) (t l : Int) (d : List AV) (n' : List UInt8) (t' l' : Int) (d' : List AV) : Bool :=
  !((((!(n == n')) || (t != t')) || (l != l')) || ((d.length : Int) != (d'.length : Int))) && qra d d'
theorem qbbj (n : List UInt8) (t l : Int) (d : List AV) : qrb n t l d n t l d = true := by simp [qrb, q2u]
theorem qbhy (n : List UInt8) (t l : Int) (d : List AV) (n' : List UInt8) (t' l' : Int) (d' : List AV) (h1 : d.length ≤ 1000000) (h2 : ∀ y, y ∈ d → fitC qbp y.cells = true) (h3 : ∀ y, y ∈ d' → fitC qbp y.cells = true) :
    qjr n t l d n' t' l' d' = some (qrb n t l d n' t' l' d') := by
  rw [qz2]; unfold qh1 qrb
  cases hc : ((((!(n == n')) || (t != t')) || (l != l')) || ((d.length : Int) != (d'.length : Int))) with
  | true => rfl
  | false =>
    have hlen : d.length = d'.length := by
      simp only [Bool.or_eq_false_iff, bne_eq_false_iff_eq] at hc
      omega
    simp only [cond_f, Bool.not_false, Bool.true_and]
    rw [qs6, q34 d (by omega) (qdv (d.length : Int) n t l d n' t' l' d' fun _ => some true) (fun i nx => qdu (d.length : Int) i n t l d n' t' l' d' nx fun _ => some true) (fun _ _ => rfl) (fun i r => some (qra r (d'.drop i)))]
    · rfl
    · intro nx
      simp [qdu, qra]
    · intro i y r nx g1 g2 g3 g4 g5
      have g6 : (i : Int) < (d.length : Int) := by omega
      obtain ⟨z, hz⟩ : ∃ z, d'[i]? = some z := ⟨d'[i]'(by omega), by simp⟩
      have hdz : d'.drop i = z :: d'.drop (i + 1) := by
        rw [List.drop_eq_getElem_cons (by omega)]
        rw [(List.getElem?_eq_some_iff.1 hz).2]
      unfold qdu
      simp only [g6, decide_true, cond_t, ixB_nat, g2, oB_s, h2 y (List.mem_of_getElem? g2), hz, h3 z (List.mem_of_getElem? hz), g4, g5]
      rw [hdz]
      show (bif (!qx0 y z) then some false else some (qra r (d'.drop (i + 1)))) = some (qx0 y z && qra r (d'.drop (i + 1)))
      cases qx0 y z <;> rfl
def maxT (ttl : Int) : Prop := 0 < ttl ∧ ttl ≤ 2147483647
def Src (a : AV) (e : En) : Prop :=
  e.r = gI a.cells 8 ∧ e.s = gI a.cells 9 ∧ e.u = endF (gI a.cells 3) (gI a.cells 10) ∧ 0 ≤ gI a.cells 10 ∧ gI a.cells 10 ≤ 4294967295 ∧ maxT (gI a.cells 3) ∧
  ((gI a.cells 0 = 0 ∧ e.k = 0 ∧ e.n = qw (gS a.cells 1) ∧ e.t = gI a.cells 2 ∧ e.d = qdw (gL a.cells 4)) ∨
   (gI a.cells 0 = 1 ∧ e.n = qw (gS a.cells 5) ∧ e.d = [] ∧ ((gB a.cells 7 = true ∧ e.k = 2) ∨ (gB a.cells 7 = false ∧ e.k = 1 ∧ e.t = gI a.cells 6))))
def asE (e f : En) : Prop := { e with v := f.v } = f
theorem Src.as_ {a : AV} {e f : En} (h : Src a e) (hf : asE e f) : Src a f := by
  unfold asE at hf
  rw [← hf]
  exact h
theorem asE.refl (e : En) : asE e e := rfl
theorem asE.trans {e f g : En} (h1 : asE e f) (h2 : asE f g) : asE e g := by
  unfold asE at *
  rw [← h2, ← h1]
theorem qbgv {most : Int} {L : List En} {a : AV} {e : En} (h : e ∈ runF most L a) : Src a e ∨ ∃ f, f ∈ L ∧ asE f e := by
  unfold runF at h
  split at h
  · rename_i hk
    unfold PutF at h
    split at h
    · exact .inr ⟨e, h, asE.refl e⟩
    · rename_i hr
      rcases qt8 _ _ _ h with rfl | h
      · left
        have hr' := hr
        unfold qoo at hr'
        simp only [Bool.or_eq_true, not_or, Bool.not_eq_true', Bool.not_eq_false', decide_eq_true_eq] at hr'
        obtain ⟨_, _, _, _, h5, h6⟩ := q8j (show qq7 _ _ _ _ = true by simpa using hr'.1.1.1)
        exact ⟨rfl, rfl, rfl, by omega, by omega, ⟨h5, h6⟩, .inl ⟨hk, rfl, rfl, rfl, rfl⟩⟩
      · exact .inr ⟨e, (List.mem_filter.1 h).1, asE.refl e⟩
  · split at h
    · rename_i hk
      unfold qt9 at h
      split at h
      · exact .inr ⟨e, h, asE.refl e⟩
      · rename_i hr
        rcases qt8 _ _ _ h with rfl | h
        · left
          have hr' := hr
          unfold qop at hr'
          simp only [Bool.or_eq_true, not_or, Bool.not_eq_true', Bool.not_eq_false', decide_eq_true_eq] at hr'
          obtain ⟨⟨⟨⟨⟨⟨_, g2⟩, g3⟩, g4⟩, g5⟩, _⟩, _⟩ := hr'
          refine ⟨rfl, rfl, rfl, by omega, by omega, ⟨by omega, by omega⟩, .inr ⟨hk, rfl, rfl, ?_⟩⟩
          cases hb : gB a.cells 7 with
          | true => exact .inl ⟨rfl, by simp [qg2]⟩
          | false => exact .inr ⟨rfl, by simp [qg2], by simp [qg2]⟩
        · exact .inr ⟨e, (List.mem_filter.1 h).1, asE.refl e⟩
    · split at h
      · right
        cases hg : qiu L (qw (gS a.cells 5)) (gI a.cells 6) (gI a.cells 10) with
        | none => rw [hg] at h; exact ⟨e, h, asE.refl e⟩
        | some p =>
          rw [hg] at h
          rcases List.mem_or_eq_of_mem_set h with h | rfl
          · exact ⟨e, h, asE.refl e⟩
          · exact ⟨p.2, List.mem_of_getElem? (qxi hg), rfl⟩
      · split at h
        · exact .inr ⟨e, (List.mem_filter.1 h).1, asE.refl e⟩
        · split at h
          · exact .inr ⟨e, (List.mem_filter.1 h).1, asE.refl e⟩
          · exact .inr ⟨e, h, asE.refl e⟩
theorem q8o {most : Int} : ∀ (acts : List AV) (L : List En) (e : En), e ∈ acts.foldl (runF most) L → (∃ a, a ∈ acts ∧ Src a e) ∨ ∃ f, f ∈ L ∧ asE f e
  | [], L, e, h => .inr ⟨e, h, asE.refl e⟩
  | a :: r, L, e, h => by
    rcases q8o r (runF most L a) e h with ⟨b, h1, h2⟩ | ⟨f, h1, h2⟩
    · exact .inl ⟨b, List.mem_cons_of_mem _ h1, h2⟩
    · rcases qbgv h1 with h3 | ⟨g, h3, h4⟩
      · exact .inl ⟨a, List.mem_cons_self .., h3.as_ h2⟩
      · exact .inr ⟨g, h3, h4.trans h2⟩
theorem q5g (P : En → Bool) : ∀ (L : List En) (i : Nat), fidx P i L = -1 ∨ ∃ (k : Nat) (e : En), fidx P i L = ((i + k : Nat) : Int) ∧ L[k]? = some e ∧ P e = true
  | [], i => .inl rfl
  | e :: L, i => by
    unfold fidx
    cases hp : P e with
    | true => exact .inr ⟨0, e, by simp, rfl, hp⟩
    | false =>
      rw [cond_f]
      rcases q5g P L (i + 1) with h | ⟨k, x, h1, h2, h3⟩
      · exact .inl h
      · exact .inr ⟨k + 1, x, by rw [h1]; omega, h2, h3⟩
theorem qbbk {L : List En} {n : List UInt8} {t now : Int} {p : Nat × En} (h : qiu L n t now = some p) : p.2 ∈ L ∧ now < p.2.u ∧ p.2.n = n ∧ (p.2.t = t ∨ (p.2.k = 0 ∧ p.2.t = 5) ∨ p.2.k = 2) := by
  have hmem := qxi h
  refine ⟨List.mem_of_getElem? hmem, ?_⟩
  have hix : (qof L n t now) = (p.1 : Int) := by
    unfold qiu at h
    split at h
    · cases h
    · split at h
      · cases h
        simp only
        omega
      · cases h
  have key : ∀ P, fidx P 0 L = (p.1 : Int) → P p.2 = true := fun P hP => by
    rcases q5g P L 0 with h1 | ⟨k, e, h1, h2, h3⟩
    · rw [h1] at hP; omega
    · have : k = p.1 := by rw [h1] at hP; omega
      rw [this, hmem] at h2
      cases h2
      exact h3
  unfold qof at hix
  simp only at hix
  split at hix
  · split at hix
    · have := key _ hix
      simp [En.alive, En.denies] at this
      exact ⟨this.1, this.2.2, .inr (.inr this.2.1)⟩
    · have := key _ hix
      simp [En.alive, En.about] at this
      exact ⟨this.1.1, this.2.1, .inr (.inl ⟨this.1.2, this.2.2⟩)⟩
  · have := key _ hix
    simp [En.alive, En.about] at this
    exact ⟨this.1, this.2.1, .inl this.2.2⟩
def nowF (acts : List AV) : Int := acts.foldl (fun v a => if (if (4294967295 : Int) < gI a.cells 10 then 4294967295 else gI a.cells 10) > v then (if (4294967295 : Int) < gI a.cells 10 then 4294967295 else gI a.cells 10) else v) 0
theorem qbhz (z v : Int) (h : 0 ≤ v) : 0 ≤ (if z > v then z else v) := by
  split <;> omega
theorem qbdh : ∀ (acts : List AV) (v : Int), 0 ≤ v → 0 ≤ acts.foldl (fun v a => if (if (4294967295 : Int) < gI a.cells 10 then 4294967295 else gI a.cells 10) > v then (if (4294967295 : Int) < gI a.cells 10 then 4294967295 else gI a.cells 10) else v) v
  | [], v, h => h
  | a :: r, v, h => qbdh r _ (qbhz _ v h)
def q2v (x : En) (a : AV) : Bool := ((((decide ((gI a.cells 10) < 0)) || (decide ((gI a.cells 10) > (4294967295 : Int)))) || ((gI a.cells 8) != x.r)) || ((gI a.cells 9) != x.s)) || ((if (4294967295 : Int) < (IntKind.i64.wrap ((gI a.cells 10) + (if (2147483647 : Int) < (if 0 > (gI a.cells 3) then 0 else (gI a.cells 3)) then (2147483647 : Int) else (if 0 > (gI a.cells 3) then 0 else (gI a.cells 3))))) then (4294967295 : Int) else (IntKind.i64.wrap ((gI a.cells 10) + (if (2147483647 : Int) < (if 0 > (gI a.cells 3) then 0 else (gI a.cells 3)) then (2147483647 : Int) else (if 0 > (gI a.cells 3) then 0 else (gI a.cells 3)))))) != x.u)
def putT (x : En) (qt : Int) (a : AV) : Bool := ((gI a.cells 0 == 0) && (x.k == 0)) && (qrb (qw (gS a.cells 1)) (gI a.cells 2) (gI a.cells 3) (qdw (gL a.cells 4)) x.n x.t (gI a.cells 3) x.d && ((gI a.cells 2 == qt) || (gI a.cells 2 == 5)))
def qbbl (x : En) (qn : List UInt8) (qt : Int) (a : AV) : Bool := ((gI a.cells 0 == 1) && (gS a.cells 5 == qn)) && (bif gB a.cells 7 then x.k == 2 else x.k == 1 && gI a.cells 6 == qt)
def qpy (x : En) (qn : List UInt8) (qt : Int) (a : AV) : Bool := !q2v x a && (putT x qt a || qbbl x qn qt a)
theorem qbgw (acts : List AV) (ha : ∀ a, a ∈ acts → qlk a) (hl : acts.length ≤ 1000000) (x : En) (hx : qlj x.d) (qn : List UInt8) (qt : Int) :
    qd2 acts (acts.length : Int) qn qt x.k x.n x.t x.l x.d x.r x.s x.u x.v (fun _ => some false) FU 0 = some (acts.any (qpy x qn qt)) := by
  rw [qn3, qq2 acts (by omega) (qch acts (acts.length : Int) qn qt x.k x.n x.t x.l x.d x.r x.s x.u x.v fun _ => some false) (fun i nx => qcg acts (acts.length : Int) i qn qt x.k x.n x.t x.l x.d x.r x.s x.u x.v nx fun _ => some false) (fun _ _ => rfl) (fun r => some (r.any (qpy x qn qt)))]
  · intro nx; simp [qcg]
  · intro i a r nx g1 g2 g3 g4 g5
    have hf := ha a (List.mem_of_getElem? g2)
    have g6 : (i : Int) < (acts.length : Int) := by omega
    unfold qcg
    simp only [g6, decide_true, cond_t, ixB_nat, g2, oB_s, hf.1, g4, g5]
    rw [List.any_cons]
    show (bif q2v x a then some (r.any (qpy x qn qt)) else _) = _
    unfold qpy
    cases hs : q2v x a with
    | true => simp [qpy, hs]
    | false =>
      rw [cond_f, q97 _ _ _ _ hf.2, oB_s]
      rw [qn0, qn2]
      unfold qdd qde
      rw [q37]
      rw [show qjr (gS (AV.agg [.str (qw (gS a.cells 1)), .int .i64 (gI a.cells 2), .int .i64 (gI a.cells 3), .fr true 13 (qdw (gL a.cells 4))]).cells 0) (gI (AV.agg [.str (qw (gS a.cells 1)), .int .i64 (gI a.cells 2), .int .i64 (gI a.cells 3), .fr true 13 (qdw (gL a.cells 4))]).cells 1) (gI (AV.agg [.str (qw (gS a.cells 1)), .int .i64 (gI a.cells 2), .int .i64 (gI a.cells 3), .fr true 13 (qdw (gL a.cells 4))]).cells 2) (gL (AV.agg [.str (qw (gS a.cells 1)), .int .i64 (gI a.cells 2), .int .i64 (gI a.cells 3), .fr true 13 (qdw (gL a.cells 4))]).cells 3) x.n x.t (gI (AV.agg [.str (qw (gS a.cells 1)), .int .i64 (gI a.cells 2), .int .i64 (gI a.cells 3), .fr true 13 (qdw (gL a.cells 4))]).cells 2) x.d = some (qrb (qw (gS a.cells 1)) (gI a.cells 2) (gI a.cells 3) (qdw (gL a.cells 4)) x.n x.t (gI a.cells 3) x.d) from
        qbhy _ _ _ _ _ _ _ _ (Nat.le_trans (q5f _) (by omega)) (fun y hy => (qxj hf.2 y hy).1) (fun y hy => (hx y hy).1)]
      simp only [oB_s, Bool.not_false, Bool.true_and]
      unfold putT qbbl
      show (bif ((gI a.cells 0 == 0) && (x.k == 0)) then (bif qrb (qw (gS a.cells 1)) (gI a.cells 2) (gI a.cells 3) (qdw (gL a.cells 4)) x.n x.t (gI a.cells 3) x.d then (bif (gI a.cells 2 == qt) then _ else _) else _) else _) = _
      generalize (qrb (qw (gS a.cells 1)) (gI a.cells 2) (gI a.cells 3) (qdw (gL a.cells 4)) x.n x.t (gI a.cells 3) x.d) = b1
      have hg : gI (AV.agg [.str (qw (gS a.cells 1)), .int .i64 (gI a.cells 2), .int .i64 (gI a.cells 3), .fr true 13 (qdw (gL a.cells 4))]).cells 1 = gI a.cells 2 := rfl
      simp only [hg]
      cases ((gI a.cells 0 == 0) && (x.k == 0)) <;> cases b1 <;> cases (gI a.cells 2 == qt) <;> cases (gI a.cells 2 == 5) <;> cases ((gI a.cells 0 == 1) && (gS a.cells 5 == qn)) <;> cases gB a.cells 7 <;> cases (x.k == 2) <;> cases (x.k == 1) <;> cases (gI a.cells 6 == qt) <;> rfl
theorem qbdi {a : AV} {e : En} (h : Src a e) (hok : qxy e) {qn : List UInt8} {qt now : Int} (hn : e.n = qn) (ht : e.t = qt ∨ (e.k = 0 ∧ e.t = 5) ∨ e.k = 2) : qpy (qbr e now) qn qt a = true := by
  obtain ⟨h1, h2, h3, h4, h5, ⟨h6, h6'⟩, h7⟩ := h
  have hsk : q2v (qbr e now) a = false := by
    unfold q2v
    have e1 : (if (2147483647 : Int) < (if 0 > (gI a.cells 3) then 0 else (gI a.cells 3)) then (2147483647 : Int) else (if 0 > (gI a.cells 3) then 0 else (gI a.cells 3))) = gI a.cells 3 := by
      rw [if_neg (by omega : ¬ (0 > gI a.cells 3)), if_neg (by omega)]
    rw [e1]
    have e2 : (qbr e now).r = gI a.cells 8 := h1
    have e3 : (qbr e now).s = gI a.cells 9 := h2
    have e4 : (qbr e now).u = endF (gI a.cells 3) (gI a.cells 10) := h3
    rw [e2, e3, e4]
    simp [endF]
    omega
  unfold qpy
  rw [hsk]
  simp only [Bool.not_false, Bool.true_and, Bool.or_eq_true]
  rcases h7 with ⟨k1, k2, k3, k4, k5⟩ | ⟨k1, k2, k3, k4⟩
  · left
    unfold putT
    have e1 : (qbr e now).n = qw (gS a.cells 1) := k3
    have e2 : (qbr e now).t = gI a.cells 2 := k4
    have e3 : (qbr e now).d = qdw (gL a.cells 4) := k5
    have e4 : (qbr e now).k = 0 := k2
    rw [e1, e2, e3, e4, qbbj, k1]
    rw [k4, k2] at ht
    rcases ht with ht | ⟨_, ht⟩ | ht
    · simp [ht]
    · simp [ht]
    · omega
  · right
    unfold qbbl
    have hlen : (gS a.cells 5) = qn := by
      have h8 := qod hok.1
      rw [k2] at h8
      rw [← hn, k2]
      unfold qw at h8 ⊢
      rw [List.length_take] at h8
      rw [List.take_of_length_le (by omega)]
    rw [k1, hlen]
    rcases k4 with ⟨k5, k6⟩ | ⟨k5, k6, k7⟩
    · rw [k5, show (qbr e now).k = 2 from k6]; simp
    · rw [k5, show (qbr e now).k = 1 from k6]
      have : gI a.cells 6 = qt := by
        rw [← k7]
        rcases ht with ht | ⟨ht, _⟩ | ht
        · exact ht
        · omega
        · omega
      simp [this]
theorem law_CacheTold (most : Int) (acts : List AV) (ha0 : ∀ a, a ∈ acts → qlk a) (qn : List UInt8) (qt : Int) : qe9 most acts qn qt = some true := by
  rw [qrz]; unfold qeg
  by_cases hr : most < 1 ∨ most > 256
  · refine qei (q8l most hr) ?_
    rw [show ((AV.agg [AV.int .i64 0, .nils], (1 : Int)).2 != 0) = true from rfl, cond_t, q37]; rfl
  · have h1 : 1 ≤ most := by omega
    have h2 : most ≤ 256 := by omega
    refine qei (qbbg most h1 h2) ?_
    rw [show ((AV.agg [AV.int .i64 most, .nils], (0 : Int)).2 != 0) = false from rfl, cond_f,
      show cutI acts none (some (if (30 : Int) < (acts.length : Int) then (30 : Int) else (acts.length : Int))) = some (acts.take 30) from qoq acts 30, oB_s]
    have ha : ∀ a, a ∈ acts.take 30 → qlk a := fun a h => ha0 a (List.mem_of_mem_take h)
    have hlen : (acts.take 30).length ≤ 30 := by simp; omega
    generalize acts.take 30 = A at ha hlen
    rw [qbhx most h1 h2 A ha, oB_s]
    have hA : q6f most A = A.foldl (runF most) [] := by unfold q6f; rw [List.take_of_length_le hlen]
    have hI := qber h1 ha
    have hgd := hI.good h2
    rw [hA] at hI hgd ⊢
    have hsrc := q8o (most := most) A []
    generalize A.foldl (runF most) [] = L at hI hgd hsrc
    show qd1 A A (A.length : Int) qn qt most (avL L) _ FU 0 0 = _
    have key : ∀ kx : Int → Option Bool, qd1 A A (A.length : Int) qn qt most (avL L) kx FU 0 0 = kx (nowF A) := fun kx => by
      have := qfn A (by omega) (fun n i s => qcf A A (A.length : Int) qn qt most (avL L) kx n s i) (fun i s nx => qce A s A (A.length : Int) i qn qt most (avL L) (fun p q => nx q p) kx) (fun _ _ _ => rfl) (fun _ _ => True)
        (fun r s => kx (r.foldl (fun v a => if (if (4294967295 : Int) < gI a.cells 10 then 4294967295 else gI a.cells 10) > v then (if (4294967295 : Int) < gI a.cells 10 then 4294967295 else gI a.cells 10) else v) s))
        (fun s nx _ => by simp [qce])
        (fun i a r s nx g1 g2 g3 g4 _ g6 => by
          have g7 : (i : Int) < (A.length : Int) := by omega
          unfold qce
          simp only [g7, decide_true, cond_t, ixB_nat, g2, oB_s, (ha a (List.mem_of_getElem? g2)).1, g4, List.foldl_cons]
          exact g6 _ trivial)
        0 FU trivial (qff (by omega))
      rw [qnw]
      exact this
    rw [key]
    have hnow : 0 ≤ nowF A := qbdh A 0 (by omega)
    generalize nowF A = now at hnow
    refine qei (q2t most L hgd qn qt now) ?_
    cases hg : qiu L qn qt now with
    | none =>
      rw [qny]; unfold qdc
      rw [q37]; rfl
    | some p =>
      obtain ⟨hm, hal, hname, hty⟩ := qbbk hg
      have hok := hI.ent p.2 hm
      show (bif ((((decide ((qbr p.2 now).u ≤ now)) || ((qbr p.2 now).l != (IntKind.i64.wrap ((qbr p.2 now).u - now)))) || ((qbr p.2 now).v != now)) || (!((qbr p.2 now).n == qn))) then (some false) else (qd2 A (A.length : Int) qn qt (qbr p.2 now).k (qbr p.2 now).n (qbr p.2 now).t (qbr p.2 now).l (qbr p.2 now).d (qbr p.2 now).r (qbr p.2 now).s (qbr p.2 now).u (qbr p.2 now).v (fun (_ : Unit) => (some false)) FU 0)) = _
      have e1 : ((((decide ((qbr p.2 now).u ≤ now)) || ((qbr p.2 now).l != (IntKind.i64.wrap ((qbr p.2 now).u - now)))) || ((qbr p.2 now).v != now)) || (!((qbr p.2 now).n == qn))) = false := by
        have e2 : q6d p.2.u now = IntKind.i64.wrap (p.2.u - now) := by unfold q6d; rw [if_neg (by omega)]
        simp [qbr, hname, e2]
        omega
      rw [e1, cond_f, qbgw A ha (by omega) _ (show qlj (qbr p.2 now).d from hok.2.2.2.2.2.2)]
      congr 1
      rw [List.any_eq_true]
      rcases hsrc p.2 hm with ⟨a, h3, h4⟩ | ⟨f, h3, _⟩
      · exact ⟨a, h3, qbdi h4 hok hname hty⟩
      · simp at h3
end Go.Proofs.YtmficjbenbhneaaDoor.Dn
