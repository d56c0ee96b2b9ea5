/- Caches: storing. -/
import Derived.Test.YtmficjbenbhneaaDoorPuLw29b
set_option linter.all false
namespace Go.Proofs.YtmficjbenbhneaaDoor.Dn
open Go Go.Pev
set_option linter.unusedVariables false
set_option linter.unusedSimpArgs false
set_option maxRecDepth 8000
def lsO (b : Option (Nat × Int)) : Int := match b with
  | none => -1
  | some p => p.1
def lsB (b : Option (Nat × Int)) (v : Int) : Bool := match b with
  | none => true
  | some p => decide (v < p.2)
def lstS (S : En → Bool) (b : Option (Nat × Int)) (i : Nat) (e : En) : Option (Nat × Int) := if (!S e && lsB b e.v) = true then some (i, e.v) else b
def lstF (S : En → Bool) : Option (Nat × Int) → Nat → List En → Option (Nat × Int)
  | b, _, [] => b
  | b, i, e :: r => lstF S (lstS S b i e) (i + 1) r
theorem qxh (S : En → Bool) : ∀ (r : List En) (b : Option (Nat × Int)) (i : Nat), (b.isSome = true ∨ ∃ e, e ∈ r ∧ S e = false) → (lstF S b i r).isSome = true
  | [], b, i, h => by
    rcases h with h | ⟨e, h, _⟩
    · exact h
    · simp at h
  | e :: r, b, i, h => by
    unfold lstF
    refine qxh S r _ _ ?_
    unfold lstS
    rcases h with h | ⟨x, hx, hs⟩
    · left
      split
      · rfl
      · exact h
    · rcases List.mem_cons.1 hx with rfl | hx
      · left
        cases b with
        | none => simp [hs, lsB]
        | some p => split <;> rfl
      · exact .inr ⟨x, hx, hs⟩
theorem q0j (S : En → Bool) (L : List En) : ∀ (r : List En) (b : Option (Nat × Int)) (i : Nat), L.drop i = r → (∀ p, b = some p → ∃ e, L[p.1]? = some e ∧ S e = false ∧ p.2 = e.v) → ∀ p, lstF S b i r = some p → ∃ e, L[p.1]? = some e ∧ S e = false ∧ p.2 = e.v
  | [], b, i, _, hb, p, h => hb p h
  | e :: r, b, i, hd, hb, p, h => by
    unfold lstF at h
    have hi : L[i]? = some e := by
      have := congrArg (·[0]?) hd
      simpa using this
    refine q0j S L r _ (i + 1) ?_ ?_ p h
    · have : L.drop (i + 1) = (L.drop i).drop 1 := by simp
      rw [this, hd]; rfl
    · intro p hp
      unfold lstS at hp
      split at hp
      · rename_i hc
        simp only [Bool.and_eq_true, Bool.not_eq_true'] at hc
        cases hp
        exact ⟨e, hi, hc.1, rfl⟩
      · exact hb p hp
def evF (most : Int) (S : En → Bool) : Nat → List En → List En
  | 0, L => L
  | k + 1, L => if decide ((L.length : Int) > most) && decide ((L.length : Int) > 1) then
      match lstF S none 0 L with
      | some p => evF most S k (L.eraseIdx p.1)
      | none => L
    else L
section
variable (x : En) (most now : Int) (l0 : List AV)
abbrev qv (x : En) : En → Bool := fun e => e.about x.n x.t
theorem qbgp (L : List En) (hL : L.length ≤ 1000000) (kx : Int → Option AV) : qky (qcd x) ((avL L).length : Int) most l0 now (avL L) kx FU (-1) 0 = kx (lsO (lstF (qv x) none 0 L)) := by
  have hlen := qes L
  let dec : Int → Option (Nat × Int) := fun a => if a < 0 then none else match L[a.toNat]? with
    | some e => some (a.toNat, e.v)
    | none => none
  let J : Nat → Int → Prop := fun i a => a = -1 ∨ ∃ (k : Nat) (e : En), a = (k : Int) ∧ L[k]? = some e
  have key := qfv (avL L) (by omega) (fun n i s => qeh (qcd x) ((avL L).length : Int) most l0 now (avL L) kx n s i)
    (fun i s nx => qeg (qcd x) s ((avL L).length : Int) i most l0 now (avL L) (fun a b => nx b a) kx) (fun _ _ _ => rfl) J (fun r s => kx (lsO (lstF (qv x) (dec s) ((avL L).length - r.length) (r.map enOf))))
    (fun s nx hJ => by
      have hs : lsO (dec s) = s := by
        rcases hJ with rfl | ⟨k, e, rfl, he⟩
        · rfl
        · simp only [dec]
          rw [if_neg (by omega)]
          simp [he, lsO]
      simp [qeg, lstF, hs])
    (fun i y r s nx h1 h2 h3 h4 hJ h6 => by
      obtain ⟨e, he, rfl⟩ := qow (List.mem_of_getElem? h2)
      have hle : L[i]? = some e := by
        rw [qml] at h2
        obtain ⟨e', h8, h9⟩ := Option.map_eq_some_iff.1 h2
        rw [h8, show e' = e from by rw [← qer e', h9, qer]]
      have h7 : decide ((i : Int) < ((avL L).length : Int)) = true := by simp; omega
      have hrl : (avL L).length - (e.av :: r).length = i := by
        have := congrArg List.length h1
        simp only [List.length_drop, List.length_cons] at this ⊢
        omega
      have hrl2 : (avL L).length - r.length = i + 1 := by
        simp only [List.length_cons] at hrl
        have := congrArg List.length h1
        simp only [List.length_drop, List.length_cons] at this
        omega
      have hin : decide (0 ≤ (i : Int) ∧ (i : Int) < (avL L).length) = true := by simp; omega
      unfold qeg
      simp only [h7, cond_t, hd_self, hin, Int.toNat_natCast, h2, oB_s]
      rw [show rdE e.av 0 true 9 = some e.av from rfl, oB_s, q90, cond_t]
      simp only [Bool.and_self, cond_t, h4]
      rw [qv7]; unfold qf9
      rw [show ap1.ap (qcd x) [.agg [.int .i64 (gI e.av.cells 0), .str (gS e.av.cells 1), .int .i64 (gI e.av.cells 2), .int .i64 (gI e.av.cells 3), .sl 13 (gL e.av.cells 4), .int .i64 (gI e.av.cells 5), .int .i64 (gI e.av.cells 6), .int .i64 (gI e.av.cells 7), .int .i64 (gI e.av.cells 8)]] = some (e.about x.n x.t) from qbgl e x, oB_s]
      rw [hrl, List.map_cons, qer, lstF]
      have hdi : dec (i : Int) = some (i, e.v) := by
        simp only [dec]
        rw [if_neg (by omega)]
        simp [hle]
      have hgo : ∀ s', J (i + 1) s' → dec s' = lstS (qv x) (dec s) i e → nx ((i + 1 : Nat) : Int) s' = kx (lsO (lstF (qv x) (lstS (qv x) (dec s) i e) (i + 1) (r.map enOf))) := fun s' hs' hd' => by
        rw [h6 s' hs', hrl2, hd']
      have hJi : J (i + 1) (i : Int) := .inr ⟨i, e, rfl, hle⟩
      cases hab : e.about x.n x.t with
      | true =>
        simp only [Bool.not_true, cond_f]
        exact hgo s hJ (by simp [lstS, hab, qv])
      | false =>
        simp only [Bool.not_false, cond_t]
        rcases hJ with rfl | ⟨k, e2, rfl, he2⟩
        · simp only [show decide ((-1 : Int) < 0) = true from rfl, cond_t]
          exact hgo _ hJi (by rw [hdi]; simp [lstS, hab, dec, qv, lsB])
        · have hk0 : decide ((k : Int) < 0) = false := by simp
          have hkl : k < L.length := (List.getElem?_eq_some_iff.1 he2).1
          have hkin : decide (0 ≤ (k : Int) ∧ (k : Int) < (avL L).length) = true := by simp; omega
          have hk2 : (avL L)[k]? = some e2.av := by rw [qml, he2]; rfl
          have hdk : dec (k : Int) = some (k, e2.v) := by
            simp only [dec]
            rw [if_neg (by omega)]
            simp [he2]
          simp only [hk0, cond_f, hkin, cond_t, Int.toNat_natCast, hk2, oB_s]
          rw [show rdE e2.av 8 false 1 = some (.int .i64 e2.v) from rfl, oB_s, show fitV (.one (.i .i64)) (.int .i64 e2.v) = true from rfl, cond_t]
          simp only [hd_self, cond_t]
          show (bif decide (e.v < e2.v) then nx ((i + 1 : Nat) : Int) (i : Int) else nx ((i + 1 : Nat) : Int) (k : Int)) = _
          cases hlt : decide (e.v < e2.v) with
          | true =>
            rw [cond_t]
            exact hgo _ hJi (by rw [hdi, hdk]; simp [lstS, hab, qv, lsB, hlt])
          | false =>
            rw [cond_f]
            exact hgo _ (.inr ⟨k, e2, rfl, he2⟩) (by rw [hdk]; simp [lstS, hab, qv, lsB, hlt]))
    (-1) FU (.inl rfl) (qfo (by omega))
  rw [qv8]
  have hd1 : dec (-1) = none := rfl
  have hm : (avL L).map enOf = L := by simp [avL, Function.comp_def, qer]
  rw [hd1, hm, Nat.sub_self] at key
  exact key
theorem qzd {α : Type} : ∀ (l : List α) (i : Nat), l.take i ++ l.drop (i + 1) = l.eraseIdx i
  | [], i => by simp
  | a :: l, 0 => by simp
  | a :: l, i + 1 => by simp [qzd l i]
def Uniq (L : List En) : Prop := L.Pairwise fun a b => ¬ (a.n = b.n ∧ a.t = b.t)
theorem qra {e : En} {n : List UInt8} {t : Int} : e.about n t = true ↔ e.n = n ∧ e.t = t := by simp [En.about]
theorem q2r {L : List En} (hu : Uniq L) (h : 1 < L.length) (x : En) : ∃ e, e ∈ L ∧ qv x e = false := by
  match L, h with
  | a :: b :: r, _ =>
    have h1 := (List.pairwise_cons.1 hu).1 b (by simp)
    cases ha : qv x a with
    | false => exact ⟨a, by simp, ha⟩
    | true =>
      refine ⟨b, by simp, ?_⟩
      cases hb : qv x b with
      | false => rfl
      | true =>
        have ha' := qra.1 ha
        have hb' := qra.1 hb
        exact absurd ⟨ha'.1.trans hb'.1.symm, ha'.2.trans hb'.2.symm⟩ h1
theorem qbgq (kx : List AV → Option AV) : ∀ (k : Nat) (L : List En), L.length = k → L.length ≤ 1000000 → Uniq L → ∀ n, k < n → qb5 (qcd x) most l0 now kx n (avL L) = kx (avL (evF most (qv x) k L)) := by
  intro k
  induction k with
  | zero =>
    intro L hk hL hu n hn
    obtain ⟨n, rfl⟩ : ∃ m, n = m + 1 := ⟨n - 1, by omega⟩
    have : L = [] := List.eq_nil_of_length_eq_zero hk
    subst this
    show qdm (qcd x) most l0 now (avL []) (qb5 (qcd x) most l0 now kx n) kx = _
    unfold qdm
    simp [qbgh, evF]
  | succ k ih =>
    intro L hk hL hu n hn
    obtain ⟨n, rfl⟩ : ∃ m, n = m + 1 := ⟨n - 1, by omega⟩
    have hlen := qes L
    show qdm (qcd x) most l0 now (avL L) (qb5 (qcd x) most l0 now kx n) kx = _
    unfold qdm evF
    rw [hlen]
    cases hc : (decide ((L.length : Int) > most) && decide ((L.length : Int) > 1)) with
    | false => rfl
    | true =>
      simp only [cond_t, if_true]
      have h1 : 1 < L.length := by
        simp only [Bool.and_eq_true, decide_eq_true_eq] at hc
        omega
      have hsome := qxh (qv x) L none 0 (.inr (q2r hu h1 x))
      obtain ⟨p, hp⟩ := Option.isSome_iff_exists.1 hsome
      obtain ⟨e, he, _, _⟩ := q0j (qv x) L L none 0 rfl (fun p h => by cases h) p hp
      have hpl : p.1 < L.length := (List.getElem?_eq_some_iff.1 he).1
      have hb : (hd (avL L) L.length && (hd (avL L) L.length && true)) = true := by rw [← hlen]; simp
      rw [hb, cond_t, ← hlen, qbgp x most now l0 L hL, hp, hlen]
      have hw : IntKind.i64.wrap (lsO (some p) + 1) = ((p.1 + 1 : Nat) : Int) := w64 (by simp [lsO]; omega) (by simp [lsO]; omega)
      have hdel : qsm (avL L) (lsO (some p)) (IntKind.i64.wrap (lsO (some p) + 1)) = some (avL (L.eraseIdx p.1)) := by
        rw [hw]
        unfold qsm
        have hcd : decide (0 ≤ lsO (some p) ∧ lsO (some p) < ((p.1 + 1 : Nat) : Int) ∧ ((p.1 + 1 : Nat) : Int) ≤ (avL L).length ∧ (avL L).length ≤ 9223372036854775807) = true := by simp [lsO]; omega
        rw [hcd]
        show some ((avL L).take p.1 ++ (avL L).drop (p.1 + 1)) = _
        rw [← qzd L, qbgi]
        simp only [avL, List.map_take, List.map_drop]
      rw [← hlen, hd_self, cond_t, hdel, oB_s]
      simp only [hp]
      refine ih _ ?_ ?_ ?_ n (by omega)
      · rw [List.length_eraseIdx_of_lt hpl]; omega
      · rw [List.length_eraseIdx_of_lt hpl]; omega
      · exact hu.sublist (List.eraseIdx_sublist ..)
def posF (L : List En) (x : En) : Nat := if fidx (fun e => decide (ordE e x > 0)) 0 L < 0 then L.length else (fidx (fun e => decide (ordE e x > 0)) 0 L).toNat
theorem qxw (P : En → Bool) : ∀ (L : List En) (i : Nat), fidx P i L = -1 ∨ ∃ k, k < L.length ∧ fidx P i L = ((i + k : Nat) : Int)
  | [], i => .inl rfl
  | e :: L, i => by
    unfold fidx
    cases P e with
    | true => exact .inr ⟨0, by simp, by simp⟩
    | false =>
      rw [cond_f]
      rcases qxw P L (i + 1) with h | ⟨k, h1, h2⟩
      · exact .inl h
      · exact .inr ⟨k + 1, by simp; omega, by rw [h2]; omega⟩
theorem qbgr (L : List En) (x : En) : posF L x ≤ L.length := by
  unfold posF
  split
  · exact Nat.le_refl _
  · rcases qxw (fun e => decide (ordE e x > 0)) L 0 with h | ⟨k, h1, h2⟩
    · rw [h]; simp
    · rw [h2]; simp; omega
def insF (L : List En) (x : En) : List En := L.take (posF L x) ++ [x] ++ L.drop (posF L x)
def qgt (most : Int) (L : List En) (x : En) (now : Int) : List En :=
  let l1 := insF (L.filter fun e => !qv x e) x
  let l2 := if (l1.length : Int) > most then l1.filter (fun e => qv x e || e.alive now) else l1
  evF most (qv x) l2.length l2
def enOk (e : En) : Prop := qua e ∧ qss e
theorem qxi (L : List En) (x : En) : (insF L x).Perm (x :: L) := by
  unfold insF
  have h := List.perm_middle (a := x) (l₁ := L.take (posF L x)) (l₂ := L.drop (posF L x))
  rw [List.take_append_drop] at h
  simpa using h
theorem qbej (L : List En) (x : En) : (insF L x).length = L.length + 1 := by rw [(qxi L x).length_eq]; rfl
theorem q8i {L : List En} {x e : En} : e ∈ insF L x ↔ e = x ∨ e ∈ L := by rw [(qxi L x).mem_iff]; simp
theorem qxx (S : En → Bool) : ∀ (k : Nat) (L : List En), (evF most S k L).Sublist L
  | 0, L => List.Sublist.refl _
  | k + 1, L => by
    unfold evF
    split
    · split
      · exact (qxx S k _).trans (List.eraseIdx_sublist ..)
      · exact List.Sublist.refl _
    · exact List.Sublist.refl _
theorem qbbc {L : List En} {e : En} (h : e ∈ qgt most L x now) : e = x ∨ e ∈ L := by
  unfold qgt at h
  have h1 := (qxx most (qv x) _ _).subset h
  have h2 : e ∈ insF (L.filter fun e => !qv x e) x := by
    split at h1
    · exact (List.mem_filter.1 h1).1
    · exact h1
  rcases q8i.1 h2 with h3 | h3
  · exact .inl h3
  · exact .inr (List.mem_filter.1 h3).1
theorem qbek {L : List En} (hu : Uniq L) (h : ∀ e, e ∈ L → qv x e = false) : Uniq (insF L x) := by
  refine ((qxi L x).pairwise_iff (fun {a b} hab => ?_)).2 (List.pairwise_cons.2 ⟨fun e he => ?_, hu⟩)
  · exact fun hc => hab ⟨hc.1.symm, hc.2.symm⟩
  · intro hc
    have := h e he
    rw [show qv x e = true from qra.2 ⟨hc.1.symm, hc.2.symm⟩] at this
    cases this
theorem q92 (L : List En) (hL : L.length ≤ 100000) (hu : Uniq L) (hok : ∀ e, e ∈ L → enOk e) (hx : enOk x) :
    qfs most (avL L) x.k x.n x.t x.l x.d x.r x.s x.u x.v now = some (.agg [.int .i64 most, .sl 9 (avL (qgt most L x now))]) := by
  rw [q3g]; unfold qjk
  have hl0 : (L.filter fun e => !qv x e).length ≤ 100000 := Nat.le_trans (List.length_filter_le ..) hL
  have hm0 : ∀ e, e ∈ L.filter (fun e => !qv x e) → enOk e ∧ qv x e = false := fun e he => by
    have := List.mem_filter.1 he
    exact ⟨hok e this.1, by simpa using this.2⟩
  have hu0 : Uniq (L.filter fun e => !qv x e) := hu.sublist (List.filter_sublist ..)
  have hk1 := qsq L (by omega) _ (fun e => !qv x e) (fun e _ => qbed e x)
  unfold qcd at hk1
  rw [hk1, oB_s, hd_self, cond_t]
  unfold qgt
  generalize L.filter (fun e => !qv x e) = L0 at *
  rw [qsr L0 (by omega) _ (fun e => decide (ordE e x > 0)) (fun e he => qbee e x (hm0 e he).1.1 hx.1), oB_s]
  simp only [hd_self, Bool.and_self, cond_t]
  have hpos : ∀ kn : Int → Option AV, ql3 x.k x.n x.t x.l x.d x.r x.s x.u x.v (qcd x) (fidx (fun e => decide (ordE e x > 0)) 0 L0) most (avL L) now 0 (avL L0) kn = kn (posF L0 x : Int) := fun kn => by
    rw [qyi]; unfold qgz posF
    rw [qes]
    by_cases h : fidx (fun e => decide (ordE e x > 0)) 0 L0 < 0
    · simp [h]
    · simp only [h, decide_false, cond_f, if_false]
      rw [show ((fidx (fun e => decide (ordE e x > 0)) 0 L0).toNat : Int) = fidx (fun e => decide (ordE e x > 0)) 0 L0 from Int.toNat_of_nonneg (by omega)]
  unfold qcd at hpos
  rw [hpos]
  have hple := qbgr L0 x
  have hlen0 := qes L0
  have hins : qov 96 (avL L0) (posF L0 x : Int) [x.av] = some (avL (insF L0 x)) := by
    unfold qov
    have hc : decide (0 ≤ (posF L0 x : Int) ∧ (posF L0 x : Int) ≤ (avL L0).length ∧ 0 < ([x.av] : List AV).length ∧ ((avL L0).length + ([x.av] : List AV).length) * 96 ≤ 140737488355328) = true := by simp; omega
    rw [hc]
    show some ((avL L0).take (posF L0 x) ++ [x.av] ++ (avL L0).drop (posF L0 x)) = _
    unfold insF
    simp only [avL, List.map_append, List.map_take, List.map_drop, List.map_cons, List.map_nil]
  show (oB (qov 96 (avL L0) (posF L0 x : Int) [x.av]) fun r4 => _) = _
  rw [hins, oB_s]
  have hl1 : (insF L0 x).length ≤ 100001 := by rw [qbej]; omega
  have hm1 : ∀ e, e ∈ insF L0 x → enOk e := fun e he => by
    rcases q8i.1 he with rfl | h
    · exact hx
    · exact (hm0 e h).1
  have hu1 : Uniq (insF L0 x) := qbek x hu0 (fun e he => (hm0 e he).2)
  generalize insF L0 x = L1 at *
  have hJ : ∀ kn : List AV → Option AV, qhz (qcd x) most (avL L) now 0 (avL L1) kn = kn (avL (if (L1.length : Int) > most then L1.filter (fun e => qv x e || e.alive now) else L1)) := fun kn => by
    rw [qv5]; unfold qf8
    rw [qes]
    by_cases h : (L1.length : Int) > most
    · simp only [h, decide_true, cond_t, if_true]
      rw [← qes L1, hd_self, cond_t, qsq L1 (by omega) _ (fun e => qv x e || e.alive now) (fun e _ => qbef e x now), oB_s]
    · simp only [h, decide_false, cond_f, if_false]
  show qhz (qcd x) most (avL L) now 0 (avL L1) _ = _
  rw [hJ]
  have hl2 : (if (L1.length : Int) > most then L1.filter (fun e => qv x e || e.alive now) else L1).length ≤ 100001 := by
    split
    · exact Nat.le_trans (List.length_filter_le ..) hl1
    · exact hl1
  have hm2 : ∀ e, e ∈ (if (L1.length : Int) > most then L1.filter (fun e => qv x e || e.alive now) else L1) → enOk e := fun e he => by
    split at he
    · exact hm1 e (List.mem_filter.1 he).1
    · exact hm1 e he
  have hu2 : Uniq (if (L1.length : Int) > most then L1.filter (fun e => qv x e || e.alive now) else L1) := by
    split
    · exact hu1.sublist (List.filter_sublist ..)
    · exact hu1
  generalize (if (L1.length : Int) > most then L1.filter (fun e => qv x e || e.alive now) else L1) = L2 at *
  rw [qv9]
  show qb5 (qcd x) most (avL L) 0 _ FU (avL L2) = _
  rw [qbgq x most 0 (avL L) _ L2.length L2 rfl (by omega) hu2 FU (qfo (by omega))]
  have hsub := qxx most (qv x) L2.length L2
  rw [qbc6 most (avL L) _ (Nat.le_trans hsub.length_le (by omega)) (fun e he => (hm2 e (hsub.subset he)).2), oB_s]
  rfl
end
end Go.Proofs.YtmficjbenbhneaaDoor.Dn
