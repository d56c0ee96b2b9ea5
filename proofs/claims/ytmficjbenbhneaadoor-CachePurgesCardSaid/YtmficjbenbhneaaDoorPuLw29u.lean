/- Caches: the law of CachePurges. -/
import Derived.Test.YtmficjbenbhneaaDoorPuLw29r
set_option linter.all false
namespace Go.Proofs.YtmficjbenbhneaaDoor.Dn
open Go Go.Pev
set_option linter.unusedVariables false
set_option linter.unusedSimpArgs false
set_option maxRecDepth 8000
theorem qrd (P : En → Bool) : ∀ (L : List En) (i : Nat), (fidx P i L = -1 ∧ L.find? P = none) ∨ ∃ (k : Nat) (e : En), fidx P i L = ((i + k : Nat) : Int) ∧ L[k]? = some e ∧ L.find? P = some e
  | [], i => .inl ⟨rfl, rfl⟩
  | e :: L, i => by
    unfold fidx
    rw [List.find?_cons]
    cases hp : P e with
    | true => exact .inr ⟨0, e, by simp, rfl, rfl⟩
    | false =>
      rw [cond_f]
      rcases qrd P L (i + 1) with ⟨h, h2⟩ | ⟨k, x, h1, h2, h3⟩
      · exact .inl ⟨h, h2⟩
      · exact .inr ⟨k + 1, x, by rw [h1]; omega, h2, h3⟩
def getE (L : List En) (n : List UInt8) (t now : Int) : Option En :=
  ((L.find? fun e => e.alive now && e.about n t).or (L.find? fun e => e.alive now && e.k == 0 && e.about n 5)).or (L.find? fun e => e.alive now && e.denies n)
theorem q2v (L : List En) (n : List UInt8) (t now : Int) : (qce L n t now).map (·.2) = getE L n t now := by
  unfold getE
  have hit : ∀ (k : Nat) (e : En), qge L n t now = ((0 + k : Nat) : Int) → L[k]? = some e → (qce L n t now).map (·.2) = some e := fun k e h1 h2 => by
    rw [qber (k := k) (by rw [h1]; omega) h2]; rfl
  rcases qrd (fun e => e.alive now && e.about n t) L 0 with ⟨a1, a2⟩ | ⟨k, e, a1, a2, a3⟩
  · rcases qrd (fun e => e.alive now && e.k == 0 && e.about n 5) L 0 with ⟨b1, b2⟩ | ⟨k, e, b1, b2, b3⟩
    · rcases qrd (fun e => e.alive now && e.denies n) L 0 with ⟨c1, c2⟩ | ⟨k, e, c1, c2, c3⟩
      · rw [a2, b2, c2]
        have : qge L n t now = -1 := by
          unfold qge
          simp only [a1, b1]
          simpa using c1
        unfold qce
        rw [this]; rfl
      · rw [a2, b2, c3]
        exact hit k e (by unfold qge; simp only [a1, b1]; simpa using c1) c2
    · rw [a2, b3]
      refine (hit k e ?_ b2).trans (by simp)
      unfold qge
      simp only [a1, b1]
      rw [if_pos (show (-1 : Int) < 0 from by omega), if_neg (show ¬ ((0 + k : Nat) : Int) < 0 from by omega)]
  · rw [a3]
    refine (hit k e ?_ a2).trans (by simp)
    unfold qge
    simp only [a1]
    rw [if_neg (show ¬ ((0 + k : Nat) : Int) < 0 from by omega), if_neg (show ¬ ((0 + k : Nat) : Int) < 0 from by omega)]
theorem quf (P : En → Bool) (now t : Int) (h : now ≤ t) (hP : ∀ e, P e = true → e.alive t = true) (L : List En) : (qdl L now).find? P = L.find? P := by
  unfold qdl
  rw [List.find?_filter]
  congr 1
  funext e
  cases hp : P e with
  | false => simp
  | true =>
    have := hP e hp
    simp [En.alive] at this ⊢
    omega
theorem q2w (L : List En) (n : List UInt8) (ty now t : Int) (h : now ≤ t) : getE (qdl L now) n ty t = getE L n ty t := by
  unfold getE
  rw [quf _ now t h (fun e he => by simp only [Bool.and_eq_true] at he; exact he.1), quf _ now t h (fun e he => by simp only [Bool.and_eq_true] at he; exact he.1.1), quf _ now t h (fun e he => by simp only [Bool.and_eq_true] at he; exact he.1)]
theorem q95 (L M : List En) (n : List UInt8) (ty t : Int) (h : getE M n ty t = getE L n ty t) : getR t (qce M n ty t) = getR t (qce L n ty t) ∧ (qce M n ty t).isSome = (qce L n ty t).isSome := by
  rw [← q2v, ← q2v] at h
  cases h1 : qce M n ty t with
  | none =>
    cases h2 : qce L n ty t with
    | none => exact ⟨rfl, rfl⟩
    | some q => rw [h1, h2] at h; cases h
  | some p =>
    cases h2 : qce L n ty t with
    | none => rw [h1, h2] at h; cases h
    | some q =>
      rw [h1, h2] at h
      simp only [Option.map_some, Option.some.injEq] at h
      simp only [getR, h]
      exact ⟨trivial, rfl⟩
theorem q8o (name : List UInt8) (now t : Int) (h : now ≤ t) : ∀ (L : List En) (b : Option En), clF name t b (qdl L now) = clF name t b L
  | [], b => rfl
  | e :: L, b => by
    have ih := q8o name now t h L
    show clF name t b ((e :: L).filter fun e => e.alive now) = _
    rw [List.filter_cons]
    cases ha : e.alive now with
    | true =>
      rw [if_pos rfl]
      unfold clF
      exact ih _
    | false =>
      rw [if_neg (by simp)]
      have hn : nsB name t e = false := by
        unfold nsB
        have : e.alive t = false := by simp [En.alive] at ha ⊢; omega
        rw [this]; simp
      show clF name t b (qdl L now) = clF name t (if nsB name t e && decide (labN e > clO b) then some e else b) L
      rw [hn, ih]; rfl
theorem qbdf (name : List UInt8) (t : Int) : ∀ (L : List En) (b : Option En) (e : En), clF name t b L = some e → b = some e ∨ e ∈ L
  | [], b, e, h => .inl h
  | x :: L, b, e, h => by
    unfold clF at h
    rcases qbdf name t L _ e h with h1 | h1
    · split at h1
      · cases h1; exact .inr (by simp)
      · exact .inl h1
    · exact .inr (List.mem_cons_of_mem _ h1)
theorem law_CachePurges (acts : List AV) (ha : ∀ a, a ∈ acts → qp1 a) (qn : List UInt8) (qt now : Int) (hw : now ≤ 9223372036854775807) : qek acts qn qt now = some true := by
  rw [qp9]; unfold qd6
  rw [qbhy 20 (by omega) (by omega) acts ha, oB_s, show cutI qn none (some (if (300 : Int) < (qn.length : Int) then (300 : Int) else (qn.length : Int))) = some (qbw qn) from qoy qn 300, oB_s]
  have hI := qbeq (most := 20) (by omega) ha
  have hgd := hI.good (by omega)
  have hn : (qbw qn).length ≤ 9223372036854775807 := Nat.le_trans (qll _) (by omega)
  generalize qbbh 20 acts = L at hI hgd
  generalize qbw qn = n at hn
  have hlen := qes L
  have hll := hgd.len
  have hgP : Good (qdl L now) := hgd.filter _
  refine qdx (q39 20 L hgd now) ?_
  -- the end
  have fin : (oB (qc9 20 (avL L) n) fun r5 => (qch n (avL L) ((avL L).length : Int) (gI r5.cells 0) (gL r5.cells 1) (fun v24q6 => (bif (v24q6 == ((gL r5.cells 1).length : Int)) then (oB (qd1) fun r7 => (some r7)) else (some false))) FU 0 0)) = some true := by
    refine qdx (q38 20 L hgd n hn) ?_
    let F := qi4 L n
    have hFl : (avL F).length = F.length := qes F
    let kx : Int → Option Bool := fun v24q6 => (bif (v24q6 == ((avL F).length : Int)) then (oB (qd1) fun r7 => (some r7)) else (some false))
    show qch n (avL L) ((avL L).length : Int) 20 (avL F) kx FU 0 0 = some true
    let J : Nat → Int → Prop := fun i s => ∃ k : Nat, s = (k : Int) ∧ k ≤ F.length ∧ F.drop k = qi4 (L.drop i) n
    have := qfv (avL L) (by omega) (fun m i s => qb2 n (avL L) ((avL L).length : Int) 20 (avL F) kx m s i) (fun i s nx => qb1 n s (avL L) ((avL L).length : Int) i 20 (avL F) (fun p q => nx q p) kx) (fun _ _ _ => rfl) J
      (fun r s => some true)
      (fun s nx hJ => by
        obtain ⟨k, rfl, hk, hd⟩ := hJ
        have hk2 : k = F.length := by
          have h1 := congrArg List.length hd
          rw [List.length_drop, hlen, List.drop_of_length_le (Nat.le_refl _)] at h1
          simp [qi4] at h1
          omega
        have hb : decide (((avL L).length : Int) < ((avL L).length : Int)) = false := by simp
        unfold qb1
        rw [hb, cond_f]
        show (bif ((k : Int) == ((avL F).length : Int)) then (oB (qd1) fun r7 => (some r7)) else (some false)) = _
        rw [hFl, hk2, show (((F.length : Nat) : Int) == ((F.length : Nat) : Int)) = true from by simp, cond_t, qbgv]
        rfl)
      (fun i y r s nx g1 g2 g3 g4 hJ g6 => by
        obtain ⟨k, rfl, hk, hd⟩ := hJ
        obtain ⟨e, he, rfl⟩ := qow (List.mem_of_getElem? g2)
        have hle : L[i]? = some e := by
          rw [qml] at g2
          obtain ⟨e', h8, h9⟩ := Option.map_eq_some_iff.1 g2
          rw [h8, show e' = e from by rw [← qer e', h9, qer]]
        have hil := (List.getElem?_eq_some_iff.1 hle).1
        have hdr : L.drop i = e :: L.drop (i + 1) := by
          rw [List.drop_eq_getElem_cons hil, (List.getElem?_eq_some_iff.1 hle).2]
        have h7 : decide ((i : Int) < ((avL L).length : Int)) = true := by simp; omega
        have hen := (hgd.ok e he).1
        rw [hdr] at hd
        unfold qb1
        rw [h7, cond_t, ixB_nat, g2, oB_s, qso, cond_t, show qfr (gS e.av.cells 1) n = some (qnp e.n n) from q35 e.n n hen hn, oB_s]
        cases hu : qnp e.n n with
        | true =>
          rw [cond_t, g4]
          refine g6 _ ⟨k, rfl, hk, ?_⟩
          rw [hd]
          simp [qi4, hu]
        | false =>
          rw [cond_f]
          have hd2 : F.drop k = e :: qi4 (L.drop (i + 1)) n := by
            rw [hd]
            simp [qi4, hu]
          have hfk : F[k]? = some e := by
            have := congrArg (·[0]?) hd2
            simpa using this
          have hkl := (List.getElem?_eq_some_iff.1 hfk).1
          have hav : (avL F)[k]? = some e.av := by rw [qml, hfk]; rfl
          have hJ76 : ∀ kn : Bool → Option Bool, qev n (k : Int) (avL L) ((avL L).length : Int) (i : Int) 20 (avL F) (gI e.av.cells 0) (gS e.av.cells 1) (gI e.av.cells 2) (gI e.av.cells 3) (gL e.av.cells 4) (gI e.av.cells 5) (gI e.av.cells 6) (gI e.av.cells 7) (gI e.av.cells 8) kn = kn false := fun kn => by
            rw [qne]; unfold qcy
            rw [show decide ((k : Int) ≥ ((avL F).length : Int)) = false from by simp; omega, cond_f, ixB_nat, hav, oB_s]
            show (oB (qe5 e.n e.t e.l e.d e.n e.t e.l e.d) fun r3 => (bif (!r3) then (kn true) else (kn (e.u != e.u)))) = _
            have hdd := hI.ent e he
            rw [q8n _ _ _ _ _ _ _ _ (by have := hdd.2.2.2.2.2.1; omega) (fun y hy => (hdd.2.2.2.2.2.2 y hy).1) (fun y hy => (hdd.2.2.2.2.2.2 y hy).1), que]
            simp
          rw [show (avL F) = avL (qi4 L n) from rfl] at hJ76
          rw [hJ76, cond_f, g4]
          have hw1 : IntKind.i64.wrap ((k : Int) + 1) = ((k + 1 : Nat) : Int) := w64 (by omega) (by
            have : F.length ≤ L.length := List.length_filter_le ..
            omega)
          rw [hw1]
          refine g6 _ ⟨k + 1, rfl, by omega, ?_⟩
          have : F.drop (k + 1) = (F.drop k).drop 1 := by simp
          rw [this, hd2]; rfl)
      0 FU ⟨0, rfl, Nat.zero_le _, rfl⟩ (qfo (by omega))
    rw [qnf]
    exact this
  -- the two times
  have mid : ∀ later : Int, now ≤ later → (bif (hd ([(.int .i64 now), (.int .i64 later)] : List AV) (([(.int .i64 now), (.int .i64 later)] : List AV).length) && true) then (qdh n ((([(.int .i64 now), (.int .i64 later)] : List AV).length) : Int) n qt 20 (avL L) 20 (avL (qdl L now)) ([(.int .i64 now), (.int .i64 later)] : List AV) (fun (_ : Unit) => (oB (qc9 20 (avL L) n) fun r5 => (qch n (avL L) ((avL L).length : Int) (gI r5.cells 0) (gL r5.cells 1) (fun v24q6 => (bif (v24q6 == ((gL r5.cells 1).length : Int)) then (oB (qd1) fun r7 => (some r7)) else (some false))) FU 0 0))) FU 0) else none) = some true := by
    intro later hle
    rw [fin, hd_self, Bool.and_self, cond_t]
    let A : List AV := [(.int .i64 now), (.int .i64 later)]
    show qdh n (A.length : Int) n qt 20 (avL L) 20 (avL (qdl L now)) A (fun _ => some true) FU 0 = some true
    rw [qnc, qq5 A (by simp [A]) (qb0 n (A.length : Int) n qt 20 (avL L) 20 (avL (qdl L now)) A fun _ => some true) (fun i nx => qbz n (A.length : Int) i n qt 20 (avL L) 20 (avL (qdl L now)) A nx fun _ => some true) (fun _ _ => rfl) (fun _ => some true)]
    · intro nx
      unfold qbz
      rw [show decide ((A.length : Int) < (A.length : Int)) = false from by simp]; rfl
    · intro i y r nx g1 g2 g3 g4 g5
      have hy : ∃ t, y = .int .i64 t ∧ now ≤ t := by
        have := List.mem_of_getElem? g2
        simp only [A, List.mem_cons, List.not_mem_nil, or_false] at this
        rcases this with rfl | rfl
        · exact ⟨now, rfl, Int.le_refl _⟩
        · exact ⟨later, rfl, hle⟩
      obtain ⟨t, rfl, ht⟩ := hy
      unfold qbz
      rw [show decide ((i : Int) < (A.length : Int)) = true from by simp; omega, cond_t, hd_self, cond_t, show decide (0 ≤ (i : Int) ∧ (i : Int) < (A.length : Int)) = true from by simp; omega, cond_t, cond_t, Int.toNat_natCast, g2, oB_s,
        show rdE (AV.int .i64 t) 0 false 1 = some (.int .i64 t) from rfl, oB_s, show fitV (.one (.i .i64)) (AV.int .i64 t) = true from rfl, cond_t]
      refine qdx (qxz 20 L hgd n qt t) ?_
      refine qdx (qxz 20 (qdl L now) hgP n qt t) ?_
      refine qdx (qxj 20 L hgd n t hn) ?_
      refine qdx (qxj 20 (qdl L now) hgP n t hn) ?_
      rw [q8o n now t ht, (q95 L (qdl L now) n qt t (q2w L n qt now t ht)).1, (q95 L (qdl L now) n qt t (q2w L n qt now t ht)).2, Bool.and_self, cond_t]
      have hz : qlk (getR t (qce L n qt t)).d ∧ (getR t (qce L n qt t)).d.length ≤ 64 := by
        cases hg : qce L n qt t with
        | none => exact ⟨fun y hy => by simp [getR, qbbd] at hy, by simp [getR, qbbd]⟩
        | some p =>
          have := hI.ent p.2 (qbbj hg).1
          exact ⟨this.2.2.2.2.2.2, this.2.2.2.2.2.1⟩
      generalize getR t (qce L n qt t) = x at hz
      generalize (qce L n qt t).isSome = b1
      have hc : ∃ (m : List UInt8) (ty tl : Int) (d : List AV), qbbe t (clF n t none L) = .agg [.str m, .int .i64 ty, .int .i64 tl, .sl 13 d] ∧ qlk d ∧ d.length ≤ 64 := by
        cases hq : clF n t none L with
        | none => exact ⟨_, _, _, _, rfl, fun y hy => by simp at hy, by simp⟩
        | some e =>
          rcases qbdf n t L none e hq with h | h
          · cases h
          · have := hI.ent e h
            exact ⟨_, _, _, _, rfl, this.2.2.2.2.2.2, this.2.2.2.2.2.1⟩
      obtain ⟨m, ty, tl, d, hsv, hd1, hd2⟩ := hc
      rw [hsv]
      generalize (clF n t none L).isSome = b2
      have hJ : ∀ kn : Bool → Option Bool, qdg n b1 b1 b2 b2 (A.length : Int) (i : Int) n qt 20 (avL L) 20 (avL (qdl L now)) x.k x.n x.t x.l x.d x.r x.s x.u x.v x.k x.n x.t x.l x.d x.r x.s x.u x.v m ty tl d m ty tl d A kn = kn false := fun kn => by
        rw [qnb]; unfold qcx
        rw [q8n _ _ _ _ _ _ _ _ (by omega) (fun y hy => (hz.1 y hy).1) (fun y hy => (hz.1 y hy).1), que, q8n _ _ _ _ _ _ _ _ (by omega) (fun y hy => (hd1 y hy).1) (fun y hy => (hd1 y hy).1), que]
        simp
      show qdg n b1 b1 b2 b2 (A.length : Int) (i : Int) n qt 20 (avL L) 20 (avL (qdl L now)) x.k x.n x.t x.l x.d x.r x.s x.u x.v x.k x.n x.t x.l x.d x.r x.s x.u x.v m ty tl d m ty tl d A _ = _
      rw [hJ, cond_f, g4]
      exact g5
  rw [qm9]; unfold qcw
  by_cases hlt : now < 1099511627776
  · rw [show decide (now < 1099511627776) = true from by simpa using hlt, cond_t]
    exact mid _ (by
      rw [w64 (by split <;> omega) (by split <;> omega)]
      split <;> omega)
  · rw [show decide (now < 1099511627776) = false from by simpa using hlt, cond_f]
    exact mid _ (Int.le_refl _)
end Go.Proofs.YtmficjbenbhneaaDoor.Dn
