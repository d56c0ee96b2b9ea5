/- The calculus over trees that the proof rests on, proved sound against the model (LibBb). -/
import Derived.Test.YtmoedhehjonnhaaGreatDoorRoLibB
import Derived.OrdersHeld
import Derived.WideShapes
import Derived.ProofKit
import Derived.Carry
set_option linter.all false
/- Regions that draw their order: variables made among the heads; words of the head that may come behind the tail's. -/
namespace Go.Pev
open Go
set_option linter.unusedVariables false
set_option linter.unusedSimpArgs false
section
variable {P : Program} {T : Tab} {nt : Nat}
def qva : AV → Bool
  | .ptr .. => true
  | _ => false
theorem qxi (hT : T.ok P) {g : Gh} {m : Mem} {w : World} (hok : OK g m w) {t : Env} {a : Act} (hr : ERel g m w t a) {o : Oper} {so : SOp} {v : AV} (hc : cOp T o.op = some so)
    (hf : (qnr so = true ∧ (evs t so.opds).all flat = true) ∨ ∃ off x r k, so = .fa off x ∧ ev t x = .ptr r k) (hv : qa t m so = some v) :
    ∃ cv, VRel g m w v cv ∧ ∀ w', (execOp a.eval o).run P w' = .ok (.value cv) w' := by
  obtain ⟨cv, h1, h2⟩ := qiz hT hok hr hc hv
  refine ⟨cv, h1, fun w' => ?_⟩
  let g0 : Gh := { g with I := fun _ _ => False }
  let w0 : World := { w with heap := #[] }
  let m0 : Mem := ⟨fun _ => none, m.n⟩
  let t0 : Env := fun i => if flat (t i) = true ∨ qva (t i) = true then t i else .any
  have hok0 : OK1 g0 m0 w0 := ⟨fun r ob h => by simp [m0] at h, fun r ob h => by simp [m0] at h, fun r r' ob ob' b h => by simp [m0] at h, fun b k h => h.elim⟩
  have hr0 : ERel g0 m0 w0 t0 a := fun i => by
    show VRel g0 m0 w0 (if flat (t i) = true ∨ qva (t i) = true then t i else .any) _
    split
    · rename_i hfi
      rcases hfi with hfi | hfi
      · exact .c (qsu hfi (hr i) _ _)
      · have hri := hr i
        cases hti : t i <;> rw [hti] at hfi hri <;> simp [qva] at hfi
        generalize a.tmps.getD i undef = u at hri ⊢
        cases hri with
        | c h => cases h
        | ptr _ _ h => exact VRel.ptr (g := g0) (m := m0) _ _ h
    · exact .c (.any _)
  have hev : ∀ x, x ∈ so.opds → ev t0 x = ev t x := by
    intro x hx
    have hfx : flat (ev t x) = true ∨ qva (ev t x) = true := by
      rcases hf with ⟨_, hfl⟩ | ⟨off, y, r, k, rfl, hy⟩
      · exact .inl (List.all_eq_true.1 hfl _ (by unfold evs; exact List.mem_map.2 ⟨x, hx, rfl⟩))
      · simp only [SOp.opds, List.mem_singleton] at hx
        subst hx
        right; rw [hy]; rfl
    cases x with
    | t i =>
      show (if flat (t i) = true ∨ qva (t i) = true then t i else .any) = t i
      exact if_pos hfx
    | c z => rfl
  have hv0 : qa t0 m0 so = some v := by
    rw [qm5 hev, ← hv]
    rcases hf with ⟨hf, _⟩ | ⟨off, y, r, k, rfl, hy⟩
    · cases so <;> first | rfl | (simp [qnr] at hf)
    · simp only [qa, hy, vfa]
  obtain ⟨cv0, h3, h4⟩ := qqh hT hok0 hr0 hc hv0
  have e1 := h2 w (Old.refl w)
  have e2 := h4 w (fun b hb => by simp [w0] at hb)
  rw [e1] at e2
  simp only [Result.ok.injEq, Next.value.injEq, and_true] at e2
  rw [e2]
  exact h4 w' (fun b hb => by simp [w0] at hb)
def wkT : AV → AV
  | .tup vs => .tup (vs.map fun _ => .any)
  | _ => .any
theorem q7c (hT : T.ok P) {g : Gh} {m : Mem} {w : World} (hok : OK g m w) {t : Env} {a : Act} (hr : ERel g m w t a) {o : Oper} {so : SOp} {v : AV} (hc : cOp T o.op = some so) (hf : valS so = true) (hv : qa t m so = some v) :
    ∃ cv, VRel g m w v cv ∧ ∀ w', (execOp a.eval o).run P w' = .ok (.value cv) w' := by
  obtain ⟨cv, h1, h2⟩ := qiz hT hok hr hc hv
  refine ⟨cv, h1, fun w' => ?_⟩
  let g0 : Gh := { g with I := fun _ _ => False }
  let w0 : World := { w with heap := #[] }
  let m0 : Mem := ⟨fun _ => none, m.n⟩
  let t0 : Env := fun i => wkT (t i)
  have hok0 : OK1 g0 m0 w0 := ⟨fun r ob h => by simp [m0] at h, fun r ob h => by simp [m0] at h, fun r r' ob ob' b h => by simp [m0] at h, fun b k h => h.elim⟩
  have hr0 : ERel g0 m0 w0 t0 a := fun i => by
    show VRel g0 m0 w0 (wkT (t i)) _
    have hri := hr i
    unfold wkT
    split
    · rename_i vs hti
      rw [hti] at hri
      generalize a.tmps.getD i undef = u at hri ⊢
      have : ∃ us : Array Value, u = .tuple us ∧ us.size = vs.length := by
        cases hri with
        | c h => cases h with
          | tup _ us hs hh => exact ⟨us, rfl, hs⟩
        | tup _ us hs hh => exact ⟨us, rfl, hs⟩
      obtain ⟨us, rfl, hs⟩ := this
      refine .c (.tup _ us (by simpa using hs) fun k x v hx hv => ?_)
      obtain ⟨_, _, rfl⟩ := List.mem_map.1 (List.mem_of_getElem? hx)
      exact .any _
    · exact .c (.any _)
  have hv0 : ∃ v0, qa t0 m0 so = some v0 := by
    cases so <;> first | (simp [valS] at hf; done) | skip
    case mv x => exact ⟨_, rfl⟩
    case ext x i =>
      cases x with
      | c z => exact ⟨v, hv⟩
      | t j =>
        simp only [qa, ev, vext] at hv ⊢
        split at hv
        · rename_i vs hj
          have hlt := (List.getElem?_eq_some_iff.1 hv).1
          refine ⟨.any, ?_⟩
          show (match wkT (t j) with
            | .tup vs => vs[i]?
            | _ => none) = _
          rw [hj]
          simp [wkT, hlt]
        · cases hv
  obtain ⟨v0, hv0⟩ := hv0
  obtain ⟨cv0, h3, h4⟩ := qqh hT hok0 hr0 hc hv0
  have e1 := h2 w (Old.refl w)
  have e2 := h4 w (fun b hb => by simp [w0] at hb)
  rw [e1] at e2
  simp only [Result.ok.injEq, Next.value.injEq, and_true] at e2
  rw [e2]
  exact h4 w' (fun b hb => by simp [w0] at hb)
theorem qsx : ∀ (l : List SOper), (dsts l).Nodup → ∀ (i j : Nat) (s s' : SOper) (d : Nat), l[i]? = some s → l[j]? = some s' → s.dst = some d → s'.dst = some d → i = j
  | [], _, i, j, s, s', d, h1, _, _, _ => by simp at h1
  | x :: r, hn, i, j, s, s', d, h1, h2, h3, h4 => by
    have hn2 : (dsts r).Nodup := by
      unfold dsts at hn ⊢
      simp only [List.filterMap_cons] at hn
      split at hn
      · exact hn
      · exact (List.nodup_cons.1 hn).2
    have hno : ∀ d, x.dst = some d → d ∉ dsts r := by
      intro d hd
      unfold dsts at hn ⊢
      simp only [List.filterMap_cons, hd] at hn
      exact (List.nodup_cons.1 hn).1
    cases i with
    | zero =>
      cases j with
      | zero => rfl
      | succ j =>
        simp at h1 h2
        subst h1
        exact absurd (qbi.2 ⟨s', List.mem_of_getElem? h2, h4⟩) (hno d h3)
    | succ i =>
      cases j with
      | zero =>
        simp at h1 h2
        subst h2
        exact absurd (qbi.2 ⟨s, List.mem_of_getElem? h1, h3⟩) (hno d h4)
      | succ j =>
        simp at h1 h2
        rw [qsx r hn2 i j s s' d h1 h2 h3 h4]
theorem qzh {l l' : List SOper} (hs : l'.Sublist l) (h : qb7 l = true) : qb7 l' = true := by
  induction hs with
  | slnil => rfl
  | cons a _ ih => simp only [qb7, Bool.and_eq_true] at h; exact ih h.2
  | cons_cons a hs ih =>
    rename_i l1 l2
    simp only [qb7, Bool.and_eq_true, List.all_eq_true] at h ⊢
    refine ⟨fun o ho => ?_, ih h.2⟩
    rcases List.mem_cons.1 ho with rfl | ho
    · exact h.1 _ List.mem_cons_self
    · exact h.1 _ (List.mem_cons_of_mem _ (hs.subset ho))
theorem q4g {l l' : List SOper} (hs : l'.Sublist l) (h : (dsts l).Nodup) : (dsts l').Nodup := (hs.filterMap _).nodup h
theorem qyj (l : List SOper) (als : List Nat) : ∀ n, (hds2 l n als).Sublist (l.take n)
  | 0 => by simp [hds2]
  | n + 1 => by
    have ih := qyj l als n
    unfold hds2 at ih ⊢
    rw [List.range_succ, List.filterMap_append, List.take_add_one]
    refine List.Sublist.append ih ?_
    simp only [List.filterMap_cons, List.filterMap_nil]
    split
    · exact List.nil_sublist _
    · rename_i x hx
      split at hx
      · cases hx
      · rw [hx]; exact List.Sublist.refl _
theorem qsy {l : List SOper} {n : Nat} {als : List Nat} {s : SOper} : s ∈ hds2 l n als ↔ ∃ j, j < n ∧ j ∉ als ∧ l[j]? = some s := by
  unfold hds2
  simp only [List.mem_filterMap, List.mem_range]
  constructor
  · rintro ⟨j, h1, h2⟩
    split at h2
    · cases h2
    · rename_i h; exact ⟨j, h1, h, h2⟩
  · rintro ⟨j, h1, h2, h3⟩
    exact ⟨j, h1, by rw [if_neg h2]; exact h3⟩
structure AlFact (ops : Array Oper) (l : List SOper) (n i : Nat) (d : Nat) (z : List AV) (o : Oper) (s : SOper) : Prop where
  lt : i < n
  ho : ops[i]? = some o
  hs : l[i]? = some s
  op : s.op = .alloc z
  g : s.g = none
  dst : s.dst = some d
  z : z.all qh8 = true
  after : ∀ e, e ∈ o.after → Region.binds .any e = true → e.on < i
  strict : Region.waitsFor .any ops n i = true
  unread : ∀ j s', j < n → l[j]? = some s' → s'.reads d = false
structure LooseFact (ops : Array Oper) (l : List SOper) (i : Nat) (o : Oper) (s : SOper) : Prop where
  ho : ops[i]? = some o
  hs : l[i]? = some s
  kind : qnr s.op = true ∨ faS s.op = true ∨ (ptrS s.op = true ∧ q0w o.op = true)
  g : s.g = none
  og : o.guard = none
  apart : ∀ j oj, i < j → ops[j]? = some oj → (∀ e, e ∈ oj.after → Region.binds .any e = true → e.on ≠ i) → o.apart ops oj = true
structure Draw2 (ops : Array Oper) (l : List SOper) (n : Nat) (als : List Nat) : Prop where
  lt : n < ops.size
  sel : Region.noSelect ops = true
  nodup : (dsts (l.take n)).Nodup
  head : ∀ j o s, j < n → j ∉ als → ops[j]? = some o → l[j]? = some s → HeadFact ops l n j o s
  kind : ∀ j, j < n → j ∉ als → Region.waitsFor .any ops n j = true ∨ ∃ o s, LooseFact ops l j o s
  alf : ∀ i, i ∈ als → ∃ d z o s, AlFact ops l n i d z o s
  chain : Region.chainB .any ops n = true
  calm : (lds2 ops l n).isEmpty = true ∨ qix (qq6 (l.drop n)) (l.drop n) = true
  anod : als.Nodup
  seq : Region.seqB .any ops (ops.size - n) n ((Array.range ops.size).map (fun i => decide (i < n))) = true
theorem qmg {ops : Array Oper} {l : List SOper} {n : Nat} (h : qq7 ops l n = true) : Draw2 ops l n (qb4 l n) := by
  unfold qq7 at h
  simp only [Bool.and_eq_true, decide_eq_true_eq, List.all_eq_true, List.mem_range] at h
  obtain ⟨⟨⟨⟨⟨⟨h1, h2⟩, h3⟩, h4⟩, h5⟩, h6⟩, h7⟩ := h
  refine ⟨h1, h2, qpw _ h4, fun j o s hj hal ho hs => ?_, fun j hj hal => ?_, fun i hi => ?_, h5, by simpa using h7, List.Pairwise.filter _ List.nodup_range, h6⟩
  · have := h3 j hj
    unfold qy9 at this
    rw [if_neg hal, Bool.and_eq_true] at this
    exact qzg ho hs this.1
  · have := h3 j hj
    unfold qy9 at this
    rw [if_neg hal, Bool.and_eq_true, Bool.or_eq_true] at this
    rcases this.2 with hw | hl
    · exact .inl hw
    · right
      unfold q77 at hl
      split at hl
      · rename_i oi s ho hs
        simp only [Bool.and_eq_true, Bool.or_eq_true, List.all_eq_true, List.mem_range, Option.isNone_iff_eq_none] at hl
        obtain ⟨⟨⟨a1, a2⟩, a3⟩, a4⟩ := hl
        refine ⟨oi, s, ho, hs, a1.elim (fun a1 => a1.elim .inl (fun a1 => .inr (.inl a1))) (fun a1 => .inr (.inr a1)), a3, a2, fun k ok hk hok hno => ?_⟩
        have hks : k < ops.size := (Array.getElem?_eq_some_iff.1 hok).1
        have := a4 k hks
        rw [hok] at this
        simp only [Bool.or_eq_true, decide_eq_true_eq] at this
        rcases this with (hle | hw) | hap
        · omega
        · obtain ⟨o', ho', e, he, hb, hon⟩ := Region.waitsFor_spec hw
          have : o' = ok := Option.some.inj (ho'.symm.trans hok)
          subst this
          exact absurd hon (hno e he hb)
        · exact hap
      · cases hl
  · have hin : i < n := by
      have := (List.mem_filter.1 hi).1
      simpa using this
    have := h3 i hin
    unfold qy9 at this
    rw [if_pos hi] at this
    unfold qbbr at this
    split at this
    · rename_i o s ho hs
      simp only [Bool.and_eq_true, List.all_eq_true, List.mem_range, Option.isNone_iff_eq_none, Option.isSome_iff_exists] at this
      obtain ⟨⟨⟨⟨⟨a1, a2⟩, d, a3⟩, a4⟩, a5⟩, a6⟩ := this
      have hz : ∃ z, s.op = .alloc z ∧ z.all qh8 = true := by
        revert a1
        cases s.op <;> intro a1 <;> first | exact ⟨_, rfl, a1⟩ | cases a1
      obtain ⟨z, hz1, hz2⟩ := hz
      refine ⟨d, z, o, s, hin, ho, hs, hz1, a2, a3, hz2, fun e he hb => ?_, a5, fun j s' hj hs' => ?_⟩
      · have := a4 e (by simpa using he)
        simpa [hb] using this
      · have := a6 j hj
        rw [hs', a3] at this
        simpa using this
    · cases this
theorem qzi {x : AV} (h : qh8 x = true) : qcl x = true := by
  cases x <;> simp [qh8] at h <;> rfl
def weak (ods : List Nat) (E : Env) : Env := fun i => if i ∈ ods then .any else E i
theorem qon {l : List SOper} {n i : Nat} {t tF : Env} {listed : Array Bool} {s : SOper} (hil : i < listed.size) (hin : i < n) (hs : l[i]? = some s) {v : AV} (hv : ∀ d, s.dst = some d → tF d = v) :
    upd (midE l n t tF listed) s.dst v = midE l n t tF (listed.setIfInBounds i true) := by
  funext x
  have hset : ∀ j, (listed.setIfInBounds i true).getD j true = true ↔ j = i ∨ listed.getD j true = true := by
    intro j
    by_cases hji : i = j
    · subst hji; simp [hil]
    · rw [getD_set_ne true hji]
      constructor
      · exact .inr
      · rintro (h | h)
        · exact absurd h.symm hji
        · exact h
  cases hod : s.dst with
  | none =>
    simp only [upd]
    unfold midE
    have : (∃ j, j < n ∧ listed.getD j true = true ∧ (l[j]?).bind (·.dst) = some x) ↔ (∃ j, j < n ∧ (listed.setIfInBounds i true).getD j true = true ∧ (l[j]?).bind (·.dst) = some x) := by
      constructor
      · rintro ⟨j, h1, h2, h3⟩; exact ⟨j, h1, (hset j).2 (.inr h2), h3⟩
      · rintro ⟨j, h1, h2, h3⟩
        rcases (hset j).1 h2 with rfl | h2
        · rw [hs] at h3; simp [hod] at h3
        · exact ⟨j, h1, h2, h3⟩
    simp only [this]
  | some d =>
    simp only [upd]
    by_cases hxd : x = d
    · subst hxd
      rw [if_pos rfl]
      unfold midE
      rw [if_pos ⟨i, hin, (hset i).2 (.inl rfl), by rw [hs]; simp [hod]⟩]
      exact (hv x hod).symm
    · rw [if_neg hxd]
      unfold midE
      have : (∃ j, j < n ∧ listed.getD j true = true ∧ (l[j]?).bind (·.dst) = some x) ↔ (∃ j, j < n ∧ (listed.setIfInBounds i true).getD j true = true ∧ (l[j]?).bind (·.dst) = some x) := by
        constructor
        · rintro ⟨j, h1, h2, h3⟩; exact ⟨j, h1, (hset j).2 (.inr h2), h3⟩
        · rintro ⟨j, h1, h2, h3⟩
          rcases (hset j).1 h2 with rfl | h2
          · rw [hs] at h3; simp [hod] at h3; exact absurd h3.symm hxd
          · exact ⟨j, h1, h2, h3⟩
      simp only [this]
theorem q4h {ods : List Nat} {E : Env} {dst : Option Nat} {v : AV} (h : ∀ d, dst = some d → d ∉ ods) : upd (weak ods E) dst v = weak ods (upd E dst v) := by
  funext x
  cases dst with
  | none => rfl
  | some d =>
    simp only [upd, weak]
    by_cases hx : x = d
    · subst hx; rw [if_pos rfl, if_neg (h _ rfl), if_pos rfl]
    · rw [if_neg hx, if_neg hx]
def LatB (wS : World) (m1 : Mem) (d : Nat) (z : List AV) (g : Gh) (w : World) (a : Act) (b : Nat) : Prop :=
  ∃ arr, a.tmps.getD d undef = .pointer (some ⟨b, 0, none⟩) ∧ wS.heap.size ≤ b ∧ b < w.heap.size ∧ (∀ r ob, m1.s r = some ob → ob.blk g r ≠ some b) ∧ (∀ k, ¬ g.I b k) ∧ Blk w b arr ∧ arr.size = z.length ∧
    ∀ (k : Nat) (x : AV) (v : Value), z[k]? = some x → arr[k]? = some v → CRel (fun _ _ => False) w x v
theorem q4i {I I' : Nat → Nat → Prop} {w w' : World} {x : AV} {v : Value} (hl : qh8 x = true) (h : CRel I w x v) : CRel I' w' x v :=
  qk7 (g' := ⟨I, fun _ => 0, fun _ => ⟨0, 0, true⟩⟩) (m' := Mem.none) (qzi hl) (.c h) _ _
theorem LatB.ext {wS : World} {m1 m2 : Mem} {d : Nat} {z : List AV} {g g' : Gh} {w w' : World} {a a' : Act} {b : Nat} (hz : z.all qh8 = true) (h : LatB wS m1 d z g w a b) (he : Ext g m1 w g' m2 w') (ht : a'.tmps.getD d undef = a.tmps.getD d undef) : LatB wS m2 d z g' w' a' b := by
  obtain ⟨arr, h1, h2, h3, h4, h5, h6, h7, h8⟩ := h
  have hb := he.fr b h3 h4
  refine ⟨arr, by rw [ht]; exact h1, h2, by have := he.size; omega, fun r ob hs hbk => ?_, fun k hk => ?_, qmd h6 hb, h7, fun k x v hx hv => ?_⟩
  · rcases he.onew r ob b hs hbk with hlt | ⟨r0, ob0, hs0, hb0⟩
    · omega
    · exact h4 r0 ob0 hs0 hb0
  · rcases he.inew b k hk with h | h | ⟨r0, ob0, hs0, hb0⟩
    · exact h5 k h
    · omega
    · exact h4 r0 ob0 hs0 hb0
  · exact q4i (List.all_eq_true.1 hz x (List.mem_of_getElem? hx)) (h8 k x v hx hv)
theorem LatB.take {gS : Gh} {mS : Mem} {wS : World} {m1 : Mem} {d : Nat} {ds : List Nat} {z : List AV} {g : Gh} {w : World} {a : Act} {t : Env} {b : Nat} (hds : d ∉ ds) (hz : z.all qh8 = true) (h : LatB wS m1 d z g w a b) (hok : OK g m1 w) (hr : ARel g m1 w nt (weak (d :: ds) t) a) (he : Ext gS mS wS g m1 w) :
    ∃ g', OK g' (m1.new (.box true z)) w ∧ ARel g' (m1.new (.box true z)) w nt (weak ds (upd t (some d) (.ptr m1.n 0))) a ∧ Ext gS mS wS g' (m1.new (.box true z)) w ∧ (∀ r, r < m1.n → g'.jb r = g.jb r) ∧
      ∀ d' z' b', b' ≠ b → LatB wS m1 d' z' g w a b' → LatB wS (m1.new (.box true z)) d' z' g' w a b' := by
  obtain ⟨arr, h1, h2, h3, h4, h5, h6, h7, h8⟩ := h
  have hne : ∀ r ob, m1.s r = some ob → r ≠ m1.n := fun r ob hs => by have := hok.lt r ob hs; omega
  have hms : ∀ r, (m1.new (.box true z)).s r = if r = m1.n then some (.box true z) else m1.s r := fun r => rfl
  have hmn : (m1.new (.box true z)).n = m1.n + 1 := rfl
  have hjb : ∀ r, r ≠ m1.n → (g.addb m1.n b).jb r = g.jb r := fun r hr => by simp [Gh.addb, hr]
  have hv : VExt g m1 w (g.addb m1.n b) (m1.new (.box true z)) w := by
    refine ⟨fun b k hk => ⟨hk, rfl⟩, fun r hr => hjb r (by omega), fun r hr wf' e' xs' hs => ?_, by rw [hmn]; omega⟩
    rw [hms, if_neg (by omega)] at hs
    exact ⟨wf', e', xs', hs, rfl, Nat.le_refl _, fun _ => rfl⟩
  have hblk : ∀ r ob, m1.s r = some ob → ob.blk (g.addb m1.n b) r = ob.blk g r := fun r ob hs => by
    cases ob with
    | arr wf e xs => rfl
    | box wf cs => simp [Ob.blk, hjb r (hne r _ hs)]
    | map es => simp [Ob.blk, hjb r (hne r _ hs)]
  have hok' : OK (g.addb m1.n b) (m1.new (.box true z)) w := by
    refine ⟨fun r ob hs => ?_, fun r ob hs => ?_, fun r r' ob ob' c hs hs' hb hb' => ?_, hok.im, hok.tb.obs (fun _ _ hk => hk) fun r ob c hs hb => ?_⟩
    · rw [hms] at hs
      by_cases e : r = m1.n
      · rw [hmn]; omega
      · rw [if_neg e] at hs; have := hok.lt r ob hs; rw [hmn]; omega
    · rw [hms] at hs
      by_cases e : r = m1.n
      · rw [if_pos e] at hs
        cases hs
        subst e
        refine ⟨arr, by simpa [Gh.addb] using h6, h7, fun x hx => ?_, fun k x v hx hvv => .c (q4i (List.all_eq_true.1 hz x (List.mem_of_getElem? hx)) (h8 k x v hx hvv)), fun k => ?_⟩
        · have := List.all_eq_true.1 hz x hx
          cases x <;> simp [qh8] at this <;> rfl
        · simp only [Gh.addb, if_true]
          exact ⟨fun hk => absurd hk (h5 k), fun hk => by simp at hk⟩
      · rw [if_neg e] at hs
        exact (hok.ob r ob hs).keep hv (fun _ _ => rfl) (hjb r e) rfl (fun _ _ _ => Iff.rfl)
    · rw [hms] at hs hs'
      by_cases e : r = m1.n <;> by_cases e' : r' = m1.n
      · omega
      · rw [if_pos e] at hs
        rw [if_neg e'] at hs'
        cases hs
        rw [hblk r' ob' hs'] at hb'
        subst e
        simp [Ob.blk, Gh.addb] at hb
        subst hb
        exact absurd hb' (h4 r' ob' hs')
      · rw [if_neg e] at hs
        rw [if_pos e'] at hs'
        cases hs'
        rw [hblk r ob hs] at hb
        subst e'
        simp [Ob.blk, Gh.addb] at hb'
        subst hb'
        exact absurd hb (h4 r ob hs)
      · rw [if_neg e] at hs
        rw [if_neg e'] at hs'
        rw [hblk r ob hs] at hb
        rw [hblk r' ob' hs'] at hb'
        exact hok.ne r r' ob ob' c hs hs' hb hb'
    · rw [hms] at hs
      by_cases e : r = m1.n
      · rw [if_pos e] at hs
        cases hs
        subst e
        simp [Ob.blk, Gh.addb] at hb
        subst hb
        exact .inl h5
      · rw [if_neg e] at hs
        exact .inr ⟨r, ob, hs, by rw [← hblk r ob hs]; exact hb⟩
  have hn := he.n
  refine ⟨g.addb m1.n b, hok', ⟨fun i => ?_, hr.n, hr.d⟩, ⟨fun c k hk => he.im c k hk, fun r hr => by rw [hjb r (by omega)]; exact he.jb r hr, fun r hr wf' e' xs' hs => ?_, by rw [hmn]; omega, he.fr, he.inew, fun r ob c hs hb => ?_, he.size, he.os, he.tape, he.output⟩, fun r hr => hjb r (by omega), fun d' z' b' hne' hL => ?_⟩
  · have hri := hr.r i
    simp only [weak, List.mem_cons] at hri ⊢
    by_cases hid : i ∈ ds
    · rw [if_pos hid]; exact .c (.any _)
    · rw [if_neg hid]
      by_cases e : i = d
      · subst e
        simp only [upd, if_true]
        rw [h1]
        have := VRel.ptr (g := g.addb m1.n b) (m := m1.new (.box true z)) (w := w) m1.n 0 (by rw [hmn]; omega)
        simpa [Gh.addb] using this
      · simp only [upd, if_neg e]
        rw [if_neg (by simp [e, hid])] at hri
        exact hri.mono hv
  · rw [hms, if_neg (by omega)] at hs
    exact he.ja r hr wf' e' xs' hs
  · rw [hms] at hs
    by_cases e : r = m1.n
    · rw [if_pos e] at hs
      cases hs
      subst e
      simp [Ob.blk, Gh.addb] at hb
      subst hb
      exact .inl h2
    · rw [if_neg e] at hs
      rw [hblk r ob hs] at hb
      exact he.onew r ob c hs hb
  · obtain ⟨arr', k1, k2, k3, k4, k5, k6, k7, k8⟩ := hL
    refine ⟨arr', k1, k2, k3, fun r ob hs hb => ?_, k5, k6, k7, k8⟩
    rw [hms] at hs
    by_cases e : r = m1.n
    · rw [if_pos e] at hs
      cases hs
      subst e
      simp [Ob.blk, Gh.addb] at hb
      exact hne' hb.symm
    · rw [if_neg e] at hs
      rw [hblk r ob hs] at hb
      exact k4 r ob hs hb
def qk8 : List (Nat × List AV) → Mem → Mem
  | [], m => m
  | p :: r, m => qk8 r (m.new (.box true p.2))
def qk9 : List (Nat × List AV) → Mem → Env → Env
  | [], _, t => t
  | p :: r, m, t => qk9 r (m.new (.box true p.2)) (upd t (some p.1) (.ptr m.n 0))
theorem q6p : ∀ (L : List (Nat × List AV)) (m : Mem) (r : Nat), r < m.n → (qk8 L m).s r = m.s r
  | [], m, r, _ => rfl
  | p :: q, m, r, h => by
    rw [qk8, q6p q (m.new (.box true p.2)) r (by simp only [Mem.new]; omega)]
    simp only [Mem.new]
    rw [if_neg (by omega)]
theorem qvb : ∀ (L : List (Nat × List AV)) (m : Mem) (t : Env) (i : Nat), i ∉ L.map (·.1) → qk9 L m t i = t i
  | [], m, t, i, _ => rfl
  | p :: q, m, t, i, h => by
    simp only [List.map_cons, List.mem_cons, not_or] at h
    rw [qk9, qvb q _ _ i h.2]
    simp only [upd]
    rw [if_neg h.1]
theorem q4j : ∀ (L : List (Nat × List AV)) (m : Mem) (t : Env) (i : Nat), i ∈ L.map (·.1) → ∃ r, m.n ≤ r ∧ qk9 L m t i = .ptr r 0
  | [], m, t, i, h => by simp at h
  | p :: q, m, t, i, h => by
    by_cases hq : i ∈ q.map (·.1)
    · obtain ⟨r, h1, h2⟩ := q4j q (m.new (.box true p.2)) (upd t (some p.1) (.ptr m.n 0)) i hq
      exact ⟨r, by simp only [Mem.new] at h1; omega, h2⟩
    · rw [qk9, qvb q _ _ i hq]
      simp only [List.map_cons, List.mem_cons, hq, or_false] at h
      subst h
      exact ⟨m.n, Nat.le_refl _, by simp [upd]⟩
theorem qbbv {gS : Gh} {mS : Mem} {wS : World} {w : World} {a : Act} (bl : Nat → Nat) : ∀ (L : List (Nat × List AV)) (m : Mem) (g : Gh) (t : Env), (L.map (·.1)).Nodup → (∀ p, p ∈ L → p.2.all qh8 = true) →
    (∀ p, p ∈ L → LatB wS m p.1 p.2 g w a (bl p.1)) → (∀ p q, p ∈ L → q ∈ L → p.1 ≠ q.1 → bl p.1 ≠ bl q.1) → OK g m w → ARel g m w nt (weak (L.map (·.1)) t) a → Ext gS mS wS g m w →
    ∃ g', OK g' (qk8 L m) w ∧ ARel g' (qk8 L m) w nt (qk9 L m t) a ∧ Ext gS mS wS g' (qk8 L m) w ∧ ∀ r, r < m.n → g'.jb r = g.jb r
  | [], m, g, t, _, _, _, _, hok, hr, he => ⟨g, hok, ⟨fun i => by simpa [weak, qk8, qk9] using hr.r i, hr.n, hr.d⟩, he, fun _ _ => rfl⟩
  | p :: L, m, g, t, hn, hz, hL, hne, hok, hr, he => by
    simp only [List.map_cons, List.nodup_cons] at hn
    obtain ⟨g1, k1, k2, k3, k4, k5⟩ := (hL p List.mem_cons_self).take hn.1 (hz p List.mem_cons_self) hok hr he
    obtain ⟨g', j1, j2, j3, j4⟩ := qbbv bl L (m.new (.box true p.2)) g1 _ hn.2 (fun q hq => hz q (List.mem_cons_of_mem _ hq)) (fun q hq => k5 _ _ _ (fun e => hne q p (List.mem_cons_of_mem _ hq) List.mem_cons_self (fun e1 => hn.1 (by rw [← e1]; exact List.mem_map.2 ⟨q, hq, rfl⟩)) e) (hL q (List.mem_cons_of_mem _ hq)))
      (fun x y hx hy => hne x y (List.mem_cons_of_mem _ hx) (List.mem_cons_of_mem _ hy)) k1 k2 k3
    exact ⟨g', j1, j2, j3, fun r hr => (j4 r (by simp only [Mem.new]; omega)).trans (k4 r hr)⟩
end
end Go.Pev
/- Regions that draw their order (2): the walk. -/
namespace Go.Pev
open Go
set_option linter.unusedVariables false
set_option linter.unusedSimpArgs false
section
variable {P : Program} {T : Tab} {nt : Nat}
def qd3 (P : Program) (ops : Array Oper) (Q : Exit → Act → World → Prop) (S : World → Prop) : List Oper → Act → World → Prop
  | [], a, w => Q .normal a w
  | o :: rest, a, w =>
    if Region.wanted o (yielded ops a.tmps) then o.wp P a w (fun a' w' => S w' ∧ qd3 P ops Q S rest a' w') Q ∨ (o.asks P a w ∧ LetsOut Q) else S w ∧ qd3 P ops Q S rest (a.put o.dst undef) w
theorem qto {ops : Array Oper} {md : Region.Mode} {Q : Exit → Act → World → Prop} {S : World → Prop} : ∀ (l : List Oper) (k : Nat) (listed : Array Bool) (a : Act) (w : World), (∀ j, l[j]? = ops[k + j]?) →
    Region.seqB md ops l.length k listed = true → qd3 P ops Q S l a w → wpAnyH P md ops Q S l.length listed a w
  | [], _, _, _, _, _, hB, h => ⟨by simpa [Region.seqB] using hB, h⟩
  | o :: l, k, listed, a, w, hl, hB, h => by
    have h0 : ops[k]? = some o := by simpa using (hl 0).symm
    simp only [List.length_cons, Region.seqB, Bool.and_eq_true, decide_eq_true_eq] at hB
    refine ⟨fun h1 => (by rw [hB.1] at h1; cases h1), fun i hi => ?_⟩
    rw [hB.1] at hi
    have hik : i = k := by simpa using hi
    subst hik
    have hw : wpOp P ops Q i (fun a' w' => S w' ∧ qd3 P ops Q S l a' w') a w := by unfold wpOp; simp only [h0]; exact h
    exact wpOp_mono (fun a' w' h' => ⟨h'.1, qto l (i + 1) _ a' w' (fun j => by have := hl (j + 1); simpa [Nat.add_assoc, Nat.add_comm 1 j] using this) hB.2 h'.2⟩) hw
theorem qoo {ops : Array Oper} {Q : Exit → Act → World → Prop} {S : World → Prop} (hS : ∀ w, S w) : ∀ (l : List Oper) (a : Act) (w : World), wpList P ops Q l a w → qd3 P ops Q S l a w
  | [], _, _, h => h
  | o :: l, a, w, h => by
    unfold wpList at h
    unfold qd3
    split
    · rename_i hw
      rw [if_pos hw] at h
      refine h.imp (fun h => ?_) id
      exact Oper.wp_mono (fun a' w' h' => ⟨hS w', qoo hS l a' w' h'⟩) h
    · rename_i hw
      rw [if_neg hw] at h
      exact ⟨hS w, qoo hS l _ w h⟩
noncomputable def Mem.drop (m : Mem) (R : Nat → Prop) : Mem := { m with s := fun r => open Classical in if R r then Option.none else m.s r }
theorem qio {m : Mem} {R : Nat → Prop} {r : Nat} {ob : Ob} (h : (m.drop R).s r = some ob) : ¬ R r ∧ m.s r = some ob := by
  simp only [Mem.drop] at h
  split at h
  · cases h
  · rename_i hn; exact ⟨hn, h⟩
theorem qbcf {m : Mem} {R : Nat → Prop} {r : Nat} (h : ¬ R r) : (m.drop R).s r = m.s r := by
  simp only [Mem.drop]
  rw [if_neg h]
theorem OK.without {g : Gh} {m : Mem} {w : World} (hok : OK g m w) (R : Nat → Prop) : OK g (m.drop R) w ∧ VExt g m w g (m.drop R) w := by
  have hv : VExt g m w g (m.drop R) w := ⟨fun b k hk => ⟨hk, rfl⟩, fun _ _ => rfl, fun r hr wf e xs hs => ⟨wf, e, xs, (qio hs).2, rfl, Nat.le_refl _, fun _ => rfl⟩, Nat.le_refl _⟩
  exact ⟨⟨fun r ob hs => hok.lt r ob (qio hs).2, fun r ob hs => (hok.ob r ob (qio hs).2).keep hv (fun _ _ => rfl) rfl rfl (fun _ _ _ => Iff.rfl),
    fun r r' ob ob' b h1 h2 h3 h4 => hok.ne r r' ob ob' b (qio h1).2 (qio h2).2 h3 h4, hok.im, hok.tb.obs (fun _ _ hk => hk) fun r ob b hs hb => .inr ⟨r, ob, (qio hs).2, hb⟩⟩, hv⟩
theorem qbdv {m m' : Mem} {sz r off : Nat} {x : AV} (h : wr m sz (.ptr r off) x = some m') : ∃ cs cs', m.s r = some (.box true cs) ∧ m' = m.set r (.box true cs') ∧ ∀ (m2 : Mem), m2.s r = m.s r → ∃ m2', wr m2 sz (.ptr r off) x = some m2' := by
  unfold wr at h
  split at h
  · rename_i hc
    simp only at h
    split at h
    · rename_i cs hs
      split at h
      · rename_i hle
        simp at h
        refine ⟨cs, _, hs, h.symm, fun m2 h2 => ⟨m2.set r (.box true (putCells cs off x.cells)), ?_⟩⟩
        unfold wr
        rw [if_pos hc]
        simp only [h2, hs, if_pos hle]
      · cases h
    · cases h
  · cases h
theorem q1q {m : Mem} {r : Nat} (h : boxQ m r = true) : ∃ wf cs, m.s r = some (.box wf cs) := by
  unfold boxQ at h
  split at h
  · rename_i wf cs hs; exact ⟨wf, cs, hs⟩
  · cases h
def Same (gL : Gh) (wL : World) (R : Nat → Prop) (w : World) : Prop := ∀ r, R r → w.heap[gL.jb r]? = wL.heap[gL.jb r]?
theorem q7d (hT : T.ok P) {g : Gh} {m : Mem} {w : World} {t : Env} {a : Act} {o : Oper} (hok : OK g m w) (hr : ERel g m w t a) {sz : Nat} {x y : Opd} (hc : cOp T o.op = some (.store sz x y)) {v : AV} {m' : Mem}
    (hv : qd t m (.store sz x y) = some (v, m')) {R : Nat → Prop} {r0 off : Nat} (hx : ev t x = .ptr r0 off) (hR : ¬ R r0) (hbox : ∀ r, R r → boxQ m r = true) :
    ∃ nx cv w' g', (execOp a.eval o).run P w = .ok nx w' ∧ (nx = .value cv ∨ (nx = .skip ∧ cv = Go.undef)) ∧ VRel g' m' w' v cv ∧ OK g' m' w' ∧ Ext g m w g' m' w' ∧
      (∀ r, R r → boxQ m' r = true ∧ g'.jb r = g.jb r ∧ w'.heap[g.jb r]? = w.heap[g.jb r]?) := by
  obtain ⟨nx, cv, w', g', h1, h2, h3, h4, h5⟩ := qin hT hok hr hc hv
  refine ⟨nx, cv, w', g', h1, h2, h3, h4, h5, fun r hRr => ?_⟩
  simp only [qd, hx] at hv
  obtain ⟨mm, hw, hve⟩ := Option.map_eq_some_iff.1 hv
  simp at hve
  obtain ⟨rfl, rfl⟩ := hve
  obtain ⟨cs, cs', hs, rfl, hall⟩ := qbdv hw
  obtain ⟨wf, cs1, hs1⟩ := q1q (hbox r hRr)
  have hne : r ≠ r0 := fun e => hR (e ▸ hRr)
  refine ⟨?_, h5.jb r (hok.lt r _ hs1), ?_⟩
  · simp only [boxQ, Mem.set, if_neg hne, hs1]
  · obtain ⟨hok2, hv2⟩ := hok.without R
    obtain ⟨m2', hm2⟩ := hall (m.drop R) (qbcf hR)
    have hmem2 : qd t (m.drop R) (.store sz x y) = some (.undef, m2') := by simp [qd, hx, hm2]
    obtain ⟨nx2, cv2, w2, g2, k1, k2, k3, k4, k5⟩ := qin hT hok2 (fun i => (hr i).mono hv2) hc hmem2
    rw [h1] at k1
    simp only [Result.ok.injEq] at k1
    obtain ⟨_, rfl⟩ := k1
    obtain ⟨arr, hb, _⟩ := hok.ob r _ hs1
    refine k5.fr _ (qf9 hb) fun r1 ob1 hs2 hb2 => ?_
    obtain ⟨hn1, hs3⟩ := qio hs2
    have := hok.ne r1 r ob1 (.box wf cs1) _ hs3 hs1 hb2 rfl
    exact hn1 (this ▸ hRr)
def qd1 (l : List SOper) (als : List Nat) : List (Nat × List AV) := als.filterMap fun i => (l[i]?).bind fun s => match s.op, s.dst with
  | .alloc z, some d => some (d, z)
  | _, _ => none
theorem qpx {ops : Array Oper} {l : List SOper} {n i d : Nat} {z : List AV} {o : Oper} {s : SOper} (h : AlFact ops l n i d z o s) : l[i]? = some ⟨some d, .alloc z, none⟩ := by
  rw [h.hs]
  have h1 := h.op
  have h2 := h.g
  have h3 := h.dst
  cases s
  simp only at h1 h2 h3
  subst h1 h2 h3
  rfl
theorem qmh {ops : Array Oper} {l : List SOper} {n : Nat} : ∀ (als : List Nat), (∀ i, i ∈ als → ∃ d z o s, AlFact ops l n i d z o s) →
    als.filterMap (l[·]?) = (qd1 l als).map (fun p => (⟨some p.1, .alloc p.2, none⟩ : SOper)) ∧ qbp l als = (qd1 l als).map (·.1) ∧
      ∀ p, p ∈ qd1 l als → ∃ i, i ∈ als ∧ l[i]? = some ⟨some p.1, .alloc p.2, none⟩
  | [], _ => ⟨rfl, rfl, fun p hp => by simp [qd1] at hp⟩
  | i :: als, h => by
    obtain ⟨h1, h2, h3⟩ := qmh als (fun j hj => h j (List.mem_cons_of_mem _ hj))
    obtain ⟨d, z, o, s, hA⟩ := h i List.mem_cons_self
    have hi := qpx hA
    have e : qd1 l (i :: als) = (d, z) :: qd1 l als := by simp [qd1, hi]
    refine ⟨?_, ?_, fun p hp => ?_⟩
    · rw [e]; simp [hi, h1]
    · rw [e]
      unfold qbp at h2 ⊢
      simp [hi, h2]
    · rw [e] at hp
      rcases List.mem_cons.1 hp with rfl | hp
      · exact ⟨i, List.mem_cons_self, hi⟩
      · obtain ⟨j, k1, k2⟩ := h3 p hp
        exact ⟨j, List.mem_cons_of_mem _ k1, k2⟩
theorem qrb {l : List SOper} {als : List Nat} {d : Nat} : d ∈ qbp l als ↔ ∃ i s, i ∈ als ∧ l[i]? = some s ∧ s.dst = some d := by
  unfold qbp
  simp only [List.mem_filterMap, Option.bind_eq_some_iff]
  constructor
  · rintro ⟨i, h1, s, h2, h3⟩; exact ⟨i, s, h1, h2, h3⟩
  · rintro ⟨i, s, h1, h2, h3⟩; exact ⟨i, h1, s, h2, h3⟩
theorem q1r {l : List SOper} {n : Nat} (hn : (dsts (l.take n)).Nodup) : ∀ (als : List Nat), als.Nodup → (∀ i, i ∈ als → i < n) → (qbp l als).Nodup
  | [], _, _ => by simp [qbp]
  | i :: als, h, hlt => by
    have ih := q1r hn als (List.nodup_cons.1 h).2 (fun j hj => hlt j (List.mem_cons_of_mem _ hj))
    cases hd : (l[i]?).bind (·.dst) with
    | none => unfold qbp at ih ⊢; simp only [List.filterMap_cons, hd]; exact ih
    | some d =>
      have e : qbp l (i :: als) = d :: qbp l als := by unfold qbp; simp only [List.filterMap_cons, hd]
      rw [e]
      refine List.nodup_cons.2 ⟨fun hm => ?_, ih⟩
      obtain ⟨j, s, hj, hs, hds⟩ := qrb.1 hm
      simp only [Option.bind_eq_some_iff] at hd
      obtain ⟨s', hs', hd'⟩ := hd
      have := qsx _ hn i j s' s d (by rw [List.getElem?_take_of_lt (hlt i List.mem_cons_self)]; exact hs') (by rw [List.getElem?_take_of_lt (hlt j (List.mem_cons_of_mem _ hj))]; exact hs) hd' hds
      exact (List.nodup_cons.1 h).1 (this ▸ hj)
def Lats (wS : World) (l : List SOper) (als : List Nat) (m1 : Mem) (listed : Array Bool) (g : Gh) (w : World) (a : Act) (bl : Nat → Nat) : Prop :=
  (∀ i, i ∈ als → listed.getD i false = true → ∀ d z s, l[i]? = some s → s.dst = some d → s.op = .alloc z → LatB wS m1 d z g w a (bl d)) ∧
  ∀ i i' s s' d d', i ∈ als → i' ∈ als → listed.getD i false = true → listed.getD i' false = true → l[i]? = some s → l[i']? = some s' → s.dst = some d → s'.dst = some d' → d ≠ d' → bl d ≠ bl d'
variable {gS : Gh} {mS : Mem} {wS : World}
def Rd (ops : Array Oper) (l : List SOper) (n : Nat) (tF : Env) (r : Nat) : Prop := ∃ p, p ∈ lds2 ops l n ∧ ∃ off, ev tF p = .ptr r off
section
variable {ops : Array Oper} {l : List SOper} {n : Nat} {als : List Nat} {t tF : Env}
theorem qbbw (hF : Draw2 ops l n als) {i : Nat} {s : SOper} {d : Nat} (hi : i < n) (hal : i ∉ als) (hs : l[i]? = some s) (hd : s.dst = some d) : d ∉ qbp l als := by
  intro h
  obtain ⟨j, s', hj, hs', hd'⟩ := qrb.1 h
  obtain ⟨d2, z, o, s2, hA⟩ := hF.alf j hj
  refine hal ?_
  have := qsx _ hF.nodup j i s' s d (by rw [List.getElem?_take_of_lt hA.lt]; exact hs') (by rw [List.getElem?_take_of_lt hi]; exact hs) hd' hd
  exact this ▸ hj
theorem q8i (hF : Draw2 ops l n als) {i : Nat} {s : SOper} {d : Nat} (hi : i < n) (hs : l[i]? = some s) (hr : s.reads d = true) : d ∉ qbp l als := by
  intro h
  obtain ⟨j, s', hj, hs', hd'⟩ := qrb.1 h
  obtain ⟨d2, z, o, s2, hA⟩ := hF.alf j hj
  have : s' = s2 := Option.some.inj (hs'.symm.trans hA.hs)
  subst this
  have : d2 = d := Option.some.inj (hA.dst.symm.trans hd')
  subst this
  rw [hA.unread i s hi hs] at hr
  cases hr
theorem qyk (hmap : ops.toList.mapM (qbc T nt ops) = some l) (hF : Draw2 ops l n als) (hout : ∀ i, i ∉ dsts (hds2 l n als) → tF i = t i) {listed : Array Bool} (hsz : listed.size = ops.size) {i : Nat} {s : SOper} {o : Oper}
    (hin : i < n) (hal : i ∉ als) (ho : ops[i]? = some o) (hs : l[i]? = some s) (hready : ∀ e ∈ o.after, Region.binds .any e = true → listed.getD e.on false = true) :
    ∀ d, s.reads d = true → tF d = weak (qbp l als) (midE l n t tF listed) d := by
  intro d hd
  have hnl := hF.lt
  have hfact := hF.head i o s hin hal ho hs
  unfold weak
  rw [if_neg (q8i hF hin hs hd)]
  unfold midE
  split
  · rfl
  · rename_i hno
    refine hout d fun hm => hno ?_
    obtain ⟨s', hs', hd'⟩ := qbi.1 hm
    obtain ⟨j, hjn, hja, hj⟩ := qsy.1 hs'
    have hjs : j < ops.size := by omega
    have hoj : ops[j]? = some ops[j] := by simp [hjs]
    obtain ⟨s2, hs2, hc2⟩ := qb9 hmap hoj
    rw [hj] at hs2
    cases hs2
    obtain ⟨hd2, _⟩ := qq hc2
    obtain ⟨_, e, he, hb, hon⟩ := hfact.reads j _ d hjn hoj (by rw [← hd2]; exact hd') hd
    have h1 := hready e he hb
    rw [hon] at h1
    have h2 : j < listed.size := by rw [hsz]; exact hjs
    refine ⟨j, hjn, ?_, by simp [hj, hd']⟩
    simp [h2] at h1 ⊢
    exact h1
theorem qbaf (hmap : ops.toList.mapM (qbc T nt ops) = some l) (hF : Draw2 ops l n als) {j0 : Nat} (hj0 : j0 < n) {o : Oper} {s : SOper} (ho : ops[j0]? = some o) (hs : l[j0]? = some s) : ∀ e, e ∈ o.after → Region.binds .any e = true → e.on < j0 := by
  intro e he hb
  by_cases hal : j0 ∈ als
  · obtain ⟨d, z, o', s', hA⟩ := hF.alf j0 hal
    have : o' = o := Option.some.inj (hA.ho.symm.trans ho)
    subst this
    exact hA.after e he hb
  · exact (hF.head j0 _ s hj0 hal ho hs).after e he hb
theorem q4k (hmap : ops.toList.mapM (qbc T nt ops) = some l) (hF : Draw2 ops l n als) {listed : Array Bool} (hsz : listed.size = ops.size) {j0 : Nat} (hj0 : j0 < n) (hun0 : listed.getD j0 true = false) (hmin : ∀ i, i < j0 → listed.getD i true = true)
    {o : Oper} {s : SOper} (ho : ops[j0]? = some o) (hs : l[j0]? = some s) : j0 ∈ Region.ready .any ops listed := by
  have hnl := hF.lt
  refine mem_ready.2 ⟨hun0, o, ho, fun e he hb => ?_⟩
  have h0 := qbaf hmap hF hj0 ho hs e he hb
  have h1 := hmin e.on h0
  have h2 : e.on < listed.size := by rw [hsz]; omega
  simp [h2] at h1 ⊢
  exact h1
theorem q1s (hF : Draw2 ops l n als) {m1 m2 : Mem} {listed : Array Bool} {g g' : Gh} {w w' : World} {a : Act} {bl : Nat → Nat} (hL : Lats wS l als m1 listed g w a bl) (he : Ext g m1 w g' m2 w') {i : Nat} {s : SOper} {o : Oper} (hin : i < n) (hal : i ∉ als) (hs : l[i]? = some s) (hdst : s.dst = o.dst) (cv : Value) :
    Lats wS l als m2 (listed.setIfInBounds i true) g' w' (a.put o.dst cv) bl := by
  have hset : ∀ j, j ∈ als → (listed.setIfInBounds i true).getD j false = true → listed.getD j false = true := fun j hj h => by
    rw [getD_set_ne false (fun e => hal (by rw [e]; exact hj))] at h; exact h
  refine ⟨fun j hj hlj d z s' hs' hd' hz' => ?_, fun j j' s1 s2 d d' h1 h2 h3 h4 => hL.2 j j' s1 s2 d d' h1 h2 (hset j h1 h3) (hset j' h2 h4)⟩
  obtain ⟨d2, z2, o2, s2, hA⟩ := hF.alf j hj
  have : s' = s2 := Option.some.inj (hs'.symm.trans hA.hs)
  subst this
  have hzz : z2 = z := by have := hA.op.symm.trans hz'; simpa using this
  subst hzz
  refine (hL.1 j hj (hset j hj hlj) d z2 s' hs' hd' hz').ext hA.z he ?_
  cases hod' : o.dst with
  | none => rfl
  | some dd =>
    have hdd : dd ≠ d := fun e => by
      subst e
      exact qbbw hF hin hal hs (by rw [hdst, hod']) (qrb.2 ⟨j, s', hj, hs', hd'⟩)
    simp [Act.put, Array.getD_eq_getD_getElem?, Array.getElem?_setIfInBounds_ne hdd]
theorem q1t (hF : Draw2 ops l n als) {m1 m2 : Mem} {listed : Array Bool} (hsz : listed.size = ops.size) {g g' : Gh} {w w' : World} {a : Act} (hr : ARel g m1 w nt (weak (qbp l als) (midE l n t tF listed)) a) (he : Ext g m1 w g' m2 w')
    {i : Nat} {s : SOper} {o : Oper} (hin : i < n) (hal : i ∉ als) (hs : l[i]? = some s) (hdst : s.dst = o.dst) (hdn : o.dst.all (· < nt) = true) {v : AV} {cv : Value} (hv : ∀ d, s.dst = some d → tF d = v) (hvr : VRel g' m2 w' v cv) :
    ARel g' m2 w' nt (weak (qbp l als) (midE l n t tF (listed.setIfInBounds i true))) (a.put o.dst cv) := by
  have hnl := hF.lt
  have his : i < listed.size := by rw [hsz]; omega
  have hne : ∀ d, s.dst = some d → d ∉ qbp l als := fun d hd => qbbw hF hin hal hs hd
  rw [← qon his hin hs hv, ← q4h hne, hdst]
  exact (hr.ext he).put hdn hvr
theorem qbag (hout : ∀ i, i ∉ dsts (hds2 l n als) → tF i = t i) {listed : Array Bool} (hall : ∀ j, j < n → listed.getD j true = true) : weak (qbp l als) (midE l n t tF listed) = weak (qbp l als) tF := by
  funext i
  unfold weak
  split
  · rfl
  · rename_i hno1
    unfold midE
    split
    · rfl
    · rename_i hno
      refine (hout i fun hm => hno ?_).symm
      obtain ⟨s, hs, hd⟩ := qbi.1 hm
      obtain ⟨j, hjn, hja, hj⟩ := qsy.1 hs
      exact ⟨j, hjn, hall j hjn, by simp [hj, hd]⟩
theorem q7e {listed : Array Bool} (inv : HeadInv .any ops n listed) (hall : ∀ j, j < n → listed.getD j true = true) : listed = (Array.range ops.size).map (fun i => decide (i < n)) := by
  apply Array.ext
  · simp [inv.size]
  · intro i h1 h2
    have hi : i < ops.size := by simpa using h2
    simp only [Array.getElem_map, Array.getElem_range]
    by_cases hin : i < n
    · have := hall i hin
      simp [h1] at this
      rw [this]; simp [hin]
    · have := inv.tail i (by omega) hi
      simp [h1] at this
      rw [this]; simp [hin]
end
theorem q1u (hT : T.ok P) {ops : Array Oper} {l : List SOper} {n : Nat} {als : List Nat} (hmap : ops.toList.mapM (qbc T nt ops) = some l) (hF : Draw2 ops l n als) {m1 : Mem} {F : List Nat} {t tF : Env}
    (hout : ∀ i, i ∉ dsts (hds2 l n als) → tF i = t i) (hheads : ∀ j s, j < n → j ∉ als → l[j]? = some s → Region.waitsFor .any ops n j = false → qcw P F m1 tF s) (hflat : (evs tF (fls2 ops l n)).all flat = true) (hlds : ∀ p, p ∈ lds2 ops l n → ∃ r off, ev tF p = .ptr r off)
    {Q : Exit → Act → World → Prop} (hQp : ∀ c a w, ¬ Q (.panic c) a w) {g : Gh} {w : World} {bl : Nat → Nat} (hok : OK g m1 w)
    (hend : ∀ a listed, (∀ j, j < n → listed.getD j false = true) → ARel g m1 w nt (weak (qbp l als) tF) a → Lats wS l als m1 listed g w a bl → qd3 P ops Q (Same g w (Rd ops l n tF)) (ops.toList.drop n) a w) :
    ∀ (k : Nat) (listed : Array Bool) (a : Act), cntN listed n = k → HeadInv .any ops n listed → (∀ j, j < n → listed.getD j true = false → Region.waitsFor .any ops n j = false) → ARel g m1 w nt (weak (qbp l als) (midE l n t tF listed)) a → Lats wS l als m1 listed g w a bl →
      wpAnyH P .any ops Q (Same g w (Rd ops l n tF)) (k + (ops.size - n)) listed a w := by
  have hlen : l.length = ops.size := by have := (qbx _ _ _ hmap).1; simpa using this
  have hnl := hF.lt
  intro k
  induction k with
  | zero =>
    intro listed a hk inv hnos hr hL
    have hall := qkh n hk
    rw [qbag hout hall] at hr
    have hallf : ∀ j, j < n → listed.getD j false = true := fun j hj => by
      have h1 := hall j hj
      have h2 : j < listed.size := by rw [inv.size]; omega
      simp [h2] at h1 ⊢; exact h1
    have hw := hend a listed hallf hr hL
    rw [Nat.zero_add]
    have := qto (P := P) (md := .any) (ops := ops) (Q := Q) (ops.toList.drop n) n listed a w (fun j => by simp [List.getElem?_drop]) (by
      have hl2 : (ops.toList.drop n).length = ops.size - n := by simp
      rw [hl2, q7e inv hall]; exact hF.seq) hw
    have hl2 : (ops.toList.drop n).length = ops.size - n := by simp
    rw [hl2] at this
    exact this
  | succ k ih =>
    intro listed a hk inv hnos hr hL
    obtain ⟨j0, hj0, hun0, hmin⟩ := qgw (listed := listed) (n := n) (by omega)
    rw [show k + 1 + (ops.size - n) = (k + (ops.size - n)) + 1 by omega]
    have hj0s : j0 < ops.size := by omega
    have ho0 : ops[j0]? = some ops[j0] := by simp [hj0s]
    obtain ⟨s0, hs0, hc0⟩ := qb9 hmap ho0
    have hready0 := q4k hmap hF inv.size hj0 hun0 hmin ho0 hs0
    have hnw := hnos j0 hj0 hun0
    have hal : j0 ∉ als := fun h => by
      obtain ⟨d, z, o, s, hA⟩ := hF.alf j0 h
      rw [hA.strict] at hnw
      cases hnw
    rcases hF.kind j0 hj0 hal with hw | ⟨o, s, hLo⟩
    · rw [hw] at hnw; cases hnw
    have : s0 = s := Option.some.inj (hs0.symm.trans hLo.hs)
    subst this
    have : o = ops[j0] := Option.some.inj (hLo.ho.symm.trans ho0)
    subst this
    obtain ⟨hdst, hop, hdn, hg⟩ := qq hc0
    obtain ⟨_, o', ho', hready⟩ := mem_ready.1 hready0
    have : o' = ops[j0] := Option.some.inj (ho'.symm.trans ho0)
    subst this
    have hrd := qyk hmap hF hout inv.size hj0 hal ho0 hs0 hready
    have hh := hheads j0 s0 hj0 hal hs0 hnw
    unfold qcw at hh
    rw [hLo.g] at hh
    have hq : ∃ v, qa tF m1 s0.op = some v ∧ ∀ d, s0.dst = some d → tF d = v := by
      have hkd := hLo.kind
      revert hh hkd
      cases s0.op <;> intro hh hkd <;> first
        | (simp only [qbq, SOp.quiet, if_true] at hh
           revert hh
           generalize qa tF m1 _ = pv
           intro hh
           cases pv with
           | none => exact hh.elim
           | some v => exact ⟨v, rfl, hh⟩)
        | (simp [qnr, faS, ptrS] at hkd)
    obtain ⟨v, hpv, hv⟩ := hq
    have hev := qe4 hrd
    have hcop : cOp T (ops[j0]).op = some s0.op := by
      unfold cOpT at hop
      cases hq : cOp T (ops[j0]).op with
      | none => rw [hq] at hop; simp at hop; have hkd := hLo.kind; rw [← hop] at hkd; simp [qnr, faS, ptrS] at hkd
      | some x => rw [hq] at hop; simp at hop; rw [hop]
    have hpv' : qa (weak (qbp l als) (midE l n t tF listed)) m1 s0.op = some v := by rw [← qm5 hev]; exact hpv
    have hmemf : ptrS s0.op = false → valS s0.op = false → ∀ x, x ∈ s0.op.opds → x ∈ fls2 ops l n := fun hp hv x hx => by
      unfold fls2
      refine List.mem_flatMap.2 ⟨j0, List.mem_range.2 hj0, ?_⟩
      rw [hnw, hs0]
      simp only [hp, hv, Bool.or_self, Bool.false_eq_true, if_false]
      exact hx
    have hmeml : ptrS s0.op = true → ∀ x, x ∈ s0.op.opds → x ∈ lds2 ops l n := fun hp x hx => by
      unfold lds2
      refine List.mem_flatMap.2 ⟨j0, List.mem_range.2 hj0, ?_⟩
      rw [hnw, hs0]
      simp only [hp, Bool.false_eq_true, if_false, if_true]
      exact hx
    have hy : ∃ cv, VRel g m1 w v cv ∧ ∀ w' : World, Same g w (Rd ops l n tF) w' → (execOp a.eval ops[j0]).run P w' = .ok (.value cv) w' := by
      rcases hLo.kind with hfr | hfa | ⟨hp, hld⟩
      · have hps : ptrS s0.op = false := by revert hfr; cases s0.op <;> intro hfr <;> first | rfl | (simp [qnr] at hfr)
        by_cases hval : valS s0.op = true
        · obtain ⟨cv, h1, h2⟩ := q7c hT hok hr.r hcop hval hpv'
          exact ⟨cv, h1, fun w' _ => h2 w'⟩
        have hval : valS s0.op = false := by simpa using hval
        obtain ⟨cv, h1, h2⟩ := qxi hT hok hr.r hcop (.inl ⟨hfr, by
          rw [List.all_eq_true] at hflat ⊢
          intro y hy
          unfold evs at hy
          obtain ⟨x, hx, rfl⟩ := List.mem_map.1 hy
          rw [← hev x hx]
          exact hflat _ (by unfold evs; exact List.mem_map.2 ⟨x, hmemf hps hval x hx, rfl⟩)⟩) hpv'
        exact ⟨cv, h1, fun w' _ => h2 w'⟩
      · obtain ⟨off, x, hso⟩ : ∃ off x, s0.op = .fa off x := by
          revert hfa; cases s0.op <;> intro hfa <;> first | exact ⟨_, _, rfl⟩ | (simp [faS] at hfa)
        have hps : ptrS s0.op = true := by rw [hso]; rfl
        have hx : x ∈ s0.op.opds := by rw [hso]; simp [SOp.opds]
        obtain ⟨r, k', hr'⟩ := hlds x (hmeml hps x hx)
        obtain ⟨cv, h1, h2⟩ := qxi hT hok hr.r hcop (.inr ⟨off, x, r, k', hso, by rw [← hev x hx]; exact hr'⟩) hpv'
        exact ⟨cv, h1, fun w' _ => h2 w'⟩
      · have hty : ∃ ty x, (ops[j0]).op = .load ty x := by
          revert hld; cases (ops[j0]).op <;> intro hld <;> first | exact ⟨_, _, rfl⟩ | (simp [q0w] at hld)
        obtain ⟨ty, x0, ho⟩ := hty
        have hso : ∃ agg sz y, s0.op = .load agg sz y := by
          revert hcop hp
          rw [ho]
          cases s0.op <;> intro hcop hp <;> first
            | exact ⟨_, _, _, rfl⟩
            | (simp [ptrS] at hp; done)
            | (simp only [cOp, Option.bind_eq_bind, Option.bind_eq_some_iff] at hcop
               obtain ⟨ti, _, hcop⟩ := hcop
               split at hcop <;> simp [Option.bind_eq_some_iff] at hcop)
        obtain ⟨agg, sz, y, hso⟩ := hso
        have hx : y ∈ s0.op.opds := by rw [hso]; simp [SOp.opds]
        obtain ⟨r, k', hr'⟩ := hlds y (hmeml hp y hx)
        rw [hso] at hcop hpv'
        obtain ⟨cv, h1, h2⟩ := q79 hT hok.to1 hr.r ho hcop (by rw [← hev y hx]; exact hr') hpv'
        exact ⟨cv, h1, fun w' hw => h2 w' (hw r ⟨y, hmeml hp y hx, k', hr'⟩)⟩
    obtain ⟨cv, hcv, hyields⟩ := hy
    have hcnt : cntN (listed.setIfInBounds j0 true) n = k := by have := ql0 hun0 n hj0; omega
    have hinv' := inv.set hready0 hj0
    refine wpAnyH_first (v := cv) ho0 (Region.noSelect_spec hF.sel) (fun c a w h => absurd h (hQp c _ w)) (k + (ops.size - n)) listed a w (fun j oj hj hne hunj hno => ?_) hready0 (.inl ⟨by simp [Region.wanted, hLo.og], hyields⟩) (fun r _ => rfl)
      (ih _ _ hcnt hinv' (fun j hj hu => hnos j hj ?_) (q1t hF inv.size hr (Ext.refl g m1 w) hj0 hal hs0 hdst hdn hv hcv) (q1s hF hL (Ext.refl g m1 w) hj0 hal hs0 hdst cv))
    · refine hLo.apart j oj ?_ hj hno
      rcases Nat.lt_or_ge j0 j with h | h
      · exact h
      · exfalso
        have := hmin j (by omega)
        rw [hunj] at this
        cases this
    · by_cases hjj : j0 = j
      · subst hjj; exact hun0
      · rw [getD_set_ne true hjj] at hu; exact hu
def Inv2 (gS : Gh) (mS : Mem) (wS : World) (nt : Nat) (l : List SOper) (n : Nat) (als : List Nat) (m1 : Mem) (t tF : Env) (listed : Array Bool) (a : Act) (w : World) : Prop :=
  ∃ g bl, OK g m1 w ∧ ARel g m1 w nt (weak (qbp l als) (midE l n t tF listed)) a ∧ Ext gS mS wS g m1 w ∧ Lats wS l als m1 listed g w a bl
theorem q1v (hT : T.ok P) {ops : Array Oper} {l : List SOper} {n : Nat} {als : List Nat} (hmap : ops.toList.mapM (qbc T nt ops) = some l) (hF : Draw2 ops l n als) {m0 m1 : Mem} {F : List Nat} (hm1 : m1 = m0.frz F) {t tF : Env}
    (hout : ∀ i, i ∉ dsts (hds2 l n als) → tF i = t i) {listed : Array Bool} {i : Nat} {o : Oper} {s : SOper} (hh : qcw P F m1 tF s) {g : Gh} {a : Act} {w : World} (inv : HeadInv .any ops n listed) (hin : i < n) (hal : i ∉ als) (ho : ops[i]? = some o) (hs : l[i]? = some s)
    (hready : ∀ e ∈ o.after, Region.binds .any e = true → listed.getD e.on false = true) (hok : OK g m1 w) (hr : ARel g m1 w nt (weak (qbp l als) (midE l n t tF listed)) a) {next : Act → World → Prop} {Q : Exit → Act → World → Prop}
    (hnext : ∀ v cv g' w', (∀ d, s.dst = some d → tF d = v) → VRel g' m1 w' v cv → OK g' m1 w' → Ext g m1 w g' m1 w' → next (a.put o.dst cv) w') : wpOp P ops Q i next a w := by
  have hrd := qyk hmap hF hout inv.size hin hal ho hs hready
  obtain ⟨s', hs', hcs⟩ := qb9 hmap ho
  have : s' = s := Option.some.inj (hs'.symm.trans hs)
  subst this
  obtain ⟨hdst, hop, hdn, hg⟩ := qq hcs
  have run : Region.wanted o (yielded ops a.tmps) = true → qbq P F tF m1 (fun v => ∀ d, s'.dst = some d → tF d = v) s'.op → wpOp P ops Q i next a w := by
    intro hw hq
    unfold wpOp
    simp only [ho]
    rw [if_pos hw]
    exact .inl (qnu hT hm1 hok hr.r hop (qhu (qe4 hrd) hq) fun v cv g' w' hv hvr hok' hext' => hnext v cv g' w' hv hvr hok' hext')
  have skip : Region.wanted o (yielded ops a.tmps) = false → (∀ d, s'.dst = some d → tF d = .undef) → wpOp P ops Q i next a w := by
    intro hw hv
    unfold wpOp
    simp only [ho]
    rw [if_neg (by simp [hw])]
    exact hnext .undef _ g w hv (.c .undef) hok (Ext.refl g m1 w)
  unfold qcw at hh
  rcases hg with ⟨hg1, hg2⟩ | ⟨j, b, oj, d, hg1, hj, hd, hg2⟩
  · rw [hg2] at hh
    exact run (by simp [Region.wanted, hg1]) hh
  · rw [hg2] at hh
    obtain ⟨hw1, hw2⟩ := qkg (o := o) hr.r hg1 hj hd
    have hx := qn4 hrd hg2
    simp only at hh
    split at hh
    · rename_i q hq
      rw [hx] at hq
      by_cases hqb : q = b
      · exact run (by rw [hw1 q hq]; simp [hqb]) (hh.1 hqb)
      · exact skip (by rw [hw1 q hq]; simpa using hqb) (hh.2 (by cases q <;> cases b <;> simp_all))
    · rename_i hq
      rw [hx] at hq
      exact skip (hw2 hq) hh
    · exact hh.elim
theorem q7f (hT : T.ok P) {ops : Array Oper} {l : List SOper} {n : Nat} {als : List Nat} (hmap : ops.toList.mapM (qbc T nt ops) = some l) (hF : Draw2 ops l n als) (Mo : Array Bool → Mem) {mF : Mem} {F : List Nat} {t tF : Env}
    (hMo : ∀ listed i, i ∈ als → Mo (listed.setIfInBounds i true) = Mo listed) (hMF : ∀ listed : Array Bool, (∀ j, j < n → listed.getD j true = false → Region.waitsFor .any ops n j = false) → Mo listed = mF)
    (hstep : ∀ (listed : Array Bool) (i : Nat) (o : Oper) (s : SOper) (g : Gh) (a : Act) (w : World), HeadInv .any ops n listed → i < n → i ∉ als → ops[i]? = some o → l[i]? = some s → listed.getD i true = false → (∀ e ∈ o.after, Region.binds .any e = true → listed.getD e.on false = true) → OK g (Mo listed) w → ARel g (Mo listed) w nt (weak (qbp l als) (midE l n t tF listed)) a →
      ∀ (next : Act → World → Prop) (Q : Exit → Act → World → Prop), (∀ v cv g' w', (∀ d, s.dst = some d → tF d = v) → VRel g' (Mo (listed.setIfInBounds i true)) w' v cv → OK g' (Mo (listed.setIfInBounds i true)) w' → Ext g (Mo listed) w g' (Mo (listed.setIfInBounds i true)) w' → next (a.put o.dst cv) w') → wpOp P ops Q i next a w)
    (hout : ∀ i, i ∉ dsts (hds2 l n als) → tF i = t i) (hheads : ∀ j s, j < n → j ∉ als → l[j]? = some s → Region.waitsFor .any ops n j = false → qcw P F mF tF s) (hflat : (evs tF (fls2 ops l n)).all flat = true) (hlds : ∀ p, p ∈ lds2 ops l n → ∃ r off, ev tF p = .ptr r off)
    {Q : Exit → Act → World → Prop} (hQp : ∀ c a w, ¬ Q (.panic c) a w)
    (hend : ∀ a w g bl listed, (∀ j, j < n → listed.getD j false = true) → OK g mF w → ARel g mF w nt (weak (qbp l als) tF) a → Ext gS mS wS g mF w → Lats wS l als mF listed g w a bl → qd3 P ops Q (Same g w (Rd ops l n tF)) (ops.toList.drop n) a w) :
    ∀ (k : Nat) (listed : Array Bool) (a : Act) (w : World), cntN listed n = k → HeadInv .any ops n listed → Inv2 gS mS wS nt l n als (Mo listed) t tF listed a w →
      wpAny P .any ops Q (k + (ops.size - n)) listed a w := by
  have hlen : l.length = ops.size := by have := (qbx _ _ _ hmap).1; simpa using this
  have hnl := hF.lt
  intro k
  induction k with
  | zero =>
    intro listed a w hk inv hI
    obtain ⟨g, bl, hok, hr, hext, hL⟩ := hI
    have hall := qkh n hk
    rw [hMF listed (fun j hj hu => by rw [hall j hj] at hu; cases hu)] at hok hr hext hL
    exact wpAny_of_held _ _ _ _ (q1u (F := F) hT hmap hF hout hheads hflat hlds hQp (bl := bl) hok (fun a listed hl h1 h2 => hend a w g bl listed hl hok h1 hext h2) 0 listed a hk inv (fun j hj hu => by rw [hall j hj] at hu; cases hu) hr hL)
  | succ k ih =>
    intro listed a w hk inv hI
    obtain ⟨g, bl, hok, hr, hext, hL⟩ := hI
    by_cases hstrict : ∃ j, j < n ∧ listed.getD j true = false ∧ Region.waitsFor .any ops n j = true
    · rw [show k + 1 + (ops.size - n) = (k + (ops.size - n)) + 1 by omega]
      obtain ⟨j0, hj0, hun0, hmin⟩ := qgw (listed := listed) (n := n) (by omega)
      have hj0s : j0 < ops.size := by omega
      have ho0 : ops[j0]? = some ops[j0] := by simp [hj0s]
      obtain ⟨s0, hs0, hc0⟩ := qb9 hmap ho0
      have hready0 := q4k hmap hF inv.size hj0 hun0 hmin ho0 hs0
      obtain ⟨js, hjs, hunjs, hws⟩ := hstrict
      refine ⟨fun hnil => (by rw [hnil] at hready0; cases hready0), fun i hi => ?_⟩
      obtain ⟨hun, o, ho, hready⟩ := mem_ready.1 hi
      have his : i < ops.size := (Array.getElem?_eq_some_iff.1 ho).1
      have hin : i < n := by
        rcases Nat.lt_or_ge i n with h | h
        · exact h
        · exfalso
          have waits : ∀ q, Region.waitsFor .any ops i q = true → listed.getD q false = true := by
            intro q hq
            obtain ⟨o', ho', e, he, hb, hon⟩ := Region.waitsFor_spec hq
            have : o' = o := Option.some.inj (ho'.symm.trans ho)
            subst this
            rw [← hon]; exact hready e he hb
          rcases Nat.eq_or_lt_of_le h with h | h
          · subst h
            have h1 := waits js hws
            rw [getD_both hunjs] at h1
            cases h1
          · have hc := hF.chain
            unfold Region.chainB at hc
            simp only [List.all_eq_true, List.mem_range, Bool.or_eq_true, decide_eq_true_eq] at hc
            rcases hc i his with h1 | h1
            · omega
            · have h2 := waits (i - 1) h1
              rw [getD_both (inv.tail (i - 1) (by omega) (by omega))] at h2
              cases h2
      obtain ⟨s, hs, hcs⟩ := qb9 hmap ho
      obtain ⟨hdst, hop, hdn, hg⟩ := qq hcs
      have hcnt : cntN (listed.setIfInBounds i true) n = k := by have := ql0 hun n hin; omega
      have hinv' := inv.set hi hin
      have his' : i < listed.size := by rw [inv.size]; exact his
      by_cases hal : i ∈ als
      · have hMi := hMo listed i hal
        generalize hm1 : Mo listed = m1 at *
        obtain ⟨d, z, o2, s2, hA⟩ := hF.alf i hal
        have : s2 = s := Option.some.inj (hA.hs.symm.trans hs)
        subst this
        have hgo : o.guard = none := by
          rcases hg with ⟨h1, h2⟩ | ⟨j, b, oj, dd, h1, h2, h3, h4⟩
          · exact h1
          · rw [hA.g] at h4; cases h4
        have hzl : z.all AV.leaf = true := List.all_eq_true.2 fun x hx => by
          have := List.all_eq_true.1 hA.z x hx
          cases x <;> simp [qh8] at this <;> rfl
        have hmem : qd (weak (qbp l als) (midE l n t tF listed)) m1 (.alloc z) = some (.ptr m1.n 0, m1.new (.box true z)) := by simp [qd, hzl]
        have hcop : cOp T o.op = some (.alloc z) := by
          rw [hA.op] at hop
          unfold cOpT at hop
          cases hq : cOp T o.op with
          | none => rw [hq] at hop; simp at hop
          | some x => rw [hq] at hop; simp at hop; rw [hop]
        obtain ⟨nx, cv, w', g', hrun, hnx, hvr, hok', hext'⟩ := qin hT hok hr.r hcop hmem
        have hms : ∀ r, r < m1.n → (m1.new (.box true z)).s r = m1.s r := fun r hr => by simp [Mem.new]; omega
        have hokF := OK.forget hok hok' hms
        have hextF := Ext.forget hext' hms hok.lt
        have hodd : d ∈ qbp l als := qrb.2 ⟨i, s2, hal, hs, hA.dst⟩
        obtain ⟨cb, hcv⟩ : ∃ cb : Unit, cv = .pointer (some ⟨g'.jb m1.n, 0, none⟩) := by
          cases hvr with
          | c h => cases h
          | ptr _ _ _ => exact ⟨(), rfl⟩
        have hob := hok'.ob m1.n (.box true z) (by simp [Mem.new])
        obtain ⟨arr, ha1, ha2, ha3, ha4, ha5⟩ := hob
        have hblt : g'.jb m1.n < w'.heap.size := by
          obtain ⟨TT, hh⟩ := ha1
          exact (Array.getElem?_eq_some_iff.1 hh).1
        have hnotown : ∀ r ob, m1.s r = some ob → ob.blk g' r ≠ some (g'.jb m1.n) := fun r ob hs' hb => by
          have hrl := hok.lt r ob hs'
          have := hok'.ne r m1.n ob (.box true z) _ (by rw [hms r hrl]; exact hs') (by simp [Mem.new]) hb rfl
          omega
        have hfreshw : w.heap.size ≤ g'.jb m1.n := by
          rcases hext'.onew m1.n (.box true z) _ (by simp [Mem.new]) rfl with h1 | ⟨r0, ob0, hs0', hb0⟩
          · exact h1
          · exfalso
            have hrl := hok.lt r0 ob0 hs0'
            refine hnotown r0 ob0 hs0' ?_
            cases ob0 with
            | box wf cs => simp only [Ob.blk] at hb0 ⊢; rw [hextF.jb r0 hrl]; exact hb0
            | map es => simp only [Ob.blk] at hb0 ⊢; rw [hextF.jb r0 hrl]; exact hb0
            | arr wf e xs =>
              obtain ⟨wf2, e2, xs2, hs2, _, _, hj⟩ := hextF.ja r0 hrl wf e xs hs0'
              have : xs2 = xs := by have hq := hs2.symm.trans hs0'; simp only [Option.some.injEq, Ob.arr.injEq] at hq; exact hq.2.2
              subst this
              simp only [Ob.blk] at hb0 ⊢
              rw [hj rfl]; exact hb0
        have hfresh : wS.heap.size ≤ g'.jb m1.n := by have := hext.size; omega
        have hdlt : d < a.tmps.size := by
          have h1 : o.dst = some d := by rw [← hdst]; exact hA.dst
          rw [h1] at hdn
          have h2 := hr.n
          simp at hdn
          omega
        have hput : ∀ c, (a.put (some d) c).tmps.getD d undef = c := fun c => by simp [Act.put, Array.getD_eq_getD_getElem?, hdlt]
        have hod1 : o.dst = some d := by rw [← hdst]; exact hA.dst
        have hset : ∀ j, j ≠ i → (listed.setIfInBounds i true).getD j false = true → listed.getD j false = true := fun j hj h => by
          rw [getD_set_ne false (fun e => hj e.symm)] at h; exact h
        have hold : ∀ j, j ∈ als → j ≠ i → listed.getD j false = true → ∀ d2 z2 s2, l[j]? = some s2 → s2.dst = some d2 → s2.op = .alloc z2 → d2 ≠ d ∧ LatB wS m1 d2 z2 g' w' (a.put o.dst cv) (bl d2) := by
          intro j hj hji hlj d2 z2 s3 hs3 hd3 hz3
          have hne : d2 ≠ d := fun e => by
            subst e
            have hjn : j < n := by obtain ⟨_, _, _, _, hB⟩ := hF.alf j hj; exact hB.lt
            exact hji (qsx _ hF.nodup j i s3 s2 d2 (by rw [List.getElem?_take_of_lt hjn]; exact hs3) (by rw [List.getElem?_take_of_lt hin]; exact hs) hd3 hA.dst)
          refine ⟨hne, (hL.1 j hj hlj d2 z2 s3 hs3 hd3 hz3).ext ?_ hextF ?_⟩
          · obtain ⟨d4, z4, o4, s4, hA4⟩ := hF.alf j hj
            have : s4 = s3 := Option.some.inj (hA4.hs.symm.trans hs3)
            subst this
            have : z4 = z2 := by have := hA4.op.symm.trans hz3; simpa using this
            subst this
            exact hA4.z
          · rw [hod1]
            simp [Act.put, Array.getD_eq_getD_getElem?, Array.getElem?_setIfInBounds_ne (Ne.symm hne)]
        have fin : wpAny P .any ops Q (k + (ops.size - n)) (listed.setIfInBounds i true) (a.put o.dst cv) w' := by
          refine ih _ _ _ hcnt hinv' ?_
          rw [hMi]
          refine ⟨g', fun x => if x = d then g'.jb m1.n else bl x, hokF, ?_, hext.trans hextF, fun j hj hlj d' z' s' hs' hd' hz' => ?_, fun j j' s1 s3 d1 d3 h1 h2 h3 h4 h5 h6 h7 h8 hne => ?_⟩
          · have h1 : ARel g' m1 w' nt (upd (weak (qbp l als) (midE l n t tF listed)) (some d) .any) (a.put o.dst cv) := by
              rw [hod1]
              exact (hr.ext hextF).put (dst := some d) (by rw [← hod1]; exact hdn) (.c (.any _))
            have h2 : weak (qbp l als) (midE l n t tF (listed.setIfInBounds i true)) = upd (weak (qbp l als) (midE l n t tF listed)) (some d) .any := by
              funext x
              simp only [upd, weak]
              by_cases hx : x = d
              · subst hx; rw [if_pos hodd, if_pos rfl]
              · rw [if_neg hx]
                by_cases hxo : x ∈ qbp l als
                · rw [if_pos hxo, if_pos hxo]
                rw [if_neg hxo, if_neg hxo]
                have hset : ∀ j, (listed.setIfInBounds i true).getD j true = true ↔ j = i ∨ listed.getD j true = true := by
                  intro j
                  by_cases hji : i = j
                  · subst hji; simp [his']
                  · rw [getD_set_ne true hji]
                    exact ⟨.inr, fun h => h.elim (fun h => absurd h.symm hji) id⟩
                unfold midE
                have : (∃ j, j < n ∧ (listed.setIfInBounds i true).getD j true = true ∧ (l[j]?).bind (·.dst) = some x) ↔ (∃ j, j < n ∧ listed.getD j true = true ∧ (l[j]?).bind (·.dst) = some x) := by
                  constructor
                  · rintro ⟨j, h1, h2, h3⟩
                    rcases (hset j).1 h2 with rfl | h2
                    · rw [hs] at h3; simp [hA.dst] at h3; exact absurd h3.symm hx
                    · exact ⟨j, h1, h2, h3⟩
                  · rintro ⟨j, h1, h2, h3⟩; exact ⟨j, h1, (hset j).2 (.inr h2), h3⟩
                simp only [this]
            rw [h2]; exact h1
          · by_cases hji : j = i
            · subst hji
              have : s' = s2 := Option.some.inj (hs'.symm.trans hs)
              subst this
              have : d' = d := Option.some.inj (hd'.symm.trans hA.dst)
              subst this
              have hzz : z' = z := by have := hz'.symm.trans hA.op; simpa using this
              subst hzz
              simp only [if_true]
              refine ⟨arr, by rw [hod1, hput, hcv], hfresh, hblt, hnotown, fun kk hk => ?_, ha1, ha2, fun kk x v hx hv => ?_⟩
              · have := (ha5 kk).1 hk; simp at this
              · have hlx := List.all_eq_true.1 hA.z x (List.mem_of_getElem? hx)
                exact qk7 (qzi hlx) (ha4 kk x v hx hv) _ _
            · obtain ⟨hne, hB⟩ := hold j hj hji (hset j hji hlj) d' z' s' hs' hd' hz'
              simp only [if_neg hne]
              exact hB
          · have hbl : ∀ j0 s0 d0, j0 ∈ als → (listed.setIfInBounds i true).getD j0 false = true → l[j0]? = some s0 → s0.dst = some d0 → d0 ≠ d → bl d0 < w.heap.size ∧ listed.getD j0 false = true := by
              intro j0 s0 d0 hj0 hl0 hs0 hd0 hne0
              have hji : j0 ≠ i := fun e => by
                subst e
                have : s0 = s2 := Option.some.inj (hs0.symm.trans hs)
                subst this
                exact hne0 (Option.some.inj (hd0.symm.trans hA.dst))
              obtain ⟨d4, z4, o4, s4, hA4⟩ := hF.alf j0 hj0
              have : s4 = s0 := Option.some.inj (hA4.hs.symm.trans hs0)
              subst this
              obtain ⟨_, _, _, hlt, _⟩ := hL.1 j0 hj0 (hset j0 hji hl0) d0 z4 s4 hs0 hd0 hA4.op
              exact ⟨hlt, hset j0 hji hl0⟩
            by_cases e1 : d1 = d
            · have e3 : d3 ≠ d := fun e => hne (e1.trans e.symm)
              simp only [if_pos e1, if_neg e3]
              have := (hbl j' s3 d3 h2 h4 h6 h8 e3).1
              omega
            · by_cases e3 : d3 = d
              · simp only [if_neg e1, if_pos e3]
                have := (hbl j s1 d1 h1 h3 h5 h7 e1).1
                omega
              · simp only [if_neg e1, if_neg e3]
                exact hL.2 j j' s1 s3 d1 d3 h1 h2 (hbl j s1 d1 h1 h3 h5 h7 e1).2 (hbl j' s3 d3 h2 h4 h6 h8 e3).2 h5 h6 h7 h8 hne
        unfold wpOp
        simp only [ho]
        rw [if_pos (by simp [Region.wanted, hgo])]
        refine .inl ?_
        unfold Oper.wp
        rw [hrun]
        rcases hnx with rfl | ⟨rfl, rfl⟩
        · rw [Oper.upon_value]; exact fin
        · cases hcv
      · exact hstep listed i o s g a w inv hin hal ho hs hun hready hok hr _ _ fun v cv g' w' hv hvr hok' hext' =>
          ih _ _ _ hcnt hinv' ⟨g', bl, hok', q1t hF inv.size hr hext' hin hal hs hdst hdn hv hvr, hext.trans hext', q1s hF hL hext' hin hal hs hdst cv⟩
    · have hns : ∀ j, j < n → listed.getD j true = false → Region.waitsFor .any ops n j = false := fun j hj hu => by
        cases h : Region.waitsFor .any ops n j with
        | false => rfl
        | true => exact absurd ⟨j, hj, hu, h⟩ hstrict
      rw [hMF listed hns] at hok hr hext hL
      exact wpAny_of_held _ _ _ _ (q1u (F := F) hT hmap hF hout hheads hflat hlds hQp (bl := bl) hok (fun a listed hl h1 h2 => hend a w g bl listed hl hok h1 hext h2) (k + 1) listed a hk inv hns hr hL)
theorem q4l {F : List Nat} {m : Mem} : ∀ (a b : List SOper) (t : Env) (Q : Env → Prop), WpQs P F m (a ++ b) t Q → WpQs P F m a t fun t' => WpQs P F m b t' Q
  | [], b, t, Q, h => h
  | o :: a, b, t, Q, h => by
    have ih := q4l (F := F) (m := m) a b
    simp only [List.cons_append, WpQs] at h ⊢
    split
    · rename_i hg
      rw [hg] at h
      exact qd0 (fun v hv => ih _ _ hv) h
    · rename_i d want hg
      rw [hg] at h
      simp only at h
      split at h
      · rename_i b' hb
        exact ⟨fun e => qd0 (fun v hv => ih _ _ hv) (h.1 e), fun e => ih _ _ (h.2 e)⟩
      · rename_i hb
        exact ih _ _ h
      · exact h.elim
theorem q5w {m : Mem} {x y : AV} (h : q31 m x y = true) : ∃ r k r' k', x = .ptr r k ∧ y = .ptr r' k' ∧ boxQ m r = true ∧ boxQ m r' = true ∧ r ≠ r' := by
  unfold q31 at h
  split at h
  · rename_i r k r' k'
    simp only [Bool.and_eq_true, Bool.not_eq_true'] at h
    exact ⟨r, k, r', k', rfl, rfl, h.1.1, h.1.2, fun e => by subst e; simp at h⟩
  · cases h
theorem q8j {m : Mem} {x : AV} (h : boxP m x = true) : ∃ r k, x = .ptr r k ∧ boxQ m r = true := by
  unfold boxP at h
  split at h
  · exact ⟨_, _, rfl, h⟩
  · cases h
theorem qpy {ops : Array Oper} : ∀ (xs : List Oper) (ys : List SOper) (n : Nat), xs.mapM (qbc T nt ops) = some ys → (xs.drop n).mapM (qbc T nt ops) = some (ys.drop n) := by
  intro xs
  induction xs with
  | nil => intro ys n h; simp at h; subst h; simp
  | cons x xs ih =>
    intro ys n h
    cases n with
    | zero => simpa using h
    | succ n =>
      simp only [List.mapM_cons, Option.bind_eq_bind, Option.pure_def, Option.bind_eq_some_iff, Option.some.injEq] at h
      obtain ⟨y, _, ys', hys, rfl⟩ := h
      simpa using ih ys' n hys
theorem qbah {ops : Array Oper} {l : List SOper} {n : Nat} {als : List Nat} (h : prs2 ops l n als = []) : (lds2 ops l n).isEmpty = true := by
  cases hl : lds2 ops l n with
  | nil => rfl
  | cons p ps =>
    unfold prs2 at h
    rw [hl] at h
    simp at h
theorem qzj (hT : T.ok P) (hm : P.follows .mixedOrders = true) {id : Nat} {ops : Array Oper} {l : List SOper} {n : Nat} {als : List Nat} (hmap : ops.toList.mapM (qbc T nt ops) = some l) (hF : Draw2 ops l n als) {Q : Exit → Act → World → Prop} {gS : Gh} {mS : Mem} {wS : World}
    {t tF : Env} (Mo : Array Bool → Mem) {m mF : Mem} {g : Gh} {a : Act} {w : World} {F : List Nat} {Tl : Env → Mem → Prop}
    (hMo : ∀ listed i, i ∈ als → Mo (listed.setIfInBounds i true) = Mo listed) (hMF : ∀ listed : Array Bool, (∀ j, j < n → listed.getD j true = false → Region.waitsFor .any ops n j = false) → Mo listed = mF) (hM0 : Mo (Array.replicate ops.size false) = m)
    (hstep : ∀ (listed : Array Bool) (i : Nat) (o : Oper) (s : SOper) (g : Gh) (a : Act) (w : World), HeadInv .any ops n listed → i < n → i ∉ als → ops[i]? = some o → l[i]? = some s → listed.getD i true = false → (∀ e ∈ o.after, Region.binds .any e = true → listed.getD e.on false = true) → OK g (Mo listed) w → ARel g (Mo listed) w nt (weak (qbp l als) (midE l n t tF listed)) a →
      ∀ (next : Act → World → Prop) (Q : Exit → Act → World → Prop), (∀ v cv g' w', (∀ d, s.dst = some d → tF d = v) → VRel g' (Mo (listed.setIfInBounds i true)) w' v cv → OK g' (Mo (listed.setIfInBounds i true)) w' → Ext g (Mo listed) w g' (Mo (listed.setIfInBounds i true)) w' → next (a.put o.dst cv) w') → wpOp P ops Q i next a w)
    (h2 : ∀ i, i ∉ dsts (hds2 l n als) → tF i = t i) (h3 : ∀ j s, j < n → j ∉ als → l[j]? = some s → Region.waitsFor .any ops n j = false → qcw P F mF tF s)
    (hfl : (evs tF (fls2 ops l n)).all flat = true) (hpr : (prs2 ops l n als).all (qns mF tF) = true)
    (hT1 : ∀ Q' : Exit → Act → World → Prop, (∀ a w, Q .normal a w → Q' .normal a w) → ∀ t m g a w, OK g m w → ARel g m w nt t a → Ext gS mS wS g m w → Tl t m → wpList P ops Q' (ops.toList.drop n) a w)
    (hT2 : (lds2 ops l n).isEmpty ≠ true → ∀ Q' : Exit → Act → World → Prop, (∀ a w, Q .normal a w → Q' .normal a w) → ∀ (gL : Gh) (wL : World) (R : Nat → Prop) (Z : List Nat) t m g a w, OK g m w → ARel g m w nt t a → Ext gS mS wS g m w →
      (∀ r, R r → boxQ m r = true ∧ g.jb r = gL.jb r ∧ w.heap[gL.jb r]? = wL.heap[gL.jb r]?) → qix Z (l.drop n) = true → (∀ z, z ∈ Z → ∃ r off, t z = .ptr r off ∧ ¬ R r) → Tl t m → qd3 P ops Q' (Same gL wL R) (ops.toList.drop n) a w)
    (htl : Tl (qk9 (qd1 l als) mF tF) (qk8 (qd1 l als) mF))
    (hok : OK g m w) (hr : ARel g m w nt t a) (he : Ext gS mS wS g m w) : (Code.region id ops true).wp P Q a w := by
  have hlen : l.length = ops.size := by have := (qbx _ _ _ hmap).1; simpa using this
  have hnl := hF.lt
  have hpair1 : ∀ p, p ∈ lds2 ops l n → ∃ r k, ev tF p = .ptr r k ∧ boxQ mF r = true := fun p hp => by
    have := List.all_eq_true.1 hpr (.c (.bool true), p) (by unfold prs2; exact List.mem_flatMap.2 ⟨p, hp, List.mem_cons_self⟩)
    exact q8j this
  have hpair2 : ∀ p z, p ∈ lds2 ops l n → z ∈ qq6 (l.drop n) → z ∉ qbp l als → ∃ r k r' k', tF z = .ptr r k ∧ ev tF p = .ptr r' k' ∧ boxQ mF r = true ∧ boxQ mF r' = true ∧ r ≠ r' := fun p z hp hz hno => by
    have := List.all_eq_true.1 hpr (.t z, p) (by
      unfold prs2
      refine List.mem_flatMap.2 ⟨p, hp, List.mem_cons_of_mem _ (List.mem_map.2 ⟨z, List.mem_filter.2 ⟨hz, ?_⟩, rfl⟩)⟩
      simpa using hno)
    exact q5w this
  obtain ⟨h4, h5⟩ := hok.same (w' := { w with drawn := w.drawn + 1 }) rfl rfl rfl rfl
  have h6 := he.trans h5
  have hr2 := hr.ext h5
  let Q' : Exit → Act → World → Prop := fun e a w => match e with
    | .normal => Q .normal a w
    | _ => False
  refine wp_mono (Q := Q') ?_ (fun e a w h => by
    cases e with
    | normal => exact h
    | _ => exact h.elim)
  refine wp_region_any hm ?_
  have inv0 : HeadInv .any ops n (Array.replicate ops.size false) :=
    ⟨by simp, fun j oj _ hl => (by rw [getD_replicate_false] at hl; cases hl), fun t _ ht => getD_in (by simpa using ht) (getD_replicate_false _ _)⟩
  obtain ⟨n1, n2, n3⟩ := qmh als hF.alf
  have hzL : ∀ p, p ∈ qd1 l als → p.2.all qh8 = true := fun p hp => by
    obtain ⟨i, hi, hs⟩ := n3 p hp
    obtain ⟨d, z, o, s, hA⟩ := hF.alf i hi
    rw [qpx hA] at hs
    simp only [Option.some.injEq, SOper.mk.injEq, SOp.alloc.injEq, and_true] at hs
    rw [← hs.2]; exact hA.z
  have hnodL : ((qd1 l als).map (·.1)).Nodup := by
    rw [← n2]
    exact q1r hF.nodup als hF.anod (fun i hi => by obtain ⟨_, _, _, _, hA⟩ := hF.alf i hi; exact hA.lt)
  have hend : ∀ a w g bl (listed : Array Bool), (∀ j, j < n → listed.getD j false = true) → OK g mF w → ARel g mF w nt (weak (qbp l als) tF) a → Ext gS mS wS g mF w → Lats wS l als mF listed g w a bl → qd3 P ops Q' (Same g w (Rd ops l n tF)) (ops.toList.drop n) a w := by
    intro a w g bl listed hall hok hr he hL
    rw [n2] at hr
    have hlt : ∀ p, p ∈ qd1 l als → ∃ i, i ∈ als ∧ l[i]? = some ⟨some p.1, .alloc p.2, none⟩ ∧ listed.getD i false = true := fun p hp => by
      obtain ⟨i, hi, hs⟩ := n3 p hp
      obtain ⟨_, _, _, _, hA⟩ := hF.alf i hi
      exact ⟨i, hi, hs, hall i hA.lt⟩
    obtain ⟨g', k1, k2, k3, k4⟩ := qbbv (gS := gS) (mS := mS) (wS := wS) bl (qd1 l als) mF g tF hnodL hzL
      (fun p hp => by obtain ⟨i, hi, hs, hli⟩ := hlt p hp; exact hL.1 i hi hli p.1 p.2 _ hs rfl rfl)
      (fun p q hp hq hne => by
        obtain ⟨i, hi, hs, hli⟩ := hlt p hp
        obtain ⟨j, hj, hs', hlj⟩ := hlt q hq
        exact hL.2 i j _ _ p.1 q.1 hi hj hli hlj hs hs' rfl rfl hne) hok hr he
    have hw := htl
    by_cases hc : (lds2 ops l n).isEmpty = true
    · refine qoo (fun w' r hr => ?_) _ _ _ (hT1 Q' (fun _ _ h => h) _ _ g' a w k1 k2 k3 hw)
      obtain ⟨p, hp, _⟩ := hr
      rw [List.isEmpty_iff] at hc
      rw [hc] at hp
      cases hp
    · have hRlt : ∀ r, Rd ops l n tF r → boxQ mF r = true ∧ r < mF.n := fun r ⟨p, hp, off, hr⟩ => by
        obtain ⟨r', k, h1, h2⟩ := hpair1 p hp
        rw [hr] at h1
        cases h1
        obtain ⟨wf, cs, hs⟩ := q1q h2
        exact ⟨h2, hok.lt r _ hs⟩
      refine hT2 hc Q' (fun _ _ h => h) g w (Rd ops l n tF) (qq6 (l.drop n)) _ _ g' a w k1 k2 k3 (fun r hr => ?_) (hF.calm.resolve_left hc) (fun z hz => ?_) hw
      · obtain ⟨j1, j2⟩ := hRlt r hr
        refine ⟨?_, k4 r j2, rfl⟩
        unfold boxQ at j1 ⊢
        rw [q6p _ _ _ j2]; exact j1
      · by_cases hzo : z ∈ qbp l als
        · obtain ⟨r, j1, j2⟩ := q4j (qd1 l als) mF tF z (by rw [← n2]; exact hzo)
          exact ⟨r, 0, j2, fun hR => by have := (hRlt r hR).2; omega⟩
        · rw [qvb _ _ _ _ (by rw [← n2]; exact hzo)]
          cases hl : lds2 ops l n with
          | nil =>
            exact absurd (by rw [hl]; rfl) hc
          | cons p ps =>
            obtain ⟨r, k, r', k', j1, j2, j3, j4, j5⟩ := hpair2 p z (by rw [hl]; exact List.mem_cons_self) hz hzo
            refine ⟨r, k, j1, fun ⟨q, hq, off, hqr⟩ => ?_⟩
            obtain ⟨r2, k2, r3, k3, i1, i2, i3, i4, i5⟩ := hpair2 q z hq hz hzo
            rw [j1] at i1
            cases i1
            rw [hqr] at i2
            cases i2
            exact i5 rfl
  have := q7f (gS := gS) (mS := mS) (wS := wS) hT hmap hF Mo (mF := mF) (F := F) hMo hMF hstep h2 h3 hfl (fun p hp => by obtain ⟨r, k, j1, _⟩ := hpair1 p hp; exact ⟨r, k, j1⟩) (Q := Q') (fun c a w h => h) hend
    n (Array.replicate ops.size false) a { w with drawn := w.drawn + 1 } (qms _ n (by omega)) inv0 (by
      rw [hM0]
      refine ⟨_, fun _ => 0, h4, ?_, h6, fun i _ hl => ?_, fun i _ _ _ _ _ _ _ hl => ?_⟩
      · have henv : midE l n t tF (Array.replicate ops.size false) = t := by
          funext i
          unfold midE
          rw [if_neg]
          rintro ⟨j, hj, hl, _⟩
          have : j < ops.size := by omega
          simp [this] at hl
        rw [henv]
        refine ⟨fun i => ?_, hr2.n, hr2.d⟩
        unfold weak
        split
        · exact .c (.any _)
        · exact hr2.r i
      · rw [getD_replicate_false] at hl; cases hl
      · rw [getD_replicate_false] at hl; cases hl)
  rw [show n + (ops.size - n) = ops.size by omega] at this
  exact this
theorem q5x (hT : T.ok P) (hm : P.follows .mixedOrders = true) {id : Nat} {ops : Array Oper} {l : List SOper} {n : Nat} (hmap : ops.toList.mapM (qbc T nt ops) = some l) (hB : qq7 ops l n = true) {Q : Exit → Act → World → Prop} {gS : Gh} {mS : Mem} {wS : World}
    {t : Env} {m : Mem} {g : Gh} {a : Act} {w : World} {F : List Nat} {post : Env → Prop} {Tl : Env → Mem → Prop}
    (hT1 : ∀ Q' : Exit → Act → World → Prop, (∀ a w, Q .normal a w → Q' .normal a w) → ∀ t m g a w, OK g m w → ARel g m w nt t a → Ext gS mS wS g m w → Tl t m → wpList P ops Q' (ops.toList.drop n) a w)
    (hT2 : (lds2 ops l n).isEmpty ≠ true → ∀ Q' : Exit → Act → World → Prop, (∀ a w, Q .normal a w → Q' .normal a w) → ∀ (gL : Gh) (wL : World) (R : Nat → Prop) (Z : List Nat) t m g a w, OK g m w → ARel g m w nt t a → Ext gS mS wS g m w →
      (∀ r, R r → boxQ m r = true ∧ g.jb r = gL.jb r ∧ w.heap[gL.jb r]? = wL.heap[gL.jb r]?) → qix Z (l.drop n) = true → (∀ z, z ∈ Z → ∃ r off, t z = .ptr r off ∧ ¬ R r) → Tl t m → qd3 P ops Q' (Same gL wL R) (ops.toList.drop n) a w)
    (hpost : (∀ i, i ∈ qb4 l n → ∃ d z o s, AlFact ops l n i d z o s) → ∀ t', post t' → Tl (qk9 (qd1 l (qb4 l n)) (m.frz F) t') (qk8 (qd1 l (qb4 l n)) (m.frz F)))
    (hok : OK g m w) (hr : ARel g m w nt t a) (he : Ext gS mS wS g m w)
    (h : WpQs P F (m.frz F) (hd2 ops l n (qb4 l n)) t post) : (Code.region id ops true).wp P Q a w := by
  have hF := qmg hB
  have hpost := hpost hF.alf
  generalize qb4 l n = als at *
  have hlen : l.length = ops.size := by have := (qbx _ _ _ hmap).1; simpa using this
  have hnl := hF.lt
  have hrd0 : qb7 (l.take n) = true := by
    refine qki _ (fun i j s o d h1 h2 h3 h4 => ?_)
    have hjn : j < n := by have := (List.getElem?_eq_some_iff.1 h1).1; simp at this; omega
    have hin : i < n := by have := (List.getElem?_eq_some_iff.1 h2).1; simp at this; omega
    rw [List.getElem?_take_of_lt hjn] at h1
    rw [List.getElem?_take_of_lt hin] at h2
    have hjs : j < ops.size := by omega
    have his : i < ops.size := by omega
    have hoj : ops[j]? = some ops[j] := by simp [hjs]
    have hoi : ops[i]? = some ops[i] := by simp [his]
    obtain ⟨s2, hs2, hc2⟩ := qb9 hmap hoi
    rw [h2] at hs2; cases hs2
    obtain ⟨hd2, _⟩ := qq hc2
    by_cases hja : j ∈ als
    · obtain ⟨d2, z, o2, s3, hA⟩ := hF.alf j hja
      have : s3 = s := Option.some.inj (hA.hs.symm.trans h1)
      subst this
      simp [SOper.reads, hA.op, hA.g, SOp.opds] at h4
    · exact ((hF.head j _ s hjn hja hoj h1).reads i _ d hin hoi (by rw [← hd2]; exact h3) h4).1
  have hsub := qyj l als n
  obtain ⟨tF, h1, h2, h3⟩ := qsw (hds2 l n als) t _ (q4l _ _ _ _ h) (q4g hsub hF.nodup) (qzh hsub hrd0)
  have h1' : (evs tF (fls2 ops l n)).all flat = true ∧ (prs2 ops l n als).all (qns (m.frz F) tF) = true ∧ post tF := by
    simp only [WpQs, qbq, SOp.quiet, if_true, qa] at h1
    split at h1
    · rename_i hc
      rw [Bool.and_eq_true] at hc
      exact ⟨hc.1, hc.2, h1⟩
    · exact h1.elim
  obtain ⟨hfl, hpr, htl⟩ := h1'
  have hfr := hok.frz F
  have hfe := Ext.frz hok F
  exact qzj hT hm hmap hF (fun _ => m.frz F) (m := m.frz F) (mF := m.frz F) (F := F) (t := t) (tF := tF) (gS := gS) (mS := mS) (wS := wS) (fun _ _ _ => rfl) (fun _ _ => rfl) rfl
    (fun listed i o s g a w inv hin hal ho hs hun hready hok hr next Q hn => q1v hT hmap hF rfl h2 (h3 s (qsy.2 ⟨i, hin, hal, hs⟩)) inv hin hal ho hs hready hok hr hn)
    h2 (fun j s hj hal hs _ => h3 s (qsy.2 ⟨j, hj, hal, hs⟩)) hfl hpr hT1 hT2 (hpost tF htl) hfr.1 (hr.ext hfe) (he.trans hfe)
end
end Go.Pev
/- Regions that draw their order (3): heads that make slices of the frame's own. -/
namespace Go.Pev
open Go
set_option linter.unusedVariables false
set_option linter.unusedSimpArgs false
def isMk : SOp → Bool
  | .call .. | .bsl .. => true
  | _ => false
def mkOp : SOp → SOp
  | .call f xs => .callf f xs
  | so => so
def mkF (mk : List Nat) (s : SOper) : SOper :=
  match s.dst with
  | some d => if mk.contains d then { s with op := mkOp s.op } else s
  | none => s
def mkB (h : List SOper) (mk : List Nat) : Bool :=
  qq5 mk && (mk.all fun d => h.any fun s => match s.dst with
    | some d' => Nat.beq d' d
    | none => false) && h.all fun s => (mk.all fun d => !s.reads d) && match s.dst with
    | some d => !mk.contains d || (s.g.isNone && isMk s.op)
    | none => true
section
variable {P : Program} {T : Tab} {nt : Nat}
theorem qv8 (mk : List Nat) (s : SOper) : (mkF mk s).dst = s.dst := by
  unfold mkF
  split
  · split <;> rfl
  · rfl
theorem q1w (so : SOp) : (mkOp so).opds = so.opds := by cases so <;> rfl
theorem q8k (mk : List Nat) (s : SOper) (d : Nat) : (mkF mk s).reads d = s.reads d := by
  unfold mkF
  split
  · split
    · simp only [SOper.reads, q1w]
    · rfl
  · rfl
theorem qbcg {mk : List Nat} {s : SOper} (h : ∀ d, s.dst = some d → d ∉ mk) : mkF mk s = s := by
  unfold mkF
  split
  · rename_i d hd
    rw [if_neg (by simpa using h d hd)]
  · rfl
theorem qbdw {mk : List Nat} {s : SOper} {d : Nat} (hd : s.dst = some d) (h : d ∈ mk) : mkF mk s = { s with op := mkOp s.op } := by
  unfold mkF
  rw [hd]
  simp only
  rw [if_pos (by simpa using h)]
structure MkFact (h : List SOper) (mk : List Nat) : Prop where
  nodup : mk.Nodup
  ex : ∀ d, d ∈ mk → ∃ s, s ∈ h ∧ s.dst = some d
  unread : ∀ s d, s ∈ h → d ∈ mk → s.reads d = false
  kind : ∀ s d, s ∈ h → s.dst = some d → d ∈ mk → s.g = none ∧ isMk s.op = true
theorem qbai {h : List SOper} {mk : List Nat} (hB : mkB h mk = true) : MkFact h mk := by
  unfold mkB at hB
  simp only [Bool.and_eq_true, List.all_eq_true, List.any_eq_true] at hB
  obtain ⟨⟨h1, h2⟩, h3⟩ := hB
  refine ⟨qpw _ h1, fun d hd => ?_, fun s d hs hd => ?_, fun s d hs hsd hd => ?_⟩
  · obtain ⟨s, hs, hx⟩ := h2 d hd
    split at hx
    · rename_i d' hd'
      have := Nat.eq_of_beq_eq_true hx
      subst this
      exact ⟨s, hs, hd'⟩
    · cases hx
  · have := (h3 s hs).1 d hd
    simpa using this
  · have := (h3 s hs).2
    rw [hsd] at this
    simp only [Bool.or_eq_true, Bool.not_eq_true', Bool.and_eq_true, Option.isNone_iff_eq_none] at this
    rcases this with h | h
    · exact absurd hd (by simpa using h)
    · exact h
def LatC (lo : Nat) (m1 : Mem) (e : Nat) (xs : List AV) (g : Gh) (w : World) (bk : Bk) : Prop :=
  (bk.nil = true ∧ xs = []) ∨ (bk.nil = false ∧ lo ≤ bk.b ∧ bk.b < w.heap.size ∧ (∀ r ob, m1.s r = some ob → ob.blk g r ≠ some bk.b) ∧ (∀ k, ¬ g.I bk.b k) ∧
    ∃ arr, Blk w bk.b arr ∧ xs.length ≤ bk.c ∧ bk.c * e ≤ arr.size ∧
      (∀ (i : Nat) (x : AV), xs[i]? = some x → x.cells.length = e) ∧ (∀ (i : Nat) (x : AV) (k : Nat) (y : AV), xs[i]? = some x → x.cells[k]? = some y → y.leaf = true) ∧
      (∀ (i : Nat) (x : AV) (k : Nat) (y : AV) (v : Value), xs[i]? = some x → x.cells[k]? = some y → arr[i * e + k]? = some v → CRel g.I w y v))
theorem LatC.low {lo lo' : Nat} {m1 : Mem} {e : Nat} {xs : List AV} {g : Gh} {w : World} {bk : Bk} (hl : lo' ≤ lo) (h : LatC lo m1 e xs g w bk) : LatC lo' m1 e xs g w bk := by
  rcases h with h | ⟨h1, h2, h3⟩
  · exact .inl h
  · exact .inr ⟨h1, by omega, h3⟩
theorem LatC.ext {lo : Nat} {m1 : Mem} {e : Nat} {xs : List AV} {g g' : Gh} {w w' : World} {bk : Bk} (h : LatC lo m1 e xs g w bk) (he : Ext g m1 w g' m1 w') : LatC lo m1 e xs g' w' bk := by
  rcases h with h | ⟨h0, h2, h3, h4, h5, arr, h6, h7, h8, h9, h10, h11⟩
  · exact .inl h
  · have hb := he.fr bk.b h3 h4
    refine .inr ⟨h0, h2, by have := he.size; omega, fun r ob hs hbk => ?_, fun k hk => ?_, arr, qmd h6 hb, h7, h8, h9, h10, fun i x k y v hx hy hv => (h11 i x k y v hx hy hv).mono he.im⟩
    · rcases he.onew r ob bk.b hs hbk with hlt | ⟨r0, ob0, hs0, hb0⟩
      · omega
      · exact h4 r0 ob0 hs0 hb0
    · rcases he.inew bk.b k hk with h | h | ⟨r0, ob0, hs0, hb0⟩
      · exact h5 k h
      · omega
      · exact h4 r0 ob0 hs0 hb0
theorem q8l {g : Gh} {m : Mem} {w : World} (hok : OK g m w) {r : Nat} {ob : Ob} {b : Nat} (hs : m.s r = some ob) (hb : ob.blk g r = some b) : b < w.heap.size := by
  have h := hok.ob r ob hs
  cases ob with
  | box wf cs =>
    obtain ⟨arr, h1, _⟩ := h
    simp only [Ob.blk, Option.some.injEq] at hb
    subst hb
    exact qf9 h1
  | arr wf e xs =>
    rcases h with ⟨h1, _⟩ | ⟨h1, arr, h2, _⟩
    · simp [Ob.blk, h1] at hb
    · simp [Ob.blk, h1] at hb
      subst hb
      exact qf9 h2
  | map es =>
    obtain ⟨arr, clock, h1, _⟩ := h
    simp only [Ob.blk, Option.some.injEq] at hb
    subst hb
    exact (Array.getElem?_eq_some_iff.1 h1).1
theorem qzk {g : Gh} {m : Mem} {w : World} (hok : OK g m w) {r e : Nat} {xs : List AV} (hs : m.s r = some (.arr true e xs)) {cv : Value} (hv : VRel g m w (.own r xs.length) cv) {lo : Nat} {m1 : Mem} {g1 : Gh}
    (hI : g1.I = g.I) (hlo : (g.ja r).nil = false → lo ≤ (g.ja r).b) (hno : (g.ja r).nil = false → ∀ r' ob, m1.s r' = some ob → ob.blk g1 r' ≠ some (g.ja r).b) :
    cv = (g.ja r).val xs.length ∧ LatC lo m1 e xs g1 w (g.ja r) := by
  refine ⟨?_, ?_⟩
  · cases hv with
    | c h => cases h
    | own _ _ a c hr h => exact (h true e xs hs).2 rfl
  · rcases hok.ob r _ hs with h | ⟨h0, arr, h1, h2, h3, h4, h5, h6, h7⟩
    · exact .inl h
    · refine .inr ⟨h0, hlo h0, qf9 h1, hno h0, fun k hk => ?_, arr, h1, h2, h3, h4, h5, fun i x k y v hx hy hv => ?_⟩
      · rw [hI] at hk
        have := (h7 k).1 hk
        simp at this
      · rw [hI]; exact h6 i x k y v hx hy hv
theorem qbch {m : Mem} {x : AV} {e : Nat} {xs : List AV} (h : expo m x = some (.fr true e xs)) : ∃ r, x = .own r xs.length ∧ m.s r = some (.arr true e xs) := by
  have leafc : ∀ x, qbr m x = some (.fr true e xs) → ∃ r, x = .own r xs.length ∧ m.s r = some (.arr true e xs) := by
    intro x h
    cases x <;> simp [qbr] at h
    case own r n =>
      split at h
      · rename_i wf e' xs' hs
        split at h
        · rename_i hn
          simp at h
          obtain ⟨rfl, rfl, rfl⟩ := h
          exact ⟨r, by rw [hn], hs⟩
        · cases h
      · cases h
  cases x with
  | tup vs =>
    simp only [expo] at h
    split at h
    · obtain ⟨_, _, h⟩ := Option.map_eq_some_iff.1 h; cases h
    · cases h
  | undef => simp [expo] at h
  | agg cs =>
    simp only [expo, exp1] at h
    split at h
    · obtain ⟨_, _, h⟩ := Option.map_eq_some_iff.1 h; cases h
    · cases h
  | _ =>
    simp only [expo, exp1] at h
    split at h
    · exact leafc _ h
    · cases h
theorem q5y (hT : T.ok P) {m m0 : Mem} {g : Gh} {w : World} {F : List Nat} (hm : m = m0.frz F) (hok : OK g m w) {t : Env} {a : Act} (hr : ERel g m w t a) {o : Oper} {so : SOp} (hc : cOpT T o.op = some so) (hmk : isMk so = true) {K : AV → Prop} (h : qbq P F t m K (mkOp so))
    {next : Act → World → Prop} {Q : Exit → Act → World → Prop}
    (hK : ∀ e xs cv g' w' bk, K (.sl e xs) → cv = bk.val xs.length → LatC w.heap.size m e xs g' w' bk → OK g' m w' → Ext g m w g' m w' → next (a.put o.dst cv) w') : o.wp P a w next Q := by
  have hsub : ∀ l : List Nat, l.all (fun r => F.contains r) = true → ∀ r, r ∈ l → r ∈ F := fun l hl r hr => by
    have := List.all_eq_true.1 hl r hr
    simpa using this
  have hc' : cOp T o.op = some so := by
    unfold cOpT at hc
    cases hq : cOp T o.op with
    | none => rw [hq] at hc; simp at hc; subst hc; simp [isMk] at hmk
    | some x => rw [hq] at hc; simp at hc; rw [hc]
  cases so with
  | call f xs =>
    obtain ⟨as_, e, ys, hsn, hcall, hfl, hKy⟩ := h
    obtain ⟨c, x, hop, hcal, hx⟩ := qlz hc' rfl
    rcases hx with ⟨f', xs', rfl, hso, hxs⟩ | ⟨x', xs', hso, _, _⟩
    · cases hso
      obtain ⟨h1, h2⟩ := qkf hr hxs
      obtain ⟨hf1, hf2⟩ := hok.frz (idss (evs t xs))
      obtain ⟨h4, h5⟩ := qim (evs t xs) as_ hsn
      have hsz : (c.args.map a.eval).size = as_.length := by omega
      have hrel : ∀ (k : Nat) (y : AV) (v : Value), as_[k]? = some y → (c.args.map a.eval)[k]? = some v → VRel (g.shut m (idss (evs t xs))) Mem.none w y v := fun k y v hy hv => by
        have hk : k < (evs t xs).length := by rw [← h4]; exact (List.getElem?_eq_some_iff.1 hy).1
        have hx : (evs t xs)[k]? = some (evs t xs)[k] := by simp [hk]
        exact .c (qeu hok (h2 k _ v hx hv) (h5 k _ y hx hy) (fun r hr => by
          simp only [idss, List.mem_flatMap]; exact ⟨_, List.mem_of_getElem? hx, hr⟩)).1
      have fin : ∀ (v : Value) (y' : AV) (g' : Gh) (m' : Mem) (w' : World), expo m' y' = some (.fr true e ys) → OK g' m' w' → VRel g' m' w' y' v → Ext (g.shut m (idss (evs t xs))) Mem.none w g' m' w' → next (a.put o.dst v) w' := by
        intro v y' g' m' w' hz hok' hv hext'
        obtain ⟨r, rfl, hs⟩ := qbch hz
        have hsh := qv7 hok (l := idss (evs t xs)) (by subst hm; exact qsv m0 F (hsub _ hfl))
        obtain ⟨h6, h7⟩ := hok.behind (g0 := g.shut m (idss (evs t xs))) hsh hok' hext'
        have hlo : (g'.ja r).nil = false → w.heap.size ≤ (g'.ja r).b := fun hn => by
          rcases hext'.onew r _ (g'.ja r).b hs (by simp [Ob.blk, hn]) with h | ⟨_, _, h, _⟩
          · exact h
          · simp [Mem.none] at h
        obtain ⟨h8, h9⟩ := qzk (lo := w.heap.size) (m1 := m) (g1 := { g with I := g'.I }) hok' hs hv rfl hlo (fun hn r' ob hs' hb => by
          have := hlo hn
          have hb' : ob.blk g r' = some (g'.ja r).b := by cases ob <;> exact hb
          have := q8l hok hs' hb'
          omega)
        exact hK e ys v { g with I := g'.I } w' _ hKy h8 h9 h6 h7
      rcases hcall with ⟨hE, hcall⟩ | hcall
      · have hrun : (execOp a.eval o).run P w = .ok (.enter f (c.args.map a.eval)) w := by
          unfold execOp
          simp only [hop]
          simp [resolve, hcal, Act.eval, Deferred.ofValue, invoke, qgv hE]
        unfold Oper.wp
        rw [hrun, Oper.upon_enter]
        refine (hcall (g.shut m (idss (evs t xs))) w (c.args.map a.eval) (hf1.nothing _ rfl) hsz hrel).mono fun e w' ⟨v, y', g', m', he, ⟨z, hz, hzy⟩, hok', hv, hext'⟩ => ?_
        subst he
        subst hzy
        exact fin v y' g' m' w' hz hok' hv hext'
      · obtain ⟨v, y', hx, ⟨z, hz, hzy⟩, hv⟩ := hcall (g.shut m (idss (evs t xs))) w (c.args.map a.eval) (hf1.nothing _ rfl) hsz hrel
        have hrun : (execOp a.eval o).run P w = .ok (.value v) w := by
          unfold execOp
          simp only [hop]
          simp [resolve, hcal, Act.eval, Deferred.ofValue, invoke, hx]
        unfold Oper.wp
        rw [hrun, Oper.upon_value]
        subst hzy
        exact fin v y' _ _ w hz (hf1.nothing _ rfl) hv (Ext.refl _ _ _)
    · cases hso
  | bsl e ps =>
    obtain ⟨h1, h2⟩ := h
    cases hs : qcd m (evs t ps) with
    | none => rw [hs] at h2; exact h2.elim
    | some xs =>
      rw [hs] at h2
      obtain ⟨h2, h3⟩ := h2
      have hfr : m.frz (idss (evs t ps)) = m := by subst hm; exact q02 m0 F (hsub _ h1)
      have hmem : qd t m (.bsl e ps) = some (.own m.n xs.length, m.new (.arr true e xs)) := by
        simp only [qd, hs, h2, if_true, hfr]
      obtain ⟨nx, cv, w', g', hrun, hnx, hv, hok', hext⟩ := qin hT hok hr hc' hmem
      have hnew : (m.new (.arr true e xs)).s m.n = some (.arr true e xs) := by simp [Mem.new]
      have hms : ∀ r, r < m.n → (m.new (.arr true e xs)).s r = m.s r := fun r hr => by simp [Mem.new]; omega
      have h8 := hok.forget hok' hms
      have h9 := hext.forget hms hok.lt
      have hnotown : (g'.ja m.n).nil = false → ∀ r ob, m.s r = some ob → ob.blk g' r ≠ some (g'.ja m.n).b := fun hn r ob hs' hb => by
        have hrl := hok.lt r ob hs'
        have := hok'.ne r m.n ob (.arr true e xs) _ (by rw [hms r hrl]; exact hs') hnew hb (by simp [Ob.blk, hn])
        omega
      have hlo : (g'.ja m.n).nil = false → w.heap.size ≤ (g'.ja m.n).b := fun hn => by
        rcases hext.onew m.n (.arr true e xs) (g'.ja m.n).b hnew (by simp [Ob.blk, hn]) with h1 | ⟨r0, ob0, hs0', hb0⟩
        · exact h1
        · exfalso
          have hrl := hok.lt r0 ob0 hs0'
          refine hnotown hn r0 ob0 hs0' ?_
          cases ob0 with
          | box wf cs => simp only [Ob.blk] at hb0 ⊢; rw [h9.jb r0 hrl]; exact hb0
          | map es => simp only [Ob.blk] at hb0 ⊢; rw [h9.jb r0 hrl]; exact hb0
          | arr wf e xs =>
            obtain ⟨wf2, e2, xs2, hs2, _, _, hj⟩ := h9.ja r0 hrl wf e xs hs0'
            have : xs2 = xs := by have hq := hs2.symm.trans hs0'; simp only [Option.some.injEq, Ob.arr.injEq] at hq; exact hq.2.2
            subst this
            simp only [Ob.blk] at hb0 ⊢
            rw [hj rfl]; exact hb0
      obtain ⟨h10, h11⟩ := qzk (lo := w.heap.size) (m1 := m) (g1 := g') hok' hnew hv rfl hlo hnotown
      unfold Oper.wp
      rw [hrun]
      rcases hnx with rfl | ⟨rfl, rfl⟩
      · rw [Oper.upon_value]; exact hK e xs cv g' w' _ h3 h10 h11 h8 h9
      · rw [Oper.upon_skip]; exact hK e xs undef g' w' _ h3 h10 h11 h8 h9
  | _ => simp [isMk] at hmk
def LatA (lo : Nat) (m1 : Mem) (d e : Nat) (xs : List AV) (g : Gh) (w : World) (a : Act) (bk : Bk) : Prop :=
  a.tmps.getD d undef = bk.val xs.length ∧ LatC lo m1 e xs g w bk
def qvc (k k' : Bk) : Prop := k.nil = false → k'.nil = false → k.b ≠ k'.b
theorem LatA.take {gS : Gh} {mS : Mem} {wS : World} {m1 : Mem} {d e : Nat} {ds : List Nat} {xs : List AV} {g : Gh} {w : World} {a : Act} {t : Env} {bk : Bk} (hds : d ∉ ds) (h : LatA wS.heap.size m1 d e xs g w a bk) (hok : OK g m1 w) (hr : ARel g m1 w nt (weak (d :: ds) t) a) (he : Ext gS mS wS g m1 w) :
    ∃ g', OK g' (m1.new (.arr true e xs)) w ∧ ARel g' (m1.new (.arr true e xs)) w nt (weak ds (upd t (some d) (.own m1.n xs.length))) a ∧ Ext gS mS wS g' (m1.new (.arr true e xs)) w ∧
      ∀ d' e' xs' bk', qvc bk bk' → LatA wS.heap.size m1 d' e' xs' g w a bk' → LatA wS.heap.size (m1.new (.arr true e xs)) d' e' xs' g' w a bk' := by
  obtain ⟨h1, hC⟩ := h
  have hne : ∀ r ob, m1.s r = some ob → r ≠ m1.n := fun r ob hs => by have := hok.lt r ob hs; omega
  have hms : ∀ r, (m1.new (.arr true e xs)).s r = if r = m1.n then some (.arr true e xs) else m1.s r := fun r => rfl
  have hmn : (m1.new (.arr true e xs)).n = m1.n + 1 := rfl
  have hja : ∀ r, r ≠ m1.n → (g.adda m1.n bk).ja r = g.ja r := fun r hr => by simp [Gh.adda, hr]
  have hja0 : (g.adda m1.n bk).ja m1.n = bk := by simp [Gh.adda]
  have hv : VExt g m1 w (g.adda m1.n bk) (m1.new (.arr true e xs)) w := by
    refine ⟨fun b k hk => ⟨hk, rfl⟩, fun r hr => rfl, fun r hr wf' e' xs' hs => ?_, by rw [hmn]; omega⟩
    rw [hms, if_neg (by omega)] at hs
    exact ⟨wf', e', xs', hs, rfl, Nat.le_refl _, fun _ => hja r (by omega)⟩
  have hblk : ∀ r ob, m1.s r = some ob → ob.blk (g.adda m1.n bk) r = ob.blk g r := fun r ob hs => by
    cases ob with
    | arr wf e xs => simp only [Ob.blk, hja r (hne r _ hs)]
    | box wf cs => rfl
    | map es => rfl
  have hnew : ∀ b, Ob.blk (g.adda m1.n bk) m1.n (.arr true e xs) = some b → bk.nil = false ∧ bk.b = b := fun b hb => by
    simp only [Ob.blk, hja0] at hb
    cases hn : bk.nil with
    | true => rw [hn] at hb; simp at hb
    | false => rw [hn] at hb; simp at hb; exact ⟨rfl, hb⟩
  have hfree : bk.nil = false → ∀ r ob, m1.s r = some ob → ob.blk g r ≠ some bk.b := fun hn => by
    rcases hC with ⟨h, _⟩ | ⟨_, _, _, h, _⟩
    · rw [hn] at h; cases h
    · exact h
  have hok' : OK (g.adda m1.n bk) (m1.new (.arr true e xs)) w := by
    refine ⟨fun r ob hs => ?_, fun r ob hs => ?_, fun r r' ob ob' c hs hs' hb hb' => ?_, hok.im, hok.tb.obs (fun _ _ hk => hk) fun r ob c hs hb => ?_⟩
    · rw [hms] at hs
      by_cases e : r = m1.n
      · rw [hmn]; omega
      · rw [if_neg e] at hs; have := hok.lt r ob hs; rw [hmn]; omega
    · rw [hms] at hs
      by_cases e : r = m1.n
      · rw [if_pos e] at hs
        cases hs
        subst e
        rcases hC with ⟨hn, hx⟩ | ⟨h0, h2, h3, h4, h5, arr, h6, h7, h8, h9, h10, h11⟩
        · exact .inl ⟨by rw [hja0]; exact hn, hx⟩
        · refine .inr ⟨by rw [hja0]; exact h0, arr, by rw [hja0]; exact h6, by rw [hja0]; exact h7, by rw [hja0]; exact h8, h9, h10, h11, fun k => ?_⟩
          rw [hja0]
          exact ⟨fun hk => absurd hk (h5 k), fun hk => by simp at hk⟩
      · rw [if_neg e] at hs
        exact (hok.ob r ob hs).keep hv (fun _ _ => rfl) rfl (hja r e) (fun _ _ _ => Iff.rfl)
    · rw [hms] at hs hs'
      by_cases e : r = m1.n <;> by_cases e' : r' = m1.n
      · omega
      · rw [if_pos e] at hs
        rw [if_neg e'] at hs'
        cases hs
        rw [hblk r' ob' hs'] at hb'
        subst e
        obtain ⟨k1, rfl⟩ := hnew _ hb
        exact absurd hb' (hfree k1 r' ob' hs')
      · rw [if_neg e] at hs
        rw [if_pos e'] at hs'
        cases hs'
        rw [hblk r ob hs] at hb
        subst e'
        obtain ⟨k1, rfl⟩ := hnew _ hb'
        exact absurd hb (hfree k1 r ob hs)
      · rw [if_neg e] at hs
        rw [if_neg e'] at hs'
        rw [hblk r ob hs] at hb
        rw [hblk r' ob' hs'] at hb'
        exact hok.ne r r' ob ob' c hs hs' hb hb'
    · rw [hms] at hs
      by_cases e : r = m1.n
      · rw [if_pos e] at hs
        cases hs
        subst e
        obtain ⟨k1, rfl⟩ := hnew _ hb
        rcases hC with ⟨h, _⟩ | ⟨_, _, _, _, h5, _⟩
        · rw [k1] at h; cases h
        · exact .inl h5
      · rw [if_neg e] at hs
        exact .inr ⟨r, ob, hs, by rw [← hblk r ob hs]; exact hb⟩
  have hn := he.n
  refine ⟨g.adda m1.n bk, hok', ⟨fun i => ?_, hr.n, hr.d⟩, ⟨fun c k hk => he.im c k hk, he.jb, fun r hr wf' e' xs' hs => ?_, by rw [hmn]; omega, he.fr, he.inew, fun r ob c hs hb => ?_, he.size, he.os, he.tape, he.output⟩, fun d' e' xs' bk' hap hL => ?_⟩
  · have hri := hr.r i
    simp only [weak, List.mem_cons] at hri ⊢
    by_cases hid : i ∈ ds
    · rw [if_pos hid]; exact .c (.any _)
    · rw [if_neg hid]
      by_cases e : i = d
      · subst e
        simp only [upd, if_true]
        rw [h1]
        rcases hC with ⟨hn, hx⟩ | ⟨h0, _⟩
        · subst hx
          have : bk.val ([] : List AV).length = .slice none 0 0 := by simp [Bk.val, hn]
          rw [this]
          refine VRel.own m1.n 0 none 0 (by rw [hmn]; omega) fun wf e' xs' hs => ?_
          rw [hms, if_pos rfl] at hs
          cases hs
          exact ⟨Nat.le_refl _, fun _ => by rw [hja0]; exact this.symm⟩
        · have hbv : bk.val xs.length = .slice (some ⟨bk.b, 0, none⟩) xs.length bk.c := by simp [Bk.val, h0]
          rw [hbv]
          refine VRel.own m1.n _ _ _ (by rw [hmn]; omega) fun wf e' xs' hs => ?_
          rw [hms, if_pos rfl] at hs
          cases hs
          exact ⟨Nat.le_refl _, fun _ => by rw [hja0]; exact hbv.symm⟩
      · simp only [upd, if_neg e]
        rw [if_neg (by simp [e, hid])] at hri
        exact hri.mono hv
  · rw [hms, if_neg (by omega)] at hs
    obtain ⟨wf, e0, xs0, k1, k2, k3, k4⟩ := he.ja r hr wf' e' xs' hs
    exact ⟨wf, e0, xs0, k1, k2, k3, fun hh => by rw [hja r (by omega)]; exact k4 hh⟩
  · rw [hms] at hs
    by_cases e : r = m1.n
    · rw [if_pos e] at hs
      cases hs
      subst e
      obtain ⟨k1, rfl⟩ := hnew _ hb
      rcases hC with ⟨h, _⟩ | ⟨_, h2, _⟩
      · rw [k1] at h; cases h
      · exact .inl h2
    · rw [if_neg e] at hs
      rw [hblk r ob hs] at hb
      exact he.onew r ob c hs hb
  · obtain ⟨k1, k2⟩ := hL
    refine ⟨k1, ?_⟩
    rcases k2 with k2 | ⟨k0, k2, k3, k4, k5, k6⟩
    · exact .inl k2
    · refine .inr ⟨k0, k2, k3, fun r ob hs hb => ?_, k5, k6⟩
      rw [hms] at hs
      by_cases e : r = m1.n
      · rw [if_pos e] at hs
        cases hs
        subst e
        obtain ⟨j1, j2⟩ := hnew _ hb
        exact hap j1 k0 j2
      · rw [if_neg e] at hs
        rw [hblk r ob hs] at hb
        exact k4 r ob hs hb
def qzl {R : Type} : List Nat → Env → Mem → (Env → Mem → Option R) → Option R
  | [], t, m, K => K t m
  | d :: r, t, m, K => match t d with
    | .sl e xs => qzl r (upd t (some d) (.own m.n xs.length)) (m.new (.arr true e xs)) K
    | _ => none
theorem q8m {R : Type} {gS : Gh} {mS : Mem} {wS : World} {w : World} {a : Act} (bk : Nat → Bk) {K : Env → Mem → Option R} {x : R} : ∀ (L : List Nat) (m : Mem) (g : Gh) (t : Env), L.Nodup →
    (∀ d, d ∈ L → ∃ e xs, t d = .sl e xs ∧ LatA wS.heap.size m d e xs g w a (bk d)) → (∀ d d', d ∈ L → d' ∈ L → d ≠ d' → qvc (bk d) (bk d')) → OK g m w → ARel g m w nt (weak L t) a → Ext gS mS wS g m w → qzl L t m K = some x →
    ∃ g' t' m', OK g' m' w ∧ ARel g' m' w nt t' a ∧ Ext gS mS wS g' m' w ∧ K t' m' = some x
  | [], m, g, t, _, _, _, hok, hr, he, h => ⟨g, t, m, hok, ⟨fun i => by simpa [weak] using hr.r i, hr.n, hr.d⟩, he, h⟩
  | d :: L, m, g, t, hn, hL, hap, hok, hr, he, h => by
    obtain ⟨h1, h2⟩ := List.nodup_cons.1 hn
    obtain ⟨e, xs, hd, hLa⟩ := hL d List.mem_cons_self
    simp only [qzl, hd] at h
    obtain ⟨g1, k1, k2, k3, k4⟩ := hLa.take h1 hok hr he
    refine q8m bk L _ g1 _ h2 (fun d' hd' => ?_) (fun d1 d2 i1 i2 => hap d1 d2 (List.mem_cons_of_mem _ i1) (List.mem_cons_of_mem _ i2)) k1 k2 k3 h
    have hne : d' ≠ d := fun e => h1 (e ▸ hd')
    obtain ⟨e', xs', j1, j2⟩ := hL d' (List.mem_cons_of_mem _ hd')
    exact ⟨e', xs', by simp only [upd]; rw [if_neg hne]; exact j1, k4 d' e' xs' (bk d') (hap d d' List.mem_cons_self (List.mem_cons_of_mem _ hd') (Ne.symm hne)) j2⟩
def Up (l : List SOper) (n : Nat) (listed : Array Bool) (d : Nat) : Prop := ∃ j, j < n ∧ listed.getD j false = true ∧ (l[j]?).bind (·.dst) = some d
def qbe2 (wS : World) (l : List SOper) (n : Nat) (mk : List Nat) (tF : Env) (m1 : Mem) (listed : Array Bool) (g : Gh) (w : World) (a : Act) (bk : Nat → Bk) : Prop :=
  (∀ d, d ∈ mk → Up l n listed d → ∃ e xs, tF d = .sl e xs ∧ LatA wS.heap.size m1 d e xs g w a (bk d)) ∧
  ∀ d d', d ∈ mk → d' ∈ mk → Up l n listed d → Up l n listed d' → d ≠ d' → qvc (bk d) (bk d')
variable {gS : Gh} {mS : Mem} {wS : World}
theorem q4m {a : Act} {dst : Option Nat} {cv : Value} {d : Nat} (h : ∀ x, dst = some x → x ≠ d) : (a.put dst cv).tmps.getD d undef = a.tmps.getD d undef := by
  cases dst with
  | none => rfl
  | some x => simp [Act.put, Array.getD_eq_getD_getElem?, Array.getElem?_setIfInBounds_ne (h x rfl)]
theorem q7g (hT : T.ok P) {ops : Array Oper} {l : List SOper} {n : Nat} {mk : List Nat} (hmap : ops.toList.mapM (qbc T nt ops) = some l) (hF : DrawFacts ops l n) (hM : MkFact (l.take n) mk) {m0 m1 : Mem} {F : List Nat} (hm1 : m1 = m0.frz F) {t tF : Env} (hout : ∀ i, i ∉ dsts (l.take n) → tF i = t i)
    (hheads : ∀ s, s ∈ l.take n → qcw P F m1 tF (mkF mk s))
    {Q : Exit → Act → World → Prop} (hQ : ∀ a w g (bk : Nat → Bk), OK g m1 w → ARel g m1 w nt (weak mk tF) a → Ext gS mS wS g m1 w → (∀ d, d ∈ mk → ∃ e xs, tF d = .sl e xs ∧ LatA wS.heap.size m1 d e xs g w a (bk d)) → (∀ d d', d ∈ mk → d' ∈ mk → d ≠ d' → qvc (bk d) (bk d')) → wpList P ops Q (ops.toList.drop n) a w) :
    ∀ (k : Nat) (listed : Array Bool) (a : Act) (w : World), cntN listed n = k → HeadInv .any ops n listed → (∃ g bk, OK g m1 w ∧ ARel g m1 w nt (weak mk (midE l n t tF listed)) a ∧ Ext gS mS wS g m1 w ∧ qbe2 wS l n mk tF m1 listed g w a bk) →
      wpAny P .any ops Q (k + (ops.size - n)) listed a w := by
  have hlen : l.length = ops.size := by have := (qbx _ _ _ hmap).1; simpa using this
  intro k
  induction k with
  | zero =>
    intro listed a w hk inv hI
    obtain ⟨g, bk, hok, hr, hext, hL⟩ := hI
    have hall := qkh n hk
    have henv : midE l n t tF listed = tF := by
      funext i
      unfold midE
      split
      · rfl
      · rename_i hno
        refine (hout i fun hm => hno ?_).symm
        obtain ⟨s, hs, hd⟩ := qbi.1 hm
        obtain ⟨j, hj⟩ := List.getElem?_of_mem hs
        have hjn : j < n := by have := (List.getElem?_eq_some_iff.1 hj).1; simp at this; omega
        rw [List.getElem?_take_of_lt hjn] at hj
        exact ⟨j, hjn, hall j hjn, by simp [hj, hd]⟩
    rw [henv] at hr
    have hup : ∀ d, d ∈ mk → Up l n listed d := fun d hd => by
      obtain ⟨s, hs, hsd⟩ := hM.ex d hd
      obtain ⟨j, hj⟩ := List.getElem?_of_mem hs
      have hjn : j < n := by have := (List.getElem?_eq_some_iff.1 hj).1; simp at this; omega
      rw [List.getElem?_take_of_lt hjn] at hj
      refine ⟨j, hjn, ?_, by simp [hj, hsd]⟩
      have h1 := hall j hjn
      have h2 : j < listed.size := by rw [inv.size]; have := hF.le; omega
      simp [h2] at h1 ⊢; exact h1
    have hw := hQ a w g bk hok hr hext (fun d hd => hL.1 d hd (hup d hd)) (fun d d' hd hd' => hL.2 d d' hd hd' (hup d hd) (hup d' hd'))
    rw [Nat.zero_add]
    rcases hF.tail with hn | ⟨hn, hs, hc, hseq⟩
    · have : ops.size - n = 0 := by omega
      rw [this]
      refine ⟨?_, ?_⟩
      · rw [List.eq_nil_iff_forall_not_mem]
        intro i hi
        obtain ⟨hun, o, ho, _⟩ := mem_ready.1 hi
        have hi2 : i < ops.size := (Array.getElem?_eq_some_iff.1 ho).1
        rw [hall i (by omega)] at hun
        cases hun
      · have hd : ops.toList.drop n = [] := by simp; omega
        rw [hd] at hw
        exact hw
    · have hlist : listed = (Array.range ops.size).map (fun i => decide (i < n)) := by
        apply Array.ext
        · simp [inv.size]
        · intro i h1 h2
          have hi : i < ops.size := by simpa using h2
          simp only [Array.getElem_map, Array.getElem_range]
          by_cases hin : i < n
          · have := hall i hin
            simp [h1] at this
            rw [this]; simp [hin]
          · have := inv.tail i (by omega) hi
            simp [h1] at this
            rw [this]; simp [hin]
      have := wpAny_of_seq (P := P) (md := .any) (ops := ops) (Q' := Q) (ops.toList.drop n) n listed a w (fun j => by simp [List.getElem?_drop]) (by
        have hl2 : (ops.toList.drop n).length = ops.size - n := by simp
        rw [hl2, hlist]; exact hseq) hw
      have hl2 : (ops.toList.drop n).length = ops.size - n := by simp
      rw [hl2] at this
      exact this
  | succ k ih =>
    intro listed a w hk inv hI
    obtain ⟨g, bk, hok, hr, hext, hL⟩ := hI
    obtain ⟨j0, hj0, hun0, hmin⟩ := qgw (listed := listed) (n := n) (by omega)
    rw [show k + 1 + (ops.size - n) = (k + (ops.size - n)) + 1 by omega]
    refine ⟨fun hnil => ?_, fun i hi => ?_⟩
    · exfalso
      have hj0s : j0 < ops.size := by have := hF.le; omega
      have ho : ops[j0]? = some ops[j0] := by simp [hj0s]
      obtain ⟨s, hs, _⟩ := qb9 hmap ho
      have hfact := hF.head j0 _ s hj0 ho hs
      have : j0 ∈ Region.ready .any ops listed := by
        refine mem_ready.2 ⟨hun0, _, ho, fun e he hb => ?_⟩
        have h1 := hmin e.on (hfact.after e he hb)
        have h2 : e.on < listed.size := by rw [inv.size]; have := hfact.after e he hb; omega
        simp [h2] at h1 ⊢
        exact h1
      rw [hnil] at this
      cases this
    · obtain ⟨hun, o, ho, hready⟩ := mem_ready.1 hi
      have his : i < ops.size := (Array.getElem?_eq_some_iff.1 ho).1
      have hin : i < n := by
        rcases hF.tail with hn | ⟨hn, hs, hc, _⟩
        · omega
        · rcases Nat.lt_or_ge i n with h | h
          · exact h
          · exact absurd hi (tail_waits hs hc hn inv (n - j0) j0 rfl hj0 hun0 i h)
      obtain ⟨s, hs, hcs⟩ := qb9 hmap ho
      have hfact := hF.head i o s hin ho hs
      obtain ⟨hdst, hop, hdn, hg⟩ := qq hcs
      have hsm : s ∈ l.take n := by
        refine List.mem_of_getElem? (i := i) ?_
        rw [List.getElem?_take_of_lt hin]; exact hs
      have hh := hheads s hsm
      have hil : i < listed.size := by rw [inv.size]; exact his
      have hreads : ∀ d, s.reads d = true → tF d = weak mk (midE l n t tF listed) d := by
        intro d hd
        unfold weak
        rw [if_neg (fun hm => by rw [hM.unread s d hsm hm] at hd; cases hd)]
        unfold midE
        split
        · rfl
        · rename_i hno
          refine hout d fun hm => hno ?_
          obtain ⟨s', hs', hd'⟩ := qbi.1 hm
          obtain ⟨j, hj⟩ := List.getElem?_of_mem hs'
          have hjn : j < n := by have := (List.getElem?_eq_some_iff.1 hj).1; simp at this; omega
          rw [List.getElem?_take_of_lt hjn] at hj
          have hjs : j < ops.size := by have := hF.le; omega
          have hoj : ops[j]? = some ops[j] := by simp [hjs]
          obtain ⟨s2, hs2, hc2⟩ := qb9 hmap hoj
          rw [hj] at hs2
          cases hs2
          obtain ⟨hd2, _⟩ := qq hc2
          obtain ⟨_, e, he, hb, hon⟩ := hfact.reads j _ d hjn hoj (by rw [← hd2]; exact hd') hd
          have h1 := hready e he hb
          rw [hon] at h1
          have h2 : j < listed.size := by rw [inv.size]; exact hjs
          refine ⟨j, hjn, ?_, by simp [hj, hd']⟩
          simp [h2] at h1 ⊢
          exact h1
      have hcnt : cntN (listed.setIfInBounds i true) n = k := by have := ql0 hun n hin; omega
      have hinv' := inv.set hi hin
      -- what has come up before, when one more has
      have hupj : ∀ d, d ∈ mk → s.dst ≠ some d → Up l n (listed.setIfInBounds i true) d → Up l n listed d := fun d hd hne ⟨j, h1, h2, h3⟩ => by
        refine ⟨j, h1, ?_, h3⟩
        by_cases hji : i = j
        · subst hji; rw [hs] at h3; exact absurd (by simpa using h3) hne
        · rw [getD_set_ne false hji] at h2; exact h2
      by_cases hmk : ∃ d, s.dst = some d ∧ d ∈ mk
      · obtain ⟨d, hsd, hdm⟩ := hmk
        obtain ⟨hgn, hk2⟩ := hM.kind s d hsm hsd hdm
        have hgo : o.guard = none := by
          rcases hg with ⟨h1, h2⟩ | ⟨j, b, oj, dd, h1, h2, h3, h4⟩
          · exact h1
          · rw [hgn] at h4; cases h4
        rw [qbdw hsd hdm] at hh
        unfold qcw at hh
        simp only [hgn] at hh
        have hev : ∀ x, x ∈ (mkOp s.op).opds → ev tF x = ev (weak mk (midE l n t tF listed)) x := fun x hx => qe4 hreads x (by rw [q1w] at hx; exact hx)
        have hod1 : o.dst = some d := by rw [← hdst]; exact hsd
        have hdlt : d < a.tmps.size := by
          rw [hod1] at hdn
          have h2 := hr.n
          simp at hdn
          omega
        unfold wpOp
        simp only [ho]
        rw [if_pos (by simp [Region.wanted, hgo])]
        refine .inl (q5y hT hm1 hok hr.r hop hk2 (qhu hev hh) fun e xs cv g' w' bk1 hKv hcv hLc hok' hext' => ?_)
        have htd : tF d = .sl e xs := hKv d hsd
        have hb1 : ∀ d', d' ∈ mk → d' ≠ d → Up l n listed d' → qvc (bk d') bk1 := fun d' hd' hne hu h1 h2 => by
          obtain ⟨e', xs', _, _, hLC⟩ := hL.1 d' hd' hu
          rcases hLC with ⟨h, _⟩ | ⟨_, _, hlt, _⟩
          · rw [h1] at h; cases h
          · rcases hLc with ⟨h, _⟩ | ⟨_, hle, _⟩
            · rw [h2] at h; cases h
            · omega
        refine ih _ _ _ hcnt hinv' ⟨g', fun x => if x = d then bk1 else bk x, hok', ?_, hext.trans hext', fun d' hd' hu => ?_, fun d1 d2 h1 h2 u1 u2 hne => ?_⟩
        · have e1 : weak mk (midE l n t tF (listed.setIfInBounds i true)) = weak mk (midE l n t tF listed) := by
            rw [← qon hil hin hs (v := tF d) (fun d' hd' => by rw [hsd] at hd'; cases hd'; rfl), hsd]
            funext x
            unfold weak
            split
            · rfl
            · rename_i hx
              simp only [upd]
              rw [if_neg (fun e => hx (by rw [e]; exact hdm))]
          rw [e1]
          have h2 : weak mk (midE l n t tF listed) = upd (weak mk (midE l n t tF listed)) (some d) .any := by
            funext x
            simp only [upd]
            by_cases hx : x = d
            · subst hx; rw [if_pos rfl]; unfold weak; rw [if_pos hdm]
            · rw [if_neg hx]
          rw [h2, hod1]
          exact (hr.ext hext').put (dst := some d) (by rw [← hod1]; exact hdn) (.c (.any _))
        · by_cases hdd : d' = d
          · subst hdd
            simp only [if_true]
            refine ⟨e, xs, htd, ?_, hLc.low hext.size⟩
            rw [hod1]
            simp [Act.put, Array.getD_eq_getD_getElem?, hdlt, hcv]
          · simp only [if_neg hdd]
            obtain ⟨e', xs', k1, k2, k3⟩ := hL.1 d' hd' (hupj d' hd' (fun e => hdd (by rw [hsd] at e; cases e; rfl)) hu)
            refine ⟨e', xs', k1, ?_, k3.ext hext'⟩
            rw [hod1, q4m (fun x hx => by cases hx; exact Ne.symm hdd)]
            exact k2
        · by_cases e1 : d1 = d
          · have e2 : d2 ≠ d := fun e => hne (e1.trans e.symm)
            simp only [if_pos e1, if_neg e2]
            exact fun a1 a2 => Ne.symm (hb1 d2 h2 e2 (hupj d2 h2 (fun e => e2 (by rw [hsd] at e; cases e; rfl)) u2) a2 a1)
          · by_cases e2 : d2 = d
            · simp only [if_neg e1, if_pos e2]
              exact hb1 d1 h1 e1 (hupj d1 h1 (fun e => e1 (by rw [hsd] at e; cases e; rfl)) u1)
            · simp only [if_neg e1, if_neg e2]
              exact hL.2 d1 d2 h1 h2 (hupj d1 h1 (fun e => e1 (by rw [hsd] at e; cases e; rfl)) u1) (hupj d2 h2 (fun e => e2 (by rw [hsd] at e; cases e; rfl)) u2) hne
      · have hno : ∀ d, s.dst = some d → d ∉ mk := fun d hd hm => hmk ⟨d, hd, hm⟩
        rw [qbcg hno] at hh
        have next : ∀ v cv g' w', (∀ d, s.dst = some d → tF d = v) → VRel g' m1 w' v cv → OK g' m1 w' → Ext g m1 w g' m1 w' → wpAny P .any ops Q (k + (ops.size - n)) (listed.setIfInBounds i true) (a.put o.dst cv) w' := fun v cv g' w' hv hvr hok' hext' => by
          refine ih _ _ _ hcnt hinv' ⟨g', bk, hok', ?_, hext.trans hext', fun d' hd' hu => ?_, fun d1 d2 h1 h2 u1 u2 hne => ?_⟩
          · rw [← qon hil hin hs hv, ← q4h hno, hdst]
            exact (hr.ext hext').put hdn hvr
          · have hsd' : s.dst ≠ some d' := fun e => hno d' e hd'
            obtain ⟨e', xs', k1, k2, k3⟩ := hL.1 d' hd' (hupj d' hd' hsd' hu)
            refine ⟨e', xs', k1, ?_, k3.ext hext'⟩
            rw [q4m (fun x hx e => hsd' (by rw [hdst, hx, e]))]
            exact k2
          · exact hL.2 d1 d2 h1 h2 (hupj d1 h1 (fun e => hno d1 e h1) u1) (hupj d2 h2 (fun e => hno d2 e h2) u2) hne
        have run : Region.wanted o (yielded ops a.tmps) = true → qbq P F tF m1 (fun v => ∀ d, s.dst = some d → tF d = v) s.op → wpOp P ops Q i (wpAny P .any ops Q (k + (ops.size - n)) (listed.setIfInBounds i true)) a w := by
          intro hw hq
          unfold wpOp
          simp only [ho]
          rw [if_pos hw]
          exact .inl (qnu hT hm1 hok hr.r hop (qhu (qe4 hreads) hq) fun v cv g' w' hv hvr hok' hext' => next v cv g' w' hv hvr hok' hext')
        have skip : Region.wanted o (yielded ops a.tmps) = false → (∀ d, s.dst = some d → tF d = .undef) → wpOp P ops Q i (wpAny P .any ops Q (k + (ops.size - n)) (listed.setIfInBounds i true)) a w := by
          intro hw hv
          unfold wpOp
          simp only [ho]
          rw [if_neg (by simp [hw])]
          exact next .undef _ g w hv (.c .undef) hok (Ext.refl g m1 w)
        unfold qcw at hh
        rcases hg with ⟨hg1, hg2⟩ | ⟨j, b, oj, d, hg1, hj, hd, hg2⟩
        · rw [hg2] at hh
          exact run (by simp [Region.wanted, hg1]) hh
        · rw [hg2] at hh
          obtain ⟨hw1, hw2⟩ := qkg (o := o) hr.r hg1 hj hd
          have hx := qn4 hreads hg2
          simp only at hh
          split at hh
          · rename_i q hq
            rw [hx] at hq
            by_cases hqb : q = b
            · exact run (by rw [hw1 q hq]; simp [hqb]) (hh.1 hqb)
            · exact skip (by rw [hw1 q hq]; simpa using hqb) (hh.2 (by cases q <;> cases b <;> simp_all))
          · rename_i hq
            rw [hx] at hq
            exact skip (hw2 hq) hh
          · exact hh.elim
theorem q5z {R : Type} {K : Env → Mem → Option R} {x : R} (hT : T.ok P) (hm : P.follows .mixedOrders = true) {id : Nat} {ops : Array Oper} {l : List SOper} {n : Nat} {mk : List Nat} (hmap : ops.toList.mapM (qbc T nt ops) = some l) (hB : qsj ops l n = true) (hMk : mkB (l.take n) mk = true) {Q : Exit → Act → World → Prop}
    {t : Env} {m : Mem} {g : Gh} {a : Act} {w : World} {F : List Nat}
    (hQ : (ops.toList.drop n).mapM (qbc T nt ops) = some (l.drop n) → ∀ t' m' g a w, OK g m' w → ARel g m' w nt t' a → Ext gS mS wS g m' w → K t' m' = some x → wpList P ops Q (ops.toList.drop n) a w)
    (hok : OK g m w) (hr : ARel g m w nt t a) (he : Ext gS mS wS g m w)
    (h : WpQs P F (m.frz F) ((l.take n).map (mkF mk)) t fun t' => qzl mk t' (m.frz F) K = some x) : (Code.region id ops true).wp P Q a w := by
  have hF := qmf hB
  have hM := qbai hMk
  have hlen : l.length = ops.size := by have := (qbx _ _ _ hmap).1; simpa using this
  have hdm : dsts ((l.take n).map (mkF mk)) = dsts (l.take n) := by
    unfold dsts
    rw [List.filterMap_map]
    congr 1
    funext s
    exact qv8 mk s
  have hrd : qb7 ((l.take n).map (mkF mk)) = true := by
    refine qki _ (fun i j s' o' d h1 h2 h3 h4 => ?_)
    rw [List.getElem?_map] at h1 h2
    obtain ⟨s, h1', e1⟩ := Option.map_eq_some_iff.1 h1
    obtain ⟨o, h2', e2⟩ := Option.map_eq_some_iff.1 h2
    clear h1 h2
    subst e1 e2
    have h1 := h1'
    have h2 := h2'
    clear h1' h2'
    rw [qv8] at h3
    rw [q8k] at h4
    have hjn : j < n := by have := (List.getElem?_eq_some_iff.1 h1).1; simp at this; omega
    have hin : i < n := by have := (List.getElem?_eq_some_iff.1 h2).1; simp at this; omega
    rw [List.getElem?_take_of_lt hjn] at h1
    rw [List.getElem?_take_of_lt hin] at h2
    have hjs : j < ops.size := by have := hF.le; omega
    have his : i < ops.size := by have := hF.le; omega
    have hoj : ops[j]? = some ops[j] := by simp [hjs]
    have hoi : ops[i]? = some ops[i] := by simp [his]
    obtain ⟨s2, hs2, hc2⟩ := qb9 hmap hoi
    rw [h2] at hs2; cases hs2
    obtain ⟨hd2, _⟩ := qq hc2
    exact ((hF.head j _ s hjn hoj h1).reads i _ d hin hoi (by rw [← hd2]; exact h3) h4).1
  obtain ⟨tF, h1, h2, h3⟩ := qsw _ t _ h (by rw [hdm]; exact hF.nodup) hrd
  rw [hdm] at h2
  have hfr := hok.frz F
  have hfe := Ext.frz hok F
  obtain ⟨h4, h5⟩ := hfr.1.same (w' := { w with drawn := w.drawn + 1 }) rfl rfl rfl rfl
  have h6 := (he.trans hfe).trans h5
  have hr2 := (hr.ext hfe).ext h5
  refine wp_region_any hm ?_
  have inv0 : HeadInv .any ops n (Array.replicate ops.size false) :=
    ⟨by simp, fun j oj _ hl => (by rw [getD_replicate_false] at hl; cases hl), fun t _ ht => getD_in (by simpa using ht) (getD_replicate_false _ _)⟩
  have noup : ∀ d, ¬ Up l n (Array.replicate ops.size false) d := fun d ⟨j, _, hl, _⟩ => by rw [getD_replicate_false] at hl; cases hl
  have := q7g (gS := gS) (mS := mS) (wS := wS) hT hmap hF hM (m0 := m) (F := F) rfl (t := t) (tF := tF) h2 (fun s hs => h3 _ (List.mem_map.2 ⟨s, hs, rfl⟩)) (Q := Q) (fun a w g bk hok hr hext hL hap => by
      obtain ⟨g', t', m', k1, k2, k3, k4⟩ := q8m (nt := nt) (gS := gS) (mS := mS) (wS := wS) bk mk _ g tF hM.nodup hL hap hok hr hext h1
      exact hQ (qpy _ _ n hmap) t' m' g' a w k1 k2 k3 k4)
    n (Array.replicate ops.size false) a { w with drawn := w.drawn + 1 } (qms _ n hF.le) inv0 ⟨_, fun _ => ⟨0, 0, true⟩, h4, ?_, h6, fun d _ hu => absurd hu (noup d), fun d _ _ _ hu => absurd hu (noup d)⟩
  · rw [show n + (ops.size - n) = ops.size by have := hF.le; omega] at this
    exact this
  · have henv : midE l n t tF (Array.replicate ops.size false) = t := by
      funext i
      unfold midE
      rw [if_neg]
      rintro ⟨j, hj, hl, _⟩
      have : j < ops.size := by have := hF.le; omega
      simp [this] at hl
    rw [henv]
    refine ⟨fun i => ?_, hr2.n, hr2.d⟩
    unfold weak
    split
    · exact .c (.any _)
    · exact hr2.r i
end
end Go.Pev
/- Functions that are handed a slice to append to; regions that draw their order, in which such a call stands among words that compute alone. -/
namespace Go.Pev
open Go
set_option linter.unusedVariables false
set_option linter.unusedSimpArgs false
def qvd : AV → Bool
  | .bool _ | .int .. | .str _ | .nilp | .nilf | .nils | .sl .. => true
  | _ => false
def qmt : AV → Bool
  | .agg cs => cs.all qvd
  | x => qvd x
def grK (sz : Nat) (y : AV) (m : Mem) : Option (List AV) :=
  match y with
  | .own 0 n => match m.s 0 with
    | some (.arr true e zs) => match Nat.beq e sz with
      | true => cond (Nat.beq zs.length n) (some zs) none
      | false => none
    | _ => none
  | _ => none
def M1 (sz : Nat) (xs : List AV) : Mem := ⟨fun i => ([some (Ob.arr true sz xs)][i]?).getD none, 1⟩
def qzm (P : Program) (f : FuncId) (sz : Nat) (F : List AV → List AV → Option (List AV)) : Prop :=
  ∀ xs cl zs, F xs cl = some zs → qoi P f (.own 0 xs.length :: cl) (M1 sz xs) fun y m' => grK sz y m' = some zs
section
variable {P : Program} {f : FuncId} {sz : Nat} {g : Gh} {m : Mem} {w : World}
theorem qbaj {x : AV} {v : Value} (h : qvd x = true) (hv : VRel g m w x v) : CRel g.I w x v := by
  cases hv with
  | c h => exact h
  | _ => simp [qvd] at h
theorem qbak {x : AV} {v : Value} (h : qmt x = true) (hv : VRel g m w x v) : CRel g.I w x v := by
  cases hv with
  | c h => exact h
  | agg cs vs hl hs hh =>
    simp only [qmt, List.all_eq_true] at h
    exact .agg cs vs hl hs fun k x v hx hv => qbaj (h x (List.mem_of_getElem? hx)) (hh k x v hx hv)
  | _ => simp [qmt, qvd] at h
theorem qgx {xs : List AV} {r : Nat} {ob : Ob} (h : (M1 sz xs).s r = some ob) : r = 0 ∧ ob = .arr true sz xs := by
  cases r with
  | zero => exact ⟨rfl, (Option.some.inj h).symm⟩
  | succ r => simp [M1] at h
theorem qbal {y : AV} {m : Mem} {zs : List AV} (h : grK sz y m = some zs) : y = .own 0 zs.length ∧ m.s 0 = some (.arr true sz zs) := by
  unfold grK at h
  split at h
  · rename_i n
    split at h
    · rename_i e zs' hs
      split at h
      · rename_i he
        cases hn : Nat.beq zs'.length n with
        | true =>
          rw [hn] at h
          cases h
          have he' := Nat.eq_of_beq_eq_true he
          have hn' := Nat.eq_of_beq_eq_true hn
          subst he'
          exact ⟨by rw [hn'], hs⟩
        | false => rw [hn] at h; cases h
      · cases h
    · cases h
  · cases h
theorem q8n (hok : OK g m w) {r : Nat} {xs : List AV} (hs : m.s r = some (.arr true sz xs)) {cl : List AV} (hcl : cl.all qmt = true) {zs : List AV}
    (h : qoi P f (.own 0 xs.length :: cl) (M1 sz xs) fun y m' => grK sz y m' = some zs) {args : Array Value} (hsz : args.size = (AV.own r xs.length :: cl).length)
    (hrel : ∀ (k : Nat) (x : AV) (v : Value), (AV.own r xs.length :: cl)[k]? = some x → args[k]? = some v → VRel g m w x v) :
    Calls P f args w fun e w' => ∃ v g', e = .returned v ∧ OK g' (m.set r (.arr true sz zs)) w' ∧ VRel g' (m.set r (.arr true sz zs)) w' (.own r zs.length) v ∧ Ext g m w g' (m.set r (.arr true sz zs)) w' := by
  let g1 : Gh := { g with ja := fun _ => g.ja r }
  have hblk1 : ∀ b, Ob.blk g1 0 (.arr true sz xs) = some b → Ob.blk g r (.arr true sz xs) = some b := fun b hb => hb
  have hok1 : OK g1 (M1 sz xs) w := by
    refine ⟨fun r' ob h => ?_, fun r' ob h => ?_, fun r1 r2 ob1 ob2 b h1 h2 _ _ => ?_, hok.im, hok.tb.obs (fun _ _ hk => hk) fun r' ob b h hb => ?_⟩
    · obtain ⟨rfl, _⟩ := qgx h; exact Nat.zero_lt_one
    · obtain ⟨rfl, rfl⟩ := qgx h
      exact hok.ob r _ hs
    · rw [(qgx h1).1, (qgx h2).1]
    · obtain ⟨rfl, rfl⟩ := qgx h
      exact .inr ⟨r, _, hs, hb⟩
  have hrl := hok.lt r _ hs
  refine (h.2 g1 w args hok1 hsz fun k x v hx hv => ?_).mono ?_
  · cases k with
    | zero =>
      simp only [List.getElem?_cons_zero, Option.some.injEq] at hx
      subst hx
      have h0 := hrel 0 _ v rfl hv
      cases h0 with
      | c h => cases h
      | own _ _ a c hr hh =>
        refine .own 0 _ a c Nat.zero_lt_one fun wf e xs' hs' => ?_
        obtain ⟨_, h2⟩ := qgx hs'
        cases h2
        exact hh true sz xs hs
    | succ k =>
      have h0 := hrel (k + 1) x v hx hv
      exact VRel.c (g := g1) (qbak (g := g) (m := m) (List.all_eq_true.1 hcl x (List.mem_of_getElem? hx)) h0)
  · rintro e w' ⟨v, y, g', m', rfl, hy, hok', hv, he⟩
    obtain ⟨rfl, hs'⟩ := qbal hy
    let g2 : Gh := { g with I := g'.I, ja := fun i => if i = r then g'.ja 0 else g.ja i }
    have hms : ∀ i, (m.set r (.arr true sz zs)).s i = if i = r then some (.arr true sz zs) else m.s i := fun i => rfl
    have hja : ∀ i, i ≠ r → g2.ja i = g.ja i := fun i hi => by simp [g2, hi]
    have hja0 : g2.ja r = g'.ja 0 := by simp [g2]
    obtain ⟨wf0, e0, xs0, k1, k2, k3, k4⟩ := he.ja 0 Nat.zero_lt_one true sz zs hs'
    obtain ⟨_, k5⟩ := qgx k1
    cases k5
    have hother : ∀ r0 ob0, m.s r0 = some ob0 → r0 ≠ r → ∀ b, ob0.blk g r0 = some b → b < w.heap.size ∧ w'.heap[b]? = w.heap[b]? ∧ ∀ k, g'.I b k ↔ g.I b k := by
      intro r0 ob0 h0 hne b hb
      have hlt := q8l hok h0 hb
      have hno : ∀ r1 ob1, (M1 sz xs).s r1 = some ob1 → ob1.blk g1 r1 ≠ some b := fun r1 ob1 h1 hb1 => by
        obtain ⟨rfl, rfl⟩ := qgx h1
        exact hne (hok.ne r0 r ob0 _ b h0 hs hb (hblk1 b hb1))
      refine ⟨hlt, he.fr b hlt hno, fun k => ⟨fun hk => ?_, fun hk => (he.im b k hk).1⟩⟩
      rcases he.inew b k hk with h1 | h1 | ⟨r1, ob1, h1, h2⟩
      · exact h1
      · omega
      · exact absurd h2 (hno r1 ob1 h1)
    have hVE : VExt g m w g2 (m.set r (.arr true sz zs)) w' := by
      refine ⟨fun b k hk => he.im b k hk, fun _ _ => rfl, fun r' hr' wf' e' xs' hx => ?_, Nat.le_refl _⟩
      rw [hms] at hx
      by_cases er : r' = r
      · subst er
        rw [if_pos rfl] at hx
        cases hx
        exact ⟨true, sz, xs, hs, rfl, k3, fun hl => by rw [hja0]; exact k4 hl⟩
      · rw [if_neg er] at hx
        exact ⟨wf', e', xs', hx, rfl, Nat.le_refl _, fun _ => hja r' er⟩
    have hblk2 : ∀ (r0 : Nat) (ob0 : Ob), r0 ≠ r → ob0.blk g2 r0 = ob0.blk g r0 := fun r0 ob0 hne => by
      cases ob0 with
      | arr wf e xs => simp only [Ob.blk, hja r0 hne]
      | box wf cs => rfl
      | map es => rfl
    have hmine : ∀ b, Ob.blk g2 r (.arr true sz zs) = some b → w.heap.size ≤ b ∨ Ob.blk g r (.arr true sz xs) = some b := fun b hb => by
      have hb' : Ob.blk g' 0 (.arr true sz zs) = some b := by simp only [Ob.blk, hja0] at hb ⊢; exact hb
      rcases he.onew 0 _ b hs' hb' with h1 | ⟨r1, ob1, h1, h2⟩
      · exact .inl h1
      · obtain ⟨rfl, rfl⟩ := qgx h1
        exact .inr (hblk1 b h2)
    have htb : qik g2 (m.set r (.arr true sz zs)) w' := fun p hp => by
      refine ⟨(hok'.tb p hp).1, fun r0 ob hx hb => ?_, (hok'.tb p hp).2.2⟩
      rw [hms] at hx
      by_cases er : r0 = r
      · subst er
        rw [if_pos rfl] at hx
        cases hx
        exact (hok'.tb p hp).2.1 0 _ hs' (by simp only [Ob.blk, hja0] at hb ⊢; exact hb)
      · rw [if_neg er] at hx
        exact (hok.tb p hp).2.1 r0 ob hx (by rw [← hblk2 r0 ob er]; exact hb)
    refine ⟨v, g2, rfl, ⟨fun r' ob hx => ?_, fun r' ob hx => ?_, fun r1 r2 ob1 ob2 b h1 h2 hb1 hb2 => ?_, hok'.im, htb⟩, ?_, ⟨fun b k hk => he.im b k hk, fun _ _ => rfl, hVE.ja, Nat.le_refl _, fun b hb hno => ?_, fun b k hk => ?_, fun r' ob b hx hb => ?_, he.size, he.os, he.tape, he.output⟩⟩
    · rw [hms] at hx
      by_cases er : r' = r
      · subst er; exact hrl
      · rw [if_neg er] at hx; exact hok.lt r' ob hx
    · rw [hms] at hx
      by_cases er : r' = r
      · subst er
        rw [if_pos rfl] at hx
        cases hx
        have h0 := hok'.ob 0 _ hs'
        unfold qmc at h0 ⊢
        rw [hja0]
        exact h0
      · rw [if_neg er] at hx
        exact (hok.ob r' ob hx).keep hVE (fun b hb => (hother r' ob hx er b hb).2.1) rfl (hja r' er) (fun b hb k => (hother r' ob hx er b hb).2.2 k)
    · rw [hms] at h1 h2
      by_cases e1 : r1 = r <;> by_cases e2 : r2 = r
      · omega
      · subst e1
        rw [if_pos rfl] at h1
        rw [if_neg e2] at h2
        cases h1
        rw [hblk2 r2 ob2 e2] at hb2
        rcases hmine b hb1 with h3 | h3
        · have := (hother r2 ob2 h2 e2 b hb2).1; omega
        · exact hok.ne r1 r2 _ ob2 b hs h2 h3 hb2
      · subst e2
        rw [if_pos rfl] at h2
        rw [if_neg e1] at h1
        cases h2
        rw [hblk2 r1 ob1 e1] at hb1
        rcases hmine b hb2 with h3 | h3
        · have := (hother r1 ob1 h1 e1 b hb1).1; omega
        · exact hok.ne r1 r2 ob1 _ b h1 hs hb1 h3
      · rw [if_neg e1] at h1
        rw [if_neg e2] at h2
        rw [hblk2 r1 ob1 e1] at hb1
        rw [hblk2 r2 ob2 e2] at hb2
        exact hok.ne r1 r2 ob1 ob2 b h1 h2 hb1 hb2
    · cases hv with
      | c h => cases h
      | own _ _ a c hr hh =>
        refine .own r _ a c hrl fun wf e xs' hx => ?_
        rw [hms, if_pos rfl] at hx
        cases hx
        rw [hja0]
        exact hh true sz zs hs'
    · exact he.fr b hb fun r1 ob1 h1 hb1 => by
        obtain ⟨rfl, rfl⟩ := qgx h1
        exact hno r _ hs (hblk1 b hb1)
    · rcases he.inew b k hk with h1 | h1 | ⟨r1, ob1, h1, h2⟩
      · exact .inl h1
      · exact .inr (.inl h1)
      · obtain ⟨rfl, rfl⟩ := qgx h1
        exact .inr (.inr ⟨r, _, hs, hblk1 b h2⟩)
    · rw [hms] at hx
      by_cases er : r' = r
      · subst er
        rw [if_pos rfl] at hx
        cases hx
        rcases hmine b hb with h1 | h1
        · exact .inl h1
        · exact .inr ⟨r', _, hs, h1⟩
      · rw [if_neg er] at hx
        rw [hblk2 r' ob er] at hb
        exact .inr ⟨r', ob, hx, hb⟩
end
def dW1 (t : Env) (m : Mem) : SOp → Option AV
  | .mv x => some (ev t x)
  | .load agg sz a => match ev t a with
    | .ptr r off => match m.s r with
      | some (.box _ cs) => qiy (cs.drop off) agg sz
      | _ => none
    | _ => none
  | .fa off x => match ev t x with
    | .ptr r k => some (.ptr r (k + off))
    | _ => none
  | _ => none
def dW {R : Type} : List SOper → Env → Mem → (Env → Option R) → Option R
  | [], t, m, K => K t
  | s :: r, t, m, K => match s.g with
    | none => match dW1 t m s.op with
      | some v => dW r (upd t s.dst v) m K
      | none => none
    | some _ => none
section
variable {P : Program} {T : Tab} {nt : Nat}
theorem q4n {t : Env} {m : Mem} {so : SOp} {v : AV} (h : dW1 t m so = some v) : so.quiet = true ∧ qa t m so = some v := by
  cases so <;> simp only [dW1] at h <;> try (cases h; done)
  case mv x => exact ⟨rfl, h⟩
  case load agg sz a =>
    refine ⟨rfl, ?_⟩
    split at h
    · rename_i r off hp
      simp only [qa, hp, rd]
      split at h
      · rename_i w cs hs; rw [hs]; exact h
      · cases h
    · cases h
  case fa off x =>
    refine ⟨rfl, ?_⟩
    split at h
    · rename_i r k hp
      simp only [qa, hp, vfa]; exact h
    · cases h
theorem qpz {t t' : Env} {m : Mem} {so : SOp} {v : AV} (h : dW1 t m so = some v) (he : ∀ x, x ∈ so.opds → ev t x = ev t' x) : dW1 t' m so = some v := by
  cases so <;> simp only [dW1] at h ⊢ <;> try (cases h; done)
  case mv x => rw [← he x (by simp [SOp.opds])]; exact h
  case load agg sz a => rw [← he a (by simp [SOp.opds])]; exact h
  case fa off x => rw [← he x (by simp [SOp.opds])]; exact h
theorem qve {t : Env} {m m' : Mem} {so : SOp} {v : AV} (h : dW1 t m so = some v) (hm : ∀ r wf cs, m.s r = some (.box wf cs) → m'.s r = some (.box wf cs)) : dW1 t m' so = some v := by
  cases so <;> simp only [dW1] at h ⊢ <;> try (cases h; done)
  case mv x => exact h
  case load agg sz a =>
    split at h
    · rename_i r off hp
      split at h
      · rename_i w cs hs
        simp only [hp, hm r w cs hs]
        exact h
      · cases h
    · cases h
  case fa off x => exact h
def qrc (m : Mem) (tF : Env) (s : SOper) : Prop := s.g = none ∧ ∃ v, dW1 tF m s.op = some v ∧ ∀ d, s.dst = some d → tF d = v
theorem q4o {R : Type} {m : Mem} {K : Env → Option R} {x : R} : ∀ (hd : List SOper) (t : Env), dW hd t m K = some x → (dsts hd).Nodup → qb7 hd = true →
    ∃ tF, K tF = some x ∧ (∀ i, i ∉ dsts hd → tF i = t i) ∧ ∀ s, s ∈ hd → qrc m tF s
  | [], t, h, _, _ => ⟨t, h, fun _ _ => rfl, fun s hs => by simp at hs⟩
  | s :: r, t, h, hnd, hrd => by
    simp only [qb7, Bool.and_eq_true, List.all_eq_true] at hrd
    obtain ⟨hrd1, hrd2⟩ := hrd
    have hnd2 : (dsts r).Nodup := by
      unfold dsts at hnd ⊢
      simp only [List.filterMap_cons] at hnd
      split at hnd
      · exact hnd
      · exact (List.nodup_cons.1 hnd).2
    have hself : ∀ d, s.dst = some d → d ∉ dsts r := by
      intro d hd
      unfold dsts at hnd ⊢
      simp only [List.filterMap_cons, hd] at hnd
      exact (List.nodup_cons.1 hnd).1
    have hreads : ∀ d, s.reads d = true → d ∉ dsts (s :: r) := by
      intro d hd hm
      obtain ⟨o, ho, hod⟩ := qbi.1 hm
      have := hrd1 o ho
      rw [hod] at this
      simp [hd] at this
    simp only [dW] at h
    split at h
    · rename_i hg
      split at h
      · rename_i v hv
        obtain ⟨tF, h1, h2, h3⟩ := q4o r _ h hnd2 hrd2
        have hout : ∀ i, i ∉ dsts (s :: r) → tF i = t i := by
          intro i hi
          have hir : i ∉ dsts r := fun hm => hi (by
            obtain ⟨o, ho, hod⟩ := qbi.1 hm
            exact qbi.2 ⟨o, by simp [ho], hod⟩)
          rw [h2 i hir]
          cases hsd : s.dst with
          | none => rfl
          | some d =>
            have hid : i ≠ d := fun e => hi (qbi.2 ⟨s, by simp, by rw [hsd, e]⟩)
            simp [upd, hid]
        refine ⟨tF, h1, hout, fun o ho => ?_⟩
        rcases List.mem_cons.1 ho with rfl | ho
        · refine ⟨hg, v, qpz hv (qe4 fun d hd => (hout d (hreads d hd)).symm), fun d hd => ?_⟩
          rw [h2 d (hself d hd), hd]
          simp [upd]
        · exact h3 o ho
      · cases h
    · cases h
variable {gS : Gh} {mS : Mem} {wS : World}
structure Grow4 (l : List SOper) (n c dg f sz r : Nat) (x : Opd) (xs : List Opd) (m : Mem) (tF : Env) (F : List AV → List AV → Option (List AV)) (xs0 zs : List AV) : Prop where
  at_ : l[c]? = some ⟨some dg, .call f (x :: xs), none⟩
  lt : c < n
  own : ev tF x = .own r xs0.length
  obj : m.s r = some (.arr true sz xs0)
  cl : (evs tF xs).all qmt = true
  val : F xs0 (evs tF xs) = some zs
  dst : tF dg = .own r zs.length
  word : ∀ j s, j < n → j ≠ c → l[j]? = some s → qrc m tF s
theorem q7h (hT : T.ok P) {ops : Array Oper} {l : List SOper} {n c dg f sz r : Nat} {x : Opd} {xs : List Opd} {F : List AV → List AV → Option (List AV)} {xs0 zs : List AV} (hmap : ops.toList.mapM (qbc T nt ops) = some l) (hF : DrawFacts ops l n) {m : Mem} {t tF : Env} (hout : ∀ i, i ∉ dsts (l.take n) → tF i = t i)
    (hk : qzm P f sz F) (hG : Grow4 l n c dg f sz r x xs m tF F xs0 zs)
    {Q : Exit → Act → World → Prop} (hQ : ∀ a w g, OK g (m.set r (.arr true sz zs)) w → ARel g (m.set r (.arr true sz zs)) w nt tF a → Ext gS mS wS g (m.set r (.arr true sz zs)) w → wpList P ops Q (ops.toList.drop n) a w) :
    ∀ (k : Nat) (listed : Array Bool) (a : Act) (w : World), cntN listed n = k → HeadInv .any ops n listed → (∃ g M, M = (if listed.getD c false = true then m.set r (.arr true sz zs) else m) ∧ OK g M w ∧ ARel g M w nt (midE l n t tF listed) a ∧ Ext gS mS wS g M w) →
      wpAny P .any ops Q (k + (ops.size - n)) listed a w := by
  have hlen : l.length = ops.size := by have := (qbx _ _ _ hmap).1; simpa using this
  intro k
  induction k with
  | zero =>
    intro listed a w hk inv hI
    obtain ⟨g, M, hM, hok, hr, hext⟩ := hI
    have hall := qkh n hk
    have hcl : listed.getD c false = true := by
      have h1 := hall c hG.lt
      have h2 : c < listed.size := by rw [inv.size]; have := hF.le; have := hG.lt; omega
      simp [h2] at h1 ⊢; exact h1
    rw [if_pos hcl] at hM
    subst hM
    have henv : midE l n t tF listed = tF := by
      funext i
      unfold midE
      split
      · rfl
      · rename_i hno
        refine (hout i fun hm => hno ?_).symm
        obtain ⟨s, hs, hd⟩ := qbi.1 hm
        obtain ⟨j, hj⟩ := List.getElem?_of_mem hs
        have hjn : j < n := by have := (List.getElem?_eq_some_iff.1 hj).1; simp at this; omega
        rw [List.getElem?_take_of_lt hjn] at hj
        exact ⟨j, hjn, hall j hjn, by simp [hj, hd]⟩
    rw [henv] at hr
    have hw := hQ a w g hok hr hext
    rw [Nat.zero_add]
    rcases hF.tail with hn | ⟨hn, hs, hc, hseq⟩
    · have : ops.size - n = 0 := by omega
      rw [this]
      refine ⟨?_, ?_⟩
      · rw [List.eq_nil_iff_forall_not_mem]
        intro i hi
        obtain ⟨hun, o, ho, _⟩ := mem_ready.1 hi
        have hi2 : i < ops.size := (Array.getElem?_eq_some_iff.1 ho).1
        rw [hall i (by omega)] at hun
        cases hun
      · have hd : ops.toList.drop n = [] := by simp; omega
        rw [hd] at hw
        exact hw
    · have hlist : listed = (Array.range ops.size).map (fun i => decide (i < n)) := by
        apply Array.ext
        · simp [inv.size]
        · intro i h1 h2
          have hi : i < ops.size := by simpa using h2
          simp only [Array.getElem_map, Array.getElem_range]
          by_cases hin : i < n
          · have := hall i hin
            simp [h1] at this
            rw [this]; simp [hin]
          · have := inv.tail i (by omega) hi
            simp [h1] at this
            rw [this]; simp [hin]
      have := wpAny_of_seq (P := P) (md := .any) (ops := ops) (Q' := Q) (ops.toList.drop n) n listed a w (fun j => by simp [List.getElem?_drop]) (by
        have hl2 : (ops.toList.drop n).length = ops.size - n := by simp
        rw [hl2, hlist]; exact hseq) hw
      have hl2 : (ops.toList.drop n).length = ops.size - n := by simp
      rw [hl2] at this
      exact this
  | succ k ih =>
    intro listed a w hk' inv hI
    obtain ⟨g, M, hM, hok, hr, hext⟩ := hI
    obtain ⟨j0, hj0, hun0, hmin⟩ := qgw (listed := listed) (n := n) (by omega)
    rw [show k + 1 + (ops.size - n) = (k + (ops.size - n)) + 1 by omega]
    refine ⟨fun hnil => ?_, fun i hi => ?_⟩
    · exfalso
      have hj0s : j0 < ops.size := by have := hF.le; omega
      have ho : ops[j0]? = some ops[j0] := by simp [hj0s]
      obtain ⟨s, hs, _⟩ := qb9 hmap ho
      have hfact := hF.head j0 _ s hj0 ho hs
      have : j0 ∈ Region.ready .any ops listed := by
        refine mem_ready.2 ⟨hun0, _, ho, fun e he hb => ?_⟩
        have h1 := hmin e.on (hfact.after e he hb)
        have h2 : e.on < listed.size := by rw [inv.size]; have := hfact.after e he hb; omega
        simp [h2] at h1 ⊢
        exact h1
      rw [hnil] at this
      cases this
    · obtain ⟨hun, o, ho, hready⟩ := mem_ready.1 hi
      have his : i < ops.size := (Array.getElem?_eq_some_iff.1 ho).1
      have hin : i < n := by
        rcases hF.tail with hn | ⟨hn, hs, hc, _⟩
        · omega
        · rcases Nat.lt_or_ge i n with h | h
          · exact h
          · exact absurd hi (tail_waits hs hc hn inv (n - j0) j0 rfl hj0 hun0 i h)
      obtain ⟨s, hs, hcs⟩ := qb9 hmap ho
      have hfact := hF.head i o s hin ho hs
      obtain ⟨hdst, hop, hdn, hg⟩ := qq hcs
      have hil : i < listed.size := by rw [inv.size]; exact his
      have hreads : ∀ d, s.reads d = true → tF d = midE l n t tF listed d := by
        intro d hd
        unfold midE
        split
        · rfl
        · rename_i hno
          refine hout d fun hm => hno ?_
          obtain ⟨s', hs', hd'⟩ := qbi.1 hm
          obtain ⟨j, hj⟩ := List.getElem?_of_mem hs'
          have hjn : j < n := by have := (List.getElem?_eq_some_iff.1 hj).1; simp at this; omega
          rw [List.getElem?_take_of_lt hjn] at hj
          have hjs : j < ops.size := by have := hF.le; omega
          have hoj : ops[j]? = some ops[j] := by simp [hjs]
          obtain ⟨s2, hs2, hc2⟩ := qb9 hmap hoj
          rw [hj] at hs2
          cases hs2
          obtain ⟨hd2, _⟩ := qq hc2
          obtain ⟨_, e, he, hb, hon⟩ := hfact.reads j _ d hjn hoj (by rw [← hd2]; exact hd') hd
          have h1 := hready e he hb
          rw [hon] at h1
          have h2 : j < listed.size := by rw [inv.size]; exact hjs
          refine ⟨j, hjn, ?_, by simp [hj, hd']⟩
          simp [h2] at h1 ⊢
          exact h1
      have hcnt : cntN (listed.setIfInBounds i true) n = k := by have := ql0 hun n hin; omega
      have hinv' := inv.set hi hin
      have hgo : s.g = none → o.guard = none := fun hsg => by
        rcases hg with ⟨h1, h2⟩ | ⟨j, b, oj, dd, h1, h2, h3, h4⟩
        · exact h1
        · rw [hsg] at h4; cases h4
      have hco : ∀ so, s.op = so → so ≠ .stuck → cOp T o.op = some so := fun so hso hne => by
        unfold cOpT at hop
        cases hq : cOp T o.op with
        | none => rw [hq] at hop; simp at hop; exact absurd (hop.trans hso).symm hne
        | some x => rw [hq] at hop; simp at hop; rw [hop, hso]
      by_cases hic : i = c
      · -- the call
        subst hic
        have hnl : listed.getD i false = false := getD_both hun
        rw [if_neg (by rw [hnl]; simp)] at hM
        subst hM
        have hs0 : s = ⟨some dg, .call f (x :: xs), none⟩ := Option.some.inj (hs.symm.trans hG.at_)
        have hop' := hco (.call f (x :: xs)) (by rw [hs0]) (by simp)
        have hsg : s.g = none := by rw [hs0]
        have hsd : s.dst = some dg := by rw [hs0]
        obtain ⟨cc, y, hopc, hcal, hx⟩ := qlz hop' rfl
        rcases hx with ⟨f', xs', rfl, hso, hxs⟩ | ⟨x', xs', hso, _, _⟩
        · cases hso
          obtain ⟨h1, h2⟩ := qkf hr.r hxs
          have hev : evs (midE l n t tF listed) (x :: xs) = .own r xs0.length :: evs tF xs := by
            have he : evs (midE l n t tF listed) (x :: xs) = evs tF (x :: xs) := (qga fun q hq => qe4 hreads q (by rw [hs0]; exact hq)).symm
            rw [he]
            simp only [evs, List.map_cons]
            rw [hG.own]
          rw [hev] at h1 h2
          have hE := (hk xs0 (evs tF xs) zs hG.val).1
          have hrun : (execOp a.eval o).run P w = .ok (.enter f (cc.args.map a.eval)) w := by
            unfold execOp
            simp only [hopc]
            simp [resolve, hcal, Act.eval, Deferred.ofValue, invoke, qgv hE]
          unfold wpOp
          simp only [ho]
          rw [if_pos (by simp [Region.wanted, hgo hsg])]
          refine .inl ?_
          unfold Oper.wp
          rw [hrun, Oper.upon_enter]
          refine (q8n hok hG.obj hG.cl (hk xs0 (evs tF xs) zs hG.val) (args := cc.args.map a.eval) h1 h2).mono ?_
          rintro e w' ⟨v, g', rfl, j1, j2, j3⟩
          refine ih _ _ _ hcnt hinv' ⟨g', _, (if_pos (by simp [hil])).symm, j1, ?_, hext.trans j3⟩
          rw [← qon hil hin hs (v := tF dg) (fun d hd => by rw [hsd] at hd; cases hd; rfl), hdst, hG.dst]
          exact (hr.ext j3).put hdn j2
        · cases hso
      · -- a word
        obtain ⟨hsg, v, hv, hd⟩ := hG.word i s hin hic hs
        have hvM : dW1 (midE l n t tF listed) M s.op = some v := by
          refine qve (qpz hv (qe4 hreads)) fun r' wf cs hb => ?_
          rw [hM]
          split
          · simp only [Mem.set]
            rw [if_neg (fun e => by subst e; rw [hG.obj] at hb; cases hb)]
            exact hb
          · exact hb
        obtain ⟨_, hpv⟩ := q4n hvM
        have hns : s.op ≠ .stuck := fun e => by rw [e] at hv; simp [dW1] at hv
        obtain ⟨cv, hcv, hrun⟩ := qiz hT hok hr.r (hco s.op rfl hns) hpv
        unfold wpOp
        simp only [ho]
        rw [if_pos (by simp [Region.wanted, hgo hsg])]
        refine .inl ?_
        unfold Oper.wp
        rw [hrun w (Old.refl w), Oper.upon_value]
        refine ih _ _ _ hcnt hinv' ⟨g, M, ?_, hok, ?_, hext⟩
        · rw [hM, getD_set_ne false hic]
        · rw [← qon hil hin hs hd, hdst]
          exact hr.put hdn hcv
theorem q50 {R : Type} {K : Env → Mem → Option R} {x : R} (hT : T.ok P) (hm : P.follows .mixedOrders = true) {id : Nat} {ops : Array Oper} {l : List SOper} {n dg f sz : Nat} {h1 h2 : List SOper} {y : Opd} {ys : List Opd} {F : List AV → List AV → Option (List AV)} (hmap : ops.toList.mapM (qbc T nt ops) = some l) (hB : qsj ops l n = true)
    (hl : l.take n = h1 ++ (⟨some dg, .call f (y :: ys), none⟩ : SOper) :: h2) (hk : qzm P f sz F) {Q : Exit → Act → World → Prop}
    {t : Env} {m : Mem} {g : Gh} {a : Act} {w : World}
    (hQ : (ops.toList.drop n).mapM (qbc T nt ops) = some (l.drop n) → ∀ t' m' g a w, OK g m' w → ARel g m' w nt t' a → Ext gS mS wS g m' w → K t' m' = some x → wpList P ops Q (ops.toList.drop n) a w)
    (hok : OK g m w) (hr : ARel g m w nt t a) (he : Ext gS mS wS g m w)
    {r : Nat} {xs0 zs : List AV} {tF : Env} (hown : ev tF y = .own r xs0.length) (hobj : m.s r = some (.arr true sz xs0)) (hcl : (evs tF ys).all qmt = true) (hval : F xs0 (evs tF ys) = some zs) (hdst : tF dg = .own r zs.length)
    (hout : ∀ i, i ∉ dsts (l.take n) → tF i = t i) (hword : ∀ s, s ∈ h1 ++ h2 → qrc m tF s) (hK : K tF (m.set r (.arr true sz zs)) = some x) : (Code.region id ops true).wp P Q a w := by
  have hF := qmf hB
  obtain ⟨h4, h5⟩ := hok.same (w' := { w with drawn := w.drawn + 1 }) rfl rfl rfl rfl
  have h6 := he.trans h5
  have hr2 := hr.ext h5
  refine wp_region_any hm ?_
  have inv0 : HeadInv .any ops n (Array.replicate ops.size false) :=
    ⟨by simp, fun j oj _ hl => (by rw [getD_replicate_false] at hl; cases hl), fun t _ ht => getD_in (by simpa using ht) (getD_replicate_false _ _)⟩
  have hat : (l.take n)[h1.length]? = some ⟨some dg, .call f (y :: ys), none⟩ := by rw [hl]; simp
  have hcn : h1.length < n := by have := (List.getElem?_eq_some_iff.1 hat).1; simp at this; omega
  have hG : Grow4 l n h1.length dg f sz r y ys m tF F xs0 zs := by
    refine ⟨by rw [List.getElem?_take_of_lt hcn] at hat; exact hat, hcn, hown, hobj, hcl, hval, hdst, fun j s hj hjc hs => hword s ?_⟩
    have : (l.take n)[j]? = some s := by rw [List.getElem?_take_of_lt hj]; exact hs
    rw [hl] at this
    rcases Nat.lt_or_ge j h1.length with h | h
    · rw [List.getElem?_append_left h] at this
      exact List.mem_append_left _ (List.mem_of_getElem? this)
    · rw [List.getElem?_append_right h] at this
      obtain ⟨q, hq⟩ : ∃ q, j - h1.length = q + 1 := ⟨j - h1.length - 1, by omega⟩
      rw [hq, List.getElem?_cons_succ] at this
      exact List.mem_append_right _ (List.mem_of_getElem? this)
  have := q7h (gS := gS) (mS := mS) (wS := wS) hT hmap hF (t := t) (tF := tF) hout hk hG (Q := Q) (fun a w g hok hr hext => hQ (qpy _ _ n hmap) tF _ g a w hok hr hext hK)
    n (Array.replicate ops.size false) a { w with drawn := w.drawn + 1 } (qms _ n hF.le) inv0 ⟨_, m, by rw [if_neg (by rw [getD_replicate_false]; simp)], h4, ?_, h6⟩
  · rw [show n + (ops.size - n) = ops.size by have := hF.le; omega] at this
    exact this
  · have henv : midE l n t tF (Array.replicate ops.size false) = t := by
      funext i
      unfold midE
      rw [if_neg]
      rintro ⟨j, hj, hl, _⟩
      have : j < ops.size := by have := hF.le; omega
      simp [this] at hl
    rw [henv]
    exact hr2
end
end Go.Pev
/- Functions that are handed slices of the frame's own, anywhere among their arguments: they are used up, and what comes back is taken up. -/
namespace Go.Pev
open Go
set_option linter.unusedVariables false
set_option linter.unusedSimpArgs false
def Mem.dels (m : Mem) : List Nat → Mem
  | [] => m
  | r :: l => (m.del r).dels l
theorem qzn : ∀ (l : List Nat) (m : Mem) (i : Nat), (m.dels l).s i = if i ∈ l then none else m.s i
  | [], m, i => rfl
  | r :: l, m, i => by
    rw [Mem.dels, qzn l]
    simp only [Mem.del, List.mem_cons]
    by_cases h : i ∈ l
    · simp [h]
    · by_cases h2 : i = r <;> simp [h, h2]
theorem qzo : ∀ (l : List Nat) (m : Mem), (m.dels l).n = m.n
  | [], m => rfl
  | r :: l, m => by rw [Mem.dels, qzo l]; rfl
def q4p : AV → Bool
  | .fr w _ _ => w
  | _ => true
def qyl : AV → Bool
  | .agg cs => cs.all q4p
  | x => q4p x
def hand (m : Mem) (vs : List AV) : Option (List AV) :=
  match nodupL (vs.flatMap ids) with
  | true => match exps m vs with
    | some as_ => match as_.all qyl with
      | true => some as_
      | false => none
    | none => none
  | false => none
where nodupL : List Nat → Bool
  | [] => true
  | x :: xs => !(xs.any fun y => Nat.beq y x) && nodupL xs
theorem q1x : ∀ (l : List Nat), hand.nodupL l = true → l.Nodup
  | [], _ => by simp
  | x :: xs, h => by
    simp only [hand.nodupL, Bool.and_eq_true, Bool.not_eq_true', List.any_eq_false] at h
    refine List.nodup_cons.2 ⟨fun hx => ?_, q1x xs h.2⟩
    have := h.1 x hx
    simp at this
theorem q1y {m : Mem} {vs as_ : List AV} (h : hand m vs = some as_) : (vs.flatMap ids).Nodup ∧ exps m vs = some as_ ∧ as_.all qyl = true := by
  unfold hand at h
  split at h
  · rename_i h1
    split at h
    · rename_i h2
      split at h
      · rename_i h3
        cases h
        exact ⟨q1x _ h1, h2, h3⟩
      · cases h
    · cases h
  · cases h
def qrd (P : Program) (f : FuncId) (xs : List AV) (Q : AV → Prop) : Prop :=
  qoi P f (imps xs Mem.none).1 (imps xs Mem.none).2 fun y m => ∃ z, expo m y = some z ∧ Q z
section
variable {P : Program} {f : FuncId} {g : Gh} {m : Mem} {w : World}
theorem qbam (hok : OK g m w) {vs as_ : List AV} (ha : hand m vs = some as_) {Q : AV → Prop} (h : qrd P f as_ Q) {args : Array Value} (hsz : args.size = vs.length)
    (hrel : ∀ (k : Nat) (x : AV) (v : Value), vs[k]? = some x → args[k]? = some v → VRel g m w x v) :
    Calls P f args w fun e w' => ∃ v z g', e = .returned v ∧ Q z ∧ OK g' (imp z (m.dels (vs.flatMap ids))).2 w' ∧ VRel g' (imp z (m.dels (vs.flatMap ids))).2 w' (imp z (m.dels (vs.flatMap ids))).1 v ∧ Ext g m w g' (imp z (m.dels (vs.flatMap ids))).2 w' := by
  obtain ⟨hnd, hex, _⟩ := q1y ha
  have hI0 : Imp False (fun _ => True) g m w g m w g Mem.none [] :=
    ⟨⟨fun r ob hs => by simp [Mem.none] at hs, fun r ob hs => by simp [Mem.none] at hs, fun r r' ob ob' b hs => by simp [Mem.none] at hs, hok.im, hok.tb.obs (fun _ _ hk => hk) fun r ob b hs => by simp [Mem.none] at hs⟩, rfl, fun r ob b hs => by simp [Mem.none] at hs, fun h => h.elim, fun h => h.elim⟩
  obtain ⟨g0, k1, _, k3, k4⟩ := Imp.many vs as_ args.toList g Mem.none [] hI0 hok (fun r ob b hs hb => trivial) (by simpa using hsz) (fun k x v hx hv => hrel k x v hx (by simpa using hv)) hex (by simpa using hnd)
  simp only [List.nil_append] at k1
  have hsrc : ∀ r ob b, (imps as_ Mem.none).2.s r = some ob → ob.blk g0 r = some b → ∃ q, q ∈ vs.flatMap ids ∧ ∃ ob', m.s q = some ob' ∧ ob'.blk g q = some b := fun r ob b hs hb => by
    rcases k1.src r ob b hs hb with h1 | ⟨q, h1, ob', h2, h3⟩
    · exact absurd trivial h1
    · exact ⟨q, h1, ob', h2, h3⟩
  have hI := k1.I
  refine (h.2 g0 w args k1.ok (by rw [k3]; exact hsz) fun k x v hx hv => k4 k x v hx (by simpa using hv)).mono ?_
  rintro e w' ⟨v, y, g1, m1, rfl, ⟨z, hz, hq⟩, hok1, hv, he⟩
  have hds : ∀ r ob, (m.dels (vs.flatMap ids)).s r = some ob → r ∉ vs.flatMap ids ∧ m.s r = some ob := fun r ob hs => by
    rw [qzn] at hs
    split at hs
    · cases hs
    · rename_i hr; exact ⟨hr, hs⟩
  -- the blocks that stay ours
  have hother : ∀ r ob b, (m.dels (vs.flatMap ids)).s r = some ob → ob.blk g r = some b → b < w.heap.size ∧ (∀ r1 ob1, (imps as_ Mem.none).2.s r1 = some ob1 → ob1.blk g0 r1 ≠ some b) := fun r ob b hs hb => by
    obtain ⟨hr, hs'⟩ := hds r ob hs
    refine ⟨qfb hok hs' hb, fun r1 ob1 h1 h2 => ?_⟩
    obtain ⟨q, j1, ob', j2, j3⟩ := hsrc r1 ob1 b h1 h2
    have := hok.ne r q ob ob' b hs' j2 hb j3
    subst this
    exact hr j1
  have hIb : ∀ b k, g1.I b k → g.I b k ∨ w.heap.size ≤ b ∨ ∃ r0 ob0, (imps as_ Mem.none).2.s r0 = some ob0 ∧ ob0.blk g0 r0 = some b := fun b k hk => by
    rcases he.inew b k hk with h1 | h1 | h1
    · rw [hI] at h1; exact .inl h1
    · exact .inr (.inl h1)
    · exact .inr (.inr h1)
  have him : ∀ b k, g.I b k → g1.I b k ∧ w'.cell? ⟨b, k, none⟩ = w.cell? ⟨b, k, none⟩ := fun b k hk => he.im b k (by rw [hI]; exact hk)
  have hv1 : VExt g m w { g with I := g1.I } (m.dels (vs.flatMap ids)) w' := ⟨him, fun _ _ => rfl, fun r hr wf e xs hs => ⟨wf, e, xs, (hds r _ hs).2, rfl, Nat.le_refl _, fun _ => rfl⟩, by rw [qzo]; exact Nat.le_refl _⟩
  have hblk : ∀ (r : Nat) (ob : Ob), ob.blk { g with I := g1.I } r = ob.blk g r := fun r ob => by cases ob <;> rfl
  have hA : OK { g with I := g1.I } (m.dels (vs.flatMap ids)) w' := by
    refine ⟨fun r ob hs => by rw [qzo]; exact hok.lt r ob (hds r ob hs).2, fun r ob hs => ?_, fun r r' ob ob' b hs hs' hb hb' => hok.ne r r' ob ob' b (hds r ob hs).2 (hds r' ob' hs').2 (by rw [← hblk]; exact hb) (by rw [← hblk]; exact hb'), hok1.im, fun p hp => ⟨(hok1.tb p hp).1, fun r ob hs hb => (hok.tb p hp).2.1 r ob (hds r ob hs).2 (by rw [← hblk]; exact hb), (hok1.tb p hp).2.2⟩⟩
    refine (hok.ob r ob (hds r ob hs).2).keep hv1 (fun b hb => ?_) rfl rfl (fun b hb k => ⟨fun hk => ?_, fun hk => (him b k hk).1⟩)
    · obtain ⟨h1, h2⟩ := hother r ob b hs hb
      exact he.fr b h1 h2
    · obtain ⟨h1, h2⟩ := hother r ob b hs hb
      rcases hIb b k hk with h3 | h3 | ⟨r0, ob0, h3, h4⟩
      · exact h3
      · omega
      · exact absurd h4 (h2 r0 ob0 h3)
  have hE : Ext g m w { g with I := g1.I } (m.dels (vs.flatMap ids)) w' := by
    refine ⟨him, fun _ _ => rfl, hv1.ja, hv1.n, fun b hb hno => he.fr b hb fun r ob hs hb' => ?_, fun b k hk => ?_, fun r ob b hs hb => .inr ⟨r, ob, (hds r ob hs).2, by rw [← hblk]; exact hb⟩, he.size, he.os, he.tape, he.output⟩
    · obtain ⟨q, _, ob', j2, j3⟩ := hsrc r ob b hs hb'
      exact hno q ob' j2 j3
    · rcases hIb b k hk with h3 | h3 | ⟨r0, ob0, h3, h4⟩
      · exact .inl h3
      · exact .inr (.inl h3)
      · obtain ⟨q, _, ob', j2, j3⟩ := hsrc r0 ob0 b h3 h4
        exact .inr (.inr ⟨q, ob', j2, j3⟩)
  let N : Nat → Prop := fun b => w.heap.size ≤ b ∨ ∃ q, q ∈ vs.flatMap ids ∧ ∃ ob', m.s q = some ob' ∧ ob'.blk g q = some b
  have hN1 : ∀ b, N b → w.heap.size ≤ b ∨ ∃ r0 ob0, m.s r0 = some ob0 ∧ ob0.blk g r0 = some b := fun b hb => hb.imp id fun ⟨q, _, ob', h1, h2⟩ => ⟨q, ob', h1, h2⟩
  have hN2 : ∀ r ob b, (m.dels (vs.flatMap ids)).s r = some ob → ob.blk g r = some b → ¬ N b := fun r ob b hs hb hn => by
    obtain ⟨hr, hs'⟩ := hds r ob hs
    rcases hn with h1 | ⟨q, h1, ob', h2, h3⟩
    · have := qfb hok hs' hb; omega
    · have := hok.ne r q ob ob' b hs' h2 hb h3
      subst this
      exact hr h1
  have hN3 : ∀ r ob b, m1.s r = some ob → ob.blk g1 r = some b → N b := fun r ob b hs hb => by
    rcases he.onew r ob b hs hb with h1 | ⟨r0, ob0, h1, h2⟩
    · exact .inl h1
    · exact .inr (hsrc r0 ob0 b h1 h2)
  obtain ⟨gj, j1, j2, j3⟩ := qzf (N := N) hA hE hN1 hN2 hok1 hN3 hv hz
  exact ⟨v, z, gj, rfl, hq, j1, j3, j2⟩
theorem q24 {vs as_ : List AV} {z : AV} (ha : hand m vs = some as_) (h : qrd P f as_ (· = z)) :
    qoi P f vs m fun y m' => y = (imp z (m.dels (vs.flatMap ids))).1 ∧ m' = (imp z (m.dels (vs.flatMap ids))).2 :=
  ⟨h.1, fun g w args hok hsz hrel => (qbam hok ha h hsz hrel).mono fun e w' ⟨v, z', g', h1, h2, h3, h4, h5⟩ => by
    subst h2
    exact ⟨v, _, g', _, h1, ⟨rfl, rfl⟩, h3, h4, h5⟩⟩
def q7i {R : Type} (P : Program) (f : FuncId) (e : List AV → (AV → Option R) → Option R) : Prop :=
  ∀ as_ K r, e as_ K = some r → ∃ z, qrd P f as_ (· = z) ∧ K z = some r
end
def qb6 (m m' : Mem) : Prop := ∀ r wf cs, m.s r = some (.box wf cs) ↔ m'.s r = some (.box wf cs)
theorem qb6.refl (m : Mem) : qb6 m m := fun _ _ _ => Iff.rfl
theorem qb6.trans {a b c : Mem} (h : qb6 a b) (k : qb6 b c) : qb6 a c := fun r wf cs => (h r wf cs).trans (k r wf cs)
theorem qb6.symm {a b : Mem} (h : qb6 a b) : qb6 b a := fun r wf cs => (h r wf cs).symm
theorem q8o {m : Mem} {w : Bool} {e : Nat} {xs : List AV} (hn : m.s m.n = none) : qb6 m (m.new (.arr w e xs)) := fun r wf cs => by
  simp only [Mem.new]
  by_cases h : r = m.n
  · subst h; simp [hn]
  · simp [h]
def Low (m : Mem) : Prop := ∀ r ob, m.s r = some ob → r < m.n
theorem Low.at {m : Mem} (h : Low m) : m.s m.n = none := by
  cases hs : m.s m.n with
  | none => rfl
  | some ob => have := h _ ob hs; omega
theorem Low.new {m : Mem} (h : Low m) (ob : Ob) : Low (m.new ob) := fun r o hs => by
  simp only [Mem.new] at hs ⊢
  split at hs
  · omega
  · have := h r o hs; omega
theorem qxj (x : AV) {m : Mem} (h : Low m) : qb6 m (qeo x m).2 ∧ Low (qeo x m).2 := by
  cases x <;> first | exact ⟨qb6.refl m, h⟩ | exact ⟨q8o h.at, h.new _⟩
theorem qvf : ∀ (cs : List AV) {m : Mem}, Low m → qb6 m (qbw cs m).2 ∧ Low (qbw cs m).2
  | [], m, h => ⟨qb6.refl m, h⟩
  | x :: cs, m, h => by
    obtain ⟨h1, h2⟩ := qxj x h
    obtain ⟨h3, h4⟩ := qvf cs h2
    exact ⟨h1.trans h3, h4⟩
theorem q4q (x : AV) {m : Mem} (h : Low m) : qb6 m (imp1 x m).2 ∧ Low (imp1 x m).2 := by
  cases x with
  | agg cs => exact qvf cs h
  | _ => exact qxj _ h
theorem q4r : ∀ (cs : List AV) {m : Mem}, Low m → qb6 m (imps cs m).2 ∧ Low (imps cs m).2
  | [], m, h => ⟨qb6.refl m, h⟩
  | x :: cs, m, h => by
    obtain ⟨h1, h2⟩ := q4q x h
    obtain ⟨h3, h4⟩ := q4r cs h2
    exact ⟨h1.trans h3, h4⟩
theorem qbci (x : AV) {m : Mem} (h : Low m) : qb6 m (imp x m).2 ∧ Low (imp x m).2 := by
  cases x with
  | tup cs => exact q4r cs h
  | _ => exact q4q _ h
theorem qzp {m : Mem} {x y : AV} (h : qbr m x = some y) : ∀ r, r ∈ qv x → ∃ w e xs, m.s r = some (.arr w e xs) := fun r hr => by
  cases x <;> simp [qv] at hr
  subst hr
  simp only [qbr] at h
  split at h
  · rename_i w e xs hs; exact ⟨w, e, xs, hs⟩
  · cases h
theorem qxk {m : Mem} : ∀ (cs ys : List AV), qdc m cs = some ys → ∀ r, r ∈ cs.flatMap qv → ∃ w e xs, m.s r = some (.arr w e xs)
  | [], _, _, r, hr => by simp at hr
  | x :: cs, ys, h, r, hr => by
    simp only [qdc] at h
    split at h
    · rename_i y ys' h1 h2
      simp only [List.flatMap_cons, List.mem_append] at hr
      rcases hr with hr | hr
      · exact qzp h1 r hr
      · exact qxk cs ys' h2 r hr
    · cases h
theorem qbcj {m : Mem} {x y : AV} (h : exp1 m x = some y) : ∀ r, r ∈ ids x → ∃ w e xs, m.s r = some (.arr w e xs) := by
  cases x with
  | agg cs =>
    obtain ⟨ys, h1, _⟩ := Option.map_eq_some_iff.1 h
    exact qxk cs ys h1
  | _ => exact fun r hr => qzp (by simpa [exp1] using h) r (by simpa [ids] using hr)
theorem q6q {m : Mem} : ∀ (cs ys : List AV), exps m cs = some ys → ∀ r, r ∈ cs.flatMap ids → ∃ w e xs, m.s r = some (.arr w e xs)
  | [], _, _, r, hr => by simp at hr
  | x :: cs, ys, h, r, hr => by
    simp only [exps] at h
    split at h
    · rename_i y ys' h1 h2
      simp only [List.flatMap_cons, List.mem_append] at hr
      rcases hr with hr | hr
      · exact qbcj h1 r hr
      · exact q6q cs ys' h2 r hr
    · cases h
theorem qbck {m : Mem} {vs as_ : List AV} {z : AV} (h : Low m) (ha : hand m vs = some as_) : qb6 m (imp z (m.dels (vs.flatMap ids))).2 ∧ Low (imp z (m.dels (vs.flatMap ids))).2 := by
  obtain ⟨_, h2, _⟩ := q1y ha
  have hl : Low (m.dels (vs.flatMap ids)) := fun r ob hs => by
    rw [qzn] at hs
    split at hs
    · cases hs
    · rw [qzo]; exact h r ob hs
  obtain ⟨h3, h4⟩ := qbci z hl
  refine ⟨qb6.trans (fun r wf cs => ?_) h3, h4⟩
  rw [qzn]
  split
  · rename_i hr
    obtain ⟨w, e, xs, hs⟩ := q6q _ _ h2 r hr
    rw [hs]; simp
  · exact Iff.rfl
end Go.Pev
/- Regions that draw their order (5): heads among which calls use up slices of the frame's own, one after the other. -/
namespace Go.Pev
open Go
set_option linter.unusedVariables false
set_option linter.unusedSimpArgs false
def w5 (t : Env) (m : Mem) : SOp → Option AV
  | .ext x i => vext (ev t x) i
  | .fld agg off sz x => vfld agg off sz (ev t x)
  | .bin op x y => vbin op (ev t x) (ev t y)
  | .build z ps => (qsk z (ps.map fun p => (p.1, p.2.1, ev t p.2.2))).map .agg
  | so => dW1 t m so
theorem q6r {t : Env} {m : Mem} {so : SOp} {v : AV} (h : w5 t m so = some v) : so.quiet = true ∧ (∀ f xs, so ≠ .call f xs) ∧ qa t m so = some v := by
  unfold w5 at h
  split at h
  · exact ⟨rfl, (by intros; simp), h⟩
  · exact ⟨rfl, (by intros; simp), h⟩
  · exact ⟨rfl, (by intros; simp), h⟩
  · exact ⟨rfl, (by intros; simp), h⟩
  · obtain ⟨h1, h2⟩ := q4n h
    refine ⟨h1, fun f xs e => ?_, h2⟩
    subst e
    simp [dW1] at h
theorem qban {t : Env} {m m' : Mem} {so : SOp} {v : AV} (h : w5 t m so = some v) (hm : qb6 m m') : w5 t m' so = some v := by
  unfold w5 at h ⊢
  split at h
  · exact h
  · exact h
  · exact h
  · exact h
  · exact qve h fun r wf cs hs => (hm r wf cs).1 hs
theorem qbao {t t' : Env} {m : Mem} {so : SOp} {v : AV} (h : w5 t m so = some v) (he : ∀ x, x ∈ so.opds → ev t x = ev t' x) : w5 t' m so = some v := by
  obtain ⟨h1, h2, h3⟩ := q6r h
  unfold w5 at h ⊢
  split at h
  · rename_i x i; rw [← he x (by simp [SOp.opds])]; exact h
  · rename_i agg off sz x; rw [← he x (by simp [SOp.opds])]; exact h
  · rename_i op x y; rw [← he x (by simp [SOp.opds]), ← he y (by simp [SOp.opds])]; exact h
  · rename_i z ps
    have : (ps.map fun p => (p.1, p.2.1, ev t' p.2.2)) = ps.map fun p => (p.1, p.2.1, ev t p.2.2) := List.map_congr_left fun p hp => by
      rw [he p.2.2 (by simp only [SOp.opds]; exact List.mem_map.2 ⟨p, hp, rfl⟩)]
    simp only [this]; exact h
  · exact qpz h he
def q3d (t : Env) : SOp → Option (FuncId × List AV)
  | .call f xs => some (f, evs t xs)
  | _ => none
def qcq : SOp → Bool
  | .call .. => true
  | _ => false
section
variable {P : Program} {T : Tab} {nt : Nat}
def q7j (m : Mem) (tF : Env) (s : SOper) : Prop := s.g = none ∧ qcq s.op = false ∧ ∃ v, w5 tF m s.op = some v ∧ ∀ d, s.dst = some d → tF d = v
def q7k (P : Program) (m : Mem) (tF : Env) (s : SOper) (m' : Mem) : Prop :=
  s.g = none ∧ ∃ f vs as_ z, q3d tF s.op = some (f, vs) ∧ hand m vs = some as_ ∧ vs.all (fun v => match v with | .undef | .fr .. => false | _ => true) = true ∧ qrd P f as_ (· = z) ∧ m' = (imp z (m.dels (vs.flatMap ids))).2 ∧ ∀ d, s.dst = some d → tF d = (imp z (m.dels (vs.flatMap ids))).1
inductive Tr5 (P : Program) (tF : Env) : List (Nat × SOper) → Mem → Mem → Prop
  | nil (m : Mem) : Tr5 P tF [] m m
  | word (p : Nat × SOper) (l : List (Nat × SOper)) (m m' : Mem) (h : q7j m tF p.2) (k : Tr5 P tF l m m') : Tr5 P tF (p :: l) m m'
  | main (p : Nat × SOper) (l : List (Nat × SOper)) (m m1 m' : Mem) (h : q7k P m tF p.2 m1) (k : Tr5 P tF l m1 m') : Tr5 P tF (p :: l) m m'
def qea : List (Nat × Mem) → Mem → Array Bool → Mem
  | [], m, _ => m
  | p :: r, m, listed => if listed.getD p.1 true = true then qea r p.2 listed else m
def qgr : List (Nat × Mem) → Mem → Mem
  | [], m => m
  | p :: r, _ => qgr r p.2
theorem qvg : ∀ (L : List (Nat × Mem)) (m : Mem) (listed : Array Bool) (i : Nat), i ∉ L.map (·.1) → qea L m (listed.setIfInBounds i true) = qea L m listed
  | [], _, _, _, _ => rfl
  | p :: r, m, listed, i, h => by
    simp only [List.map_cons, List.mem_cons, not_or] at h
    simp only [qea, getD_set_ne true h.1, qvg r p.2 listed i h.2]
theorem q1z : ∀ (L : List (Nat × Mem)) (m : Mem) (listed : Array Bool), (∀ i, i ∈ L.map (·.1) → listed.getD i true = true) → qea L m listed = qgr L m
  | [], _, _, _ => rfl
  | p :: r, m, listed, h => by
    simp only [qea, qgr, h p.1 (by simp), if_true]
    exact q1z r p.2 listed fun i hi => h i (by simp only [List.map_cons, List.mem_cons]; exact .inr hi)
theorem qzq : ∀ (L : List (Nat × Mem)) (m : Mem) (listed : Array Bool), (∀ i, i ∈ L.map (·.1) → listed.getD i true = false) → qea L m listed = m
  | [], _, _, _ => rfl
  | p :: r, m, listed, h => by simp [qea, h p.1 (by simp)]
theorem q10 : ∀ (A : List (Nat × Mem)) (i : Nat) (M : Mem) (B : List (Nat × Mem)) (m : Mem) (listed : Array Bool), (∀ j, j ∈ A.map (·.1) → listed.getD j true = true) → listed.getD i true = false → qea (A ++ (i, M) :: B) m listed = qgr A m
  | [], i, M, B, m, listed, _, h => by simp [qea, qgr, h]
  | p :: A, i, M, B, m, listed, hA, h => by
    simp only [List.cons_append, qea, qgr, hA p.1 (by simp), if_true]
    exact q10 A i M B p.2 listed (fun j hj => hA j (by simp only [List.map_cons, List.mem_cons]; exact .inr hj)) h
theorem q11 : ∀ (A B : List (Nat × Mem)) (m : Mem) (listed : Array Bool), (∀ j, j ∈ A.map (·.1) → listed.getD j true = true) → qea (A ++ B) m listed = qea B (qgr A m) listed
  | [], _, _, _, _ => rfl
  | p :: A, B, m, listed, h => by
    simp only [List.cons_append, qea, qgr, h p.1 (by simp), if_true]
    exact q11 A B p.2 listed fun j hj => h j (by simp only [List.map_cons, List.mem_cons]; exact .inr hj)
theorem q8p {m m' : Mem} {tF : Env} {s : SOper} (hl : Low m) (h : q7k P m tF s m') : qb6 m m' ∧ Low m' := by
  obtain ⟨_, f, vs, as_, z, _, h1, _, _, rfl, _⟩ := h
  exact qbck hl h1
structure Tr5Fact (P : Program) (tF : Env) (J : List (Nat × SOper)) (m m' : Mem) (L : List (Nat × Mem)) : Prop where
  idx : L.map (·.1) = (J.filter fun p => qcq p.2.op).map (·.1)
  last : qgr L m = m'
  box : qb6 m m' ∧ Low m'
  main : ∀ A i M B, L = A ++ (i, M) :: B → ∃ s, (i, s) ∈ J ∧ q7k P (qgr A m) tF s M
  boxes : ∀ A B, L = A ++ B → qb6 m (qgr A m)
  word : ∀ p, p ∈ J → qcq p.2.op = false → ∃ M, qb6 m M ∧ q7j M tF p.2
theorem q8q {tF : Env} : ∀ {J : List (Nat × SOper)} {m m' : Mem}, Low m → Tr5 P tF J m m' → ∃ L, Tr5Fact P tF J m m' L := by
  intro J m m' hl h
  induction h with
  | nil m => exact ⟨[], ⟨rfl, rfl, ⟨qb6.refl m, hl⟩, fun A i M B h => (by cases A <;> cases h), fun A B h => (by cases A <;> first | exact qb6.refl m | cases h), fun p hp => (by cases hp)⟩⟩
  | word p l m m' h k ih =>
    obtain ⟨L, hL⟩ := ih hl
    refine ⟨L, ⟨by rw [hL.idx, List.filter_cons, if_neg (by simp [h.2.1])], hL.last, hL.box, fun A i M B e => ?_, hL.boxes, fun q hq hc => ?_⟩⟩
    · obtain ⟨s, h1, h2⟩ := hL.main A i M B e
      exact ⟨s, List.mem_cons_of_mem _ h1, h2⟩
    · rcases List.mem_cons.1 hq with rfl | hq
      · exact ⟨m, qb6.refl m, h⟩
      · exact hL.word q hq hc
  | main p l m m1 m' h k ih =>
    obtain ⟨h1, h2⟩ := q8p hl h
    obtain ⟨L, hL⟩ := ih h2
    have hcall : qcq p.2.op = true := by
      obtain ⟨_, f, vs, as_, z, hc, _⟩ := h
      unfold q3d at hc
      split at hc
      · rename_i hh; simp [hh, qcq]
      · cases hc
    refine ⟨(p.1, m1) :: L, ⟨by simp [hL.idx, List.filter_cons, hcall], hL.last, ⟨h1.trans hL.box.1, hL.box.2⟩, fun A i M B e => ?_, fun A B e => ?_, fun q hq hc => ?_⟩⟩
    · cases A with
      | nil =>
        simp only [List.nil_append, List.cons.injEq, Prod.mk.injEq] at e
        obtain ⟨⟨rfl, rfl⟩, _⟩ := e
        exact ⟨p.2, List.mem_cons_self, h⟩
      | cons a A =>
        simp only [List.cons_append, List.cons.injEq] at e
        obtain ⟨rfl, e⟩ := e
        obtain ⟨s, j1, j2⟩ := hL.main A i M B e
        exact ⟨s, List.mem_cons_of_mem _ j1, j2⟩
    · cases A with
      | nil => exact qb6.refl m
      | cons a A =>
        simp only [List.cons_append, List.cons.injEq] at e
        obtain ⟨rfl, e⟩ := e
        exact h1.trans (hL.boxes A B e)
    · rcases List.mem_cons.1 hq with rfl | hq
      · rw [hcall] at hc; cases hc
      · obtain ⟨M, j1, j2⟩ := hL.word q hq hc
        exact ⟨M, h1.trans j1, j2⟩
def ch5 : List SOper → Option (List Nat) → Bool
  | [], _ => true
  | s :: r, T => match qcq s.op with
    | true => (match T with
        | some T => T.any fun d => s.reads d
        | none => true) && match s.dst with
        | some d => ch5 r (some [d])
        | none => false
    | false => ch5 r (match T, s.dst with
        | some T, some d => some (match T.any fun x => s.reads x with
          | true => d :: T
          | false => T)
        | T, _ => T)
def jp5 (l : List SOper) (n : Nat) (als : List Nat) : List (Nat × SOper) := (List.range n).filterMap fun j => if j ∈ als then none else (l[j]?).map fun s => (j, s)
theorem qre (l : List SOper) (n : Nat) (als : List Nat) : (jp5 l n als).map (·.2) = hds2 l n als := by
  unfold jp5 hds2
  rw [List.map_filterMap]
  congr 1
  funext j
  by_cases h : j ∈ als
  · simp [h]
  · simp only [h, if_false, Option.map_map]
    cases l[j]? <;> rfl
theorem qkj {l : List SOper} {n : Nat} {als : List Nat} {p : Nat × SOper} : p ∈ jp5 l n als ↔ p.1 < n ∧ p.1 ∉ als ∧ l[p.1]? = some p.2 := by
  unfold jp5
  rw [List.mem_filterMap]
  constructor
  · rintro ⟨j, hj, h⟩
    split at h
    · cases h
    · rename_i hn
      obtain ⟨s, h1, rfl⟩ := Option.map_eq_some_iff.1 h
      exact ⟨by simpa using hj, hn, h1⟩
  · rintro ⟨h1, h2, h3⟩
    exact ⟨p.1, by simpa using h1, by simp [h2, h3]⟩
theorem q7l (l : List SOper) (n : Nat) (als : List Nat) : (jp5 l n als).Pairwise fun p q => p.1 < q.1 := by
  unfold jp5
  refine List.Pairwise.filterMap _ (fun a b hab x hx y hy => ?_) List.pairwise_lt_range
  split at hx
  · cases hx
  · split at hy
    · cases hy
    · obtain ⟨_, _, rfl⟩ := Option.map_eq_some_iff.1 hx
      obtain ⟨_, _, rfl⟩ := Option.map_eq_some_iff.1 hy
      exact hab
section
variable {ops : Array Oper} {l : List SOper} {n : Nat} {als : List Nat}
def Dep5 (ops : Array Oper) (l : List SOper) (n i0 d : Nat) : Prop := ∀ (listed : Array Bool), HeadInv .any ops n listed → ∀ q s, q < n → l[q]? = some s → s.reads d = true → listed.getD q false = true → listed.getD i0 false = true
theorem q6s (hmap : ops.toList.mapM (qbc T nt ops) = some l) (hF : Draw2 ops l n als) {i0 d : Nat} {s0 : SOper} (hi : i0 < n) (hs0 : l[i0]? = some s0) (hd : s0.dst = some d) (hal : ∀ q, q < n → q ∈ als → ∀ s, l[q]? = some s → s.reads d = false) : Dep5 ops l n i0 d := by
  intro listed inv q s hq hs hr hl
  have hlen : l.length = ops.size := by have := (qbx _ _ _ hmap).1; simpa using this
  have hnl := hF.lt
  have hoq : ops[q]? = some ops[q] := by simp [show q < ops.size by omega]
  have hoi : ops[i0]? = some ops[i0] := by simp [show i0 < ops.size by omega]
  obtain ⟨s2, hs2, hc2⟩ := qb9 hmap hoi
  have : s2 = s0 := Option.some.inj (hs2.symm.trans hs0)
  subst this
  obtain ⟨hd2, _⟩ := qq hc2
  by_cases hqa : q ∈ als
  · rw [hal q hq hqa s hs] at hr; cases hr
  · obtain ⟨_, e, he, hb, hon⟩ := (hF.head q _ s hq hqa hoq hs).reads i0 _ d hi hoi (by rw [← hd2]; exact hd) hr
    have := inv.closed q _ hoq hl e he hb
    rw [hon] at this
    exact this
theorem q4s (hmap : ops.toList.mapM (qbc T nt ops) = some l) (hF : Draw2 ops l n als) : ∀ (J : List (Nat × SOper)), (∀ p, p ∈ J → p.1 < n ∧ p.1 ∉ als ∧ l[p.1]? = some p.2) → ∀ (S : List Nat) (T0 : Option (List Nat)), ch5 (J.map (·.2)) T0 = true →
    (match T0 with
      | none => S = []
      | some T => ∃ i0, (∀ i, i ∈ S → ∀ listed, HeadInv .any ops n listed → listed.getD i0 false = true → listed.getD i false = true) ∧ ∀ d, d ∈ T → Dep5 ops l n i0 d) →
    (∀ i, i ∈ S → ∀ p, p ∈ J → qcq p.2.op = true → ∀ listed, HeadInv .any ops n listed → listed.getD p.1 false = true → listed.getD i false = true) ∧
      (J.filter fun p => qcq p.2.op).Pairwise fun p q => ∀ listed, HeadInv .any ops n listed → listed.getD q.1 false = true → listed.getD p.1 false = true
  | [], _, S, T0, _, _ => ⟨fun _ _ p hp => (by cases hp), List.Pairwise.nil⟩
  | p :: J, hJ, S, T0, h, hI => by
    obtain ⟨hpn, hpa, hps⟩ := hJ p List.mem_cons_self
    have hJ' := fun q hq => hJ q (List.mem_cons_of_mem _ hq)
    have hlen : l.length = ops.size := by have := (qbx _ _ _ hmap).1; simpa using this
    have hnl := hF.lt
    have halr : ∀ d, p.2.dst = some d → ∀ q, q < n → q ∈ als → ∀ s, l[q]? = some s → s.reads d = false := by
      intro d hd q hq hqa s hs
      obtain ⟨d2, z, o2, s3, hA⟩ := hF.alf q hqa
      have : s3 = s := Option.some.inj (hA.hs.symm.trans hs)
      subst this
      simp [SOper.reads, hA.op, hA.g, SOp.opds]
    simp only [List.map_cons, ch5] at h
    cases hc : qcq p.2.op with
    | true =>
      simp only [hc, Bool.and_eq_true] at h
      obtain ⟨h1, h2⟩ := h
      cases hd : p.2.dst with
      | none => rw [hd] at h2; cases h2
      | some d =>
        rw [hd] at h2
        have hdep := q6s hmap hF hpn hps hd (halr d hd)
        -- those before it
        have hbef : ∀ i, i ∈ S → ∀ listed, HeadInv .any ops n listed → listed.getD p.1 false = true → listed.getD i false = true := by
          cases T0 with
          | none => simp only at hI; subst hI; intro i hi; cases hi
          | some T =>
            obtain ⟨i0, j1, j2⟩ := hI
            simp only [List.any_eq_true] at h1
            obtain ⟨x, hx, hxr⟩ := h1
            intro i hi listed inv hl
            exact j1 i hi listed inv (j2 x hx listed inv p.1 p.2 hpn hps hxr hl)
        obtain ⟨k1, k2⟩ := q4s hmap hF J hJ' (p.1 :: S) (some [d]) h2 ⟨p.1, fun i hi listed inv hl => by
          rcases List.mem_cons.1 hi with rfl | hi
          · exact hl
          · exact hbef i hi listed inv hl, fun d' hd' => by
          rw [List.mem_singleton] at hd'; subst hd'; exact hdep⟩
        refine ⟨fun i hi q hq hqc listed inv hl => ?_, ?_⟩
        · rcases List.mem_cons.1 hq with rfl | hq
          · exact hbef i hi listed inv hl
          · exact k1 i (List.mem_cons_of_mem _ hi) q hq hqc listed inv hl
        · rw [List.filter_cons, if_pos hc]
          refine List.Pairwise.cons (fun q hq listed inv hl => ?_) k2
          obtain ⟨hq1, hq2⟩ := List.mem_filter.1 hq
          exact k1 p.1 List.mem_cons_self q hq1 hq2 listed inv hl
    | false =>
      simp only [hc] at h
      have key := q4s hmap hF J hJ' S _ h (by
        cases T0 with
        | none => simpa using hI
        | some T =>
          obtain ⟨i0, j1, j2⟩ := hI
          cases hd : p.2.dst with
          | none => exact ⟨i0, j1, j2⟩
          | some d =>
            refine ⟨i0, j1, fun d' hd' => ?_⟩
            split at hd'
            · rename_i hany
              rcases List.mem_cons.1 hd' with rfl | hd'
              · obtain ⟨x, hx, hxr⟩ := List.any_eq_true.1 hany
                intro listed inv q s hq hs hr hl
                exact j2 x hx listed inv p.1 p.2 hpn hps hxr (q6s hmap hF hpn hps hd (halr d' hd) listed inv q s hq hs hr hl)
              · exact j2 d' hd'
            · exact j2 d' hd')
      refine ⟨fun i hi q hq hqc listed inv hl => ?_, ?_⟩
      · rcases List.mem_cons.1 hq with rfl | hq
        · rw [hc] at hqc; cases hqc
        · exact key.1 i hi q hq hqc listed inv hl
      · rw [List.filter_cons, if_neg (by simp [hc])]
        exact key.2
end
theorem qbcl (m : Mem) : m = m.frz [] := by
  cases m
  simp [Mem.frz]
theorem q12 : ∀ (L : List (Nat × Mem)) (m : Mem) (listed : Array Bool), ∃ A B, L = A ++ B ∧ qea L m listed = qgr A m
  | [], m, _ => ⟨[], [], rfl, rfl⟩
  | p :: r, m, listed => by
    simp only [qea]
    split
    · obtain ⟨A, B, h1, h2⟩ := q12 r p.2 listed
      exact ⟨p :: A, B, by rw [h1]; rfl, h2⟩
    · exact ⟨[], p :: r, rfl, rfl⟩
theorem qzr {m m' : Mem} {tF : Env} {s : SOper} (hb : qb6 m m') (h : q7j m tF s) : qcw P [] m' tF s := by
  obtain ⟨h1, h2, v, h3, h4⟩ := h
  obtain ⟨k1, k2, k3⟩ := q6r (qban h3 hb)
  unfold qcw
  rw [h1]
  cases hs : s.op <;> rw [hs] at k1 k2 k3 h2 <;> first
    | (simp only [qbq, SOp.quiet, if_true, k3, oP]; exact h4)
    | (simp [SOp.quiet] at k1; done)
    | (exact absurd rfl (k2 _ _))
theorem q51 (hT : T.ok P) (hm : P.follows .mixedOrders = true) {id : Nat} {ops : Array Oper} {l : List SOper} {n : Nat} (hmap : ops.toList.mapM (qbc T nt ops) = some l) (hB : qq7 ops l n = true) {Q : Exit → Act → World → Prop} {gS : Gh} {mS : Mem} {wS : World}
    {t tF : Env} {m mF : Mem} {g : Gh} {a : Act} {w : World} {Tl : Env → Mem → Prop}
    (hTr : Tr5 P tF (jp5 l n (qb4 l n)) m mF) (hch : ch5 (hds2 l n (qb4 l n)) none = true)
    (h2 : ∀ i, i ∉ dsts (hds2 l n (qb4 l n)) → tF i = t i) (hfl : (evs tF (fls2 ops l n)).all flat = true) (hpr : (prs2 ops l n (qb4 l n)).all (qns mF tF) = true)
    (hT1 : ∀ Q' : Exit → Act → World → Prop, (∀ a w, Q .normal a w → Q' .normal a w) → ∀ t m g a w, OK g m w → ARel g m w nt t a → Ext gS mS wS g m w → Tl t m → wpList P ops Q' (ops.toList.drop n) a w)
    (hT2 : (lds2 ops l n).isEmpty ≠ true → ∀ Q' : Exit → Act → World → Prop, (∀ a w, Q .normal a w → Q' .normal a w) → ∀ (gL : Gh) (wL : World) (R : Nat → Prop) (Z : List Nat) t m g a w, OK g m w → ARel g m w nt t a → Ext gS mS wS g m w →
      (∀ r, R r → boxQ m r = true ∧ g.jb r = gL.jb r ∧ w.heap[gL.jb r]? = wL.heap[gL.jb r]?) → qix Z (l.drop n) = true → (∀ z, z ∈ Z → ∃ r off, t z = .ptr r off ∧ ¬ R r) → Tl t m → qd3 P ops Q' (Same gL wL R) (ops.toList.drop n) a w)
    (htl : (∀ i, i ∈ qb4 l n → ∃ d z o s, AlFact ops l n i d z o s) → Tl (qk9 (qd1 l (qb4 l n)) mF tF) (qk8 (qd1 l (qb4 l n)) mF))
    (hok : OK g m w) (hr : ARel g m w nt t a) (he : Ext gS mS wS g m w) : (Code.region id ops true).wp P Q a w := by
  have hF := qmg hB
  have htl := htl hF.alf
  generalize qb4 l n = als at *
  obtain ⟨L, hL⟩ := q8q (fun r ob hs => hok.lt r ob hs) hTr
  have hnl := hF.lt
  have hpw : (jp5 l n als |>.filter fun p => qcq p.2.op).Pairwise fun p q => ∀ listed, HeadInv .any ops n listed → listed.getD q.1 false = true → listed.getD p.1 false = true :=
    (q4s hmap hF (jp5 l n als) (fun p hp => qkj.1 hp) [] none (by rw [qre]; exact hch) rfl).2
  have hpwL : (L.map (·.1)).Pairwise fun p q => ∀ listed, HeadInv .any ops n listed → listed.getD q false = true → listed.getD p false = true := by
    rw [hL.idx, List.pairwise_map]; exact hpw
  have hsrt : (L.map (·.1)).Pairwise fun p q => p < q := by
    rw [hL.idx, List.pairwise_map]
    exact (q7l l n als).filter _
  have hmem : ∀ i, i ∈ L.map (·.1) → ∃ s, i < n ∧ i ∉ als ∧ l[i]? = some s ∧ qcq s.op = true := fun i hi => by
    rw [hL.idx] at hi
    obtain ⟨p, hp, rfl⟩ := List.mem_map.1 hi
    obtain ⟨h1, h2⟩ := List.mem_filter.1 hp
    obtain ⟨h3, h4, h5⟩ := qkj.1 h1
    exact ⟨p.2, h3, h4, h5, h2⟩
  have hnot : ∀ i s, l[i]? = some s → qcq s.op = false → i ∉ L.map (·.1) := fun i s hs hc hi => by
    obtain ⟨s', _, _, h3, h4⟩ := hmem i hi
    have : s' = s := Option.some.inj (h3.symm.trans hs)
    subst this
    rw [hc] at h4; cases h4
  refine qzj hT hm hmap hF (qea L m) (m := m) (mF := mF) (F := []) (t := t) (tF := tF) (gS := gS) (mS := mS) (wS := wS) (Tl := Tl) (fun listed i hi => qvg L m listed i fun hi' => ?_) (fun listed hls => ?_) ?_
    (fun listed i o s g a w inv hin hal ho hs hun hready hok hr next Q hn => ?_) h2 (fun j s hj hal hs hw => ?_) hfl hpr hT1 hT2 htl hok hr he
  · obtain ⟨_, _, h, _⟩ := hmem i hi'
    exact h hi
  · rw [q1z L m listed fun i hi => ?_, hL.last]
    obtain ⟨s, h1, h3, h4, h5⟩ := hmem i hi
    cases hg : listed.getD i true with
    | true => rfl
    | false =>
      have hw := hls i h1 hg
      rcases hF.kind i h1 h3 with h6 | ⟨o, s', h6⟩
      · rw [hw] at h6; cases h6
      · have : s' = s := Option.some.inj (h6.hs.symm.trans h4)
        subst this
        have hk := h6.kind
        cases hs : s'.op <;> rw [hs] at h5 hk <;> simp [qcq, qnr, faS, ptrS] at h5 hk
  · refine qzq L m _ fun i hi => ?_
    obtain ⟨s, h1, _⟩ := hmem i hi
    have : i < ops.size := by omega
    simp [this]
  · cases hc : qcq s.op with
    | false =>
      have hni := hnot i s hs hc
      obtain ⟨M, hM1, hM2⟩ := hL.word (i, s) (qkj.2 ⟨hin, hal, hs⟩) hc
      obtain ⟨A, B, hAB, hmA⟩ := q12 L m listed
      have hbox : qb6 M (qea L m listed) := by rw [hmA]; exact hM1.symm.trans (hL.boxes A B hAB)
      rw [qvg L m listed i hni] at hn
      exact q1v hT hmap hF (m0 := qea L m listed) (qbcl _) h2 (qzr hbox hM2) inv hin hal ho hs hready hok hr hn
    | true =>
      have hij : (i, s) ∈ jp5 l n als := qkj.2 ⟨hin, hal, hs⟩
      have hiL : i ∈ L.map (·.1) := by
        rw [hL.idx]
        exact List.mem_map.2 ⟨(i, s), List.mem_filter.2 ⟨hij, hc⟩, rfl⟩
      obtain ⟨p, hp, hpi⟩ := List.mem_map.1 hiL
      obtain ⟨A, B, hAB⟩ := List.append_of_mem hp
      obtain ⟨p1, M⟩ := p
      simp only at hpi
      subst hpi
      obtain ⟨s', hs', hmain⟩ := hL.main A p1 M B hAB
      have : s' = s := Option.some.inj ((qkj.1 hs').2.2.symm.trans hs)
      subst this
      have hrdy : p1 ∈ Region.ready .any ops listed := mem_ready.2 ⟨hun, o, ho, hready⟩
      have hinv' := inv.set hrdy hin
      have hps : p1 < listed.size := by rw [inv.size]; omega
      rw [hAB, List.map_append, List.map_cons] at hpwL hsrt
      have hA : ∀ j, j ∈ A.map (·.1) → listed.getD j true = true := fun j hj => by
        have h1 := (List.pairwise_append.1 hpwL).2.2 j hj p1 (by simp) _ hinv' (by simp [hps])
        have hne : p1 ≠ j := by have := (List.pairwise_append.1 hsrt).2.2 j hj p1 (by simp); omega
        rw [getD_set_ne false hne] at h1
        by_cases hjs : j < listed.size
        · simp [hjs] at h1 ⊢; exact h1
        · simp [Array.getElem?_eq_none (Nat.le_of_not_lt hjs)]
      have hBu : ∀ j, j ∈ B.map (·.1) → listed.getD j true = false ∧ p1 ≠ j := fun j hj => by
        have h0 := (List.pairwise_append.1 hsrt).2.1
        have h1 := (List.pairwise_cons.1 h0).1 j hj
        have h3 := (List.pairwise_cons.1 (List.pairwise_append.1 hpwL).2.1).1 j hj listed inv
        refine ⟨?_, by omega⟩
        cases hg : listed.getD j true with
        | false => rfl
        | true =>
          obtain ⟨sj, hjn, _⟩ := hmem j (by rw [hAB, List.map_append, List.map_cons]; simp only [List.mem_append, List.mem_cons]; exact .inr (.inr hj))
          have hjs : j < listed.size := by rw [inv.size]; omega
          have : listed.getD j false = true := by simp [hjs] at hg ⊢; exact hg
          have h4 := h3 this
          rw [getD_both hun] at h4
          cases h4
      have e1 : qea L m listed = qgr A m := by rw [hAB]; exact q10 A p1 M B m listed hA hun
      have e2 : qea L m (listed.setIfInBounds p1 true) = M := by
        rw [hAB, q11 A ((p1, M) :: B) m _ fun j hj => by
          have hne : p1 ≠ j := by have := (List.pairwise_append.1 hsrt).2.2 j hj p1 (by simp); omega
          rw [getD_set_ne true hne]; exact hA j hj]
        simp only [qea]
        rw [if_pos (by simp [hps])]
        exact qzq B M _ fun j hj => by rw [getD_set_ne true (hBu j hj).2]; exact (hBu j hj).1
      rw [e1] at hok hr
      rw [e1, e2] at hn
      obtain ⟨hg, f, vs, as_, z, k1, k2, k3, k4, rfl, k6⟩ := hmain
      obtain ⟨s3, hs3, hcs⟩ := qb9 hmap ho
      have : s3 = s' := Option.some.inj (hs3.symm.trans hs)
      subst this
      obtain ⟨hdst, hop, hdn, hgo⟩ := qq hcs
      have hguard : o.guard = none := by
        rcases hgo with ⟨h1, _⟩ | ⟨_, _, _, _, _, _, _, h4⟩
        · exact h1
        · rw [hg] at h4; cases h4
      have hrd := qyk hmap hF h2 inv.size hin hal ho hs hready
      have hwp : WpOp P (weak (qbp l als) (midE l n t tF listed)) (qgr A m) (fun v m' => v = (imp z ((qgr A m).dels (vs.flatMap ids))).1 ∧ m' = (imp z ((qgr A m).dels (vs.flatMap ids))).2) s3.op := by
        have hev := qe4 hrd
        unfold q3d at k1
        split at k1
        · rename_i f' xs hso
          simp only [Option.some.injEq, Prod.mk.injEq] at k1
          obtain ⟨rfl, rfl⟩ := k1
          have : evs (weak (qbp l als) (midE l n t tF listed)) xs = evs tF xs := by
            unfold evs
            exact List.map_congr_left fun x hx => (hev x (by rw [hso]; exact hx)).symm
          rw [hso]
          simp only [WpOp, this]
          exact .inr ⟨k3, _, .inl (q24 k2 k4), fun y m' h => h⟩
        · cases k1
      unfold wpOp
      simp only [ho]
      rw [if_pos (by simp [Region.wanted, hguard])]
      exact .inl (qj4 hT hok hr.r hop hwp fun v cv m' g' w' hv hvr hok' hext => by
        obtain ⟨rfl, rfl⟩ := hv
        exact hn _ cv g' w' k6 hvr hok' hext)
  · cases hc : qcq s.op with
    | true =>
      exfalso
      have := hmem j (by
        rw [hL.idx]
        exact List.mem_map.2 ⟨(j, s), List.mem_filter.2 ⟨qkj.2 ⟨hj, hal, hs⟩, hc⟩, rfl⟩)
      rcases hF.kind j hj hal with h6 | ⟨o, s', h6⟩
      · rw [hw] at h6; cases h6
      · have : s' = s := Option.some.inj (h6.hs.symm.trans hs)
        subst this
        have hk := h6.kind
        cases hso : s'.op <;> rw [hso] at hc hk <;> simp [qcq, qnr, faS, ptrS] at hc hk
    | false =>
      obtain ⟨M, hM1, hM2⟩ := hL.word (j, s) (qkj.2 ⟨hj, hal, hs⟩) hc
      exact qzr (hM1.symm.trans hL.box.1) hM2
end
end Go.Pev
/- Regions, code, functions: the predicate transformer is sound. -/
namespace Go.Pev
open Go
set_option linter.unusedVariables false
set_option linter.unusedSimpArgs false
section
variable {g : Gh} {m : Mem} {w : World} {P : Program} {T : Tab} {nt : Nat}
def exOf : Ex → Exit
  | .norm => .normal
  | .exit id => .exit id
  | .ret => .ret
theorem qbbx {p : Nat → Prop} (h : ∃ n, p n) : ∃ n, p n ∧ ∀ k, p k → n ≤ k := by
  obtain ⟨n, hn⟩ := h
  induction n using Nat.strongRecOn with
  | _ n ih =>
    by_cases hk : ∃ k, k < n ∧ p k
    · obtain ⟨k, hkn, hpk⟩ := hk
      exact ih k hkn hpk
    · exact ⟨n, hn, fun k hpk => by
        rcases Nat.lt_or_ge k n with h | h
        · exact absurd ⟨k, h, hpk⟩ hk
        · exact h⟩
def qop (tmps : Array Value) : ResultVar → Sem Value
  | .tmp t => pure (tmps.getD t undef)
  | .cell a t => do loadVar t (← asAddr (tmps.getD a undef))
theorem q8r (hT : T.ok P) (hok : OK g m w) {t : Env} {a : Act} (hr : ERel g m w t a) {r : ResultVar} {s : SRes} (hc : cRes T r = some s) {v : AV} (hv : q3c t m s = some v) :
    ∃ cv, (qop a.tmps r).run P w = .ok cv w ∧ VRel g m w v cv := by
  cases r with
  | tmp i =>
    simp [cRes] at hc; subst hc
    simp [q3c] at hv; subst hv
    exact ⟨_, by simp [qop], hr i⟩
  | cell i ty =>
    simp only [cRes, Option.bind_eq_bind, Option.bind_eq_some_iff] at hc
    obtain ⟨ti, hti, hc⟩ := hc
    split at hc
    · cases hc
    rename_i hsz
    simp at hc; subst hc
    obtain ⟨ii, d, hd⟩ := hT.facts hti
    simp only [q3c] at hv
    obtain ⟨cs, h1, h2⟩ := q0y hv
    obtain ⟨b, o, hpv, hcs⟩ := qu3 hok.to1 (hr i) h1
    obtain ⟨cv, h3, h4⟩ := qzb hcs hd (by simpa using hsz) h2
    refine ⟨cv, ?_, h3⟩
    have h5 := h4 w (Old.refl w)
    simp [qop, hpv, asAddr, h5]
theorem qsz (hT : T.ok P) (hok : OK g m w) {t : Env} {a : Act} (hr : ERel g m w t a) : ∀ (rs : List ResultVar) (ss : List SRes), rs.mapM (cRes T) = some ss → ∀ (vs : List AV), ress t m ss = some vs →
    ∃ cvs : List Value, (rs.mapM (qop a.tmps)).run P w = .ok cvs w ∧ cvs.length = vs.length ∧ ∀ (k : Nat) (x : AV) (v : Value), vs[k]? = some x → cvs[k]? = some v → VRel g m w x v
  | [], ss, hc, vs, hv => by
    simp at hc; subst hc
    simp [ress] at hv; subst hv
    exact ⟨[], by simp, rfl, by simp⟩
  | r :: rs, ss, hc, vs, hv => by
    simp only [List.mapM_cons, Option.bind_eq_bind, Option.pure_def, Option.bind_eq_some_iff, Option.some.injEq] at hc
    obtain ⟨s, hs, ss', hss, rfl⟩ := hc
    simp only [ress] at hv
    split at hv
    · rename_i y ys h1 h2
      simp at hv; subst hv
      obtain ⟨cv, h3, h4⟩ := q8r hT hok hr hs h1
      obtain ⟨cvs, h5, h6, h7⟩ := qsz hT hok hr rs ss' hss ys h2
      refine ⟨cv :: cvs, by simp [List.mapM_cons, h3, h5], by simp [h6], fun k x v hx hv => ?_⟩
      cases k with
      | zero => simp at hx hv; subst hx; subst hv; exact h4
      | succ k => exact h7 k x v (by simpa using hx) (by simpa using hv)
    · cases hv
theorem qtp (hT : T.ok P) (hok : OK g m w) {t : Env} {a : Act} (hr : ERel g m w t a) {fn : Func} {s : SF} (hc : fn.results.toList.mapM (cRes T) = some s.res) {v : AV} (hv : retv s t m = some v) :
    ∃ cv, (results fn a.tmps).run P w = .ok cv w ∧ VRel g m w v cv := by
  have e : results fn a.tmps = (do
      let vs ← fn.results.mapM (qop a.tmps)
      pure (if h : vs.size = 1 then vs[0] else .tuple vs)) := by
    unfold results
    congr 2
  have e2 : fn.results.mapM (qop a.tmps) = List.toArray <$> fn.results.toList.mapM (qop a.tmps) := by
    rw [Array.mapM_eq_mapM_toList]
  unfold retv at hv
  split at hv
  · rename_i x hx
    simp at hv; subst hv
    obtain ⟨cvs, h5, h6, h7⟩ := qsz hT hok hr _ _ hc _ hx
    obtain ⟨cv, rfl⟩ : ∃ cv, cvs = [cv] := by
      match cvs, h6 with
      | [cv], _ => exact ⟨cv, rfl⟩
    refine ⟨cv, ?_, h7 0 _ _ rfl rfl⟩
    rw [e, e2]
    simp [h5]
  · rename_i l hl hx
    simp at hv; subst hv
    obtain ⟨cvs, h5, h6, h7⟩ := qsz hT hok hr _ _ hc _ hx
    refine ⟨.tuple cvs.toArray, ?_, .tup _ _ (by simp [h6]) (fun k x v hx hv => h7 k x v hx (by simpa using hv))⟩
    have hne : cvs.length ≠ 1 := by
      intro h1
      match l, h6.symm.trans h1 with
      | [y], _ => exact hl y rfl
    rw [e, e2]
    simp [h5, hne]
  · cases hv
end
end Go.Pev
/- What a law is handed, as_ closed trees. -/
namespace Go.Pev
open Go
set_option linter.unusedVariables false
set_option linter.unusedSimpArgs false
theorem qs0 {x : AV} (h : x.leaf = true) : x.cells = [x] := by cases x <;> first | rfl | (simp [AV.leaf] at h)
inductive Ty where
  | bool | int (k : IntKind) | str
  | sl (e : Nat) (t : Ty)
  | st (fs : List Ty)
  deriving Inhabited
mutual
def Ty.size : Ty → Nat
  | .st fs => Ty.sizes fs
  | _ => 1
def Ty.sizes : List Ty → Nat
  | [] => 0
  | t :: ts => t.size + Ty.sizes ts
end
def Ty.isSt : Ty → Bool
  | .st _ => true
  | _ => false
mutual
def Ty.fit : Ty → List AV → Prop
  | .bool, xs => ∃ b, xs = [.bool b]
  | .int k, xs => ∃ n, xs = [.int k n] ∧ k.min ≤ n ∧ n ≤ k.max
  | .str, xs => ∃ s : List UInt8, xs = [.str s] ∧ s.length ≤ 9223372036854775807
  | .sl e t, xs => xs = [.nils] ∨ ∃ ys, xs = [.sl e ys] ∧ ys.length ≤ 9223372036854775807 ∧ ∀ y, y ∈ ys → (t.isSt = true → ∃ cs, y = .agg cs ∧ t.fit cs) ∧ (t.isSt = false → t.fit [y])
  | .st fs, xs => Ty.fits fs xs
def Ty.fits : List Ty → List AV → Prop
  | [], xs => xs = []
  | t :: ts, xs => ∃ a b, xs = a ++ b ∧ t.fit a ∧ Ty.fits ts b
end
def Ty.fitv (t : Ty) (y : AV) : Prop := (t.isSt = true → ∃ cs, y = .agg cs ∧ t.fit cs) ∧ (t.isSt = false → t.fit [y])
def ql1 (P : Program) (r : TypeId → Option Ty) : Nat → List Field → Option (List Ty × Nat)
  | off, [] => some ([], off)
  | off, f :: fs => if f.offset ≠ off then none else
    match r f.type with
    | some t => if P.cellsOf f.type ≠ t.size then none else
      match ql1 P r (off + t.size) fs with
      | some (ts, n) => some (t :: ts, n)
      | none => none
    | none => none
def tyOf (P : Program) : Nat → TypeId → Option Ty
  | 0, _ => none
  | n + 1, t => match P.underlying t with
    | some .bool => some .bool
    | some (.int k) => some (.int k)
    | some .string => some .str
    | some (.slice e) => match tyOf P n e with
      | some u => if u.size = 0 ∨ P.cellsOf e ≠ u.size then none else some (.sl u.size u)
      | none => none
    | some (.struct fs) => match ql1 P (tyOf P n) 0 fs.toList with
      | some (ts, k) => if P.cellsOf t = k then some (.st ts) else none
      | none => none
    | _ => none
theorem qzs {R : Nat → AV → Prop} : ∀ (n : Nat), (∀ i, i < n → ∃ y, R i y) → ∃ ys : List AV, ys.length = n ∧ ∀ (i : Nat) (y : AV), ys[i]? = some y → R i y
  | 0, _ => ⟨[], rfl, by simp⟩
  | m + 1, h => by
    obtain ⟨ys, y1, y2⟩ := qzs m (fun i hi => h i (by omega))
    obtain ⟨y, hy⟩ := h m (by omega)
    refine ⟨ys ++ [y], by simp [y1], fun i z hz => ?_⟩
    by_cases hi : i < ys.length
    · rw [List.getElem?_append_left hi] at hz; exact y2 i z hz
    · rw [List.getElem?_append_right (by omega)] at hz
      have hlt := (List.getElem?_eq_some_iff.1 hz).1
      have hi0 : i - ys.length = 0 := by simp at hlt; omega
      rw [hi0] at hz
      simp at hz; subst hz
      have : i = m := by omega
      subst this
      exact hy
def allI (w : World) : Nat → Nat → Prop := fun b k => ∃ v, w.cell? ⟨b, k, none⟩ = some v
theorem Ty.fit_leaf {t : Ty} (h : t.isSt = false) {xs : List AV} (hf : t.fit xs) : ∃ y, xs = [y] ∧ y.leaf = true ∧ t.fit [y] := by
  cases t with
  | bool => obtain ⟨b, rfl⟩ := hf; exact ⟨_, rfl, rfl, ⟨b, rfl⟩⟩
  | int k => obtain ⟨n, rfl, h1⟩ := hf; exact ⟨_, rfl, rfl, ⟨n, rfl, h1⟩⟩
  | str => obtain ⟨s, rfl, h1⟩ := hf; exact ⟨_, rfl, rfl, ⟨s, rfl, h1⟩⟩
  | sl e t =>
    have hf' := hf
    unfold Ty.fit at hf
    rcases hf with rfl | ⟨ys, rfl, h1, h2⟩
    · exact ⟨_, rfl, rfl, hf'⟩
    · exact ⟨_, rfl, rfl, hf'⟩
  | st fs => cases h
theorem Ty.fitv_of {t : Ty} {xs : List AV} (hf : t.fit xs) : ∃ y, t.fitv y ∧ y.cells = xs ∧ (t.isSt = true → y = .agg xs) ∧ (t.isSt = false → y.leaf = true) := by
  cases hs : t.isSt with
  | true => exact ⟨.agg xs, ⟨fun _ => ⟨xs, rfl, hf⟩, fun h => absurd (hs.symm.trans h) (by simp)⟩, rfl, fun _ => rfl, fun h => absurd h (by simp)⟩
  | false =>
    obtain ⟨y, rfl, h1, h2⟩ := Ty.fit_leaf hs hf
    exact ⟨y, ⟨fun h => absurd (hs.symm.trans h) (by simp), fun _ => h2⟩, qs0 h1, fun h => absurd h (by simp), fun _ => h1⟩
def Told (w : World) (t : Ty) (cs : List Value) : Prop :=
  ∃ xs : List AV, xs.length = cs.length ∧ cs.length = t.size ∧ (∀ (k : Nat) (x : AV) (v : Value), xs[k]? = some x → cs[k]? = some v → CRel (allI w) w x v) ∧ (∀ x, x ∈ xs → x.leaf = true) ∧ t.fit xs
theorem qoq {w : World} {t : Ty} {v : Value} {x : AV} (hs : t.size = 1) (h : CRel (allI w) w x v) (hl : x.leaf = true) (hf : t.fit [x]) : Told w t [v] := by
  refine ⟨[x], rfl, by simp [hs], fun k y u hy hu => ?_, by simpa using hl, hf⟩
  cases k with
  | zero => simp at hy hu; subst hy; subst hu; exact h
  | succ k => simp at hy
theorem q4t {α β : Type} {f : α → Option β} : ∀ (l : List α) (r : List β), l.mapM f = some r → ∀ a, a ∈ l → ∃ b, f a = some b
  | [], _, _, a, h => by simp at h
  | x :: l, r, h, a, ha => by
    simp only [List.mapM_cons, Option.bind_eq_bind, Option.pure_def, Option.bind_eq_some_iff, Option.some.injEq] at h
    obtain ⟨b, hb, r', hr, _⟩ := h
    rcases List.mem_cons.1 ha with rfl | ha
    · exact ⟨b, hb⟩
    · exact q4t l r' hr a ha
theorem qxl {P : Program} {w : World} {r : TypeId → Option Ty} {H : Type} {f : TypeId → List Value → Option H} (ih : ∀ t ty cs d, r t = some ty → f t cs = some d → Told w ty cs) :
    ∀ (fs : List Field) (off : Nat) (ts : List Ty) (n : Nat), ql1 P r off fs = some (ts, n) → ∀ (cs : List Value) (ds : List H), cs.length = n → fs.mapM (fun fd => f fd.type ((cs.drop fd.offset).take (P.cellsOf fd.type))) = some ds →
      ∃ xs : List AV, xs.length = (cs.drop off).length ∧ Ty.sizes ts = (cs.drop off).length ∧ off ≤ n ∧ (∀ (k : Nat) (x : AV) (v : Value), xs[k]? = some x → (cs.drop off)[k]? = some v → CRel (allI w) w x v) ∧ (∀ x, x ∈ xs → x.leaf = true) ∧ Ty.fits ts xs
  | [], off, ts, n, ht, cs, ds, hl, _ => by
    simp [ql1] at ht
    obtain ⟨rfl, rfl⟩ := ht
    have h0 : cs.drop off = [] := by simp; omega
    exact ⟨[], by simp [h0], by simp [h0, Ty.sizes], Nat.le_refl _, by simp, by simp, by simp [Ty.fits]⟩
  | fd :: fs, off, ts, n, ht, cs, ds, hl, hm => by
    simp only [ql1] at ht
    split at ht
    · cases ht
    rename_i hoff
    have hoff' : fd.offset = off := by simpa using hoff
    split at ht
    · rename_i ty hty
      split at ht
      · cases ht
      rename_i hsz
      have hsz' : P.cellsOf fd.type = ty.size := by simpa using hsz
      split at ht
      · rename_i ts' n' hts
        simp at ht
        obtain ⟨rfl, rfl⟩ := ht
        simp only [List.mapM_cons, Option.bind_eq_bind, Option.pure_def, Option.bind_eq_some_iff, Option.some.injEq] at hm
        obtain ⟨d, hd, ds', hds, _⟩ := hm
        obtain ⟨xs, h1, h2, h3, h4, h5⟩ := ih _ _ _ _ hty hd
        obtain ⟨ys, g1, g2, g3, g4, g5, g6⟩ := qxl ih fs _ ts' n' hts cs ds' hl hds
        rw [hoff', hsz'] at h1 h2 h3
        have hlen : ((cs.drop off).take ty.size).length = ty.size := h2
        have hsplit : cs.drop off = (cs.drop off).take ty.size ++ cs.drop (off + ty.size) := by
          rw [← List.drop_drop, List.take_append_drop]
        refine ⟨xs ++ ys, ?_, ?_, by omega, fun k x v hx hv => ?_, fun x hx => ?_, ?_⟩
        · rw [hsplit]; simp only [List.length_append, h1, g1]
        · rw [hsplit]; simp only [List.length_append, Ty.sizes, g2, hlen]
        · rw [hsplit] at hv
          by_cases hk : k < xs.length
          · rw [List.getElem?_append_left hk] at hx
            rw [List.getElem?_append_left (by omega)] at hv
            exact h3 k x v hx hv
          · rw [List.getElem?_append_right (by omega)] at hx
            rw [List.getElem?_append_right (by omega), ← h1] at hv
            exact g4 _ x v hx hv
        · rcases List.mem_append.1 hx with hx | hx
          · exact h4 x hx
          · exact g5 x hx
        · unfold Ty.fits
          exact ⟨xs, ys, rfl, h5, g6⟩
      · cases ht
    · cases ht
theorem q8s {w : World} {base : Nat} {a : Addr} {n : Nat} {cs : List Value} (h : w.cells? base a n = some cs) : cs.length = n ∧ ∀ k v, cs[k]? = some v → w.cell? (a.add k) = some v := by
  unfold World.cells? at h
  split at h
  · obtain ⟨h1, h2⟩ := qbx _ _ _ h
    refine ⟨by simpa using h1, fun k v hv => ?_⟩
    have hk : k < n := by have := (List.getElem?_eq_some_iff.1 hv).1; simp at h1; omega
    exact h2 k k v (by simp [hk]) hv
  · cases h
theorem q8t {w : World} {a : Addr} {v : Value} (h : w.cell? a = some v) : a.spot = none := by
  unfold World.cell? at h
  split at h
  · split at h
    · cases h
    · rename_i hs; simpa using hs
  · cases h
theorem q8u {P : Program} {w : World} {H : Type} {enc : TypeId × Value → H} {base : Nat} {spare : Nat → Bool} {held : Bool} :
    ∀ (n : Nat) (fuel : Nat) (t : TypeId) (ty : Ty) (cs : List Value) (x : DataW H × List MemPlace), tyOf P n t = some ty → DataW.trod enc P w base spare held fuel t cs = some x → Told w ty cs := by
  intro n
  induction n with
  | zero => intro fuel t ty cs x h; simp [tyOf] at h
  | succ n ih =>
    intro fuel t ty cs x h ht
    cases fuel with
    | zero => simp [DataW.trod] at ht
    | succ fuel =>
      unfold tyOf at h
      unfold DataW.trod at ht
      cases hu : P.underlying t with
      | none => rw [hu] at h; simp at h
      | some desc =>
        rw [hu] at h ht
        cases desc <;> simp only [] at h <;> (try (simp at h; done))
        case bool =>
          simp at h; subst h
          simp only at ht
          split at ht <;> (try (rename_i h2; simp at h2; done)) <;> (try (cases ht; done))
          rename_i b h2
          exact qoq rfl (.bool b) rfl ⟨b, rfl⟩
        case int k =>
          simp at h; subst h
          simp only at ht
          split at ht <;> (try (rename_i h2; simp at h2; done)) <;> (try (cases ht; done))
          rename_i k1 k2 m h2
          simp at h2; subst h2
          split at ht
          · rename_i hk
            obtain ⟨rfl, hwf⟩ := hk
            simp only [Lit.wf, Bool.and_eq_true, decide_eq_true_eq] at hwf
            exact qoq rfl (.int _ m) rfl ⟨m, rfl, hwf.1, hwf.2⟩
          · cases ht
        case string =>
          simp at h; subst h
          simp only at ht
          split at ht <;> (try (rename_i h2; simp at h2; done)) <;> (try (cases ht; done))
          rename_i b h2
          split at ht
          · rename_i hle
            refine qoq rfl (.str b) rfl ⟨_, rfl, ?_⟩
            have : b.data.toList.length = b.size := by simp
            rw [this]; exact hle
          · cases ht
        case slice e =>
          cases htu : tyOf P n e with
          | none => rw [htu] at h; simp at h
          | some u =>
            rw [htu] at h
            simp only at h
            split at h
            · cases h
            rename_i hsz
            simp at h; subst h
            have hu0 : u.size ≠ 0 := fun h0 => hsz (.inl h0)
            have hcu : P.cellsOf e = u.size := Decidable.byContradiction fun hne => hsz (.inr hne)
            simp only at ht
            split at ht <;> (try (rename_i h2; simp at h2; done)) <;> (try (cases ht; done))
            · refine qoq rfl .nils rfl ?_
              unfold Ty.fit; exact .inl rfl
            · rename_i e1 a len cap h2
              simp at h2; subst h2
              split at ht
              · rename_i hcond
                obtain ⟨_, hlc, hcm⟩ := hcond
                simp only [Option.bind_eq_some_iff] at ht
                obtain ⟨elems, hel, _⟩ := ht
                have each : ∀ i, i < len → ∃ y, u.fitv y ∧ y.cells.length = u.size ∧ (∀ z, z ∈ y.cells → z.leaf = true) ∧ ∀ (k : Nat) (z : AV), y.cells[k]? = some z → ∃ v, w.cell? ((a.add (i * u.size)).add k) = some v ∧ CRel (allI w) w z v := by
                  intro i hi
                  obtain ⟨b, hb⟩ := q4t _ _ hel i (by simpa using hi)
                  simp only [Option.bind_eq_some_iff] at hb
                  obtain ⟨cs, hcs, htr⟩ := hb
                  obtain ⟨xs, g1, g2, g3, g4, g5⟩ := ih fuel e u cs b htu htr
                  obtain ⟨y, f1, f2, f3, f4⟩ := Ty.fitv_of g5
                  rw [hcu] at hcs
                  obtain ⟨c1, c2⟩ := q8s hcs
                  refine ⟨y, f1, by rw [f2]; omega, by rw [f2]; exact g4, fun k z hz => ?_⟩
                  rw [f2] at hz
                  have hk : k < cs.length := by have := (List.getElem?_eq_some_iff.1 hz).1; omega
                  have hck : cs[k]? = some cs[k] := by simp [hk]
                  exact ⟨cs[k], c2 k _ hck, g3 k z _ hz hck⟩
                obtain ⟨ys, y1, y2⟩ : ∃ ys : List AV, ys.length = len ∧ ∀ (i : Nat) (y : AV), ys[i]? = some y → u.fitv y ∧ y.cells.length = u.size ∧ (∀ z, z ∈ y.cells → z.leaf = true) ∧ ∀ (k : Nat) (z : AV), y.cells[k]? = some z → ∃ v, w.cell? ((a.add (i * u.size)).add k) = some v ∧ CRel (allI w) w z v := by
                  exact qzs len each
                have hspot : ys ≠ [] → a = ⟨a.block, a.off, none⟩ := by
                  intro hne
                  obtain ⟨y, hy⟩ : ∃ y, ys[0]? = some y := by
                    cases ys with
                    | nil => exact absurd rfl hne
                    | cons y ys => exact ⟨y, rfl⟩
                  obtain ⟨_, f2, _, f4⟩ := y2 0 y hy
                  have h0 : y.cells[0]? = some (y.cells[0]'(by omega)) := by simp
                  obtain ⟨v, hv, _⟩ := f4 0 _ h0
                  have h1 := q8t hv
                  simp [Addr.add] at h1
                  cases a
                  simp at h1
                  subst h1
                  rfl
                have haddr : ∀ i y k z, ys[i]? = some y → y.cells[k]? = some z → ∃ v, w.cell? ⟨a.block, a.off + (i * u.size + k), none⟩ = some v ∧ CRel (allI w) w z v := by
                  intro i y k z hy hz
                  obtain ⟨_, _, _, f4⟩ := y2 i y hy
                  obtain ⟨v, hv, hc⟩ := f4 k z hz
                  have hne : ys ≠ [] := by intro h0; rw [h0] at hy; simp at hy
                  rw [hspot hne, qhi, qhi] at hv
                  exact ⟨v, by rw [← Nat.add_assoc]; exact hv, hc⟩
                refine qoq (x := .sl u.size ys) rfl ?_ rfl ?_
                · have := CRel.sl (I := allI w) (w := w) u.size ys (some a) cap a.block a.off (fun j => (w.cell? ⟨a.block, a.off + j, none⟩).getD default) (by omega) (by
                      by_cases hne : ys = []
                      · exact .inl hne
                      · exact .inr (by rw [← hspot hne])) (fun i y hy => (y2 i y hy).2.1) (fun i y k z hy hz => (y2 i y hy).2.2.1 z (List.mem_of_getElem? hz)) (fun i y k z hy hz => by
                      obtain ⟨v, hv, _⟩ := haddr i y k z hy hz
                      exact ⟨⟨v, hv⟩, by simp [hv]⟩) (fun i y k z hy hz => by
                      obtain ⟨v, hv, hc⟩ := haddr i y k z hy hz
                      simp only [hv, Option.getD_some]; exact hc)
                  rw [y1] at this
                  exact this
                · unfold Ty.fit
                  refine .inr ⟨ys, rfl, by unfold maxLen at hcm; omega, fun y hy => ?_⟩
                  obtain ⟨i, hi⟩ := List.getElem?_of_mem hy
                  exact (y2 i y hi).1
              · cases ht
        case struct fs =>
          cases htf : ql1 P (tyOf P n) 0 fs.toList with
          | none => rw [htf] at h; simp at h
          | some p =>
            obtain ⟨ts, k⟩ := p
            rw [htf] at h
            simp only at h
            split at h
            · rename_i hk
              simp at h; subst h
              simp only at ht
              split at ht
              · rename_i hlen
                obtain ⟨ds, hds, _⟩ := Option.map_eq_some_iff.1 ht
                obtain ⟨xs, g1, g2, _, g3, g4, g5⟩ := qxl (w := w) (r := tyOf P n) (f := fun t cs => DataW.trod enc P w base spare held fuel t cs) (fun t ty cs d h1 h2 => ih fuel t ty cs d h1 h2) fs.toList 0 ts k htf _ ds (by omega) hds
                simp only [List.drop_zero] at g1 g2 g3
                refine ⟨xs, g1, by unfold Ty.size; exact g2.symm, g3, g4, ?_⟩
                unfold Ty.fit; exact g5
              · cases ht
            · cases h
theorem q4u {P : Program} {w : World} {H : Type} {enc : TypeId × Value → H} {base base' : Nat} {spare : Nat → Bool} {held : Bool} {r : Reach} {n : Nat} {t : TypeId} {ty : Ty} {v : Value} {d : DataW H} {ps : List MemPlace}
    (ht : tyOf P n t = some ty) (hv : Value.okWide P w r base' t v) (hd : DataW.Trod enc P w base spare held t v d ps) : ∃ y, ty.fitv y ∧ CRel (allI w) w y v := by
  obtain ⟨fuel, hd⟩ := hd
  obtain ⟨xs, g1, g2, g3, g4, g5⟩ := q8u n fuel t ty _ _ ht hd
  obtain ⟨y, f1, f2, f3, f4⟩ := Ty.fitv_of g5
  refine ⟨y, f1, ?_⟩
  cases hs : ty.isSt with
  | true =>
    have hy := f3 hs
    subst hy
    have hst : ∃ cs, v = .agg cs := by
      cases n with
      | zero => simp [tyOf] at ht
      | succ n =>
        unfold tyOf at ht
        unfold Value.okWide at hv
        cases hu : P.underlying t with
        | none => rw [hu] at ht; simp at ht
        | some desc =>
          rw [hu] at ht hv
          cases desc <;> simp only [] at ht hv <;> (try (simp at ht; done)) <;> (try (simp at ht; subst ht; simp [Ty.isSt] at hs; done))
          case slice e =>
            cases hte : tyOf P n e with
            | none => rw [hte] at ht; simp at ht
            | some u =>
              rw [hte] at ht
              simp only at ht
              split at ht
              · cases ht
              · simp at ht; subst ht; simp [Ty.isSt] at hs
          case struct fs =>
            obtain ⟨cs, rfl, _⟩ := hv
            exact ⟨cs, rfl⟩
    obtain ⟨cs, rfl⟩ := hst
    simp only [Value.cells] at g1 g3
    exact .agg xs cs g4 (by simpa using g1.symm) (fun k x u hx hu => g3 k x u hx (by simpa using hu))
  | false =>
    obtain ⟨z, rfl, h1, h2⟩ := Ty.fit_leaf hs g5
    have hyz : y = z := by
      have := f2
      rw [qs0 (f4 hs)] at this
      simpa using this
    subst hyz
    have hone : v.cells.toList = [v] := by
      cases n with
      | zero => simp [tyOf] at ht
      | succ n =>
        unfold tyOf at ht
        cases hu : P.underlying t with
        | none => rw [hu] at ht; simp at ht
        | some desc =>
          rw [hu] at ht
          cases desc <;> simp only [] at ht <;> (try (simp at ht; done))
          case bool => obtain ⟨b, rfl⟩ := WideShapes.okWide_bool hu hv; rfl
          case int k => obtain ⟨b, rfl⟩ := WideShapes.okWide_int hu hv; rfl
          case string => obtain ⟨b, rfl⟩ := WideShapes.okWide_string hu hv; rfl
          case slice e => obtain ⟨a, l, c, rfl⟩ := WideShapes.okWide_slice hu hv; rfl
          case struct fs =>
            split at ht
            · split at ht
              · simp at ht; subst ht; simp [Ty.isSt] at hs
              · cases ht
            · cases ht
    rw [hone] at g3
    exact g3 0 y v rfl rfl
end Go.Pev
/- A law's call out of its contract. -/
namespace Go.Pev
open Go
set_option linter.unusedVariables false
theorem q8v {P : Program} {f : FuncId} {ys : List AV} {args : Array Value} {w : World} (h : qq8 P f ys (· = .bool true)) (hs : args.size = ys.length) (hr : ∀ (k : Nat) (x : AV) (v : Value), ys[k]? = some x → args[k]? = some v → CRel (allI w) w x v) (htw : q69 w) :
    Calls P f args w fun e w' => e = .returned (.bool true) ∧ RowKit.Below w.heap.size w w' := by
  obtain ⟨_, h⟩ := h
  have hok : OK ⟨allI w, fun _ => 0, fun _ => ⟨0, 0, true⟩⟩ Mem.none w :=
    ⟨fun r ob hs => by simp [Mem.none] at hs, fun r ob hs => by simp [Mem.none] at hs, fun r r' ob ob' b hs => by simp [Mem.none] at hs, fun b k hk => hk, fun p hp => ⟨(htw p hp).2, fun r ob hs => by simp [Mem.none] at hs, 0, by
      obtain ⟨h0, T, fr, h1⟩ := htw p hp
      exact ⟨p.2[0], by simp [World.cell?, h1, h0]⟩⟩⟩
  refine (h _ w args hok hs (fun k x v hx hv => .c (hr k x v hx hv))).mono fun e w' ⟨v, y, g', m', he, ⟨z, hz, hzt⟩, hok', hv, hext⟩ => ?_
  subst hzt
  have hy := qpv hz rfl
  subst hy
  have := hv.bool_inv
  subst this
  exact ⟨he, hext.os, hext.tape, hext.output, hext.size, fun k hk => hext.fr k hk (fun r ob hs => by simp [Mem.none] at hs)⟩
theorem q13 {w : World} {x : AV} {v : Value} {xs : List AV} {vs : List Value} (h : CRel (allI w) w x v) (hr : ∀ (k : Nat) (y : AV) (u : Value), xs[k]? = some y → vs.toArray[k]? = some u → CRel (allI w) w y u) : ∀ (k : Nat) (y : AV) (u : Value), (x :: xs)[k]? = some y → (v :: vs).toArray[k]? = some u → CRel (allI w) w y u := by
  intro k y u hy hu
  cases k with
  | zero => simp at hy hu; subst hy; subst hu; exact h
  | succ k => exact hr k y u (by simpa using hy) (by simpa using hu)
theorem q8w {w : World} : ∀ (k : Nat) (y : AV) (u : Value), ([] : List AV)[k]? = some y → ([] : List Value).toArray[k]? = some u → CRel (allI w) w y u := by
  intro k y u hy
  simp at hy
end Go.Pev
