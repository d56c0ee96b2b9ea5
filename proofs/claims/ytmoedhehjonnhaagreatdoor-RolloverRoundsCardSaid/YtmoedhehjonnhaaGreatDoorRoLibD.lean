/- The calculus over trees that the proof rests on, proved sound against the model (LibD). -/
import Derived.Test.YtmoedhehjonnhaaGreatDoorRoLibC
import Derived.Laws.Externs
import Derived.Lib.Bytealg
import Derived.Shelf.SlicesE.Clone
import Derived.Below
import Derived.Shelf.SlicesE.Delete
import Derived.Shelf.Spec.SlicesInsertGrow
import Derived.Test.YtmoedhehjonnhaaGreatDoorRoLibBb
set_option linter.all false
/- The reckoner is sound (7): qcg that begin in a state of known shape; functions. -/
namespace Go.Pev
open Go
set_option linter.unusedVariables false
set_option linter.unusedSimpArgs false
section
variable {R : Type} {P : Program} {T : Tab} {nt nb : Nat} {KR : Env → Mem → Option R} {g : Gh} {m : Mem} {w : World} {t : Env}
theorem qz9 {x : AV} {r off : Nat} (h : qrj x r off = true) : x = .ptr r off := by
  cases x <;> simp [qrj] at h
  obtain ⟨rfl, rfl⟩ := h; rfl
theorem q47 : ∀ (ps : List (Nat × Nat)) (xs : List AV), qs2 ps xs = true → xs = ps.map fun p => AV.ptr p.1 p.2
  | [], [], _ => rfl
  | [], _ :: _, h => by simp [qs2] at h
  | _ :: _, [], h => by simp [qs2] at h
  | p :: ps, x :: xs, h => by
    simp only [qs2, Bool.and_eq_true] at h
    rw [qz9 h.1, q47 ps xs h.2]; rfl
theorem qbcq {k : CK} {cs : List AV} {i : Nat} {x : AV} (hx : gC cs i = x) (h : fitK m k x = true) : etaK m k cs i = x ∨ (∃ e, x = .nils ∧ etaK m k cs i = .sl e []) ∨ (fnC x = true ∧ etaK m k cs i = .fv x) := by
  cases k with
  | l k => exact q06 hx h
  | ptr r off => exact .inl (qz9 h).symm
  | own r =>
    cases x <;> simp [fitK] at h
    obtain ⟨rfl, h2⟩ := h
    have := qnx h2
    left; simp only [etaK, this]
  | fn f caps =>
    cases x <;> simp [fitK] at h
    obtain ⟨rfl, h2⟩ := h
    left; simp only [etaK, q47 _ _ h2]
  | map r =>
    cases x <;> simp [fitK] at h
    subst h; exact .inl rfl
theorem q2d {k : CK} {cs : List AV} {i : Nat} {x : AV} (hx : gC cs i = x) (h : fitK m k x = true) : (etaK m k cs i).leaf = true := by
  cases k with
  | l k => exact qvk hx h
  | _ => rfl
theorem qvu {k : CK} {cs : List AV} {i : Nat} {x : AV} (hx : gC cs i = x) (h : fitK m k x = true) {v : Value} (hv : VRel g m w x v) : VRel g m w (etaK m k cs i) v := by
  rcases qbcq hx h with h1 | ⟨e, rfl, h1⟩ | ⟨h2, h1⟩
  · rw [h1]; exact hv
  · rw [h1, qou hv]; exact .c (qs6 _ _ _)
  · rw [h1]; exact .c (.fv _ _ h2 (q40 h2 hv))
theorem qp3 : ∀ (ls : List CK) (cs : List AV), qhl m ls cs = true → cs.length = ls.length ∧ ∀ (k : Nat) (l : CK) (x : AV), ls[k]? = some l → cs[k]? = some x → fitK m l x = true
  | [], [], _ => ⟨rfl, by simp⟩
  | [], _ :: _, h => by simp [qhl] at h
  | _ :: _, [], h => by simp [qhl] at h
  | l :: ls, x :: xs, h => by
    simp only [qhl] at h
    split at h
    · rename_i h1
      obtain ⟨h2, h3⟩ := qp3 ls xs h
      refine ⟨by simp [h2], fun k l' x' hl hx => ?_⟩
      cases k with
      | zero => simp at hl hx; subst hl; subst hx; exact h1
      | succ k => exact h3 k l' x' (by simpa using hl) (by simpa using hx)
    · cases h
theorem q2e : ∀ (ls : List CK) (cs : List AV) (i k : Nat), (qi2 m ls cs i)[k]? = (ls[k]?).map fun l => etaK m l cs (i + k)
  | [], cs, i, k => by simp [qi2]
  | l :: ls, cs, i, k => by
    cases k with
    | zero => simp [qi2]
    | succ k => simp only [qi2, List.getElem?_cons_succ]; rw [q2e ls cs (i + 1) k, Nat.add_right_comm, Nat.add_assoc]
theorem qvv (ls : List CK) (cs : List AV) (i : Nat) : (qi2 m ls cs i).length = ls.length := by
  induction ls generalizing i with
  | nil => rfl
  | cons l ls ih => simp [qi2, ih]
theorem qtb {ls : List CK} {cs : List AV} (h : qhl m ls cs = true) {k : Nat} {y : AV} (hy : (qi2 m ls cs 0)[k]? = some y) : ∃ l x, cs[k]? = some x ∧ gC cs k = x ∧ fitK m l x = true ∧ y = etaK m l cs k := by
  obtain ⟨h1, h2⟩ := qp3 ls cs h
  rw [q2e] at hy
  obtain ⟨l, hl, rfl⟩ := Option.map_eq_some_iff.1 hy
  have hk : k < cs.length := by have := (List.getElem?_eq_some_iff.1 hl).1; omega
  have hx : cs[k]? = some cs[k] := by simp [hk]
  exact ⟨l, cs[k], hx, q7s hx, h2 k l _ hl hx, by simp⟩
theorem q85 {k : TK} {x : AV} (h : fitT m k x = true) {v : Value} (hv : VRel g m w x v) : VRel g m w (etaT m k x) v := by
  cases k with
  | one c => exact qvu (cs := [x]) (i := 0) rfl h hv
  | st cs =>
    simp only [fitT] at h
    split at h
    · rename_i h1
      obtain ⟨xs, rfl⟩ := qs8 h1
      simp only [AV.cells] at h
      obtain ⟨vs, rfl, hs, hl, hh⟩ := q05 hv
      refine .agg _ _ (fun y hy => ?_) (by simp only [AV.cells]; rw [qvv, hs, (qp3 cs xs h).1]) (fun k y v hy hv => ?_)
      · obtain ⟨k, hk⟩ := List.getElem?_of_mem hy
        obtain ⟨l, x, h1, h2, h3, rfl⟩ := qtb h hk
        exact q2d h2 h3
      · obtain ⟨l, x, h1, h2, h3, rfl⟩ := qtb h hy
        exact qvu h2 h3 (hh k x v h1 hv)
    · cases h
  | cptr ls =>
    simp only [fitT] at h
    split at h
    · rename_i h1
      obtain ⟨cs, rfl⟩ : ∃ cs, x = .cptr cs := by
        cases x with
        | cptr cs => exact ⟨cs, rfl⟩
        | _ => simp [qhs] at h1
      exact qlg h hv
    · cases h
theorem q2f : ∀ (l : List (Nat × TK)), qld t m l = true → ∀ (i : Nat), ql (qfv t m l) i = .any ∨ ∃ k, fitT m k (t i) = true ∧ ql (qfv t m l) i = etaT m k (t i)
  | [], _, i => .inl rfl
  | p :: ps, h, i => by
    simp only [qld] at h
    split at h
    · rename_i h1
      simp only [qfv, ql]
      split
      · rename_i hi; subst hi; exact .inr ⟨p.2, h1, rfl⟩
      · exact q2f ps h i
    · cases h
theorem q2g : ∀ (l : List BK) (i : Nat), qs3 m l i = true → ∀ (j : Nat) (k : BK), l[j]? = some k → fitO m k (m.s (i + j)) = true
  | [], i, _, j, k, hk => by simp at hk
  | b :: bs, i, h, j, k, hk => by
    simp only [qs3] at h
    split at h
    · rename_i h1
      cases j with
      | zero => simp at hk; subst hk; exact h1
      | succ j =>
        have := q2g bs (i + 1) h j k (by simpa using hk)
        rw [show i + (j + 1) = i + 1 + j by omega]; exact this
    · cases h
theorem q2h : ∀ (l : List BK) (i j : Nat), (qce m l i)[j]? = (l[j]?).map fun k => etaO m k (m.s (i + j))
  | [], i, j => by simp [qce]
  | b :: bs, i, j => by
    cases j with
    | zero => simp [qce]
    | succ j => simp only [qce, List.getElem?_cons_succ]; rw [q2h bs (i + 1) j, Nat.add_right_comm, Nat.add_assoc]
theorem q48 (l : List BK) (i : Nat) : (qce m l i).length = l.length := by
  induction l generalizing i with
  | nil => rfl
  | cons b bs ih => simp [qce, ih]
theorem qwe {os : List BK} (h : qs3 m os 0 = true) {r : Nat} {ob' : Ob} (hs : (qf (qce m os 0)).s r = some ob') :
    (m.s r = some ob' ∧ ∀ w cs, ob' ≠ .box w cs) ∨ ∃ wf cs ks, m.s r = some (.box wf cs) ∧ qhl m ks cs = true ∧ ob' = .box wf (qi2 m ks cs 0) := by
  have hs' : ((qce m os 0)[r]?).getD none = some ob' := hs
  rw [q2h] at hs'
  cases hk : os[r]? with
  | none => rw [hk] at hs'; simp at hs'
  | some k =>
    rw [hk] at hs'
    simp only [Option.map_some, Option.getD_some, Nat.zero_add] at hs'
    have hf := q2g os 0 h r k hk
    rw [Nat.zero_add] at hf
    cases k with
    | gone => simp [etaO] at hs'
    | box wf ks =>
      simp only [fitO] at hf
      split at hf
      · rename_i hb
        cases ho : m.s r with
        | none => rw [ho] at hb; simp [qzw] at hb
        | some ob =>
          rw [ho] at hb hf hs'
          cases ob with
          | box wf' cs =>
            simp [qzw] at hb
            subst hb
            simp only [etaO, bxC, Option.some.injEq] at hs' hf
            exact .inr ⟨wf, cs, ks, rfl, hf, hs'.symm⟩
          | _ => simp [qzw] at hb
      · cases hf
    | arr wf e =>
      simp only [fitO] at hf
      cases ho : m.s r with
      | none => rw [ho] at hf; simp [qzx] at hf
      | some ob =>
        rw [ho] at hf hs'
        cases ob with
        | arr wf' e' xs =>
          simp [qzx] at hf
          obtain ⟨rfl, rfl⟩ := hf
          simp only [etaO, arL, Option.some.injEq] at hs'
          subst hs'
          exact .inl ⟨rfl, by simp⟩
        | _ => simp [qzx] at hf
    | map =>
      simp only [fitO] at hf
      cases ho : m.s r with
      | none => rw [ho] at hf; simp [q3h] at hf
      | some ob =>
        rw [ho] at hf hs'
        cases ob with
        | map es =>
          simp only [etaO, mpL, Option.some.injEq] at hs'
          subst hs'
          exact .inl ⟨rfl, by simp⟩
        | _ => simp [q3h] at hf
theorem qvw {s : Shp} (h : fitS s t m = true) {g0 : Gh} {m0 : Mem} {w0 : World} {a : Act} (hok : OK g m w) (hr : ARel g m w nt t a) (he : Ext g0 m0 w0 g m w) :
    OK g (qf (qce m s.os 0)) w ∧ ARel g (qf (qce m s.os 0)) w nt (ql (qfv t m s.ts)) a ∧ Ext g0 m0 w0 g (qf (qce m s.os 0)) w := by
  unfold fitS at h
  split at h
  case h_2 => cases h
  rename_i hn
  split at h
  case h_2 => cases h
  rename_i hts
  have hn' : (qf (qce m s.os 0)).n = m.n := by
    show (qce m s.os 0).length = m.n
    rw [q48]; exact Nat.eq_of_beq_eq_true hn
  have hv : VExt g m w g (qf (qce m s.os 0)) w := by
    refine ⟨fun b k hk => ⟨hk, rfl⟩, fun r _ => rfl, fun r hr wf' e' xs' hs => ?_, by rw [hn']; exact Nat.le_refl _⟩
    rcases qwe h hs with ⟨h1, _⟩ | ⟨wf, cs, ks, _, _, h3⟩
    · exact ⟨wf', e', xs', h1, rfl, Nat.le_refl _, fun _ => rfl⟩
    · cases h3
  have hblk : ∀ (r : Nat) (ob' : Ob), (qf (qce m s.os 0)).s r = some ob' → ∃ ob, m.s r = some ob ∧ ob'.blk g r = ob.blk g r := by
    intro r ob' hs
    rcases qwe h hs with ⟨h1, _⟩ | ⟨wf, cs, ks, h1, _, h3⟩
    · exact ⟨ob', h1, rfl⟩
    · subst h3; exact ⟨_, h1, rfl⟩
  refine ⟨⟨fun r ob hs => ?_, fun r ob hs => ?_, fun r r' ob ob' b hs hs' hb hb' => ?_, hok.im, hok.tb.obs (fun _ _ hk => hk) fun r ob b hs hb => by
    obtain ⟨o, h1, h2⟩ := hblk r ob hs
    exact .inr ⟨r, o, h1, by rw [← h2]; exact hb⟩⟩, ⟨fun i => ?_, hr.n, hr.d⟩, ⟨he.im, he.jb, fun r hr wf' e' xs' hs => ?_, by rw [hn']; exact he.n, he.fr, he.inew, fun r ob b hs hb => ?_, he.size, he.os, he.tape, he.output⟩⟩
  · obtain ⟨ob', h1, _⟩ := hblk r ob hs
    rw [hn']; exact hok.lt r ob' h1
  · rcases qwe h hs with ⟨h1, h2⟩ | ⟨wf, cs, ks, h1, h2, rfl⟩
    · have hob := hok.ob r ob h1
      cases ob with
      | box wf cs => exact absurd rfl (h2 _ _)
      | arr wf e xs => exact hob
      | map es => exact hob
    · obtain ⟨arr, g1, g2, g3, g4, g5⟩ := hok.ob r _ h1
      refine ⟨arr, g1, by rw [qvv, g2]; exact (qp3 ks cs h2).1, fun y hy => ?_, fun k y v hy hv' => ?_, g5⟩
      · obtain ⟨k, hk⟩ := List.getElem?_of_mem hy
        obtain ⟨l, x, k1, k2, k3, rfl⟩ := qtb h2 hk
        exact q2d k2 k3
      · obtain ⟨l, x, k1, k2, k3, rfl⟩ := qtb h2 hy
        exact (qvu k2 k3 (g4 k x v k1 hv')).mono hv
  · obtain ⟨o, h1, h2⟩ := hblk r ob hs
    obtain ⟨o', h1', h2'⟩ := hblk r' ob' hs'
    rw [h2] at hb; rw [h2'] at hb'
    exact hok.ne r r' o o' b h1 h1' hb hb'
  · rcases q2f s.ts hts i with h5 | ⟨k, h5, h6⟩
    · rw [h5]; exact .c (.any _)
    · rw [h6]; exact (q85 h5 (hr.r i)).mono hv
  · rcases qwe h hs with ⟨h1, _⟩ | ⟨wf, cs, ks, _, _, h3⟩
    · exact he.ja r hr _ _ _ h1
    · cases h3
  · obtain ⟨o, h1, h2⟩ := hblk r ob hs
    rw [h2] at hb
    exact he.onew r o b h1 hb
theorem q6v {k : CK} {x : AV} {acc : Bool} (h : q3i k x = true) (h2 : hdK m k x acc = true) : fitK m k x = true ∧ acc = true := by
  cases k <;> cases x <;> simp_all [q3i, fitK, hdK]
theorem qyn : ∀ (ks : List CK) (xs : List AV) (acc : Bool), qot ks xs = true → hdKs m ks xs acc = true → qhl m ks xs = true ∧ acc = true
  | [], [], acc, _, h2 => ⟨rfl, h2⟩
  | [], _ :: _, acc, h, _ => by simp [qot] at h
  | _ :: _, [], acc, h, _ => by simp [qot] at h
  | k :: ks, x :: xs, acc, h, h2 => by
    simp only [qot] at h
    split at h
    · rename_i h1
      simp only [hdKs] at h2
      obtain ⟨h3, h4⟩ := q6v h1 h2
      obtain ⟨h5, h6⟩ := qyn ks xs acc h h4
      exact ⟨by simp only [qhl, h3, h5], h6⟩
    · cases h
theorem qbcr {k : TK} {x : AV} {acc : Bool} (h : q7p k x = true) (h2 : hdT m k x acc = true) : fitT m k x = true ∧ acc = true := by
  cases k with
  | one c => exact q6v h h2
  | st cs =>
    simp only [q7p] at h
    split at h
    · rename_i h1
      obtain ⟨h3, h4⟩ := qyn cs x.cells acc h h2
      exact ⟨by simp only [fitT, h1, h3], h4⟩
    · cases h
  | cptr ls => exact ⟨h, h2⟩
theorem qbcs {k : BK} {o : Option Ob} {acc : Bool} (h : q7q k o = true) (h2 : hdO m k o acc = true) : fitO m k o = true ∧ acc = true := by
  cases k with
  | box w cs =>
    simp only [q7q] at h
    split at h
    · rename_i h1
      obtain ⟨h3, h4⟩ := qyn cs (bxC o) acc h h2
      exact ⟨by simp only [fitO, h1, h3], h4⟩
    · cases h
  | arr w e => exact ⟨h, h2⟩
  | map => exact ⟨h, h2⟩
  | gone => exact ⟨rfl, h2⟩
theorem q49 : ∀ (l : List (Nat × TK)) (acc : Bool), qzy t l = true → hdTs t m l acc = true → qld t m l = true ∧ acc = true
  | [], acc, _, h2 => ⟨rfl, h2⟩
  | p :: ps, acc, h, h2 => by
    simp only [qzy] at h
    split at h
    · rename_i h1
      simp only [hdTs] at h2
      obtain ⟨h3, h4⟩ := qbcr h1 h2
      obtain ⟨h5, h6⟩ := q49 ps acc h h4
      exact ⟨by simp only [qld, h3, h5], h6⟩
    · cases h
theorem q5a : ∀ (l : List BK) (i : Nat), qzz m l i = true → hdOs m l i = true → qs3 m l i = true
  | [], i, _, _ => rfl
  | k :: ks, i, h, h2 => by
    simp only [qzz] at h
    split at h
    · rename_i h1
      simp only [hdOs] at h2
      obtain ⟨h3, h4⟩ := qbcs h1 h2
      simp only [qs3, h3, q5a ks (i + 1) h h4]
    · cases h
theorem q1a {s : Shp} (h : qs4 s t m = true) (h2 : hdS s t m = true) : fitS s t m = true := by
  unfold qs4 at h
  split at h
  · rename_i h1
    split at h
    · rename_i h3
      obtain ⟨h4, h5⟩ := q49 s.ts _ h3 h2
      have h6 := q5a s.os 0 h h5
      simp only [fitS, h1, h4, h6]
    · cases h
  · cases h
theorem qbdx (hT : T.ok P) (hm : P.follows .mixedOrders = true) {ac : AC R} (hk : ac.ok P T nt nb KR) {sc : SC} (her : ac.er = some sc) (s : Shp) {e : Env → Mem → (Ex → Env → Mem → Option R) → Option R}
    (he : ∀ t m K, e t m K = chk (qs4 s t m) (cond (hdS s t m) (den nb KR ac (ql (qfv t m s.ts)) (qf (qce m s.os 0)) K) none)) : qwd P T nt nb KR sc e := by
  intro t m K r h
  rw [he] at h
  obtain ⟨h0, h2⟩ := qos h
  obtain ⟨h1, h2⟩ := qg h2
  replace h1 := q1a h0 h1
  intro c hc g0 m0 w0 Q hnb hQ hR g a w hok hr hext
  obtain ⟨k1, k2, k3⟩ := qvw h1 hok hr hext
  exact qvt hT hm ac hk sc her _ _ K r h2 c hc g0 m0 w0 Q hnb hQ hR g a w k1 k2 k3
theorem qbct (hT : T.ok P) (hm : P.follows .mixedOrders = true) {ac : AC R} (hk : ac.ok P T nt nb KR) {sc : SC} (her : ac.er = some sc) (s : Shp) {e : Env → Mem → (Ex → Env → Mem → Option R) → Option R}
    (he : ∀ t m K, e t m K = chk (qs4 s t m) (cond (hdS s t m) (qmi (den nb KR ac) FU (ql (qfv t m s.ts)) (qf (qce m s.os 0)) K) none)) : qwd P T nt nb KR (.loop sc) e := by
  intro t m K r h
  rw [he] at h
  obtain ⟨h0, h2⟩ := qos h
  obtain ⟨h1, h2⟩ := qg h2
  replace h1 := q1a h0 h1
  intro c hc g0 m0 w0 Q hnb hQ hR g a w hok hr hext
  obtain ⟨k1, k2, k3⟩ := qvw h1 hok hr hext
  exact q59 hT hm hk her h2 c hc g0 m0 w0 Q hnb hQ hR g a w k1 k2 k3
theorem q6w {l : RL} {x : AV} (h : fitR l x = true) : etaR l x = x := by
  cases l <;> cases x <;> simp_all [fitR, etaR, aB, aI, aS, aL]
theorem q5b : ∀ (ls : List RL) (cs pre : List AV), qwc ls cs = true → q3j ls (pre ++ cs) pre.length = cs
  | [], [], _, _ => rfl
  | [], _ :: _, _, h => by simp [qwc] at h
  | _ :: _, [], _, h => by simp [qwc] at h
  | l :: ls, x :: xs, pre, h => by
    simp only [qwc] at h
    split at h
    · rename_i h1
      have ih := q5b ls xs (pre ++ [x]) h
      simp only [List.append_assoc, List.singleton_append, List.length_append, List.length_singleton] at ih
      simp only [q3j, ih]
      have hx : gC (pre ++ x :: xs) pre.length = x := by simp [gC]
      rw [hx, q6w h1]
    · cases h
theorem qj6 {l : RV} {x : AV} (h : qnv l x = true) : qnw l x = x := by
  cases l with
  | one l => exact q6w h
  | st ls =>
    simp only [qnv] at h
    split at h
    · rename_i h1
      obtain ⟨cs, rfl⟩ := qs8 h1
      simp only [qnw, AV.cells]
      have := q5b ls cs [] h
      simpa using this
    · cases h
theorem q2i : ∀ (ls : List RV) (cs pre : List AV), qrk ls cs = true → qvj ls (pre ++ cs) pre.length = cs
  | [], [], _, _ => rfl
  | [], _ :: _, _, h => by simp [qrk] at h
  | _ :: _, [], _, h => by simp [qrk] at h
  | l :: ls, x :: xs, pre, h => by
    simp only [qrk] at h
    split at h
    · rename_i h1
      have ih := q2i ls xs (pre ++ [x]) h
      simp only [List.append_assoc, List.singleton_append, List.length_append, List.length_singleton] at ih
      simp only [qvj, ih]
      have hx : gC (pre ++ x :: xs) pre.length = x := by simp [gC]
      rw [hx, qj6 h1]
    · cases h
theorem q86 {ls : List RV} {z : AV} (h : q4y ls z = true) : .tup (qvj ls (tpL z) 0) = z := by
  unfold q4y at h
  split at h
  · rename_i h1
    cases z with
    | tup vs =>
      have := q2i ls vs [] h
      simp at this
      simp only [tpL, this]
    | _ => simp [qbb0] at h1
  · cases h
def scOf (a : AC R) : SC := (a.er).getD .skip
theorem q70 {a : AC R} (h : (a.er).isSome = true) : a.er = some (scOf a) := by
  unfold scOf
  cases hx : a.er with
  | none => rw [hx] at h; cases h
  | some x => rfl
theorem q87 {xs : List AV} {args : Array Value} {n : Nat} (hsz : args.size = xs.length) (hrel : ∀ (k : Nat) (x : AV) (v : Value), xs[k]? = some x → args[k]? = some v → VRel g m w x v) :
    ∀ i, VRel g m w (qdm xs i) ((args ++ Array.replicate (n - args.size) undef).getD i undef) := by
  intro i
  simp only [qdm]
  by_cases hi : i < xs.length
  · have hx : xs[i]? = some xs[i] := by simp [hi]
    have hi2 : i < args.size := by omega
    have e : (args ++ Array.replicate (n - args.size) undef).getD i undef = args[i] := by
      simp only [Array.getD_eq_getD_getElem?]
      rw [Array.getElem?_append_left hi2]
      simp [hi2]
    show VRel g m w _ (Array.getD _ i undef)
    rw [e, hx]
    exact hrel i xs[i] args[i] hx (by simp [hi2])
  · have hx : xs[i]? = none := by simp; omega
    have e : (args ++ Array.replicate (n - args.size) undef).getD i undef = undef := by
      simp only [Array.getD_eq_getD_getElem?]
      rw [Array.getElem?_append_right (by omega)]
      by_cases h : i - args.size < n - args.size
      · simp [h]
      · simp [h]
    show VRel g m w _ (Array.getD _ i undef)
    rw [e, hx]
    exact .c .undef
theorem q88 (hT : T.ok P) (hm : P.follows .mixedOrders = true) {f : FuncId} {fn : Func} {res : List SRes} {sc : SC} (hf : P.funcs[f]? = some fn) (hn : (fn.name == "runtime.NumGoroutine") = false) (hs : cFn T fn = some ⟨nt, res, sc⟩)
    {xs : List AV} {m : Mem} {K : AV → Mem → Option R} {r : R} {ac : AC R} (hk : ac.ok P T nt m.n (qe0 res K)) (her : ac.er = some sc) (s : Shp) (hfit : fitS s (qdm xs) m = true)
    (h : den m.n (qe0 res K) ac (ql (qfv (qdm xs) m s.ts)) (qf (qce m s.os 0)) (kend (qe0 res K)) = some r) : qoi P f xs m fun y m' => K y m' = some r := by
  unfold cFn at hs
  simp only [Option.bind_eq_bind, Option.bind_eq_some_iff, Option.some.injEq] at hs
  obtain ⟨b, hb, c, hc, rs, hr, hmk⟩ := hs
  cases hmk
  refine ⟨⟨fn, hf, by simp [hb], hn⟩, fun g w args hok hsz hrel => ?_⟩
  refine calls_of_wp hf hb ?_
  obtain ⟨k1, k2, k3⟩ := qvw (nt := fn.ntmps) hfit (a := { tmps := args ++ Array.replicate (fn.ntmps - args.size) undef, defers := [] }) hok ⟨q87 hsz hrel, by simp; omega, rfl⟩ (Ext.refl g m w)
  refine qvt hT hm ac hk sc her _ _ _ r h b hc g m w _ rfl (fun e t' m' g' a' w' h1 h2 h3 h4 h5 => ?_) (fun t' m' g' a' w' h1 h2 h3 h4 => ?_) g _ w k1 k2 k3
  · cases e with
    | exit id => simp [kend] at h5
    | ret => exact absurd rfl h4
    | norm =>
      simp only [kend, qe0] at h5
      split at h5
      · rename_i v hv
        obtain ⟨cv, h6, h7⟩ := qtp (s := ⟨0, res, .skip⟩) hT h1 h2.r (fn := fn) hr hv
        exact ⟨h2.d, cv, h6, cv, v, g', m', rfl, h5, h1, h7, h3⟩
      · cases h5
  · simp only [qe0] at h4
    split at h4
    · rename_i v hv
      obtain ⟨cv, h6, h7⟩ := qtp (s := ⟨0, res, .skip⟩) hT h1 h2.r (fn := fn) hr hv
      exact ⟨h2.d, cv, h6, cv, v, g', m', rfl, h4, h1, h7, h3⟩
    · cases h4
theorem qbcu (hT : T.ok P) (hm : P.follows .mixedOrders = true) {f : FuncId} {fn : Func} {res : List SRes} {sc : SC} (hf : P.funcs[f]? = some fn) (hn : (fn.name == "runtime.NumGoroutine") = false) (hs : cFn T fn = some ⟨nt, res, sc⟩)
    {xs : List AV} {dec : AV → Option R} {r : R} {ac : AC R} (hk : ac.ok P T nt 0 (kret res dec)) (her : ac.er = some sc) (s : Shp) (hfit : fitS s (qdm xs) Mem.none = true)
    (h : den 0 (kret res dec) ac (ql (qfv (qdm xs) Mem.none s.ts)) (qf (qce Mem.none s.os 0)) (kend (kret res dec)) = some r) : qq8 P f xs fun z => dec z = some r := by
  have hk' : ac.ok P T nt Mem.none.n (qe0 res fun y m => qv9 m y dec) := by
    have e : qe0 res (fun y m => qv9 m y dec) = kret res dec := by funext t m; rfl
    rw [e]; exact hk
  have := q88 hT hm hf hn hs (xs := xs) (m := Mem.none) (K := fun y m => qv9 m y dec) (r := r) hk' her s hfit h
  obtain ⟨h1, h2⟩ := this
  refine ⟨h1, fun g w args hok hsz hrel => (h2 g w args hok hsz hrel).mono fun e w' ⟨v, y, g', m', he, hq, rest⟩ => ?_⟩
  obtain ⟨z, hz, hd⟩ := q7r hq
  exact ⟨v, y, g', m', he, ⟨z, hz, hd⟩, rest⟩
theorem qbdy {R' : Type} (hT : T.ok P) (hm : P.follows .mixedOrders = true) {f : FuncId} {fn : Func} {res : List SRes} {sc : SC} (hf : P.funcs[f]? = some fn) (hn : (fn.name == "runtime.NumGoroutine") = false) (hs : cFn T fn = some ⟨nt, res, sc⟩)
    {dec : AV → Option R} {enc : R → AV} (hde : ∀ z r, dec z = some r → z = enc r) {ac : AC R} (hk : ac.ok P T nt 0 (kret res dec)) (her : ac.er = some sc) (s : Shp) {F : List AV → Option R}
    (hF : ∀ xs, den 0 (kret res dec) ac (ql (qfv (qdm xs) Mem.none s.ts)) (qf (qce Mem.none s.os 0)) (kend (kret res dec)) = F xs)
    {e : List AV → (AV → Option R') → Option R'} (he : ∀ xs K r', e xs K = some r' → fitS s (qdm xs) Mem.none = true ∧ ∃ r, F xs = some r ∧ K (enc r) = some r') : qli P f e := by
  intro xs K r' h
  obtain ⟨h1, r, h2, h3⟩ := he xs K r' h
  have h4 := qbcu hT hm hf hn hs hk her s (xs := xs) (r := r) h1 (by rw [hF, h2])
  refine ⟨enc r, ?_, h3⟩
  obtain ⟨h5, h6⟩ := h4
  exact ⟨h5, fun g w args hok hsz hrel => (h6 g w args hok hsz hrel).mono fun e w' ⟨v, y, g', m', he, ⟨z, hz, hd⟩, rest⟩ => ⟨v, y, g', m', he, ⟨z, hz, hde z r hd⟩, rest⟩⟩
theorem qbcv {R' : Type} (hT : T.ok P) (hm : P.follows .mixedOrders = true) {f : FuncId} {fn : Func} {res : List SRes} {sc : SC} (hf : P.funcs[f]? = some fn) (hn : (fn.name == "runtime.NumGoroutine") = false) (hs : cFn T fn = some ⟨nt, res, sc⟩)
    {ac : (AV → Mem → Option R') → AC R'} (hk : ∀ K, (ac K).ok P T nt nb (qe0 res K)) (her : ∀ K, (ac K).er = some sc) (s : Shp) (hnb : s.os.length = nb)
    {e : List AV → Mem → (AV → Mem → Option R') → Option R'} (he : ∀ xs m K, e xs m K = chk (qs4 s (qdm xs) m) (cond (hdS s (qdm xs) m) (den nb (qe0 res K) (ac K) (ql (qfv (qdm xs) m s.ts)) (qf (qce m s.os 0)) (kend (qe0 res K))) none)) : qju P f e := by
  intro xs m K r h
  rw [he] at h
  obtain ⟨h0, h2⟩ := qos h
  obtain ⟨h1, h2⟩ := qg h2
  replace h1 := q1a h0 h1
  have hn2 : m.n = nb := by
    have h3 := h1
    unfold fitS at h3
    split at h3
    · rename_i h4
      have := Nat.eq_of_beq_eq_true h4
      omega
    · cases h3
  subst hn2
  exact .inl (q88 hT hm hf hn hs (hk K) (her K) s h1 h2)
end
end Go.Pev
/- Functions without a body: what is known of their answers. -/
namespace Go.Pev
open Go
set_option linter.unusedVariables false
set_option linter.unusedSimpArgs false
section
variable {R : Type} {P : Program}
theorem q0a {f : FuncId} {fn : Func} {e : Array Value → _root_.Go.Sem Value} (hf : P.funcs[f]? = some fn) (hname : (fn.name == "runtime.NumGoroutine") = false) (hb : fn.body.isNone = true) (hn : Extern.findNext fn = none) (he : Extern.find fn = some e)
    {ent : List AV → (AV → Option R) → Option R}
    (h : ∀ as_ K r, ent as_ K = some r → ∃ z, K z = some r ∧ ∀ (g : Gh) (w : World) (args : Array Value), args.size = as_.length → (∀ (k : Nat) (x : AV) (v : Value), as_[k]? = some x → args[k]? = some v → VRel g Mem.none w x v) →
      ∃ v, (e args).run P w = .ok v w ∧ expo Mem.none z = some z ∧ VRel g Mem.none w z v) : qhn P f ent := fun as_ K r hr => by
  obtain ⟨z, h1, h2⟩ := h as_ K r hr
  refine ⟨z, .inr fun g w args hok hs hrel => ?_, h1⟩
  obtain ⟨v, h3, h4, h5⟩ := h2 g w args hs hrel
  refine ⟨v, z, ?_, ⟨z, h4, rfl⟩, h5⟩
  rw [run_callFunc_extern hf hname hb hn he, h3]
  rfl
def q89 (xs : List AV) (K : AV → Option R) : Option R := none
theorem q5c {f : FuncId} : qhn P f (q89 (R := R)) := fun as_ K r hr => by cases hr
theorem q5d {α : Type} {args : Array α} (h : args.size = 2) : ∃ a b, args = #[a, b] := by
  obtain ⟨l⟩ := args
  match l, h with
  | [a, b], _ => exact ⟨a, b, rfl⟩
def qn0 (s : List UInt8) (c : Int) : Option Int := some ((Lib.countByte s c.toNat.toUInt8 : Nat) : Int)
def ql4 (xs : List AV) (K : AV → Option R) : Option R :=
  match xs with
  | [.str s, .int .u8 c] => oB (qn0 s c) fun r => K (.int .i64 r)
  | _ => none
theorem q6a {f : FuncId} {fn : Func} (hf : P.funcs[f]? = some fn) (hname : (fn.name == "runtime.NumGoroutine") = false) (hb : fn.body.isNone = true) (hn : Extern.findNext fn = none) (he : Extern.find fn = some Extern.BytealgCount.count) : qhn P f (ql4 (R := R)) := by
  refine q0a hf hname hb hn he fun as_ K r hr => ?_
  unfold ql4 at hr
  split at hr
  · rename_i s c
    obtain ⟨p, h1, h2⟩ := qb5 hr
    simp only [qn0, Option.some.injEq] at h1
    subst h1
    refine ⟨_, h2, fun g w args hs hrel => ?_⟩
    obtain ⟨a, b, rfl⟩ := q5d hs
    obtain ⟨a', rfl, rfl⟩ := (hrel 0 _ a rfl rfl).str_inv
    have hb' := (hrel 1 _ b rfl rfl).int_inv
    subst hb'
    exact ⟨_, Lib.run_countString a' c w, rfl, .c (.int _ _)⟩
  · cases hr
def qn1 (s : List UInt8) (c : Int) : Option Int := some (Lib.indexByte s c.toNat.toUInt8)
def ql5 (xs : List AV) (K : AV → Option R) : Option R :=
  match xs with
  | [.str s, .int .u8 c] => oB (qn1 s c) fun r => K (.int .i64 r)
  | _ => none
theorem q6b {f : FuncId} {fn : Func} (hf : P.funcs[f]? = some fn) (hname : (fn.name == "runtime.NumGoroutine") = false) (hb : fn.body.isNone = true) (hn : Extern.findNext fn = none) (he : Extern.find fn = some Extern.BytealgIndexByte.indexByte) : qhn P f (ql5 (R := R)) := by
  refine q0a hf hname hb hn he fun as_ K r hr => ?_
  unfold ql5 at hr
  split at hr
  · rename_i s c
    obtain ⟨p, h1, h2⟩ := qb5 hr
    simp only [qn1, Option.some.injEq] at h1
    subst h1
    refine ⟨_, h2, fun g w args hs hrel => ?_⟩
    obtain ⟨a, b, rfl⟩ := q5d hs
    obtain ⟨a', rfl, rfl⟩ := (hrel 0 _ a rfl rfl).str_inv
    have hb' := (hrel 1 _ b rfl rfl).int_inv
    subst hb'
    exact ⟨_, Lib.run_indexByteString a' c w, rfl, .c (.int _ _)⟩
  · cases hr
end
end Go.Pev
/- Functions of package slices at whatever element type: contracts. -/
namespace Go.Pev
open Go Go.Proofs Go.RowKit
set_option linter.unusedVariables false
set_option linter.unusedSimpArgs false
section
variable {R : Type} {P : Program} {T : Tab} {ρ : Go.Shelf.Ren}
set_option maxHeartbeats 2000000 in
set_option maxRecDepth 100000 in
theorem clone_zero (L : SlLaysE0.n41 P ρ) (i0 : TypeInfo) (z : Value) (size bytes : Nat) (hi : P.info? (ρ.t 23) = some i0) (hz0 : i0.zero = some z) (hz1 : i0.size = size) (hz2 : i0.bytes = bytes) (hzs : z.cells.size = size) (hsz : 0 < size)
    (z23 : ∀ w, (Go.sizeOf (ρ.t 23)).run P w = .ok size w) (ad : Addr) (c : Nat) (w : World) :
    Calls P (ρ.f 41) #[.slice (some ad) 0 c] w fun e w' => ∃ v', e = .returned v' ∧ w'.ownsRow w.heap.size (ρ.t 23) size v' 0 [] ∧ Below w.heap.size w w' := by
  have mixed := L.mixed; have t4 := L.t4; have a4 := L.a4; have z4 := L.z4; have v4 := L.v4; have t22 := L.t22; have a22 := L.a22; have z22 := L.z22; have v22 := L.v22
  have q22 : ∀ (w : World) (a : Option Addr) (n c n' c' : Nat), (binOp .eql (ρ.t 22) (.slice a n c) (.slice none n' c')).run P w = .ok (.bool a.isNone) w := fun w a n c n' c' => Lib.run_eql_slice_nil w _ _ a n c n' c' L.t22
  have u22 : ∀ w, Sem.run P (underlying (ρ.t 22)) w = .ok (TypeDesc.slice (ρ.t 23)) w := run_underlying t22
  obtain ⟨_, _, FG⟩ := L.f41
  go_enter FG, SlBodyN.n41_ntmps ρ
  go_wp2_with (at_builtin; refine wpList_append_own _ rfl _ _ (ρ.t 22) rfl w.heap.size (ρ.t 23) i0 z size bytes t22 hi hz0 hz1 hz2 hzs hsz _ _ _ rfl (World.ownsRow_made w #[] 0 (Nat.le_refl _) (Nat.zero_le _) (by simp)) ad 0 c [] rfl (by simp) (fun j u hj => by simp at hj) (by simp) (by simp [maxLen]) (by simp) (by simp) ?_)
  intro v' w1 hown hgrow hnil
  go_wp2
  go_ret
  exact ⟨v', rfl, by simpa using hown, ((Below.refl _ w).alloc (Nat.le_refl _) _).grown hgrow (by simp) (by intro k hk; simp [Value.ownBlock] at hk; omega)⟩
theorem qvx {g : Gh} {m : Mem} {w w' : World} (hok : OK g m w) (h : Below w.heap.size w w') : OK g m w' ∧ Ext g m w g m w' := by
  have hc : ∀ b, b < w.heap.size → ∀ k, w'.cell? ⟨b, k, none⟩ = w.cell? ⟨b, k, none⟩ := fun b hb k => qbj (h.block b hb) k
  have hIb : ∀ b k, g.I b k → b < w.heap.size := fun b k hk => hok.lt_of_I hk
  have hv : VExt g m w g m w' := ⟨fun b k hk => ⟨hk, hc b (hIb b k hk) k⟩, fun _ _ => rfl, fun _ _ wf e xs h => ⟨wf, e, xs, h, rfl, Nat.le_refl _, fun _ => rfl⟩, Nat.le_refl _⟩
  have hbl : ∀ r ob b, m.s r = some ob → ob.blk g r = some b → b < w.heap.size := fun r ob b hs hb => by
    have := hok.ob r ob hs
    cases ob with
    | box wf cs =>
      obtain ⟨arr, h1, _⟩ := this
      simp [Ob.blk] at hb; subst hb; exact qf9 h1
    | arr wf e xs =>
      rcases this with ⟨h1, _⟩ | ⟨h1, arr, h2, _⟩
      · simp [Ob.blk, h1] at hb
      · simp [Ob.blk, h1] at hb; subst hb; exact qf9 h2
    | map es =>
      obtain ⟨arr, cl, h1, _⟩ := this
      simp [Ob.blk] at hb; subst hb; exact (Array.getElem?_eq_some_iff.1 h1).1
  refine ⟨⟨hok.lt, fun r ob hs => (hok.ob r ob hs).keep hv (fun b hb => h.block b (hbl r ob b hs hb)) rfl rfl (fun b _ k => Iff.rfl), hok.ne, fun b k hk => ?_, hok.tb.go (fun _ _ hk => hk) (fun b hb _ => h.block b hb) (fun r ob b hs hb => .inr ⟨r, ob, hs, hb⟩)⟩, ?_⟩
  · obtain ⟨v, hv⟩ := hok.im b k hk
    exact ⟨v, (hc b (hIb b k hk) k).trans hv⟩
  · exact ⟨hv.im, hv.jb, hv.ja, hv.n, fun b hb _ => h.block b hb, fun b k hk => .inl hk, fun r ob b hs hb => .inr ⟨r, ob, hs, hb⟩, h.size, h.os, h.tape, h.output⟩
end
end Go.Pev
/- slices.Delete, slices.Insert at whatever element type: the runs. -/
namespace Go.Pev
open Go Go.Proofs Go.RowKit Go.Shelf Go.Lib Go.Sort
set_option linter.unusedVariables false
set_option linter.unusedSimpArgs false
section
variable {R : Type} {P : Program} {T : Tab} {ρ : Go.Shelf.Ren}
theorem qox {w : World} {b : Nat} {arr : Array Value} (hb : Blk w b arr) (off : Nat) (vs : List Value) (hle : off + vs.length ≤ arr.size) (h1 : ∀ v ∈ vs, v.oneCell' = true) :
    ∃ arr1, Blk (w.setCells b off vs) b arr1 ∧ arr1.size = arr.size ∧ (∀ k, arr1[k]? = if off ≤ k ∧ k < off + vs.length then vs[k - off]? else arr[k]?) ∧
      (∀ b', b' ≠ b → (w.setCells b off vs).heap[b']? = w.heap[b']?) ∧ (w.setCells b off vs).heap.size = w.heap.size ∧ (w.setCells b off vs).os = w.os ∧ (w.setCells b off vs).tape = w.tape ∧ (w.setCells b off vs).output = w.output := by
  obtain ⟨w1, arr1, h2, h3, h4, h5, h6, h7, h8, h9, h10⟩ := qpu (P := default) hb off vs hle h1
  have hc : ∀ j, j < vs.length → (w.cell? ⟨b, off + 0 + j, none⟩).isSome = true := fun j hj => by
    rw [qr hb]
    rw [Array.getElem?_eq_getElem (show off + 0 + j < arr.size by omega)]; rfl
  have hf : ∀ j, j < vs.length → w.frozen? ⟨b, off + 0 + j, none⟩ = false := fun j hj => by
    obtain ⟨T, hT⟩ := hb
    simp [World.frozen?, hT]
  have h11 := run_storeCells_cells (P := default) b off vs 0 w hc hf h1
  rw [h2] at h11
  simp only [Result.ok.injEq, Nat.add_zero, true_and] at h11
  subst h11
  exact ⟨arr1, h3, h4, h5, h6, h7, h8, h9, h10⟩
theorem q1b (w : World) (t e ty : TypeId) (z : Value) (size : Nat) (ht : P.underlying t = some (.slice e)) (hv : ∀ w, (zeroValue e).run P w = .ok z w) (hzs : z.cells.size = size) (h1 : ∀ u ∈ z.cells.toList, u.oneCell' = true) (hsz : 0 < size) (b o n c : Nat) (hn : 0 < n)
    (hc : ∀ j, j < n * size → (w.cell? ⟨b, o + j, none⟩).isSome = true) (hf : ∀ j, j < n * size → w.frozen? ⟨b, o + j, none⟩ = false) :
    (Builtin.clear_ #[t] ty #[.slice (some ⟨b, o, none⟩) n c]).run P w = .ok (.tuple #[]) (w.setCells b o (Builtin.zeroCells z.cells n).toList) := by
  have hlen : (Builtin.zeroCells z.cells n).toList.length = n * size := by simp [Builtin.zeroCells, hzs]
  have hone : ∀ u ∈ (Builtin.zeroCells z.cells n).toList, u.oneCell' = true := by
    intro u hu
    simp only [Builtin.zeroCells, Array.toList_map, List.mem_map] at hu
    obtain ⟨k, _, rfl⟩ := hu
    have hk : k % z.cells.size < z.cells.size := Nat.mod_lt _ (by omega)
    rw [getElem!_pos z.cells _ hk]
    exact h1 _ (by simp)
  have hst := run_storeCells_cells (P := P) b o (Builtin.zeroCells z.cells n).toList 0 w (by simpa [hlen] using hc) (by simpa [hlen] using hf) hone
  simp only [Nat.add_zero] at hst
  obtain ⟨m, rfl⟩ : ∃ m, n = m + 1 := ⟨n - 1, by omega⟩
  simp [Builtin.clear_, run_underlying ht, hv, hst]
set_option maxHeartbeats 4000000 in
set_option maxRecDepth 1000000 in
theorem delete_run (L : SlLaysE0.n45 P ρ) (i0 : TypeInfo) (z : Value) (size : Nat) (hi0 : P.info? (ρ.t 23) = some i0) (hz1 : i0.size = size) (hzs : z.cells.size = size) (h1z : ∀ u ∈ z.cells.toList, u.oneCell' = true) (hsz : 0 < size)
    (z23 : ∀ w, (Go.sizeOf (ρ.t 23)).run P w = .ok size w) (v23 : ∀ w, (zeroValue (ρ.t 23)).run P w = .ok z w) (blk cap n i j : Nat) (arr : Array Value) (w : World) (hb : Blk w blk arr) (hcap : n ≤ cap) (hsize : cap * size ≤ arr.size) (hm : n ≤ 9223372036854775807) (hij : i < j) (hj : j ≤ n)
    (hone : ∀ k v, k < n * size → arr[k]? = some v → v.oneCell' = true) :
    Calls P (ρ.f 45) #[.slice (some ⟨blk, 0, none⟩) n cap, .int .i64 i, .int .i64 j] w fun e w' => e = .returned (.slice (some ⟨blk, 0, none⟩) (n - (j - i)) cap) ∧
      w' = (w.drew.setCells blk (i * size) ((arr.toList.take (n * size)).drop (j * size))).setCells blk ((i + (n - j)) * size) (Builtin.zeroCells z.cells (j - i)).toList := by
  have mixed := L.mixed; have t0 := L.t0; have a0 := L.a0; have z0 := L.z0; have v0 := L.v0; have t3 := L.t3; have a3 := L.a3; have z3 := L.z3; have v3 := L.v3; have t4 := L.t4; have a4 := L.a4; have z4 := L.z4; have v4 := L.v4; have t22 := L.t22; have a22 := L.a22; have z22 := L.z22; have v22 := L.v22
  obtain ⟨news, hnews⟩ : ∃ news, news = (arr.toList.take (n * size)).drop (j * size) := ⟨_, rfl⟩
  have hns : n * size ≤ arr.size := Nat.le_trans (Nat.mul_le_mul_right _ hcap) hsize
  have hjs : j * size ≤ n * size := Nat.mul_le_mul_right _ hj
  have his : i * size ≤ j * size := Nat.mul_le_mul_right _ (by omega)
  have hlen : news.length = (n - j) * size := by rw [hnews]; simp [Nat.sub_mul]; omega
  have hget : ∀ t u, news[t]? = some u → arr[j * size + t]? = some u ∧ j * size + t < n * size := by
    intro t u hu
    have ht : t < news.length := (List.getElem?_eq_some_iff.1 hu).1
    rw [hlen, Nat.sub_mul] at ht
    rw [hnews, List.getElem?_drop, List.getElem?_take_of_lt (by omega)] at hu
    exact ⟨by simpa using hu, by omega⟩
  have hfr : ∀ k, w.frozen? ⟨blk, k, none⟩ = false := fun k => by
    obtain ⟨T, hT⟩ := hb
    simp [World.frozen?, hT]
  obtain ⟨A, hA, hsrc⟩ : ∃ A : Addr, (if cap = j then some (⟨blk, 0, none⟩ : Addr) else some ⟨blk, j * size, none⟩) = some A ∧ Hid (∀ t u, news[t]? = some u → w.drew.cell? (A.add t) = some u) := by
    by_cases h : cap = j
    · refine ⟨⟨blk, 0, none⟩, by simp [h], fun t u hu => ?_⟩
      have h0 : news.length = 0 := by rw [hlen, show n - j = 0 by omega, Nat.zero_mul]
      rw [List.length_eq_zero_iff.1 h0] at hu
      simp at hu
    · refine ⟨⟨blk, j * size, none⟩, by simp [h], fun t u hu => ?_⟩
      rw [Addr.add_lit]
      show w.cell? _ = some u
      rw [qr hb]; exact (hget t u hu).1
  have s1 : Hid (news.length = (n - j) * size) := hlen
  have s2 : Hid (∀ u ∈ news, u.oneCell' = true) := by
    intro u hu
    obtain ⟨t, ht⟩ := List.getElem?_of_mem hu
    obtain ⟨h3, h4⟩ := hget t u ht
    exact hone _ u h4 h3
  have hle : 0 + i * size + news.length ≤ arr.size := by rw [hlen, Nat.sub_mul]; omega
  have s3 : Hid (∀ t, t < news.length → (w.drew.cell? ⟨blk, 0 + i * size + t, none⟩).isSome = true ∧ w.drew.frozen? ⟨blk, 0 + i * size + t, none⟩ = false) := by
    intro t ht
    refine ⟨?_, hfr _⟩
    show (w.cell? _).isSome = true
    rw [qr hb]
    rw [Array.getElem?_eq_getElem (show 0 + i * size + t < arr.size by omega)]; rfl
  obtain ⟨W1, hW1⟩ : ∃ W1, W1 = w.drew.setCells blk (0 + i * size) news := ⟨_, rfl⟩
  have hbd : Blk w.drew blk arr := hb
  obtain ⟨arr1, b1, b2, b3, b4, b5, b6, b7, b8⟩ := qox hbd (0 + i * size) news hle s2
  rw [← hW1] at b1
  have e1 : n - (i + (n - j)) = j - i := by omega
  have e2 : (i + (n - j)) * size + (j - i) * size = n * size := by rw [← Nat.add_mul]; congr 1; omega
  have hcl : ∀ ty, (Builtin.clear_ #[ρ.t 22] ty #[.slice (some ⟨blk, (i + (n - j)) * size, none⟩) (j - i) (cap - (i + (n - j)))]).run P W1 = .ok (.tuple #[]) (W1.setCells blk ((i + (n - j)) * size) (Builtin.zeroCells z.cells (j - i)).toList) :=
    fun ty => q1b W1 _ _ ty z size t22 v23 hzs h1z hsz blk ((i + (n - j)) * size) _ _ (by omega) (fun t ht => by
      rw [qr b1]
      have : (i + (n - j)) * size + t < arr1.size := by rw [b2]; omega
      simp [this]) (fun t ht => by
      obtain ⟨T, hT⟩ := b1
      simp [World.frozen?, hT])
  obtain ⟨Z, hZ⟩ : ∃ Z, Z = (Builtin.zeroCells z.cells (j - i)).toList := ⟨_, rfl⟩
  rw [← hZ] at hcl
  have hZ' : Aside (Z = (Builtin.zeroCells z.cells (j - i)).toList) := hZ
  have hW : Hid (W1 = w.drew.setCells blk (0 + i * size) news) := hW1
  have hic : i ≤ cap := by omega
  have hjc : j ≤ cap := by omega
  have hN : Aside (news = (arr.toList.take (n * size)).drop (j * size)) := hnews
  have hX : Aside (∀ k v, k < n * size → arr[k]? = some v → v.oneCell' = true) := hone
  clear hZ v23 hzs h1z hW1 b1 b2 b3 b4 b5 b6 b7 b8 hget hnews hlen hone hle hb hbd hfr his hjs hns e2
  obtain ⟨_, _, FG⟩ := L.f45
  go_enter FG, SlBodyN.n45_ntmps ρ
  go_wp2_with fail
  go_region_law_o (refine step_append_room rfl (.tmp 22) (.tmp 25) (ρ.t 22) rfl (ρ.t 23) i0 size t22 hi0 hz1 blk 0 i cap (by simp [Act.eval, Act.put]) A (n - j) (cap - j) news (by simp [Act.eval, Act.put]) s1.out hsrc.out s2.out (by omega) s3.out ?_; rw [← hW.out])
  go_wp2
  go_ret
  refine ⟨by rw [show n - (j - i) = i + (n - j) by omega]; rfl, ?_⟩
  rw [← hN.out, ← hZ'.out, hW.out, Nat.zero_add]
theorem qjv {w : World} {b : Nat} {arr : Array Value} (h : Blk w b arr) (k : Nat) : w.frozen? ⟨b, k, none⟩ = false := by
  obtain ⟨T, hT⟩ := h
  simp [World.frozen?, hT]
theorem qmj {w : World} {b : Nat} {arr : Array Value} (h : Blk w b arr) {k : Nat} (hk : k < arr.size) : (w.cell? ⟨b, k, none⟩).isSome = true := by
  rw [qr h, Array.getElem?_eq_getElem hk]; rfl
theorem qjw (w : World) (dT sT ty elem : TypeId) (size : Nat) (b o dLen dCap : Nat) (a : Addr) (sLen sCap : Nat) (cs : List Value)
    (hu : P.underlying dT = some (.slice elem)) (hz : ∀ w, (Go.sizeOf elem).run P w = .ok size w) (hn : cs.length = Nat.min sLen dLen * size)
    (hsrc : ∀ j v, cs[j]? = some v → w.cell? (a.add j) = some v) (hc : ∀ j, j < cs.length → (w.cell? ⟨b, o + j, none⟩).isSome = true) (hf : ∀ j, j < cs.length → w.frozen? ⟨b, o + j, none⟩ = false) (h1 : ∀ v ∈ cs, v.oneCell' = true) :
    (Builtin.copy_ #[dT, sT] ty #[.slice (some ⟨b, o, none⟩) dLen dCap, .slice (some a) sLen sCap]).run P w = .ok (goInt (Nat.min sLen dLen)) (w.setCells b o cs) := by
  have hl := run_firstCells_some (P := P) (w := w) size (Nat.min sLen dLen) a sLen sCap cs hn hsrc
  have hst := run_storeCells_cells (P := P) b o cs 0 w (by simpa using hc) (by simpa using hf) h1
  simp only [Nat.add_zero] at hst
  simp only [Builtin.copy_]
  simp [run_underlying hu, Builtin.lenOf, hz, hl, hst]
structure Ins (P : Program) (ρ : Go.Shelf.Ren) (size : Nat) : Prop where
  mixed : P.follows .mixedOrders = true
  f22 : ∃ nm : String, (nm == "runtime.NumGoroutine") = false ∧ P.funcs[ρ.f 22]? = some { Body2.n22 ρ with name := nm }
  f29 : ∃ fo, P.funcs[ρ.f 29]? = some fo ∧ (fo.name == "runtime.NumGoroutine") = false ∧ fo.body.isNone = true ∧ Extern.findNext fo = none ∧ Extern.find fo = some (Extern.SlicesOverlaps.overlaps #[(ρ.t 24), (ρ.t 24)] #[(ρ.t 4)])
  t0 : P.underlying (ρ.t 0) = some (TypeDesc.tuple #[])
  a0 : ∀ w, (Go.isAgg (ρ.t 0)).run P w = .ok false w
  z0 : ∀ w, (Go.sizeOf (ρ.t 0)).run P w = .ok 1 w
  v0 : ∀ w, (zeroValue (ρ.t 0)).run P w = .ok (Value.tuple #[]) w
  t3 : P.underlying (ρ.t 3) = some (TypeDesc.int IntKind.i64)
  a3 : ∀ w, (Go.isAgg (ρ.t 3)).run P w = .ok false w
  z3 : ∀ w, (Go.sizeOf (ρ.t 3)).run P w = .ok 1 w
  v3 : ∀ w, (zeroValue (ρ.t 3)).run P w = .ok (Value.int IntKind.i64 0) w
  t4 : P.underlying (ρ.t 4) = some (TypeDesc.bool)
  a4 : ∀ w, (Go.isAgg (ρ.t 4)).run P w = .ok false w
  z4 : ∀ w, (Go.sizeOf (ρ.t 4)).run P w = .ok 1 w
  v4 : ∀ w, (zeroValue (ρ.t 4)).run P w = .ok (Value.bool false) w
  z9 : ∀ w, (Go.sizeOf (ρ.t 9)).run P w = .ok size w
  t24 : P.underlying (ρ.t 24) = some (TypeDesc.slice (ρ.t 9))
  a24 : ∀ w, (Go.isAgg (ρ.t 24)).run P w = .ok false w
  z24 : ∀ w, (Go.sizeOf (ρ.t 24)).run P w = .ok 1 w
  v24 : ∀ w, (zeroValue (ρ.t 24)).run P w = .ok (Value.slice none 0 0) w
theorem qoy {arr : Array Value} {p q size : Nat} {cs : List Value} (hcs : cs = (arr.toList.take q).drop p) (hq : q ≤ arr.size) (hpq : p ≤ q) : cs.length = q - p ∧ ∀ t u, cs[t]? = some u → arr[p + t]? = some u ∧ p + t < q := by
  have hl : cs.length = q - p := by rw [hcs]; simp; omega
  refine ⟨hl, fun t u hu => ?_⟩
  have ht : t < cs.length := (List.getElem?_eq_some_iff.1 hu).1
  rw [hl] at ht
  rw [hcs, List.getElem?_drop, List.getElem?_take_of_lt (by omega)] at hu
  exact ⟨by simpa using hu, by omega⟩
set_option maxHeartbeats 4000000 in
set_option maxRecDepth 1000000 in
theorem insert_shift {size : Nat} (L : Ins P ρ size) (hsz : 0 < size) (b n c i vb m vc : Nat) (arr varr : Array Value) (w : World) (hi : i < n) (hm : 0 < m) (hroom : n + m ≤ c) (hc63 : n + m ≤ 9223372036854775807) (hvb : vb ≠ b)
    (hb : Blk w b arr) (hsize : c * size ≤ arr.size) (hbv : Blk w vb varr) (hvs : m * size ≤ varr.size) (hone : ∀ k v, k < n * size → arr[k]? = some v → v.oneCell' = true) (honev : ∀ k v, k < m * size → varr[k]? = some v → v.oneCell' = true) :
    Calls P (ρ.f 22) #[.slice (some ⟨b, 0, none⟩) n c, .int .i64 i, .slice (some ⟨vb, 0, none⟩) m vc] w fun e w' =>
      e = .returned (.slice (some ⟨b, 0, none⟩) (n + m) c) ∧ w' = (w.drew.setCells b ((i + m) * size) ((arr.toList.take (n * size)).drop (i * size))).setCells b (i * size) ((varr.toList.take (m * size)).drop 0) := by
  have t0 := L.t0; have a0 := L.a0; have z0 := L.z0; have v0 := L.v0; have t3 := L.t3; have a3 := L.a3; have z3 := L.z3; have v3 := L.v3; have t4 := L.t4; have a4 := L.a4; have z4 := L.z4; have v4 := L.v4; have z9 := L.z9; have t24 := L.t24; have a24 := L.a24; have z24 := L.z24; have v24 := L.v24
  have u0 := run_underlying L.t0; have u3 := run_underlying L.t3; have u4 := run_underlying L.t4; have u24 := run_underlying L.t24
  have hz1 : ¬ ((m : Int) = 0) := by omega
  have hz2 : ¬ ((i : Int) = (n : Int)) := by omega
  obtain ⟨fo, o1, o2, o3, o4, o5⟩ := L.f29
  obtain ⟨T1, hT1⟩ := hb
  obtain ⟨T2, hT2⟩ := hbv
  have hcm : (n + m) * size ≤ c * size := Nat.mul_le_mul_right _ hroom
  have hns : n * size ≤ arr.size := by have := Nat.mul_le_mul_right size (show n ≤ c by omega); omega
  have hsn : 0 < arr.size := by have := Nat.mul_le_mul_right size (show 1 ≤ n by omega); omega
  have hov : ∀ la ca lb cb oo, (callFunc (ρ.f 29) #[.slice (some ⟨vb, 0, none⟩) la ca, .slice (some ⟨b, oo, none⟩) lb cb]).run P w = .ok (.value (.bool false)) w := fun la ca lb cb oo => by
    rw [run_callFunc_extern o1 o2 o3 o4 o5,
      Lib.run_overlaps_apart w (ρ.t 24) (ρ.t 4) (ρ.t 9) L.t24 size L.z9 ⟨vb, 0, none⟩ ⟨b, oo, none⟩ la ca lb cb hvb T2 T1 varr.size arr.size (by simp [World.shape?, hT2]) (by simp [World.shape?, hT1]) (by omega) (by simp [World.frozen?, hT2]) (by simp [World.frozen?, hT2])]
    rfl
  obtain ⟨cs, hcs⟩ : ∃ cs, cs = (arr.toList.take (n * size)).drop (i * size) := ⟨_, rfl⟩
  obtain ⟨vs, hvsd⟩ : ∃ vs, vs = (varr.toList.take (m * size)).drop 0 := ⟨_, rfl⟩
  have hin' : i * size ≤ n * size := Nat.mul_le_mul_right _ (by omega)
  obtain ⟨cl, cg⟩ := qoy (size := size) hcs hns hin'
  obtain ⟨vl, vg⟩ := qoy (size := size) hvsd hvs (Nat.zero_le _)
  have c1 : ∀ v ∈ cs, v.oneCell' = true := fun v hv => by
    obtain ⟨t, ht⟩ := List.getElem?_of_mem hv
    obtain ⟨h3, h4⟩ := cg t v ht
    exact hone _ v h4 h3
  have v1 : ∀ v ∈ vs, v.oneCell' = true := fun v hv => by
    obtain ⟨t, ht⟩ := List.getElem?_of_mem hv
    obtain ⟨h3, h4⟩ := vg t v ht
    exact honev _ v h4 h3
  have mixed := L.mixed
  have hw1 : IntKind.i64.wrap ((i : Int) + (m : Int)) = (i : Int) + (m : Int) := by rw [IntKind.wrap_i64]; omega
  have hb1 : (0 : Int) ≤ (i : Int) + (m : Int) := by omega
  have hin : i ≤ n := by omega
  have htn : ((i : Int) + (m : Int)).toNat = i + m := by omega
  have hb2 : ¬ (c = i + m) := by omega
  have hb3 : (i : Int) ≤ (n : Int) + (m : Int) := by omega
  have hb4 : ¬ (c = i) := by omega
  have e1 : Nat.min (n + m - i) (n + m - (i + m)) = n - i := by simp only [Nat.min_def]; split <;> omega
  have e2 : Nat.min m (n + m - i) = m := by simp only [Nat.min_def]; split <;> omega
  have e3 : (i + m) * size + (n - i) * size = (n + m) * size := by rw [← Nat.add_mul]; congr 1; omega
  have hbd : Blk w.drew b arr := ⟨T1, hT1⟩
  have cl2 : cs.length = (n - i) * size := by rw [cl, Nat.sub_mul]
  have hle1 : (i + m) * size + cs.length ≤ arr.size := by omega
  have hcp1 : ∀ ty dc sc, (Builtin.copy_ #[(ρ.t 24), (ρ.t 24)] ty #[.slice (some ⟨b, (i + m) * size, none⟩) (n + m - (i + m)) dc, .slice (some ⟨b, i * size, none⟩) (n + m - i) sc]).run P w.drew = .ok (goInt ((n - i : Nat) : Int)) (w.drew.setCells b ((i + m) * size) cs) := fun ty dc sc => by
    have := qjw (P := P) w.drew (ρ.t 24) (ρ.t 24) ty (ρ.t 9) size b ((i + m) * size) (n + m - (i + m)) dc ⟨b, i * size, none⟩ (n + m - i) sc cs L.t24 L.z9 (by rw [e1, cl2])
      (fun j v hj => by rw [Addr.add_lit, qr hbd]; exact (cg j v hj).1)
      (fun j hj => qmj hbd (by omega)) (fun j hj => qjv hbd _) c1
    rw [e1] at this
    exact this
  obtain ⟨arr1, b1, b2, b3, b4, b5, b6, b7, b8⟩ := qox hbd ((i + m) * size) cs hle1 c1
  obtain ⟨W1, hW1⟩ : ∃ W1, W1 = w.drew.setCells b ((i + m) * size) cs := ⟨_, rfl⟩
  rw [← hW1] at hcp1 b1
  have hbv1 : Blk W1 vb varr := by
    rw [hW1]
    exact ⟨T2, (b4 vb hvb).trans hT2⟩
  have vl2 : vs.length = m * size := by rw [vl]; omega
  have e4 : i * size + m * size = (i + m) * size := by rw [← Nat.add_mul]
  have e5 : (i + m) * size ≤ (n + m) * size := Nat.mul_le_mul_right _ (by omega)
  have hcp2 : ∀ (W : World), (∀ x, W.cell? x = W1.cell? x) → (∀ x, W.frozen? x = W1.frozen? x) → ∀ ty dc, (Builtin.copy_ #[(ρ.t 24), (ρ.t 24)] ty #[.slice (some ⟨b, i * size, none⟩) (n + m - i) dc, .slice (some ⟨vb, 0, none⟩) m vc]).run P W = .ok (goInt m) (W.setCells b (i * size) vs) := fun W hWc hWf ty dc => by
    have := qjw (P := P) W (ρ.t 24) (ρ.t 24) ty (ρ.t 9) size b (i * size) (n + m - i) dc ⟨vb, 0, none⟩ m vc vs L.t24 L.z9 (by rw [e2, vl2])
      (fun j v hj => by rw [Addr.add_lit, hWc, qr hbv1]; exact (vg j v hj).1)
      (fun j hj => by rw [hWc]; exact qmj b1 (by omega)) (fun j hj => by rw [hWf]; exact qjv b1 _) v1
    rw [e2] at this
    exact this
  have hC : Aside (cs = (arr.toList.take (n * size)).drop (i * size)) := hcs
  have hV : Aside (vs = (varr.toList.take (m * size)).drop 0) := hvsd
  have hWA : Aside (W1 = w.drew.setCells b ((i + m) * size) cs) := hW1
  have hLA : Aside (Blk W1 b arr1) := b1
  clear hcs hvsd hW1 b1 b2 b3 b4 b5 b6 b7 b8 hbv1 hbd cl cg vl vg c1 v1 cl2 vl2 hle1 e1 e2 e3 e4 e5 hone honev hsize hvs hcm hns hsn hin' hT1 hT2 o1 o2 o3 o4 o5
  obtain ⟨_, _, FG⟩ := L.f22
  go_enter FG, Body2.n22_ntmps ρ
  go_wp2_with (simp only [hov])
  go_region_law_o (refine step_copy_runI rfl _ _ (ρ.t 24) (ρ.t 24) rfl _ _ (by simp [Act.eval, Act.put]) (by simp [Act.eval, Act.put]) (hcp1 _ _ _) ?_)
  go_wp2_with (at_builtin; refine wpList_copy_runI _ rfl _ _ (ρ.t 24) (ρ.t 24) rfl _ _ rfl rfl (hcp2 _ (fun _ => rfl) (fun _ => rfl) _ _) ?_)
  go_ret
  refine ⟨rfl, ?_⟩
  rw [← hC.out, ← hV.out, hWA.out]
set_option maxHeartbeats 4000000 in
set_option maxRecDepth 1000000 in
theorem insert_end {size : Nat} (L : Ins P ρ size) (base : Option Addr) (n c vb m vc : Nat) (w w1 : World) (v1 : Value) (hm : 0 < m) (hnc : n ≤ c) (hc63 : n ≤ 9223372036854775807) (hnil : base = none → n = 0)
    (hrun : (Builtin.append_ #[(ρ.t 24), (ρ.t 24)] (ρ.t 24) #[.slice base n c, .slice (some ⟨vb, 0, none⟩) m vc]).run P w = .ok v1 w1) :
    Calls P (ρ.f 22) #[.slice base n c, .int .i64 n, .slice (some ⟨vb, 0, none⟩) m vc] w fun e w' => e = .returned v1 ∧ w' = w1 := by
  have t0 := L.t0; have a0 := L.a0; have z0 := L.z0; have v0 := L.v0; have t3 := L.t3; have a3 := L.a3; have z3 := L.z3; have v3 := L.v3; have t4 := L.t4; have a4 := L.a4; have z4 := L.z4; have v4 := L.v4; have z9 := L.z9; have t24 := L.t24; have a24 := L.a24; have z24 := L.z24; have v24 := L.v24
  have u0 := run_underlying L.t0; have u3 := run_underlying L.t3; have u4 := run_underlying L.t4; have u24 := run_underlying L.t24
  have mixed := L.mixed
  have hz1 : ¬ ((m : Int) = 0) := by omega
  obtain ⟨_, _, FG⟩ := L.f22
  cases base with
  | none =>
    have hn0 := hnil rfl
    subst hn0
    go_enter FG, Body2.n22_ntmps ρ
    go_wp2_with (at_builtin; refine Lib.wpList_append_run _ rfl _ _ _ _ rfl _ _ rfl rfl _ _ hrun ?_)
    go_ret
    exact ⟨rfl, rfl⟩
  | some ad =>
    go_enter FG, Body2.n22_ntmps ρ
    go_wp2_with (at_builtin; refine Lib.wpList_append_run _ rfl _ _ _ _ rfl _ _ rfl rfl _ _ hrun ?_)
    all_goals (go_ret; exact ⟨rfl, rfl⟩)
set_option maxHeartbeats 4000000 in
set_option maxRecDepth 1000000 in
theorem insert_grow {size : Nat} (L : Ins P ρ size) (hsz : 0 < size) (i0 : TypeInfo) (z : Value) (hi0 : P.info? (ρ.t 9) = some i0) (hz0 : i0.zero = some z) (hzs : i0.size = size) (hzc : z.cells.size = size) (b n c i vb m vc : Nat) (arr varr : Array Value) (w : World) (hi : i < n) (hm : 0 < m) (hnc : n ≤ c) (hroom : c < n + m)
    (hbig : (n + m) * i0.bytes ≤ 140737488355328) (h63 : n + m ≤ 9223372036854775807) (hvb : vb ≠ b)
    (hb : Blk w b arr) (hsize : n * size ≤ arr.size) (hbv : Blk w vb varr) (hvs : m * size ≤ varr.size) (hone : ∀ k v, k < n * size → arr[k]? = some v → v.oneCell' = true) (honev : ∀ k v, k < m * size → varr[k]? = some v → v.oneCell' = true) :
    Calls P (ρ.f 22) #[.slice (some ⟨b, 0, none⟩) n c, .int .i64 i, .slice (some ⟨vb, 0, none⟩) m vc] w fun e w' =>
      ∃ (G : Nat) (ROW : Array Value), n + m ≤ G ∧ G ≤ 9223372036854775807 ∧ ROW.size = G * size ∧ (∀ k, k < i * size → ROW[k]? = arr[k]?) ∧ e = .returned (.slice (some ⟨w.heap.size, 0, none⟩) (n + m) G) ∧
        w' = (((w.alloc (.cells ROW (ρ.t 9))).drew.setCells w.heap.size (i * size) ((varr.toList.take (m * size)).drop 0)).drew).setCells w.heap.size ((i + m) * size) ((arr.toList.take (n * size)).drop (i * size)) := by
  have t0 := L.t0; have a0 := L.a0; have z0 := L.z0; have v0 := L.v0; have t3 := L.t3; have a3 := L.a3; have z3 := L.z3; have v3 := L.v3; have t4 := L.t4; have a4 := L.a4; have z4 := L.z4; have v4 := L.v4; have z9 := L.z9; have t24 := L.t24; have a24 := L.a24; have z24 := L.z24; have v24 := L.v24
  have u0 := run_underlying L.t0; have u3 := run_underlying L.t3; have u4 := run_underlying L.t4; have u24 := run_underlying L.t24
  have mixed := L.mixed
  have hz1 : ¬ ((m : Int) = 0) := by omega
  have hz2 : ¬ ((i : Int) = (n : Int)) := by omega
  have hz3 : (c : Int) < (n : Int) + (m : Int) := by omega
  have hbw := qf9 hb
  have hvw := qf9 hbv
  have hkk : (n : Int) + (m : Int) - (i : Int) = ((n + m - i : Nat) : Int) := by omega
  have hik : i + (n + m - i) = n + m := by omega
  obtain ⟨cs, hcs⟩ : ∃ cs, cs = (arr.toList.take (n * size)).drop (i * size) := ⟨_, rfl⟩
  obtain ⟨vs, hvsd⟩ : ∃ vs, vs = (varr.toList.take (m * size)).drop 0 := ⟨_, rfl⟩
  obtain ⟨olds, holds⟩ : ∃ olds, olds = (arr.toList.take (i * size)).drop 0 := ⟨_, rfl⟩
  have hin' : i * size ≤ n * size := Nat.mul_le_mul_right _ (by omega)
  obtain ⟨cl, cg⟩ := qoy (size := size) hcs hsize hin'
  obtain ⟨vl, vg⟩ := qoy (size := size) hvsd hvs (Nat.zero_le _)
  obtain ⟨ol, og⟩ := qoy (size := size) holds (by omega) (Nat.zero_le _)
  have cl2 : cs.length = (n - i) * size := by rw [cl, Nat.sub_mul]
  have vl2 : vs.length = m * size := by rw [vl]; omega
  have ol2 : olds.length = i * size := by rw [ol]; omega
  have c1 : ∀ v ∈ cs, v.oneCell' = true := fun v hv => by
    obtain ⟨t, ht⟩ := List.getElem?_of_mem hv
    obtain ⟨h3, h4⟩ := cg t v ht
    exact hone _ v h4 h3
  have v1 : ∀ v ∈ vs, v.oneCell' = true := fun v hv => by
    obtain ⟨t, ht⟩ := List.getElem?_of_mem hv
    obtain ⟨h3, h4⟩ := vg t v ht
    exact honev _ v h4 h3
  have hbd : Blk w.drew b arr := hb
  have hold : (Builtin.firstCells i0.size i (.slice (some ⟨b, 0, none⟩) i c)).run P w.drew = .ok olds.toArray w.drew := by
    rw [hzs]
    exact run_firstCells_some (w := w.drew) size i ⟨b, 0, none⟩ i c olds ol2 (fun j v hj => by rw [Addr.add_lit, qr hbd]; exact (og j v hj).1)
  have hrz : ∀ ty, (Builtin.append_ #[(ρ.t 24), (ρ.t 3)] ty #[.slice (some ⟨b, 0, none⟩) i c, .int .i64 ((n : Int) + (m : Int) - (i : Int))]).run P w =
      .ok (.slice (some ⟨w.heap.size, 0, none⟩) (n + m) (grownCap w (n + m) c (ρ.t 9))) (w.drew.alloc (.cells (olds.toArray ++ Builtin.zeroCells z.cells (n + m - i) ++ Builtin.zeroCells z.cells (grownCap w (n + m) c (ρ.t 9) - (n + m))) (ρ.t 9))) := fun ty => by
    have hle : (n + m - i) * i0.bytes ≤ (n + m) * i0.bytes := Nat.mul_le_mul_right _ (by omega)
    have h := Lib.run_append_grow_zeros w (ρ.t 24) (ρ.t 3) ty (ρ.t 9) i0 z .i64 .i64 L.t24 L.t3 hi0 hz0 (some ⟨b, 0, none⟩) i c olds hold (n + m - i) (by omega) (by omega) (by omega) (by omega) (by omega) (by rw [hik]; exact growslice_fits hroom hbig)
    rw [hik] at h
    rw [hkk]
    exact h
  obtain ⟨G, hG⟩ : ∃ G, G = grownCap w (n + m) c (ρ.t 9) := ⟨_, rfl⟩
  obtain ⟨ROW, hROW⟩ : ∃ ROW : Array Value, ROW = olds.toArray ++ Builtin.zeroCells z.cells (n + m - i) ++ Builtin.zeroCells z.cells (G - (n + m)) := ⟨_, rfl⟩
  rw [← hG] at hrz
  rw [← hROW] at hrz
  have hGn : n + m ≤ G := by rw [hG]; exact grownCap_ge w _ _ _
  have hG63 : G ≤ 9223372036854775807 := by
    have := grownCap_le_maxLen w (n + m) c (ρ.t 9) (by unfold maxLen; omega)
    rw [← hG] at this
    unfold maxLen at this
    omega
  have hRs : ROW.size = G * size := by
    rw [hROW]
    simp only [Array.size_append, List.size_toArray, ol2, Builtin.zeroCells, Array.size_map, Array.size_range, hzc]
    rw [← Nat.add_mul, ← Nat.add_mul]
    congr 1; omega
  have hRo : ∀ k, k < i * size → ROW[k]? = arr[k]? := fun k hk => by
    rw [hROW, Array.append_assoc, Array.getElem?_append_left (by simp [ol2]; exact hk)]
    have : olds[k]? = some (olds[k]'(by omega)) := by simp
    have h2 := (og k _ this).1
    simp only [Nat.zero_add] at h2
    rw [h2]
    simp
  have hGm : (n + m) * size ≤ ROW.size := by rw [hRs]; exact Nat.mul_le_mul_right _ hGn
  obtain ⟨W1, hW1⟩ : ∃ W1, W1 = w.drew.alloc (.cells ROW (ρ.t 9)) := ⟨_, rfl⟩
  rw [← hW1] at hrz
  have hNb : Blk W1 w.heap.size ROW := by rw [hW1]; exact qpq w.drew ROW _
  have hVb : Blk W1 vb varr := by
    obtain ⟨T, hT⟩ := hbv
    exact ⟨T, by rw [hW1]; exact (qe3 w.drew _ hvw).trans hT⟩
  have hBb : Blk W1 b arr := by
    obtain ⟨T, hT⟩ := hb
    exact ⟨T, by rw [hW1]; exact (qe3 w.drew _ hbw).trans hT⟩
  have e1 : Nat.min m (n + m - i) = m := by simp only [Nat.min_def]; split <;> omega
  have e2 : Nat.min (n - i) (n + m - (i + m)) = n - i := by simp only [Nat.min_def]; split <;> omega
  have e3 : (i + m) * size + (n - i) * size = (n + m) * size := by rw [← Nat.add_mul]; congr 1; omega
  have e4 : i * size + m * size = (i + m) * size := by rw [← Nat.add_mul]
  have e5 : (i + m) * size ≤ (n + m) * size := Nat.mul_le_mul_right _ (by omega)
  have hcpA : ∀ (W : World), (∀ x, W.cell? x = W1.cell? x) → (∀ x, W.frozen? x = W1.frozen? x) → ∀ ty dc, (Builtin.copy_ #[(ρ.t 24), (ρ.t 24)] ty #[.slice (some ⟨w.heap.size, i * size, none⟩) (n + m - i) dc, .slice (some ⟨vb, 0, none⟩) m vc]).run P W = .ok (goInt m) (W.setCells w.heap.size (i * size) vs) := fun W hWc hWf ty dc => by
    have := qjw (P := P) W (ρ.t 24) (ρ.t 24) ty (ρ.t 9) size w.heap.size (i * size) (n + m - i) dc ⟨vb, 0, none⟩ m vc vs L.t24 L.z9 (by rw [e1, vl2])
      (fun j v hj => by rw [Addr.add_lit, hWc, qr hVb]; exact (vg j v hj).1)
      (fun j hj => by rw [hWc]; exact qmj hNb (by omega)) (fun j hj => by rw [hWf]; exact qjv hNb _) v1
    rw [e1] at this
    exact this
  obtain ⟨row2, r1, r2, r3, r4, r5, r6, r7, r8⟩ := qox hNb (i * size) vs (by omega) v1
  have hBb2 : Blk (W1.setCells w.heap.size (i * size) vs) b arr := by
    obtain ⟨T, hT⟩ := hBb
    exact ⟨T, (r4 b (by omega)).trans hT⟩
  have hcpB : ∀ (W : World), (∀ x, W.cell? x = (W1.setCells w.heap.size (i * size) vs).cell? x) → (∀ x, W.frozen? x = (W1.setCells w.heap.size (i * size) vs).frozen? x) → ∀ ty dc sc, (Builtin.copy_ #[(ρ.t 24), (ρ.t 24)] ty #[.slice (some ⟨w.heap.size, (i + m) * size, none⟩) (n + m - (i + m)) dc, .slice (some ⟨b, i * size, none⟩) (n - i) sc]).run P W = .ok (goInt ((n - i : Nat) : Int)) (W.setCells w.heap.size ((i + m) * size) cs) := fun W hWc hWf ty dc sc => by
    have := qjw (P := P) W (ρ.t 24) (ρ.t 24) ty (ρ.t 9) size w.heap.size ((i + m) * size) (n + m - (i + m)) dc ⟨b, i * size, none⟩ (n - i) sc cs L.t24 L.z9 (by rw [e2, cl2])
      (fun j v hj => by rw [Addr.add_lit, hWc, qr hBb2]; exact (cg j v hj).1)
      (fun j hj => by rw [hWc]; exact qmj r1 (by omega)) (fun j hj => by rw [hWf]; exact qjv r1 _) c1
    rw [e2] at this
    exact this
  have hGi : ¬ (G = i) := by omega
  have hGim : ¬ (G = i + m) := by omega
  have hci : ¬ (c = i) := by omega
  have hC : Aside (cs = (arr.toList.take (n * size)).drop (i * size)) := hcs
  have hV : Aside (vs = (varr.toList.take (m * size)).drop 0) := hvsd
  have hRA : Aside (ROW.size = G * size ∧ ∀ k, k < i * size → ROW[k]? = arr[k]?) := ⟨hRs, hRo⟩
  subst hW1
  have hE1 : ∀ x, ((w.alloc (.cells ROW (ρ.t 9))).drew).cell? x = (w.drew.alloc (.cells ROW (ρ.t 9))).cell? x := fun x => rfl
  have hE2 : ∀ x, ((w.alloc (.cells ROW (ρ.t 9))).drew).frozen? x = (w.drew.alloc (.cells ROW (ρ.t 9))).frozen? x := fun x => rfl
  have hF1 : ∀ x, (((w.alloc (.cells ROW (ρ.t 9))).drew.setCells w.heap.size (i * size) vs).drew).cell? x = ((w.drew.alloc (.cells ROW (ρ.t 9))).setCells w.heap.size (i * size) vs).cell? x := fun x => rfl
  have hF2 : ∀ x, (((w.alloc (.cells ROW (ρ.t 9))).drew.setCells w.heap.size (i * size) vs).drew).frozen? x = ((w.drew.alloc (.cells ROW (ρ.t 9))).setCells w.heap.size (i * size) vs).frozen? x := fun x => rfl
  have hw1 : IntKind.i64.wrap ((i : Int) + (m : Int)) = (i : Int) + (m : Int) := by rw [IntKind.wrap_i64]; omega
  have hb1 : (0 : Int) ≤ (i : Int) + (m : Int) := by omega
  have hin : i ≤ n := by omega
  have htn : ((i : Int) + (m : Int)).toNat = i + m := by omega
  have hb3 : (i : Int) ≤ (n : Int) := by omega
  clear hkk hik hold hROW hG hRs hRo hcs hvsd holds cl cg vl vg ol og cl2 vl2 ol2 c1 v1 hbd hGm hNb hVb hBb e1 e2 e3 e4 e5 r1 r2 r3 r4 r5 r6 r7 r8 hBb2 hone honev hsize hvs hb hbv hin' hzc hzs hz0 hi0
  obtain ⟨_, _, FG⟩ := L.f22
  go_enter FG, Body2.n22_ntmps ρ
  go_wp2_with (first
    | (at_builtin; refine Lib.wpList_append_run _ rfl _ _ _ _ rfl _ _ rfl rfl _ _ (hrz _) ?_)
    | (at_builtin; refine wpList_copy_runI _ rfl _ _ (ρ.t 24) (ρ.t 24) rfl _ _ rfl rfl (hcpA _ hE1 hE2 _ _) ?_)
    | (at_builtin; refine wpList_copy_runI _ rfl _ _ (ρ.t 24) (ρ.t 24) rfl _ _ rfl rfl (hcpB _ (fun _ => rfl) (fun _ => rfl) _ _ _) ?_))
  go_region_law_o (refine step_copy_runI rfl _ _ (ρ.t 24) (ρ.t 24) rfl (.slice (some ⟨w.heap.size, (i + m) * size, none⟩) (n + m - (i + m)) (G - (i + m))) (.slice (some ⟨b, i * size, none⟩) (n - i) (c - i)) (by simp [Act.eval, Act.put]) (by simp [Act.eval, Act.put]) (hcpB _ hF1 hF2 (ρ.t 3) (G - (i + m)) (c - i)) ?_)
  go_wp2
  go_ret
  refine ⟨G, ROW, hGn, hG63, hRA.out.1, hRA.out.2, rfl, ?_⟩
  rw [← hC.out, ← hV.out]
end
end Go.Pev
/- slices.Delete, slices.Insert: contracts. -/
namespace Go.Pev
open Go Go.Proofs Go.RowKit Go.Shelf Go.Lib
set_option linter.unusedVariables false
set_option linter.unusedSimpArgs false
section
variable {R : Type} {P : Program} {T : Tab} {ρ : Go.Shelf.Ren} {g : Gh} {m : Mem} {w : World}
theorem OK.blkLt (hok : OK g m w) {r : Nat} {ob : Ob} {b : Nat} (hs : m.s r = some ob) (hb : ob.blk g r = some b) : b < w.heap.size := by
  have := hok.ob r ob hs
  cases ob with
  | box wf cs =>
    obtain ⟨arr, h1, _⟩ := this
    simp [Ob.blk] at hb; subst hb; exact qf9 h1
  | arr wf e xs =>
    rcases this with ⟨h1, _⟩ | ⟨h1, arr, h2, _⟩
    · simp [Ob.blk, h1] at hb
    · simp [Ob.blk, h1] at hb; subst hb; exact qf9 h2
  | map es =>
    obtain ⟨arr, cl, h1, _⟩ := this
    simp [Ob.blk] at hb; subst hb; exact (Array.getElem?_eq_some_iff.1 h1).1
theorem OK.swap (hok : OK g m w) {w' : World} {r c2 e b2 : Nat} {xs ys : List AV} {arr2 : Array Value} (hs : m.s r = some (.arr true e xs)) (hn : (g.ja r).nil = false) (hb2 : b2 = (g.ja r).b ∨ w.heap.size ≤ b2) (hblk : Blk w' b2 arr2)
    (hc : ys.length ≤ c2) (hsz : c2 * e ≤ arr2.size) (he : ∀ (i : Nat) (x : AV), ys[i]? = some x → x.cells.length = e) (hl : ∀ (i : Nat) (x : AV) (k : Nat) (y : AV), ys[i]? = some x → x.cells[k]? = some y → y.leaf = true)
    (hv : ∀ (i : Nat) (x : AV) (k : Nat) (y : AV) (v : Value), ys[i]? = some x → x.cells[k]? = some y → arr2[i * e + k]? = some v → CRel g.I w y v)
    (hfr : ∀ b', b' < w.heap.size → b' ≠ (g.ja r).b → w'.heap[b']? = w.heap[b']?) (hsize : w.heap.size ≤ w'.heap.size) (hos : w'.os = w.os) (htape : w'.tape = w.tape) (hout : w'.output = w.output) :
    ∃ g', OK g' ((m.del r).new (.arr true e ys)) w' ∧ Ext g m w g' ((m.del r).new (.arr true e ys)) w' ∧ VRel g' ((m.del r).new (.arr true e ys)) w' (.own m.n ys.length) (.slice (some ⟨b2, 0, none⟩) ys.length c2) := by
  have hbr : (Ob.arr true e xs).blk g r = some (g.ja r).b := by simp [Ob.blk, hn]
  have hrn := hok.lt r _ hs
  obtain ⟨arr0, q1, q2, q3, q4, q5, q6, q7⟩ : ∃ arr, Blk w (g.ja r).b arr ∧ xs.length ≤ (g.ja r).c ∧ (g.ja r).c * e ≤ arr.size ∧ (∀ (i : Nat) (x : AV), xs[i]? = some x → x.cells.length = e) ∧ (∀ (i : Nat) (x : AV) (k : Nat) (y : AV), xs[i]? = some x → x.cells[k]? = some y → y.leaf = true) ∧
      (∀ (i : Nat) (x : AV) (k : Nat) (y : AV) (v : Value), xs[i]? = some x → x.cells[k]? = some y → arr[i * e + k]? = some v → CRel g.I w y v) ∧ (∀ k, g.I (g.ja r).b k ↔ (true = false ∧ k < xs.length * e)) := by
    rcases hok.ob r _ hs with ⟨h, _⟩ | ⟨_, h⟩
    · rw [hn] at h; cases h
    · exact h
  have hnoI : ∀ k, ¬ g.I (g.ja r).b k := fun k hk => by have := ((q7 k).1 hk).1; cases this
  have hcell : ∀ b k, g.I b k → w'.cell? ⟨b, k, none⟩ = w.cell? ⟨b, k, none⟩ := fun b k hk =>
    qbj (hfr b (hok.lt_of_I hk) (fun e => hnoI k (e ▸ hk))) k
  have hms : ∀ r', ((m.del r).new (.arr true e ys)).s r' = if r' = m.n then some (.arr true e ys) else if r' = r then none else m.s r' := fun r' => rfl
  have hmn : ((m.del r).new (.arr true e ys)).n = m.n + 1 := rfl
  have hold : ∀ (r' : Nat) (ob : Ob), ((m.del r).new (.arr true e ys)).s r' = some ob → r' ≠ m.n → r' ≠ r ∧ m.s r' = some ob := fun r' ob h hne => by
    rw [hms, if_neg hne] at h
    split at h
    · cases h
    · rename_i h1; exact ⟨h1, h⟩
  have hja : ∀ r', r' ≠ m.n → (g.adda m.n ⟨b2, c2, false⟩).ja r' = g.ja r' := fun r' h => by simp [Gh.adda, h]
  have hjn : (g.adda m.n ⟨b2, c2, false⟩).ja m.n = ⟨b2, c2, false⟩ := by simp [Gh.adda]
  have hx : VExt g m w (g.adda m.n ⟨b2, c2, false⟩) ((m.del r).new (.arr true e ys)) w' := by
    refine ⟨fun b k hk => ⟨hk, hcell b k hk⟩, fun _ _ => rfl, fun r' hr' wf' e' xs' h => ?_, by rw [hmn]; omega⟩
    obtain ⟨_, h2⟩ := hold r' _ h (by omega)
    exact ⟨wf', e', xs', h2, rfl, Nat.le_refl _, fun _ => hja r' (by omega)⟩
  have hblk' : ∀ (r' : Nat) (ob : Ob), r' ≠ m.n → ob.blk (g.adda m.n ⟨b2, c2, false⟩) r' = ob.blk g r' := fun r' ob h => by
    cases ob <;> simp only [Ob.blk, hja r' h] <;> rfl
  have hnew : ∀ ob, ((m.del r).new (.arr true e ys)).s m.n = some ob → ob = .arr true e ys := fun ob h => by
    rw [hms, if_pos rfl] at h; exact (Option.some.inj h).symm
  have hblkn : (Ob.arr true e ys).blk (g.adda m.n ⟨b2, c2, false⟩) m.n = some b2 := by simp [Ob.blk, hjn]
  have hapart : ∀ (r' : Nat) (ob : Ob), r' ≠ r → m.s r' = some ob → ob.blk g r' ≠ some b2 := fun r' ob hne h hb => by
    rcases hb2 with e1 | e1
    · exact hne (hok.ne r' r ob _ b2 h hs hb (by rw [hbr, e1]))
    · have := hok.blkLt h hb; omega
  have htb : qik (g.adda m.n ⟨b2, c2, false⟩) ((m.del r).new (.arr true e ys)) w' :=
    hok.tb.go (fun _ _ hk => hk) (fun b hb hno => hfr b hb (fun e1 => hno r _ hs (by rw [hbr, e1]))) fun r' ob b h hb => by
      by_cases hr' : r' = m.n
      · subst hr'
        have := hnew ob h
        subst this
        rw [hblkn] at hb
        cases hb
        rcases hb2 with e1 | e1
        · exact .inr ⟨r, _, hs, by rw [hbr, e1]⟩
        · exact .inl e1
      · rw [hblk' r' ob hr'] at hb
        exact .inr ⟨r', ob, (hold r' ob h hr').2, hb⟩
  have hOK : OK (g.adda m.n ⟨b2, c2, false⟩) ((m.del r).new (.arr true e ys)) w' := by
    refine ⟨fun r' ob h => ?_, fun r' ob h => ?_, fun r1 r2 ob1 ob2 b h1 h2 h3 h4 => ?_, fun b k hk => ?_, htb⟩
    · by_cases hr' : r' = m.n
      · rw [hmn]; omega
      · have := hok.lt r' ob (hold r' ob h hr').2; rw [hmn]; omega
    · by_cases hr' : r' = m.n
      · subst hr'
        have := hnew ob h
        subst this
        refine .inr ⟨by rw [hjn], arr2, by rw [hjn]; exact hblk, by rw [hjn]; exact hc, by rw [hjn]; exact hsz, he, hl, fun i x k y v h1 h2 h3 => (hv i x k y v h1 h2 h3).mono hx.im, fun k => ⟨fun hk => ?_, fun hk => by simp at hk⟩⟩
        rw [hjn] at hk
        exfalso
        rcases hb2 with e1 | e1
        · exact hnoI k (by rw [← e1]; exact hk)
        · have : b2 < w.heap.size := hok.lt_of_I (k := k) hk
          omega
      · obtain ⟨h1, h2⟩ := hold r' ob h hr'
        exact (hok.ob r' ob h2).keep hx (fun b hb => hfr b (hok.blkLt h2 hb) (fun e1 => h1 (hok.ne r' r ob _ b h2 hs hb (by rw [hbr, e1])))) rfl (hja r' hr') (fun _ _ _ => Iff.rfl)
    · by_cases e1 : r1 = m.n <;> by_cases e2 : r2 = m.n
      · omega
      · subst e1
        have := hnew ob1 h1
        subst this
        rw [hblkn] at h3
        cases h3
        obtain ⟨k1, k2⟩ := hold r2 ob2 h2 e2
        rw [hblk' r2 ob2 e2] at h4
        exact absurd h4 (hapart r2 ob2 k1 k2)
      · subst e2
        have := hnew ob2 h2
        subst this
        rw [hblkn] at h4
        cases h4
        obtain ⟨k1, k2⟩ := hold r1 ob1 h1 e1
        rw [hblk' r1 ob1 e1] at h3
        exact absurd h3 (hapart r1 ob1 k1 k2)
      · rw [hblk' r1 ob1 e1] at h3
        rw [hblk' r2 ob2 e2] at h4
        exact hok.ne r1 r2 ob1 ob2 b (hold r1 ob1 h1 e1).2 (hold r2 ob2 h2 e2).2 h3 h4
    · obtain ⟨v, hv⟩ := hok.im b k hk
      exact ⟨v, (hcell b k hk).trans hv⟩
  refine ⟨_, hOK, ⟨hx.im, hx.jb, hx.ja, hx.n, fun b hb hno => hfr b hb (fun e1 => hno r _ hs (by rw [hbr, e1])), fun b k hk => .inl hk, fun r' ob b h hb => ?_, hsize, hos, htape, hout⟩, ?_⟩
  · by_cases hr' : r' = m.n
    · subst hr'
      have := hnew ob h
      subst this
      rw [hblkn] at hb
      cases hb
      rcases hb2 with e1 | e1
      · exact .inr ⟨r, _, hs, by rw [hbr, e1]⟩
      · exact .inl e1
    · rw [hblk' r' ob hr'] at hb
      exact .inr ⟨r', ob, (hold r' ob h hr').2, hb⟩
  · exact .own _ _ _ _ (by rw [hmn]; omega) (fun wf' e' xs' h => by
      have := hnew _ h
      cases this
      exact ⟨Nat.le_refl _, fun _ => by rw [hjn]; simp [Bk.val]⟩)
theorem qbaw (hok : OK g m w) {r n e : Nat} {wf : Bool} {xs : List AV} {v : Value} (hs : m.s r = some (.arr wf e xs)) (hn : xs.length = n) (hv : VRel g m w (.own r n) v) :
    (v = .slice none 0 0 ∧ n = 0) ∨ ((g.ja r).nil = false ∧ v = .slice (some ⟨(g.ja r).b, 0, none⟩) n (g.ja r).c) := by
  cases hv with
  | c h => cases h
  | own _ _ a c hr h =>
    obtain ⟨_, h2⟩ := h _ _ _ hs
    have h3 := h2 hn
    by_cases hnil : (g.ja r).nil = true
    · simp only [Bk.val, hnil, if_true] at h3
      rcases hok.ob r _ hs with ⟨_, h5⟩ | ⟨h5, _⟩
      · subst h5
        simp at hn
        exact .inl ⟨h3, hn.symm⟩
      · rw [hnil] at h5; cases h5
    · have hf : (g.ja r).nil = false := by simpa using hnil
      simp only [Bk.val, hf, Bool.false_eq_true, if_false] at h3
      exact .inr ⟨hf, h3⟩
end
end Go.Pev
/- Functions that are handed a slice to append to: what is shown of one slice alone holds among whatever other objects. -/
namespace Go.Pev
open Go
set_option linter.unusedVariables false
set_option linter.unusedSimpArgs false
section
variable {P : Program} {f : FuncId} {sz : Nat} {g : Gh} {m : Mem} {w : World}
end
end Go.Pev
/- Short words for printed texts. -/
namespace Go.Pev
open Go
set_option linter.unusedVariables false
set_option linter.unusedSimpArgs false
instance (n : Nat) : OfNat Opd n := ⟨.t n⟩
section
variable {R : Type} {P : Program} {T : Tab} {nt nb : Nat} {KR : Env → Mem → Option R}
def lk (l : List LT) : List CK := l.map CK.l
def entF {R' : Type} (s : Shp) (F : List AV → Option R) (enc : R → AV) (xs : List AV) (K : AV → Option R') : Option R' := chk (fitS s (qdm xs) Mem.none) (oB (F xs) fun r => K (enc r))
theorem qbdz {R' : Type} (hT : T.ok P) (hm : P.follows .mixedOrders = true) {f : FuncId} {fn : Func} {res : List SRes} {sc : SC} (hf : P.funcs[f]? = some fn) (hn : (fn.name == "runtime.NumGoroutine") = false) (hs : cFn T fn = some ⟨nt, res, sc⟩)
    {dec : AV → Option R} {enc : R → AV} (hde : ∀ z r, dec z = some r → z = enc r) {ac : AC R} (hk : ac.ok P T nt 0 (kret res dec)) (her : ac.er = some sc) {s : Shp} {F : List AV → Option R}
    (hF : ∀ xs, den 0 (kret res dec) ac (ql (qfv (qdm xs) Mem.none s.ts)) (qf (qce Mem.none s.os 0)) (kend (kret res dec)) = F xs) : qli P f (entF (R' := R') s F enc) :=
  qbdy hT hm hf hn hs hde hk her s hF fun xs K r h => ⟨(qos h).1, qb5 (qos h).2⟩
def decB (z : AV) : Option Bool := cond (qnv (.one .b) z) (some (aB z)) none
def decI (k : IntKind) (z : AV) : Option Int := cond (qnv (.one (.i k)) z) (some (aI z)) none
def decS (z : AV) : Option (List UInt8) := cond (qnv (.one .s) z) (some (aS z)) none
def decF (w : Bool) (e : Nat) (z : AV) : Option (List AV) := cond (qnv (.one (.fr w e)) z) (some (aL z)) none
def decT (l : List RL) (z : AV) : Option AV := cond (qnv (.st l) z) (some z) none
theorem hdeB (z : AV) (r : Bool) (h : decB z = some r) : z = AV.bool r := by
  obtain ⟨h1, h2⟩ := qg h
  cases h2
  exact (qj6 h1).symm
theorem hdeI {k : IntKind} (z : AV) (r : Int) (h : decI k z = some r) : z = AV.int k r := by
  obtain ⟨h1, h2⟩ := qg h
  cases h2
  exact (qj6 h1).symm
theorem hdeS (z : AV) (r : List UInt8) (h : decS z = some r) : z = AV.str r := by
  obtain ⟨h1, h2⟩ := qg h
  cases h2
  exact (qj6 h1).symm
theorem hdeF {w : Bool} {e : Nat} (z : AV) (r : List AV) (h : decF w e z = some r) : z = AV.fr w e r := by
  obtain ⟨h1, h2⟩ := qg h
  cases h2
  exact (qj6 h1).symm
theorem hdeT {l : List RL} (z : AV) (r : AV) (h : decT l z = some r) : z = qnw (.st l) r := by
  obtain ⟨h1, h2⟩ := qg h
  cases h2
  exact (qj6 h1).symm
def subE (s : Shp) (G : Env → Mem → (Ex → Env → Mem → Option R) → Option R) (t : Env) (m : Mem) (K : Ex → Env → Mem → Option R) : Option R := chk (qs4 s t m) (cond (hdS s t m) (G t m K) none)
theorem qbd0 (hT : T.ok P) (hm : P.follows .mixedOrders = true) {ac : AC R} (hk : ac.ok P T nt nb KR) {sc : SC} (her : ac.er = some sc) {s : Shp} {G : Env → Mem → (Ex → Env → Mem → Option R) → Option R}
    (he : ∀ t m K, den nb KR ac (ql (qfv t m s.ts)) (qf (qce m s.os 0)) K = G t m K) : qwd P T nt nb KR sc (subE s G) :=
  qbdx hT hm hk her s fun t m K => by unfold subE; rw [he]
theorem qbcw (hT : T.ok P) (hm : P.follows .mixedOrders = true) {ac : AC R} (hk : ac.ok P T nt nb KR) {sc : SC} (her : ac.er = some sc) {s : Shp} {G : Env → Mem → (Ex → Env → Mem → Option R) → Option R}
    (he : ∀ t m K, qmi (den nb KR ac) FU (ql (qfv t m s.ts)) (qf (qce m s.os 0)) K = G t m K) : qwd P T nt nb KR (.loop sc) (subE s G) :=
  qbct hT hm hk her s fun t m K => by unfold subE; rw [he]
def refE {R' : Type} (s : Shp) (G : List AV → Mem → (AV → Mem → Option R') → Option R') (xs : List AV) (m : Mem) (K : AV → Mem → Option R') : Option R' := chk (qs4 s (qdm xs) m) (cond (hdS s (qdm xs) m) (G xs m K) none)
theorem qbd1 {R' : Type} (hT : T.ok P) (hm : P.follows .mixedOrders = true) {f : FuncId} {fn : Func} {res : List SRes} {sc : SC} (hf : P.funcs[f]? = some fn) (hn : (fn.name == "runtime.NumGoroutine") = false) (hs : cFn T fn = some ⟨nt, res, sc⟩)
    {ac : (AV → Mem → Option R') → AC R'} (hk : ∀ K, (ac K).ok P T nt nb (qe0 res K)) (her : ∀ K, (ac K).er = some sc) {s : Shp} (hnb : s.os.length = nb)
    {G : List AV → Mem → (AV → Mem → Option R') → Option R'} (he : ∀ xs m K, den nb (qe0 res K) (ac K) (ql (qfv (qdm xs) m s.ts)) (qf (qce m s.os 0)) (kend (qe0 res K)) = G xs m K) : qju P f (refE s G) :=
  qbcv hT hm hf hn hs hk her s hnb fun xs m K => by unfold refE; rw [he]
end
end Go.Pev
/- Plain words and laws for what the reckoner leaves over. -/
namespace Go.Pev
open Go
set_option linter.unusedVariables false
set_option linter.unusedSimpArgs false
@[simp] theorem oB_s {α β : Type} (a : α) (f : α → Option β) : oB (some a) f = f a := rfl
@[simp] theorem oB_n {α β : Type} (f : α → Option β) : oB none f = none := rfl
@[simp] theorem hd_self (xs : List AV) : hd xs xs.length = true := by simp [hd]
@[simp] theorem hd_nil : hd [] 0 = true := rfl
@[simp] theorem hd_one (x : AV) : hd [x] 1 = true := rfl
@[simp] theorem cond_t {α : Type} (x y : α) : (bif true then x else y) = x := rfl
@[simp] theorem cond_f {α : Type} (x y : α) : (bif false then x else y) = y := rfl
@[simp] theorem ixB_nat {α : Type} (l : List α) (i : Nat) : ixB l (i : Int) = l[i]? := by simp [ixB]
@[simp] theorem ixB_zero {α : Type} (l : List α) : ixB l (0 : Int) = l[0]? := by simp [ixB]
theorem w64 {i : Int} (h1 : -9223372036854775808 ≤ i) (h2 : i ≤ 9223372036854775807) : IntKind.i64.wrap i = i := by
  simp [IntKind.wrap, IntKind.signed, IntKind.bits]; omega
theorem wu64 {i : Int} (h1 : 0 ≤ i) (h2 : i ≤ 18446744073709551615) : IntKind.u64.wrap i = i := by
  simp [IntKind.wrap, IntKind.signed, IntKind.bits]; omega
theorem qek {n : Nat} (h : n ≤ 1208925819614629174706175) : n < FU := by rw [qwb]; omega
theorem q5e {σ R : Type} (L : Nat → σ → Option R) (B : σ → (σ → Option R) → Option R) (hL : ∀ n s, L (n + 1) s = B s (L n)) (I : σ → Prop) (μ : σ → Nat) (Q : σ → Option R → Prop)
    (h : ∀ s, I s → ∀ nx : σ → Option R, (∀ s', I s' → μ s' < μ s → Q s' (nx s')) → Q s (B s nx)) : ∀ n s, I s → μ s < n → Q s (L n s) := by
  intro n
  induction n with
  | zero => intro s _ hm; omega
  | succ n ih =>
    intro s hi hm
    rw [hL]
    exact h s hi (L n) (fun s' hi' hm' => ih s' hi' (by omega))
theorem q6x {σ R : Type} (L : Nat → σ → Option R) (B : σ → (σ → Option R) → Option R) (hL : ∀ n s, L (n + 1) s = B s (L n)) (I : σ → Prop) (μ : σ → Nat) (S : σ → Option R)
    (h : ∀ s, I s → ∀ nx : σ → Option R, (∀ s', I s' → μ s' < μ s → nx s' = S s') → B s nx = S s) : ∀ n s, I s → μ s < n → L n s = S s :=
  q5e L B hL I μ (fun s r => r = S s) h
theorem qde {α σ R : Type} (l : List α) (hl : l.length ≤ 9223372036854775807) (L : Nat → Int → σ → Option R) (B : Int → σ → (Int → σ → Option R) → Option R) (hL : ∀ n i s, L (n + 1) i s = B i s (L n))
    (J : Nat → σ → Prop) (S : List α → σ → Option R) (h0 : ∀ s nx, J l.length s → B (l.length : Int) s nx = S [] s)
    (hs : ∀ (i : Nat) (a : α) (r : List α) (s : σ) nx, l.drop i = a :: r → l[i]? = some a → i < l.length → IntKind.i64.wrap ((i : Int) + 1) = ((i + 1 : Nat) : Int) → J i s → (∀ s', J (i + 1) s' → nx ((i + 1 : Nat) : Int) s' = S r s') → B (i : Int) s nx = S (a :: r) s) :
    ∀ (s : σ) (n : Nat), J 0 s → l.length < n → L n 0 s = S l s := by
  have key : ∀ (n : Nat) (i : Nat) (s : σ), i ≤ l.length → J i s → l.length - i < n → L n (i : Int) s = S (l.drop i) s := by
    intro n
    induction n with
    | zero => intro i s hi _ hn; omega
    | succ n ih =>
      intro i s hi hj hn
      rw [hL]
      by_cases hlt : i < l.length
      · have hd : l.drop i = l[i] :: l.drop (i + 1) := (List.drop_eq_getElem_cons hlt)
        rw [hd]
        exact hs i l[i] _ s _ hd (by simp [hlt]) hlt (w64 (by omega) (by omega)) hj (fun s' hj' => ih (i + 1) s' (by omega) hj' (by omega))
      · have : i = l.length := by omega
        subst this
        rw [h0 s _ hj]; simp
  intro s n hj hn
  have := key n 0 s (Nat.zero_le _) hj (by omega)
  simpa using this
theorem qvy {α R : Type} (l : List α) (hl : l.length ≤ 9223372036854775807) (L : Nat → Int → Option R) (B : Int → (Int → Option R) → Option R) (hL : ∀ n i, L (n + 1) i = B i (L n))
    (S : List α → Option R) (h0 : ∀ nx, B (l.length : Int) nx = S [])
    (hs : ∀ (i : Nat) (a : α) (r : List α) nx, l.drop i = a :: r → l[i]? = some a → i < l.length → IntKind.i64.wrap ((i : Int) + 1) = ((i + 1 : Nat) : Int) → nx ((i + 1 : Nat) : Int) = S r → B (i : Int) nx = S (a :: r)) :
    L FU 0 = S l :=
  qde (σ := Unit) l hl (fun n i _ => L n i) (fun i _ nx => B i (fun j => nx j ())) (fun n i _ => hL n i) (fun _ _ => True) (fun r _ => S r) (fun _ nx _ => h0 _) (fun i a r _ nx h1 h2 h3 h4 _ h5 => hs i a r _ h1 h2 h3 h4 (h5 () trivial)) () FU trivial (qek (by omega))
end Go.Pev
/- What a law is handed, read as_ plain words. -/
namespace Go.Pev
open Go
set_option linter.unusedVariables false
set_option linter.unusedSimpArgs false
mutual
def Ty.lts : Ty → List LT
  | .bool => [.b]
  | .int k => [.i k]
  | .str => [.s]
  | .sl e _ => [.sl e]
  | .st fs => Ty.ltss fs
def Ty.ltss : List Ty → List LT
  | [] => []
  | t :: ts => t.lts ++ Ty.ltss ts
end
def Ty.good : Ty → List AV → Nat → Prop
  | .bool, _, _ => True
  | .int q, cs, k => q.min ≤ gI cs k ∧ gI cs k ≤ q.max
  | .str, cs, k => (gS cs k).length ≤ 9223372036854775807
  | .sl _ t, cs, k => (gL cs k).length ≤ 9223372036854775807 ∧ ∀ y, y ∈ gL cs k → fitC t.lts y.cells = true ∧ Ty.good t y.cells 0
  | .st fs, cs, k => goods fs cs k
where goods : List Ty → List AV → Nat → Prop
  | [], _, _ => True
  | t :: ts, cs, k => Ty.good t cs k ∧ goods ts cs (k + t.size)
theorem qxt : ∀ (l1 l2 : List LT) (a b : List AV), fitC l1 a = true → fitC l2 b = true → fitC (l1 ++ l2) (a ++ b) = true
  | [], l2, [], b, _, h => h
  | [], _, _ :: _, _, h, _ => by simp [fitC] at h
  | _ :: _, _, [], _, h, _ => by simp [fitC] at h
  | l :: ls, l2, x :: xs, b, h, h2 => by
    simp only [fitC] at h
    split at h
    · rename_i h1
      simp only [List.cons_append, fitC, h1, qxt ls l2 xs b h h2]
    · cases h
mutual
theorem Ty.fit_lts : ∀ (t : Ty) (xs : List AV), t.fit xs → fitC t.lts xs = true
  | .bool, xs, h => by obtain ⟨b, rfl⟩ := h; rfl
  | .int k, xs, h => by obtain ⟨n, rfl, _⟩ := h; simp [Ty.lts, fitC, fitL]
  | .str, xs, h => by obtain ⟨s, rfl, _⟩ := h; rfl
  | .sl e t, xs, h => by
    unfold Ty.fit at h
    rcases h with rfl | ⟨ys, rfl, _⟩
    · rfl
    · simp [Ty.lts, fitC, fitL]
  | .st fs, xs, h => by unfold Ty.fit at h; unfold Ty.lts; exact Ty.fits_lts fs xs h
theorem Ty.fits_lts : ∀ (ts : List Ty) (xs : List AV), Ty.fits ts xs → fitC (Ty.ltss ts) xs = true
  | [], xs, h => by unfold Ty.fits at h; subst h; rfl
  | t :: ts, xs, h => by
    unfold Ty.fits at h
    obtain ⟨a, b, rfl, h1, h2⟩ := h
    unfold Ty.ltss
    exact qxt _ _ _ _ (Ty.fit_lts t a h1) (Ty.fits_lts ts b h2)
end
theorem q0b (pre post : List AV) (x : AV) : gC (pre ++ [x] ++ post) pre.length = x := by simp [gC]
mutual
theorem Ty.fit_len : ∀ (t : Ty) (xs : List AV), t.fit xs → xs.length = t.size
  | .bool, xs, h => by obtain ⟨b, rfl⟩ := h; rfl
  | .int k, xs, h => by obtain ⟨n, rfl, _⟩ := h; rfl
  | .str, xs, h => by obtain ⟨s, rfl, _⟩ := h; rfl
  | .sl e t, xs, h => by
    unfold Ty.fit at h
    rcases h with rfl | ⟨ys, rfl, _⟩ <;> rfl
  | .st fs, xs, h => by unfold Ty.fit at h; unfold Ty.size; exact Ty.fits_len fs xs h
theorem Ty.fits_len : ∀ (ts : List Ty) (xs : List AV), Ty.fits ts xs → xs.length = Ty.sizes ts
  | [], xs, h => by unfold Ty.fits at h; subst h; rfl
  | t :: ts, xs, h => by
    unfold Ty.fits at h
    obtain ⟨a, b, rfl, h1, h2⟩ := h
    unfold Ty.sizes
    rw [List.length_append, Ty.fit_len t a h1, Ty.fits_len ts b h2]
end
mutual
theorem Ty.fit_good : ∀ (t : Ty) (xs pre post : List AV), t.fit xs → t.good (pre ++ xs ++ post) pre.length
  | .bool, xs, pre, post, h => trivial
  | .int k, xs, pre, post, h => by
    obtain ⟨n, rfl, h1⟩ := h
    unfold Ty.good; simp only [gI, q0b, aI]; exact h1
  | .str, xs, pre, post, h => by
    obtain ⟨n, rfl, h1⟩ := h
    unfold Ty.good; simp only [gS, q0b, aS]; exact h1
  | .sl e t, xs, pre, post, h => by
    unfold Ty.fit at h
    unfold Ty.good
    rcases h with rfl | ⟨ys, rfl, h1, h2⟩
    · simp only [gL, q0b, aL]
      exact ⟨by simp, fun y hy => by simp at hy⟩
    · simp only [gL, q0b, aL]
      refine ⟨h1, fun y hy => ?_⟩
      obtain ⟨h3, h4⟩ := h2 y hy
      cases hs : t.isSt with
      | true =>
        obtain ⟨cs, rfl, h5⟩ := h3 hs
        refine ⟨Ty.fit_lts t cs h5, ?_⟩
        have := Ty.fit_good t cs [] [] h5
        simp only [List.nil_append, List.append_nil, List.length_nil] at this
        exact this
      | false =>
        have h5 := h4 hs
        obtain ⟨z, hz, hzl, _⟩ := Ty.fit_leaf hs h5
        simp at hz; subst hz
        have hc : y.cells = [y] := qs0 hzl
        rw [hc]
        refine ⟨Ty.fit_lts t [y] h5, ?_⟩
        have := Ty.fit_good t [y] [] [] h5
        simpa using this
  | .st fs, xs, pre, post, h => by unfold Ty.fit at h; unfold Ty.good; exact Ty.fits_good fs xs pre post h
theorem Ty.fits_good : ∀ (ts : List Ty) (xs pre post : List AV), Ty.fits ts xs → Ty.good.goods ts (pre ++ xs ++ post) pre.length
  | [], xs, pre, post, h => trivial
  | t :: ts, xs, pre, post, h => by
    unfold Ty.fits at h
    obtain ⟨a, b, rfl, h1, h2⟩ := h
    unfold Ty.good.goods
    refine ⟨?_, ?_⟩
    · have := Ty.fit_good t a pre (b ++ post) h1
      simpa [List.append_assoc] using this
    · have := Ty.fits_good ts b (pre ++ a) post h2
      rw [← Ty.fit_len t a h1]
      simpa [List.append_assoc] using this
end
theorem q6y {t : Ty} (ht : t.isSt = false) {y : AV} (h : t.fitv y) : fitC t.lts [y] = true ∧ t.good [y] 0 := by
  have h1 := h.2 ht
  have h3 := Ty.fit_good t [y] [] [] h1
  exact ⟨Ty.fit_lts t [y] h1, by simpa using h3⟩
theorem q1c (m : Mem) : ∀ (ls : List LT) (cs : List AV), qhl m (ls.map CK.l) cs = fitC ls cs
  | [], [] => rfl
  | [], _ :: _ => rfl
  | _ :: _, [] => rfl
  | l :: ls, x :: xs => by simp only [List.map_cons, qhl, fitC, fitK, q1c m ls xs]
theorem q6c {P : Program} {f : FuncId} {ys : List AV} {e : List AV → (AV → Option Unit) → Option Unit} (h : qli P f e) (he : ∀ K : AV → Option Unit, e ys K = K (.bool true)) : qq8 P f ys (· = .bool true) := by
  obtain ⟨z, h1, h2⟩ := h ys (fun z => match z with | .bool true => some () | _ => none) () (by rw [he])
  have hz : z = .bool true := by
    cases z with
    | bool b => cases b <;> simp at h2; rfl
    | _ => simp at h2
  subst hz
  exact h1
theorem q2j {t : Env} {m : Mem} {k : Nat} {q : TK} {ps : List (Nat × TK)} (h : fitT m q (t k) = true)
    (hs : qld t m ps = true) : qld t m ((k, q) :: ps) = true := by
  simp only [qld]; rw [h]; exact hs
end Go.Pev
/- Parts and functions by their marks alone: the code is taken from the program itself, natives are read by their places. -/
namespace Go.Pev
open Go
set_option linter.unusedVariables false
set_option linter.unusedSimpArgs false
set_option linter.constructorNameAsVariable false
structure NR where
  b : Nat → Nat → Bool
  i : Nat → Nat → Int
  s : Nat → Nat → List UInt8
  l : Nat → Nat → List AV
  a : Nat → Nat → AV
  r : Nat → List AV
  m : Nat → List (AV × AV)
  f : Nat → Nat → AV
def NR.ub (v : NR) (c j : Nat) (x : Bool) : NR := { v with b := fun c' j' => cond (Nat.beq c' c && Nat.beq j' j) x (v.b c' j') }
def NR.ui (v : NR) (c j : Nat) (x : Int) : NR := { v with i := fun c' j' => cond (Nat.beq c' c && Nat.beq j' j) x (v.i c' j') }
def NR.us (v : NR) (c j : Nat) (x : List UInt8) : NR := { v with s := fun c' j' => cond (Nat.beq c' c && Nat.beq j' j) x (v.s c' j') }
def NR.ul (v : NR) (c j : Nat) (x : List AV) : NR := { v with l := fun c' j' => cond (Nat.beq c' c && Nat.beq j' j) x (v.l c' j') }
def NR.ur (v : NR) (c : Nat) (x : List AV) : NR := { v with r := fun c' => cond (Nat.beq c' c) x (v.r c') }
def q0c (t : Env) (m : Mem) (q c : Nat) : List AV :=
  match q with
  | 0 => [t c]
  | 1 => (t c).cells
  | 2 => cpL (t c)
  | _ => bxC (m.s c)
def qfw (t : Env) (m : Mem) (c : Nat) : List AV := q0c t m (c % 4) (c / 4)
def NR.of (t : Env) (m : Mem) : NR := ⟨fun c j => gB (qfw t m c) j, fun c j => gI (qfw t m c) j, fun c j => gS (qfw t m c) j, fun c j => gL (qfw t m c) j, fun c j => gC (qfw t m c) j, fun r => arL (m.s r), fun r => mpL (m.s r), fun c j => unfv (gC (qfw t m c) j)⟩
def ctF (v : NR) (c : Nat) (l : LT) (k : Nat) : AV :=
  match l with
  | .b => .bool (v.b c k)
  | .i q => .int q (v.i c k)
  | .s => .str (v.s c k)
  | .sl e => .sl e (v.l c k)
  | .nil => .nils
  | .nilf => .nilf
  | .nilp => .nilp
  | .op => v.a c k
  | .fn => .fv (v.f c k)
def ctC (v : NR) (c : Nat) : List LT → Nat → List AV
  | [], _ => []
  | l :: ls, k => ctF v c l k :: ctC v c ls (k + 1)
def ctK (v : NR) (c : Nat) : CK → Nat → AV
  | .l k, i => ctF v c k i
  | .ptr r off, _ => .ptr r off
  | .own r, _ => .own r (v.r r).length
  | .fn f caps, _ => .func f (caps.map fun p => .ptr p.1 p.2)
  | .map r, _ => .map r
def ctKs (v : NR) (c : Nat) : List CK → Nat → List AV
  | [], _ => []
  | k :: ks, i => ctK v c k i :: ctKs v c ks (i + 1)
def ctT (v : NR) (k : Nat) : TK → AV
  | .one c => ctK v (4 * k) c 0
  | .st cs => .agg (ctKs v (4 * k + 1) cs 0)
  | .cptr ls => .cptr (ctC v (4 * k + 2) ls 0)
def ctO (v : NR) (r : Nat) : BK → Option Ob
  | .box w cs => some (.box w (ctKs v (4 * r + 3) cs 0))
  | .arr w e => some (.arr w e (v.r r))
  | .map => some (.map (v.m r))
  | .gone => none
def ctTs (v : NR) : List (Nat × TK) → List (Nat × AV)
  | [] => []
  | p :: ps => (p.1, ctT v p.1 p.2) :: ctTs v ps
def ctOs (v : NR) : List BK → Nat → List (Option Ob)
  | [], _ => []
  | k :: ks, i => ctO v i k :: ctOs v ks (i + 1)
def envR (v : NR) (s : Shp) : Env := ql (ctTs v s.ts)
def memR (v : NR) (s : Shp) : Mem := qf (ctOs v s.os 0)
section
variable {t : Env} {m : Mem}
theorem qbcx (k : Nat) : qfw t m (4 * k) = [t k] := by
  have h1 : 4 * k % 4 = 0 := by omega
  have h2 : 4 * k / 4 = k := by omega
  simp only [qfw, h1, h2, q0c]
theorem qbcy (k : Nat) : qfw t m (4 * k + 1) = (t k).cells := by
  have h1 : (4 * k + 1) % 4 = 1 := by omega
  have h2 : (4 * k + 1) / 4 = k := by omega
  simp only [qfw, h1, h2, q0c]
theorem qbcz (k : Nat) : qfw t m (4 * k + 2) = cpL (t k) := by
  have h1 : (4 * k + 2) % 4 = 2 := by omega
  have h2 : (4 * k + 2) / 4 = k := by omega
  simp only [qfw, h1, h2, q0c]
theorem qbc0 (k : Nat) : qfw t m (4 * k + 3) = bxC (m.s k) := by
  have h1 : (4 * k + 3) % 4 = 3 := by omega
  have h2 : (4 * k + 3) / 4 = k := by omega
  simp only [qfw, h1, h2, q0c]
theorem q9a (c : Nat) (l : LT) (k : Nat) : ctF (.of t m) c l k = etaF l (qfw t m c) k := by cases l <;> rfl
theorem q9b (c : Nat) : ∀ (ls : List LT) (k : Nat), ctC (.of t m) c ls k = etaC ls (qfw t m c) k
  | [], _ => rfl
  | l :: ls, k => by simp only [ctC, etaC, q9a, q9b c ls]
theorem q9c (c : Nat) (k : CK) (i : Nat) : ctK (.of t m) c k i = etaK m k (qfw t m c) i := by
  cases k with
  | l k => exact q9a c k i
  | _ => rfl
theorem q1d (c : Nat) : ∀ (ks : List CK) (i : Nat), ctKs (.of t m) c ks i = qi2 m ks (qfw t m c) i
  | [], _ => rfl
  | k :: ks, i => by simp only [ctKs, qi2, q9c, q1d c ks]
theorem qbd2 (k : Nat) (x : TK) : ctT (.of t m) k x = etaT m x (t k) := by
  cases x <;> simp only [ctT, etaT, q9c, q1d, q9b, qbcx, qbcy, qbcz]
theorem qbd3 (r : Nat) (x : BK) : ctO (.of t m) r x = etaO m x (m.s r) := by
  cases x <;> simp only [ctO, etaO, q1d, qbc0] <;> rfl
theorem q6z : ∀ ps : List (Nat × TK), ctTs (.of t m) ps = qfv t m ps
  | [] => rfl
  | p :: ps => by simp only [ctTs, qfv, qbd2, q6z ps]
theorem q60 : ∀ (ks : List BK) (i : Nat), ctOs (.of t m) ks i = qce m ks i
  | [], _ => rfl
  | k :: ks, i => by simp only [ctOs, qce, qbd3, q60 ks]
theorem qwf (s : Shp) : envR (.of t m) s = ql (qfv t m s.ts) := by simp only [envR, q6z]
theorem qwg (s : Shp) : memR (.of t m) s = qf (qce m s.os 0) := by simp only [memR, q60]
end
structure EntB (P : Program) (R : Type) where
  f : FuncId
  e : List AV → (AV → Option R) → Option R
  h : qhn P f e
structure EntF (P : Program) (R : Type) where
  f : FuncId
  e : List AV → (AV → Option R) → Option R
  h : qli P f e
structure RefB (P : Program) (R : Type) where
  f : FuncId
  e : List AV → Mem → (AV → Mem → Option R) → Option R
  h : qju P f e
structure GrowB (P : Program) where
  f : FuncId
  sz : Nat
  F : List AV → List AV → Option (List AV)
  h : qzm P f sz F
structure EatB (P : Program) (R : Type) where
  f : FuncId
  e : List AV → (AV → Option R) → Option R
  h : q7i P f e
structure ApB (P : Program) where
  ap : AV → List AV → Option Bool
  h : ApOk P ap
structure SubB (P : Program) (T : Tab) (nt nb : Nat) {R : Type} (KR : Env → Mem → Option R) where
  sc : SC
  e : Env → Mem → (Ex → Env → Mem → Option R) → Option R
  h : qwd P T nt nb KR sc e
def EntF.b {P : Program} {R : Type} (x : EntF P R) : EntB P R := ⟨x.f, x.e, x.h.ok⟩
def eK {P : Program} {R : Type} {f : FuncId} {e : List AV → (AV → Option R) → Option R} (h : qhn P f e) : EntB P R := ⟨f, e, h⟩
def eB {P : Program} {R : Type} {f : FuncId} {e : List AV → (AV → Option R) → Option R} (h : qli P f e) : EntB P R := ⟨f, e, h.ok⟩
def rB {P : Program} {R : Type} {f : FuncId} {e : List AV → Mem → (AV → Mem → Option R) → Option R} (h : qju P f e) : RefB P R := ⟨f, e, h⟩
inductive AM (P : Program) (R : Type) where
  | s (v : Stp) | p (v : Stp) | e (k : Nat) (ls : List LT) | c (b : EntB P R) | k (b : EntB P R) | r (b : RefB P R) | g (n : Nat) | q (b : ApB P)
section
variable {P : Program} {R : Type}
def AM.at_ (i : Nat) : List (Nat × AM P R) → List (AM P R)
  | [] => []
  | x :: l => match Nat.beq x.1 i with
    | true => x.2 :: AM.at_ i l
    | false => []
def AM.rest (i : Nat) : List (Nat × AM P R) → List (Nat × AM P R)
  | [] => []
  | x :: l => match Nat.beq x.1 i with
    | true => AM.rest i l
    | false => x :: l
def stO (o : SOper) (v : Stp) : AOp R :=
  match o.g with
  | none => .st v
  | some (x, w) => .stg x w v
def preO (o : SOper) : List (AM P R) → List (AOp R) → List (AOp R)
  | [], k => k
  | .s v :: l, k => stO o v :: preO o l k
  | _ :: l, k => preO o l k
def posO (o : SOper) : List (AM P R) → List (AOp R) → List (AOp R)
  | [], k => k
  | .p v :: l, k => stO o v :: posO o l k
  | .e q ls :: l, k => .et q ls :: posO o l k
  | _ :: l, k => posO o l k
def opO (o : SOper) : List (AM P R) → AOp R
  | [] => .op o
  | .c b :: _ => .call o b.f b.e
  | .k b :: _ => .callc o b.f b.e
  | .r b :: _ => .callr o b.f b.e
  | .q b :: _ => .callq o b.ap
  | _ :: l => opO o l
def qbb2 : List (AM P R) → Option Nat
  | [] => none
  | .g n :: _ => some n
  | _ :: l => qbb2 l
def qbb3 (x : Nat) (w : Bool) (ops : List SOper) : Option SOper → List (AOp R) → List (AOp R)
  | some ⟨some d, .pick _ a b, none⟩, k => .grp x w ops d (match w with
    | true => a
    | false => b) :: k
  | _, _ => []
def mkO : List SOper → Nat → Nat → List (Nat × AM P R) → List (AOp R)
  | [], _, _, _ => []
  | _ :: r, i, n + 1, ms => mkO r (i + 1) n ms
  | o :: r, i, 0, ms => match qbb2 (AM.at_ i ms) with
    | some n => match o.g with
      | some (x, w) => qbb3 x w ((o :: r).take n) ((o :: r)[n]?) (mkO r (i + 1) n (AM.rest i ms))
      | none => []
    | none => preO o (AM.at_ i ms) (opO o (AM.at_ i ms) :: posO o (AM.at_ i ms) (mkO r (i + 1) 0 (AM.rest i ms)))
theorem q9d (o : SOper) (v : Stp) {l : List (AOp R)} (h : AOp.ok P l) : AOp.ok P (stO o v :: l) := by
  unfold stO
  split <;> exact h
theorem q1e (o : SOper) : ∀ (ms : List (AM P R)) {l : List (AOp R)}, AOp.ok P l → AOp.ok P (preO o ms l)
  | [], _, h => h
  | x :: ms, _, h => by
    cases x with
    | s v => exact q9d o v (q1e o ms h)
    | _ => exact q1e o ms h
theorem qwh (o : SOper) : ∀ (ms : List (AM P R)) {l : List (AOp R)}, AOp.ok P l → AOp.ok P (posO o ms l)
  | [], _, h => h
  | x :: ms, _, h => by
    cases x with
    | p v => exact q9d o v (qwh o ms h)
    | e q ls => exact qwh o ms h
    | _ => exact qwh o ms h
theorem q9e (o : SOper) : ∀ (ms : List (AM P R)) {l : List (AOp R)}, AOp.ok P l → AOp.ok P (opO o ms :: l)
  | [], _, h => h
  | x :: ms, _, h => by
    cases x with
    | c b => exact ⟨b.h, h⟩
    | k b => exact ⟨b.h, h⟩
    | r b => exact ⟨b.h, h⟩
    | q b => exact ⟨b.h, h⟩
    | _ => exact q9e o ms h
theorem qgy : ∀ (ops : List SOper) (i n : Nat) (ms : List (Nat × AM P R)), AOp.ok P (mkO ops i n ms)
  | [], _, _, _ => trivial
  | _ :: r, i, n + 1, ms => qgy r (i + 1) n ms
  | o :: r, i, 0, ms => by
    unfold mkO
    split
    · rename_i n _
      split
      · unfold qbb3
        split
        · exact qgy r (i + 1) n _
        · trivial
      · trivial
    · exact q1e o _ (q9e o _ (qwh o _ (qgy r (i + 1) 0 _)))
end
inductive MK (P : Program) (T : Tab) (nt nb : Nat) {R : Type} (KR : Env → Mem → Option R) where
  | z
  | x
  | v (l : List Stp)
  | r (l : List (Nat × AM P R)) (v : List Stp)
  | d (F : List Nat) (h t : List (Nat × AM P R)) (v : List Stp)
  | d3 (F mk : List Nat) (h t : List (Nat × AM P R)) (v : List Stp)
  | d5 (F : List Nat) (h : List (Nat × EatB P R)) (t : List (Nat × AM P R)) (v : List Stp)
  | d4 (b : List Stp) (c : Nat) (G : GrowB P) (t : List (Nat × AM P R)) (v : List Stp)
  | s (a b : MK P T nt nb KR)
  | b (a : MK P T nt nb KR)
  | dv (b : List Stp) (F : List Nat) (h t : List (Nat × AM P R)) (v : List Stp)
  | sub (pre : List Stp) (s : SubB P T nt nb KR) (post : List Stp)
section
variable {P : Program} {T : Tab} {nt nb : Nat} {R : Type} {KR : Env → Mem → Option R}
def vB (l : List Stp) (a : AC R) : AC R :=
  match l with
  | [] => a
  | l => .seq (.view l) a
def vA (a : AC R) (l : List Stp) : AC R :=
  match l with
  | [] => a
  | l => .seq a (.view l)
def noA (c : SC) : AC R := .sub c fun _ _ _ => none
def drA (c : SC) (F : List Nat) (h t : List (AOp R)) (v : List Stp) : AC R :=
  match tl2B h t with
  | true => vA (.draw F h t) v
  | false => noA c
def dr3 (c : SC) (F mk : List Nat) (h t : List (AOp R)) (v : List Stp) : AC R :=
  match mk3B h mk with
  | true => vA (.draw3 F mk h t) v
  | false => noA c
def dr4 (sc : SC) (b : List Stp) (h1 : List SOper) (o : List SOper) (G : GrowB P) (t : List (AOp R)) (v : List Stp) : AC R :=
  match o with
  | ⟨some dg, .call _ (y :: ys), none⟩ :: h2 => vB b (vA (.draw4 h1 dg G.f G.sz y ys G.F h2 t) v)
  | _ => noA sc
def mkH : List SOper → Nat → List (Nat × EatB P R) → List (H5 R)
  | [], _, _ => []
  | o :: r, i, [] => .w o :: mkH r (i + 1) []
  | o :: r, i, p :: ms => match Nat.beq p.1 i with
    | true => .c o p.2.f p.2.e :: mkH r (i + 1) ms
    | false => .w o :: mkH r (i + 1) (p :: ms)
theorem q0d : ∀ (ops : List SOper) (i : Nat) (ms : List (Nat × EatB P R)), H5.ok P (mkH ops i ms)
  | [], _, _ => trivial
  | o :: r, i, [] => q0d r (i + 1) []
  | o :: r, i, p :: ms => by
    unfold mkH
    split
    · exact ⟨p.2.h, q0d r (i + 1) ms⟩
    · exact q0d r (i + 1) (p :: ms)
def dr5 (c : SC) (F : List Nat) (h : List (H5 R)) (t : List (AOp R)) (v : List Stp) : AC R :=
  match tl5B h t with
  | true => vA (.draw5 F h t) v
  | false => noA c
def mk : SC → MK P T nt nb KR → AC R
  | .skip, .z => .skip
  | .skip, .v l => vA .skip l
  | .exit i, .z => .exit i
  | .exit i, .v l => vB l (.exit i)
  | .ret, .z => .ret
  | .ret, .v l => vB l .ret
  | .reg o, .z => .reg (mkO (P := P) o 0 0 [])
  | .reg o, .v l => vA (.reg (mkO (P := P) o 0 0 [])) l
  | .reg o, .r l v => vA (.reg (mkO o 0 0 l)) v
  | .draw h t, .z => drA (.draw h t) [] (mkO (P := P) h 0 0 []) (mkO (P := P) t 0 0 []) []
  | .draw h t, .d F a b v => drA (.draw h t) F (mkO h 0 0 a) (mkO t 0 0 b) v
  | .draw h t, .dv u F a b v => vB u (drA (.draw h t) F (mkO h 0 0 a) (mkO t 0 0 b) v)
  | .draw h t, .d3 F q a b v => dr3 (.draw h t) F q (mkO h 0 0 a) (mkO t 0 0 b) v
  | .draw h t, .d5 F a b v => dr5 (.draw h t) F (mkH h 0 a) (mkO t 0 0 b) v
  | .draw h t, .d4 b c G l v => dr4 (.draw h t) b (h.take c) (h.drop c) G (mkO t 0 0 l) v
  | .seq a b, .z => .seq (mk a .z) (mk b .z)
  | .seq a b, .s x y => .seq (mk a x) (mk b y)
  | .cond c a b, .z => .cond c (mk a .z) (mk b .z)
  | .cond c a b, .s x y => .cond c (mk a x) (mk b y)
  | .block i c, .z => .block i (mk c .z)
  | .block i c, .b x => .block i (mk c x)
  | _, .sub pre s post => vA (vB pre (.sub s.sc s.e)) post
  | c, _ => noA c
theorem qh9 {l : List Stp} {a : AC R} (h : a.ok P T nt nb KR) : (vB l a).ok P T nt nb KR := by
  cases l
  · exact h
  · exact ⟨trivial, h⟩
theorem qgs {l : List Stp} {a : AC R} (h : a.ok P T nt nb KR) : (vA a l).ok P T nt nb KR := by
  cases l
  · exact h
  · exact ⟨h, trivial⟩
theorem qgc (c : SC) : (noA (R := R) c).ok P T nt nb KR := fun _ _ _ _ h => by cases h
theorem q9f {c : SC} {F : List Nat} {h t : List (AOp R)} {v : List Stp} (h1 : AOp.ok P h) (h2 : AOp.ok P t) : (drA c F h t v).ok P T nt nb KR := by
  unfold drA
  split
  · rename_i hc
    exact qgs ⟨h1, h2, hc⟩
  · exact qgc c
theorem qbd4 {c : SC} {F q : List Nat} {h t : List (AOp R)} {v : List Stp} (h1 : AOp.ok P h) (h2 : AOp.ok P t) : (dr3 c F q h t v).ok P T nt nb KR := by
  unfold dr3
  split
  · rename_i hc
    exact qgs ⟨h1, h2, hc⟩
  · exact qgc c
theorem qbd5 {sc : SC} {b : List Stp} {h1 o : List SOper} {G : GrowB P} {t : List (AOp R)} {v : List Stp} (h2 : AOp.ok P t) : (dr4 sc b h1 o G t v).ok P T nt nb KR := by
  unfold dr4
  split
  · exact qh9 (qgs ⟨G.h, h2⟩)
  · exact qgc sc
theorem qbd6 {c : SC} {F : List Nat} {h : List (H5 R)} {t : List (AOp R)} {v : List Stp} (h1 : H5.ok P h) (h2 : AOp.ok P t) : (dr5 c F h t v).ok P T nt nb KR := by
  unfold dr5
  split
  · rename_i hc
    exact qgs ⟨h1, h2, hc⟩
  · exact qgc c
theorem q3k : ∀ (c : SC) (M : MK P T nt nb KR), (mk c M).ok P T nt nb KR := by
  intro c
  induction c with
  | skip => intro M; cases M <;> first | exact qgc _ | exact trivial | exact qgs trivial | exact qgs (qh9 (SubB.h _))
  | exit i => intro M; cases M <;> first | exact qgc _ | exact trivial | exact qh9 trivial | exact qgs (qh9 (SubB.h _))
  | ret => intro M; cases M <;> first | exact qgc _ | exact trivial | exact qh9 trivial | exact qgs (qh9 (SubB.h _))
  | reg o => intro M; cases M <;> first | exact qgc _ | exact qgy _ _ _ _ | exact qgs (qgy _ _ _ _) | exact qgs (qh9 (SubB.h _))
  | draw h t => intro M; cases M <;> first | exact qgc _ | exact q9f (qgy _ _ _ _) (qgy _ _ _ _) | exact qh9 (q9f (qgy _ _ _ _) (qgy _ _ _ _)) | exact qbd4 (qgy _ _ _ _) (qgy _ _ _ _) | exact qbd5 (qgy _ _ _ _) | exact qbd6 (q0d _ _ _) (qgy _ _ _ _) | exact qgs (qh9 (SubB.h _))
  | seq a b iha ihb => intro M; cases M <;> first | exact qgc _ | exact ⟨iha _, ihb _⟩ | exact qgs (qh9 (SubB.h _))
  | cond c a b iha ihb => intro M; cases M <;> first | exact qgc _ | exact ⟨iha _, ihb _⟩ | exact qgs (qh9 (SubB.h _))
  | block i c ih => intro M; cases M <;> first | exact qgc _ | exact ih _ | exact qgs (qh9 (SubB.h _))
  | loop c ih => intro M; cases M <;> first | exact qgc _ | exact qgs (qh9 (SubB.h _))
  | stuck => intro M; cases M <;> first | exact qgc _ | exact qgs (qh9 (SubB.h _))
end
def qoz : Code → Nat → Code
  | .seq a b, p => match Nat.ble p 1 with
    | true => .seq a b
    | false => match p % 2 with
      | 0 => qoz a (p / 2)
      | _ => qoz b (p / 2)
  | .cond c a b, p => match Nat.ble p 1 with
    | true => .cond c a b
    | false => match p % 2 with
      | 0 => qoz a (p / 2)
      | _ => qoz b (p / 2)
  | .block i c, p => match Nat.ble p 1 with
    | true => .block i c
    | false => qoz c (p / 2)
  | .loop c, p => match Nat.ble p 1 with
    | true => .loop c
    | false => qoz c (p / 2)
  | c, _ => c
def cC (P : Program) (fn : Func) (p : Nat) : SC :=
  match fn.body with
  | some c => (qt (TIof P) fn.ntmps (qoz c p)).getD .stuck
  | none => .stuck
def entN {R R' : Type} (s : Shp) (G : NR → Option R) (enc : R → AV) : List AV → (AV → Option R') → Option R' := entF s (fun xs => G (.of (qdm xs) Mem.none)) enc
def subN {R : Type} (s : Shp) (G : NR → (Ex → Env → Mem → Option R) → Option R) : Env → Mem → (Ex → Env → Mem → Option R) → Option R := subE s fun t m K => G (.of t m) K
def refN {R : Type} (s : Shp) (G : NR → (AV → Mem → Option R) → Option R) : List AV → Mem → (AV → Mem → Option R) → Option R := refE s fun xs m K => G (.of (qdm xs) m) K
section
variable {P : Program} {nt nb : Nat} {R : Type}
noncomputable def entB {R' : Type} (hT : Tab.ok (TIof P) P) (hm : P.follows .mixedOrders = true) {f : FuncId} {fn : Func} (hf : P.funcs[f]? = some fn) (res : List SRes) {dec : AV → Option R} {enc : R → AV} (hde : ∀ z r, dec z = some r → z = enc r)
    (M : MK P (TIof P) nt 0 (kret res dec)) (s : Shp) {τ : Type} (Fi : τ) (G : τ → NR → Option R)
    (hn : (fn.name == "runtime.NumGoroutine") = false := by kernel_rfl) (hs : cFn (TIof P) fn = some ⟨nt, res, scOf (mk (cC P fn 1) M)⟩ := by kernel_rfl) (her : ((mk (cC P fn 1) M).er).isSome = true := by kernel_rfl)
    (hF : ∀ v, den 0 (kret res dec) (mk (cC P fn 1) M) (envR v s) (memR v s) (kend (kret res dec)) = G Fi v := by intros; kernel_rfl) : EntF P R' := ⟨f, entN s (G (hull Fi)) enc,
  qbdz hT hm hf hn hs hde (q3k _ M) (q70 her) fun xs => by rw [← qwf, ← qwg, hF, qb]⟩
noncomputable def jnB {KR : Env → Mem → Option R} (hT : Tab.ok (TIof P) P) (hm : P.follows .mixedOrders = true) (fn : Func) (p : Nat) (M : MK P (TIof P) nt nb KR) (s : Shp) {τ : Type} (Ji : τ) (G : τ → NR → (Ex → Env → Mem → Option R) → Option R)
    (her : ((mk (cC P fn p) M).er).isSome = true := by kernel_rfl) (hF : ∀ v K, den nb KR (mk (cC P fn p) M) (envR v s) (memR v s) K = G Ji v K := by intros; kernel_rfl) : SubB P (TIof P) nt nb KR :=
  ⟨scOf (mk (cC P fn p) M), subN s (G (hull Ji)), qbd0 hT hm (q3k _ M) (q70 her) fun t m K => by rw [← qwf, ← qwg, hF, qb]⟩
noncomputable def lpB {KR : Env → Mem → Option R} (hT : Tab.ok (TIof P) P) (hm : P.follows .mixedOrders = true) (fn : Func) (p : Nat) (M : MK P (TIof P) nt nb KR) (s : Shp) {τ N : Type} (Li : τ) (G : τ → NR → (Ex → Env → Mem → Option R) → Nat → N)
    (B : NR → N → (Ex → Env → Mem → Option R) → Option R) (ap : N → NR → Option R) (la : (NR → Option R) → NR → N)
    (her : ((mk (cC P fn p) M).er).isSome = true := by kernel_rfl) (f0 : ∀ v K, ap (G Li v K 0) v = none := by intros; kernel_rfl) (fS : ∀ v K n, ap (G Li v K (n + 1)) v = B v (G Li v K n) K := by intros; kernel_rfl) (fI : ∀ v K n, la (fun v' => ap (G Li v' K n) v') v = G Li v K n := by intros; kernel_rfl)
    (fD : ∀ v K, den nb KR (mk (cC P fn p) M) (envR v s) (memR v s) K = B v (la (fun v' => K .norm (envR v' s) (memR v' s)) v) K := by intros; kernel_rfl)
    (fC : ∀ v nx D n K, B v nx (itK D n K) = B v nx K := by intros; kernel_rfl) : SubB P (TIof P) nt nb KR :=
  have key : ∀ (K : Ex → Env → Mem → Option R) (n : Nat) (v : NR), qmi (den nb KR (mk (cC P fn p) M)) n (envR v s) (memR v s) K = ap (G Li v K n) v := fun K n => by
    induction n with
    | zero => intro v; rw [f0]; rfl
    | succ n ih =>
      intro v
      rw [q7o, fD, fC, fS]
      have h : (fun v' => itK (den nb KR (mk (cC P fn p) M)) n K .norm (envR v' s) (memR v' s)) = fun v' => ap (G Li v' K n) v' := funext fun v' => ih v'
      rw [h, fI]
  ⟨.loop (scOf (mk (cC P fn p) M)), subN s (fun v K => ap (G (hull Li) v K FU) v), qbcw hT hm (q3k _ M) (q70 her) fun t m K => by rw [← qwf, ← qwg, key, qb]⟩
noncomputable def refB (hT : Tab.ok (TIof P) P) (hm : P.follows .mixedOrders = true) {f : FuncId} {fn : Func} (hf : P.funcs[f]? = some fn) (res : List SRes)
    (M : ∀ KK : AV → Mem → Option R, MK P (TIof P) nt nb (qe0 res KK)) (s : Shp) {τ : Type} (Fi : τ) (G : τ → NR → (AV → Mem → Option R) → Option R)
    (hn : (fn.name == "runtime.NumGoroutine") = false := by kernel_rfl) (hs : cFn (TIof P) fn = some ⟨nt, res, scOf (mk (cC P fn 1) (M fun _ _ => none))⟩ := by kernel_rfl) (her : ∀ KK, (mk (cC P fn 1) (M KK)).er = some (scOf (mk (cC P fn 1) (M fun _ _ => none))) := by intros; kernel_rfl) (hnb : s.os.length = nb := by kernel_rfl)
    (hF : ∀ v KK, den nb (qe0 res KK) (mk (cC P fn 1) (M KK)) (envR v s) (memR v s) (kend (qe0 res KK)) = G Fi v KK := by intros; kernel_rfl) : RefB P R := ⟨f, refN s (G (hull Fi)),
  qbd1 (ac := fun KK => mk (cC P fn 1) (M KK)) hT hm hf hn hs (fun KK => q3k _ (M KK)) her hnb fun xs m KK => by rw [← qwf, ← qwg, hF, qb]⟩
def decN {R : Type} (ts : List RV) (f : AV → R) (z : AV) : Option R := cond (q4y ts z) (some (f z)) none
theorem hdeN {R : Type} {ts : List RV} {f : AV → R} {enc : R → AV} (h : ∀ z, enc (f z) = .tup (qvj ts (tpL z) 0)) (z : AV) (r : R) (hz : decN ts f z = some r) : z = enc r := by
  obtain ⟨h1, h2⟩ := qg hz
  cases h2
  rw [h]
  exact (q86 h1).symm
def decX {R : Type} (x : RV) (f : AV → R) (z : AV) : Option R := cond (qnv x z) (some (f z)) none
theorem hdeX {R : Type} {x : RV} {f : AV → R} {enc : R → AV} (h : ∀ z, enc (f z) = qnw x z) (z : AV) (r : R) (hz : decX x f z = some r) : z = enc r := by
  obtain ⟨h1, h2⟩ := qg hz
  cases h2
  rw [h]
  exact (qj6 h1).symm
end
end Go.Pev
