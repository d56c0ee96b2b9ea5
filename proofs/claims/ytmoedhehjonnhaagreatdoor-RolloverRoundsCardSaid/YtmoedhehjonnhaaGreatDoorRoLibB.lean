/- The calculus over trees that the proof rests on, proved sound against the model (LibB). -/
import Derived.Test.YtmoedhehjonnhaaGreatDoorRoLibA
import Derived.Laws.AppendOwn
set_option linter.all false
/- Operations that make or write small objects (3): slices cut, made, grown. -/
namespace Go.Pev
open Go
set_option linter.unusedVariables false
set_option linter.unusedSimpArgs false
section
variable {g : Gh} {m : Mem} {w : World} {t : Env} {a : Act} {P : Program} {T : Tab}
theorem q38 {α : Type} (l : List α) (h k i : Nat) : ((l.take h).drop k)[i]? = if k + i < h then l[k + i]? else none := by
  rw [List.getElem?_drop, List.getElem?_take]
theorem q6m {I : Nat → Nat → Prop} {e : Nat} {xs : List AV} {sa : Option Addr} {len c : Nat} (hx : CRel I w (.sl e xs) (.slice sa len c)) {k h : Nat} (hkh : k ≤ h) (hh : h ≤ xs.length) :
    CRel I w (.sl e ((xs.take h).drop k)) (.slice (if c = k then sa else sa.map (·.add (k * e))) (h - k) (c - k)) := by
  cases hx with
  | sl _ _ _ _ b o gf hcap ha he hl hc hcc =>
    have hlen : ((xs.take h).drop k).length = h - k := by simp; omega
    rw [← hlen]
    have hsub : ∀ (i : Nat) (x : AV), ((xs.take h).drop k)[i]? = some x → xs[k + i]? = some x := by
      intro i x hx
      rw [q38] at hx
      split at hx
      · exact hx
      · cases hx
    by_cases hck : c = k
    · have : (xs.take h).drop k = [] := by apply List.eq_nil_of_length_eq_zero; omega
      rw [this]
      exact .sl e [] _ _ 0 0 (fun _ => Go.undef) (by simp) (.inl rfl) (by simp) (by simp) (by simp) (by simp)
    · rw [if_neg hck]
      have e1 : ∀ i q, k * e + (i * e + q) = (k + i) * e + q := fun i q => by rw [Nat.add_mul]; omega
      refine .sl e _ _ _ b (o + k * e) (fun j => gf (k * e + j)) (by omega) ?_ (fun i x hx => he _ x (hsub i x hx)) (fun i x q y hx hy => hl _ x q y (hsub i x hx) hy) (fun i x q y hx hy => ?_) (fun i x q y hx hy => ?_)
      · rcases ha with ha | ha
        · subst ha; left; simp
        · subst ha; right; simp [qhi]
      · have := hc _ x q y (hsub i x hx) hy
        rw [Nat.add_assoc o, e1]
        exact this
      · have := hcc _ x q y (hsub i x hx) hy
        simp only [e1]
        exact this
theorem qbe1 (hT : T.ok P) (hok : OK g m w) (hr : ERel g m w t a) {o : Oper} {s : TypeId} {x : Operand} {lo hi : Option Operand} {x' : Opd} {lo' hi' : Option Opd} {v : AV} {m' : Mem} (ho : o.op = .slice s x lo hi none) {si ei : TI} {se : TypeId} (hsi : T s = some si) (htd : si.td = .slice se) (hei : T se = some ei)
    (hx : cOpd x = some x') (hlo : cOpt lo = some lo') (hhi : cOpt hi = some hi') (hv : qd t m (.slc ei.sz x' lo' hi') = some (v, m')) : MC P g m w a o v m' := by
  obtain ⟨i, d, hd⟩ := hT.facts hsi
  obtain ⟨j, de, hde⟩ := hT.facts hei
  have htd' := hd.td
  rw [htd] at htd'
  cases d <;> simp [TDof] at htd'
  subst htd'
  simp only [qd] at hv
  split at hv
  · rename_i hesz
    split at hv
    · rename_i xs hxs
      obtain ⟨ys, hcut, hve⟩ := Option.map_eq_some_iff.1 hv
      simp at hve
      obtain ⟨rfl, rfl⟩ := hve
      have hx1 := qe hr hx
      obtain ⟨hok1, hvx1⟩ := hok.frz (ids (ev t x'))
      have hext1 := Ext.frz hok (ids (ev t x'))
      -- the slice, closed
      obtain ⟨sa, c, hp, hlc, hrel⟩ : ∃ sa c, a.eval x = .slice sa xs.length c ∧ xs.length ≤ c ∧ CRel (g.shut m (ids (ev t x'))).I w (.sl ei.sz xs) (.slice sa xs.length c) := by
        generalize hpv : a.eval x = pv at hx1
        unfold els at hxs
        split at hxs
        · rename_i he
          simp at hxs; subst hxs
          rw [he] at hx1
          cases hx1 with
          | c h => cases h; exact ⟨none, 0, rfl, by simp, .sl ei.sz [] _ _ 0 0 (fun _ => Go.undef) (by simp) (.inl rfl) (by simp) (by simp) (by simp) (by simp)⟩
        · rename_i e xs0 he
          simp at hxs; subst hxs
          rw [he] at hx1 hesz
          have : e = ei.sz := by simpa [esz] using hesz
          subst this
          cases hx1 with
          | c h =>
            have h2 := h.mono (I' := (g.shut m (ids (ev t x'))).I) (w' := w) (fun b k hk => ⟨.inl hk, rfl⟩)
            cases h with
            | sl _ _ sa c b o gf hcap ha hee hl hc hh => exact ⟨sa, c, rfl, hcap, h2⟩
        · rename_i r n he
          split at hxs
          · rename_i wf e xs0 hs
            split at hxs
            · rename_i hn
              simp at hxs; subst hxs
              rw [he] at hx1 hesz
              have : e = ei.sz := by simpa [esz, hs] using hesz
              subst this
              have hsn : snap m (.own r n) = some (.sl ei.sz xs0) := by simp [snap, qu, hs, hn]
              have h2 := (qeu hok hx1 hsn (l := ids (ev t x')) (fun q hq => by rw [he]; exact hq)).1
              have h3 := h2
              cases h3 with
              | sl _ _ sa c b o gf hcap ha hee hl hc hh => exact ⟨sa, c, rfl, hcap, h2⟩
            · cases hxs
          · cases hxs
        · cases hxs
      obtain ⟨h1, h2⟩ := qly hr hlo
      obtain ⟨h3, h4⟩ := qly hr hhi
      obtain ⟨k, n, hkn, hnl, rfl, hrun⟩ := qol (P := P) h1 h2 h3 h4 hcut true c (fun h => by cases h) hlc
      refine ⟨.value _, _, w, _, ?_, .inl rfl, .c (q6m hrel hkn hnl), hok1, hext1⟩
      unfold execOp
      simp only [ho, hp]
      have hrun' := hrun w
      simp [Instr.sliceAt, Instr.slice, run_underlying hd.und, hrun', hde.sizeOf w]
    · cases hv
  · cases hv
theorem qbdt (hT : T.ok P) (hok : OK g m w) (hr : ERel g m w t a) {o : Oper} {s : TypeId} {x : Operand} {lo hi : Option Operand} {x' : Opd} {lo' hi' : Option Opd} {v : AV} {m' : Mem} (ho : o.op = .slice s x lo hi none) {si ei : TI} {n se : Nat} (hsi : T s = some si) (htd : si.td = .arr n se) (hei : T se = some ei)
    (hx : cOpd x = some x') (hlo : cOpt lo = some lo') (hhi : cOpt hi = some hi') (hv : qd t m (.slca n ei.sz x' lo' hi') = some (v, m')) : MC P g m w a o v m' := by
  obtain ⟨i, d, hd⟩ := hT.facts hsi
  obtain ⟨j, de, hde⟩ := hT.facts hei
  have htd' := hd.td
  rw [htd] at htd'
  cases d <;> simp [TDof] at htd'
  obtain ⟨rfl, rfl⟩ := htd'
  simp only [qd] at hv
  split at hv
  · rename_i r he
    split at hv
    · rename_i wf cs hs
      split at hv
      · rename_i hcond
        obtain ⟨he1, hcl⟩ := hcond
        split at hv
        · rename_i ys hys
          split at hv
          · rename_i hemp
            obtain ⟨zs, hcut, hve⟩ := Option.map_eq_some_iff.1 hv
            simp at hve
            obtain ⟨rfl, rfl⟩ := hve
            have hx1 := qe hr hx
            rw [he] at hx1
            generalize hpv : a.eval x = pv at hx1
            cases hx1 with
            | c h => cases h
            | ptr _ _ hrn =>
              obtain ⟨arr, hb1, hb2, hb3, hb4, hb5⟩ := hok.ob r _ hs
              have hids : ∀ z, z ∈ cs → qv z = [] := by
                intro z hz
                have := List.isEmpty_iff.1 hemp
                exact (List.flatMap_eq_nil_iff.1 this) z hz
              obtain ⟨hsn1, hsn2⟩ := qht _ _ hys
              have hyseq : ys = cs := by
                apply List.ext_getElem?
                intro k
                by_cases hk : k < cs.length
                · have h1 : cs[k]? = some cs[k] := by simp [hk]
                  have h2 : ys[k]? = some (ys[k]'(by omega)) := by simp [hsn1, hk]
                  have h3 := hsn2 k _ _ h1 h2
                  have hk2 : k < arr.size := by omega
                  rw [h1, h2, (qil (hb4 k cs[k] arr[k] h1 (by simp [hk2])) h3 (hids _ (List.getElem_mem hk))).2]
                · rw [List.getElem?_eq_none (by omega), List.getElem?_eq_none (by omega)]
              subst hyseq
              have hclosed : ∀ (k : Nat) (z : AV) (u : Value), ys[k]? = some z → arr[k]? = some u → CRel g.I w z u := by
                intro k z u hz hu
                have h3 := hsn2 k z z hz hz
                exact (qil (hb4 k z u hz hu) h3 (hids _ (List.mem_of_getElem? hz))).1
              -- the variable, shut
              let g1 : Gh := { g with I := fun b k => g.I b k ∨ (b = g.jb r ∧ k < arr.size) }
              obtain ⟨hok1, hext1⟩ := OK.one (g := g) (m := m) (w := w) (g1 := g1) (w1 := w) (m1 := m.set r (.box false ys)) r (.box false ys) hok rfl (Nat.le_refl _) hrn
                (fun _ _ => ⟨rfl, rfl⟩) (fun _ => rfl) (fun _ wf' e' xs' h => by cases h) (fun _ _ _ => rfl) (Nat.le_refl _) rfl rfl rfl (fun _ _ h => .inl h)
                (fun b k hk => by
                  rcases hk with hk | ⟨rfl, hk⟩
                  · exact .inl hk
                  · exact .inr (.inr ⟨_, hs, rfl⟩)) (fun _ _ _ => rfl)
                (fun b k hk => by
                  rcases hk with hk | ⟨rfl, hk⟩
                  · exact hok.im b k hk
                  · exact ⟨arr[k], by rw [qr hb1]; simp [hk]⟩)
                (fun hvx => ⟨arr, hb1, hb2, hb3, fun k x v hx hv => (hb4 k x v hx hv).mono hvx, fun k => ⟨fun hk => by
                    rcases hk with hk | ⟨_, hk⟩
                    · exact ⟨rfl, ((hb5 k).1 hk).2⟩
                    · exact ⟨rfl, hk⟩, fun hk => .inr ⟨rfl, hk.2⟩⟩⟩)
                (fun b hb => .inr ⟨_, hs, by simpa [Ob.blk] using hb⟩)
              obtain ⟨h1, h2⟩ := qly hr hlo
              obtain ⟨h3, h4⟩ := qly hr hhi
              obtain ⟨k, h, hkn, hnl, rfl, hrun⟩ := qol (P := P) h1 h2 h3 h4 hcut false ys.length (fun _ => rfl) (Nat.le_refl _)
              have hrel : CRel g1.I w (.sl 1 ys) (.slice (some ⟨g.jb r, 0, none⟩) ys.length ys.length) := by
                have cl1 : ∀ (i : Nat) (z : AV), ys[i]? = some z → z.cells = [z] := by
                  intro i z hz
                  have := hb3 z (List.mem_of_getElem? hz)
                  cases z <;> first | rfl | (simp [AV.leaf] at this)
                refine .sl 1 ys _ _ (g.jb r) 0 (fun q => arr.getD q Go.undef) (Nat.le_refl _) (.inr rfl) (fun i z hz => by rw [cl1 i z hz]; rfl) (fun i z q y hz hy => ?_) (fun i z q y hz hy => ?_) (fun i z q y hz hy => ?_)
                · rw [cl1 i z hz] at hy
                  cases q with
                  | zero => simp at hy; subst hy; exact hb3 z (List.mem_of_getElem? hz)
                  | succ q => simp at hy
                · rw [cl1 i z hz] at hy
                  have hi : i < arr.size := by rw [hb2]; exact (List.getElem?_eq_some_iff.1 hz).1
                  cases q with
                  | zero =>
                    simp only [Nat.mul_one, Nat.add_zero, Nat.zero_add]
                    exact ⟨.inr ⟨rfl, hi⟩, by rw [qr hb1]; simp [hi]⟩
                  | succ q => simp at hy
                · rw [cl1 i z hz] at hy
                  have hi : i < arr.size := by rw [hb2]; exact (List.getElem?_eq_some_iff.1 hz).1
                  cases q with
                  | zero =>
                    simp at hy; subst hy
                    simp only [Nat.mul_one, Nat.add_zero]
                    have : arr.getD i Go.undef = arr[i] := by simp [hi]
                    rw [this]
                    exact (hclosed i z arr[i] hz (by simp [hi])).mono (fun b k hk => ⟨.inl hk, rfl⟩)
                  | succ q => simp at hy
              have hcr := q6m hrel hkn hnl
              refine ⟨.value _, _, w, g1, ?_, .inl rfl, .c hcr, hok1, hext1⟩
              unfold execOp
              simp only [ho, hpv]
              have hrun' := hrun w
              rw [hcl] at hrun'
              simp only [Instr.sliceAt, Sem.run_bind, run_underlying hd.und, Result.andThen_ok, Instr.sureAddr, Sem.run_pure, Option.map_none, hrun', hde.sizeOf w, he1, hcl]
              congr 2
              congr 1
              split <;> rfl
          · cases hv
        · cases hv
      · cases hv
    · cases hv
  · cases hv
end
end Go.Pev
/- Operations that make or write small objects (4): make and append. -/
namespace Go.Pev
open Go
set_option linter.unusedVariables false
set_option linter.unusedSimpArgs false
section
variable {g : Gh} {m : Mem} {w : World} {t : Env} {a : Act} {P : Program} {T : Tab}
theorem q6n (e i k : Nat) (hk : k < e) : (i * e + k) % e = k := by
  rw [Nat.add_comm, Nat.add_mul_mod_self_right, Nat.mod_eq_of_lt hk]
theorem qbca (e i k : Nat) (hk : k < e) : (i * e + k) / e = i := by
  rw [Nat.add_comm, Nat.add_mul_div_right _ _ (by omega), Nat.div_eq_of_lt hk, Nat.zero_add]
theorem q8c (hT : T.ok P) (hok : OK g m w) (hr : ERel g m w t a) {o : Oper} {ty : TypeId} {l c : Operand} {l' c' : Opd} {z1 : AV} {v : AV} {m' : Mem} (ho : o.op = .makeSlice ty l c) {ti ei : TI} {te : TypeId} (hti : T ty = some ti) (htd : ti.td = .slice te) (hei : T te = some ei) {z : List AV} (hz : ei.zero = some z)
    (hsz : ei.sz ≠ 0) (hzl : z.length = ei.sz) (hby : ei.bytes ≠ 0) (hl : cOpd l = some l') (hc : cOpd c = some c') (hz1 : z1.cells = z) (hv : qd t m (.mksl ei.sz ei.bytes z1 l' c') = some (v, m')) : MC P g m w a o v m' := by
  obtain ⟨i, d, hd⟩ := hT.facts hti
  obtain ⟨j, de, hde⟩ := hT.facts hei
  obtain ⟨zv, hzv1, hzv2, hzv3⟩ := hde.zeroValue hz
  obtain ⟨hc1, hc2, hc3⟩ := qkd (I := g.I) (w := w) hzv2
  have htd' := hd.td
  rw [htd] at htd'
  cases d <;> simp [TDof] at htd'
  subst htd'
  simp only [qd, mkOf] at hv
  have hl1 := qe hr hl
  have hcc1 := qe hr hc
  split at hv
  · rename_i n k he1 he2
    split at hv
    · rename_i hcond
      obtain ⟨h0, hnk, hbig⟩ := hcond
      simp at hv
      obtain ⟨rfl, rfl⟩ := hv
      rw [he1] at hl1
      rw [he2] at hcc1
      have hlv := hl1.int_inv
      have hcv := hcc1.int_inv
      have hk48 : k ≤ 281474976710656 := by
        have h1 : (1 : Int) ≤ ei.bytes := by omega
        have := Int.mul_le_mul_of_nonneg_left h1 (show 0 ≤ k by omega)
        omega
      have hwn : IntKind.i64.wrap n = n := by simp [IntKind.wrap, IntKind.signed, IntKind.bits]; omega
      have hwk : IntKind.i64.wrap k = k := by simp [IntKind.wrap, IntKind.signed, IntKind.bits]; omega
      have hcomm : (ei.bytes : Int) * k = k * ei.bytes := Int.mul_comm _ _
      have hnl2 : ¬ (k < 0 ∨ (ei.bytes : Int) * k > 281474976710656) := by omega
      have hlist : (List.replicate n.toNat z1).length = n.toNat := by simp
      have hzc : zv.cells.size = ei.sz := by rw [hc1, hzl]
      let arr : Array Value := (Array.range (k.toNat * ei.sz)).map (zv.cells[· % zv.cells.size]!)
      obtain ⟨h5, h6⟩ := hok.newArr ei.sz k.toNat (List.replicate n.toNat z1) arr te (by simp; omega) (by simp [arr])
        (fun i x hx => by
          have : x = z1 := by have := List.mem_of_getElem? hx; simpa using (List.mem_replicate.1 this).2
          rw [this, hz1, hzl])
        (fun i x q y hx hy => by
          have : x = z1 := by have := List.mem_of_getElem? hx; simpa using (List.mem_replicate.1 this).2
          rw [this, hz1] at hy
          exact hc2 y (List.mem_of_getElem? hy))
        (fun i x q y u hx hy hu => by
          have : x = z1 := by have := List.mem_of_getElem? hx; simpa using (List.mem_replicate.1 this).2
          rw [this, hz1] at hy
          have hq : q < ei.sz := by rw [← hzl]; exact (List.getElem?_eq_some_iff.1 hy).1
          have hlt : i * ei.sz + q < k.toNat * ei.sz := by
            have := (Array.getElem?_eq_some_iff.1 hu).1
            simpa [arr] using this
          have hu2 : arr[i * ei.sz + q]? = some zv.cells[q]! := by
            simp [arr, hlt, hzc, q6n ei.sz i q hq]
          rw [hu2] at hu
          cases hu
          exact hc3 q y _ hy (by have : q < zv.cells.size := by omega
                                 simp [this]))
      refine ⟨.value (.slice (some ⟨w.heap.size, 0, none⟩) n.toNat k.toNat), _, w.alloc (.cells arr te), _, ?_, .inl rfl, ?_, h5, h6⟩
      · unfold execOp
        simp only [ho, hlv, hcv]
        have hti2 := hde.typeInfo w
        have hby2 : j.bytes = ei.bytes := hde.bytes.symm
        have hb1 : (decide (k < 0) || decide ((ei.bytes : Int) * k > 281474976710656) || decide (n < 0) || decide (n > k)) = false := by simp; omega
        simp only [Instr.makeSlice, Sem.run_bind, run_underlying hd.und, Result.andThen_ok, asInt, asIntOf, Sem.run_pure, hti2, hby2, hwn, hwk, Int.reducePow, hb1, Bool.false_eq_true, if_false, run_askRoom, hde.sizeOf w, Sem.run_ite]
        by_cases hn0 : k.toNat * ei.sz = 0
        · have hk0 : k.toNat = 0 := by
            rcases Nat.mul_eq_zero.1 hn0 with h | h
            · exact h
            · exact absurd h hsz
          have harr : arr = #[] := by apply Array.eq_empty_of_size_eq_zero; simp [arr, hn0]
          have hr0 : (Array.map (fun (_ : Nat) => (default : Value)) (Array.range 0)) = #[] := by simp [Array.range]
          simp [hn0, newRow, harr, hk0, hr0]
        · simp only [if_neg hn0, hzv3 w, Result.andThen_ok]
          simp [newRow, arr]
      · have := VRel.own (g := g.adda m.n ⟨w.heap.size, k.toNat, false⟩) (m := m.new (.arr true ei.sz (List.replicate n.toNat z1))) (w := w.alloc (.cells arr te)) m.n n.toNat (some ⟨w.heap.size, 0, none⟩) k.toNat (by simp [Mem.new]) (fun wf e' xs' hs => by
          simp [Mem.new] at hs
          obtain ⟨rfl, rfl, rfl⟩ := hs
          exact ⟨by simp, fun _ => by simp [Gh.adda, Bk.val]⟩)
        exact this
    · cases hv
  · cases hv
theorem q8d {b o e : Nat} {xs : List AV} (h : q0z g w b o e xs) (he : e ≠ 0) :
    ∃ vs : List Value, vs.length = xs.length * e ∧ (∀ (j : Nat) (v : Value), vs[j]? = some v → w.cell? ⟨b, o + j, none⟩ = some v ∧ v.oneCell' = true) ∧
      ∀ (i : Nat) (x : AV) (k : Nat) (y : AV) (v : Value), xs[i]? = some x → x.cells[k]? = some y → vs[i * e + k]? = some v → CRel g.I w y v := by
  obtain ⟨h1, h2, h3⟩ := h
  have key : ∀ j, j < xs.length * e → ∃ v, w.cell? ⟨b, o + j, none⟩ = some v ∧ v.oneCell' = true ∧ ∀ x y, xs[j / e]? = some x → x.cells[j % e]? = some y → CRel g.I w y v := by
    intro j hj
    have hi : j / e < xs.length := (Nat.div_lt_iff_lt_mul (by omega)).2 hj
    have hk : j % e < e := Nat.mod_lt _ (by omega)
    have hx : xs[j / e]? = some xs[j / e] := by simp [hi]
    have hxl := h1 _ _ hx
    have hy : (xs[j / e]).cells[j % e]? = some ((xs[j / e]).cells[j % e]'(by omega)) := by simp [hxl, hk]
    obtain ⟨v, h4, h5⟩ := h3 _ _ _ _ hx hy
    have hj2 : j / e * e + j % e = j := by rw [Nat.mul_comm]; exact Nat.div_add_mod j e
    rw [hj2] at h4
    refine ⟨v, h4, h5.oneCell (h2 _ _ _ _ hx hy), fun x y hx' hy' => ?_⟩
    rw [hx] at hx'
    cases hx'
    rw [hy] at hy'
    cases hy'
    exact h5
  obtain ⟨vs, hl, hv⟩ := qqg (P := fun j v => w.cell? ⟨b, o + j, none⟩ = some v ∧ v.oneCell' = true ∧ ∀ x y, xs[j / e]? = some x → x.cells[j % e]? = some y → CRel g.I w y v) (xs.length * e) key
  refine ⟨vs, hl, fun j v hjv => ⟨(hv j v hjv).1, (hv j v hjv).2.1⟩, fun i x k y v hx hy hvv => ?_⟩
  have hk : k < e := by rw [← h1 i x hx]; exact (List.getElem?_eq_some_iff.1 hy).1
  exact (hv _ v hvv).2.2 x y (by rw [qbca e i k hk]; exact hx) (by rw [q6n e i k hk]; exact hy)
theorem qbcb {x : AV} {e e' : Nat} {ys : List AV} (h1 : esz m e x = true) (h2 : esz m e' x = true) (h : els m x = some ys) (hy : ys ≠ []) : e' = e := by
  unfold esz at h1 h2
  cases x with
  | nils => simp [els] at h; exact absurd h hy
  | sl e0 xs => simp at h1 h2; omega
  | own r n =>
    cases hs : m.s r with
    | none => simp [hs] at h1
    | some ob => cases ob <;> simp [hs] at h1 h2; omega
  | _ => simp at h1
theorem qbcc (hok : OK g m w) {x : AV} {v : Value} (hx : VRel g m w x v) {e : Nat} (he : e ≠ 0) {ys : List AV} (h : qn3 m e x = some ys) :
    ∃ vs : List Value, vs.length = ys.length * e ∧ (∀ v, v ∈ vs → v.oneCell' = true) ∧ (∀ w', (Builtin.lenOf v).run P w' = .ok ys.length w') ∧ (∀ w', Old w w' → (Builtin.firstCells e ys.length v).run P w' = .ok vs.toArray w') ∧
      (∀ (i : Nat) (x : AV), ys[i]? = some x → x.cells.length = e) ∧ (∀ (i : Nat) (x : AV) (k : Nat) (y : AV), ys[i]? = some x → x.cells[k]? = some y → y.leaf = true) ∧
      (∀ (i : Nat) (x : AV) (k : Nat) (y : AV) (v : Value), ys[i]? = some x → x.cells[k]? = some y → vs[i * e + k]? = some v → CRel g.I w y v) := by
  by_cases hstr : ∃ b, x = .str b
  · obtain ⟨b, rfl⟩ := hstr
    simp only [qn3] at h
    split at h
    · rename_i he1
      subst he1
      simp at h; subst h
      obtain ⟨bs, rfl, rfl⟩ := hx.str_inv
      refine ⟨bs.data.toList.map fun c => Value.int .u8 c.toNat, by simp, fun v hv => ?_, fun w' => by simp [Builtin.lenOf], fun w' _ => ?_, fun i x hx => ?_, fun i x k y hx hy => ?_, fun i x k y v hx hy hv => ?_⟩
      · obtain ⟨c, _, rfl⟩ := List.mem_map.1 hv; rfl
      · have hs : (bs.data.toList.map fun (c : UInt8) => AV.int .u8 c.toNat).length = bs.size := by simp
        rw [hs]
        have hex : (bs.extract 0 bs.size) = bs := by
          rw [ByteArray.extract_zero_size]
        simp only [Builtin.firstCells, Sem.run_pure, hex]
        congr 1
        rw [← Array.toList_inj]
        simp
      · simp only [List.getElem?_map, Option.map_eq_some_iff] at hx
        obtain ⟨c, _, rfl⟩ := hx
        rfl
      · simp only [List.getElem?_map, Option.map_eq_some_iff] at hx
        obtain ⟨c, _, rfl⟩ := hx
        cases k with
        | zero => simp [AV.cells] at hy; subst hy; rfl
        | succ k => simp [AV.cells] at hy
      · simp only [List.getElem?_map, Option.map_eq_some_iff] at hx
        obtain ⟨c, hc, rfl⟩ := hx
        cases k with
        | zero =>
          simp [AV.cells] at hy; subst hy
          simp only [Nat.mul_one, Nat.add_zero, List.getElem?_map, hc, Option.map_some, Option.some.injEq] at hv
          subst hv
          exact .int _ _
        | succ k => simp [AV.cells] at hy
    · cases h
  · have h' : (if esz m e x then els m x else none) = some ys := by
      cases x <;> first | exact h | (exact absurd ⟨_, rfl⟩ hstr)
    clear h
    have h := h'
    clear h'
    split at h
    · rename_i hesz
      obtain ⟨sa, c, e', b, o, rfl, hlc, ha, hel, hes⟩ := q78 hok.to1 hx h
      by_cases hy0 : ys = []
      · subst hy0
        refine ⟨[], by simp, by simp, fun w' => by simp [Builtin.lenOf], fun w' _ => ?_, by simp, by simp, by simp⟩
        cases sa with
        | none => simp [Builtin.firstCells]
        | some ad => simp [Builtin.firstCells, loadCells, loadCellsFrom]
      · have hee : e' = e := by
          rcases hes with hes | hes
          · exact qbcb hesz hes h hy0
          · exact absurd hes hy0
        subst hee
        have hsa : sa = some ⟨b, o, none⟩ := ha.resolve_left hy0
        subst hsa
        obtain ⟨vs, h1, h2, h3⟩ := q8d hel he
        refine ⟨vs, h1, fun v hv => ?_, fun w' => by simp [Builtin.lenOf], fun w' hw => ?_, hel.1, hel.2.1, h3⟩
        · obtain ⟨j, hj, rfl⟩ := List.getElem_of_mem hv
          exact (h2 j _ (by simp [hj])).2
        · have := run_loadCells_list (P := P) w' ⟨b, o, none⟩ vs (fun j v hj => by rw [qhi]; exact hw.cell (h2 j v hj).1)
          rw [h1] at this
          simp only [Builtin.firstCells, this]
    · cases h
theorem qst {sT xT ty el : TypeId} {d2 : TypeDesc} (hsT : P.underlying sT = some (.slice el)) (hxT : P.underlying xT = some d2) (hd2 : ∀ k, d2 ≠ .int k) {ei : TI} {j de} (hde : TIs P el ei j de) {zv : Value} (hzv : ∀ w, (Go.zeroValue el).run P w = .ok zv w) (hzs : zv.cells.size = ei.sz) (hby : ei.bytes ≠ 0)
    (base : Option Addr) (sLen sCap : Nat) (x : Value) (n : Nat) (olds news : List Value) (hlx : ∀ w', (Builtin.lenOf x).run P w' = .ok n w') (hnews : ∀ w', Old w w' → (Builtin.firstCells ei.sz n x).run P w' = .ok news.toArray w')
    (hbig : (sLen + n) * ei.bytes ≤ 140737488355328) :
    (sLen + n ≤ sCap → ∀ w1, (match base with | some ad => (storeCells (ad.add (sLen * ei.sz)) news).run P w = .ok () w1 | none => w1 = w) → (Builtin.append_ #[sT, xT] ty #[.slice base sLen sCap, x]).run P w = .ok (.slice base (sLen + n) sCap) w1) ∧
    (sCap < sLen + n → (∀ w', Old w w' → (Builtin.firstCells ei.sz sLen (.slice base sLen sCap)).run P w' = .ok olds.toArray w') → ∃ cap rest, sLen + n ≤ cap ∧ rest.length = (cap - (sLen + n)) * ei.sz ∧
      (Builtin.append_ #[sT, xT] ty #[.slice base sLen sCap, x]).run P w = .ok (.slice (some ⟨w.heap.size, 0, none⟩) (sLen + n) cap) (w.drew.alloc (.cells (olds ++ news ++ rest).toArray el))) := by
  have hzero : (match d2 with | .int _ => true | _ => false) = false := by cases d2 <;> first | rfl | (exact absurd rfl (hd2 _))
  refine ⟨fun hfit w1 hst => ?_, fun hno holds => ?_⟩
  · have hw := hnews w (Old.refl w)
    cases base with
    | none =>
      subst hst
      simp [Builtin.append_, run_underlying hsT, run_underlying hxT, hde.sizeOf, hzero, hlx, hfit, hw]
    | some ad =>
      simp [Builtin.append_, run_underlying hsT, run_underlying hxT, hde.sizeOf, hzero, hlx, hfit, hw, hst]
  · have hb1 : j.bytes = ei.bytes := hde.bytes.symm
    have hgf := growslice_fits hno hbig
    have h63 : ¬ (9223372036854775807 < ((sLen : Int) + (n : Int))) := by
      have : sLen + n ≤ (sLen + n) * ei.bytes := Nat.le_mul_of_pos_right _ (by omega)
      omega
    have hn : ¬ (sLen + n ≤ sCap) := by omega
    have h48 : ¬ (281474976710656 < Builtin.nextslicecap (sLen + n) sCap * ei.bytes) := by omega
    have hod : Old w w.drew := fun b _ => rfl
    refine ⟨grownCap w (sLen + n) sCap el, (Builtin.zeroCells zv.cells (grownCap w (sLen + n) sCap el - (sLen + n))).toList, grownCap_ge _ _ _ _, by simp [Builtin.zeroCells, hzs], ?_⟩
    have hti := hde.typeInfo (P := P)
    simp [Builtin.append_, run_underlying hsT, run_underlying hxT, hde.sizeOf, hzero, hlx, hn, hti, hb1, h63, h48, hby, hzv, hnews w.drew hod, holds w.drew hod, Question.forced, newRow, grownCap]
    congr 2
    rw [← Array.toList_inj]
    simp
end
end Go.Pev
/- append; all operations that make or write small objects, together. -/
namespace Go.Pev
open Go
set_option linter.unusedVariables false
set_option linter.unusedSimpArgs false
section
variable {g : Gh} {m : Mem} {w : World} {t : Env} {a : Act} {P : Program} {T : Tab}
theorem qom {xs ys : List AV} {e : Nat} {olds news rest : List Value} (ho : olds.length = xs.length * e) (hn : news.length = ys.length * e) (hxl : ∀ (i : Nat) (x : AV), xs[i]? = some x → x.cells.length = e) (hyl : ∀ (i : Nat) (x : AV), ys[i]? = some x → x.cells.length = e)
    {i k : Nat} {x y : AV} {u : Value} (hx : (xs ++ ys)[i]? = some x) (hy : x.cells[k]? = some y) (hu : (olds ++ news ++ rest)[i * e + k]? = some u) :
    (xs[i]? = some x ∧ olds[i * e + k]? = some u) ∨ (ys[i - xs.length]? = some x ∧ news[(i - xs.length) * e + k]? = some u) := by
  by_cases hi : i < xs.length
  · rw [List.getElem?_append_left hi] at hx
    have hk : k < e := by rw [← hxl i x hx]; exact (List.getElem?_eq_some_iff.1 hy).1
    have hlt : i * e + k < xs.length * e := by
      have := Nat.mul_le_mul_right e (show i + 1 ≤ xs.length by omega)
      rw [Nat.add_mul] at this
      omega
    rw [List.append_assoc, List.getElem?_append_left (by omega)] at hu
    exact .inl ⟨hx, hu⟩
  · rw [List.getElem?_append_right (by omega)] at hx
    have hk : k < e := by rw [← hyl _ x hx]; exact (List.getElem?_eq_some_iff.1 hy).1
    have hi2 : i - xs.length < ys.length := (List.getElem?_eq_some_iff.1 hx).1
    have e1 : i * e + k - xs.length * e = (i - xs.length) * e + k := by
      have : i * e = xs.length * e + (i - xs.length) * e := by rw [← Nat.add_mul]; congr 1; omega
      omega
    have hge : xs.length * e ≤ i * e + k := by
      have := Nat.mul_le_mul_right e (show xs.length ≤ i by omega)
      omega
    have hlt : (i - xs.length) * e + k < ys.length * e := by
      have := Nat.mul_le_mul_right e (show i - xs.length + 1 ≤ ys.length by omega)
      rw [Nat.add_mul] at this
      omega
    rw [List.append_assoc, List.getElem?_append_right (by omega), ho, e1, List.getElem?_append_left (by omega)] at hu
    exact .inr ⟨hx, hu⟩
theorem qbbu (hT : T.ok P) (hok : OK g m w) (hr : ERel g m w t a) {o : Oper} {c : Call} {s x : Operand} {sT xT el : TypeId} {s' x' : Opd} {v : AV} {m' : Mem} (ho : o.op = .call c) (hb : c.callee = .builtin .append) (hargs : c.args.toList = [s, x]) (hty : c.argTypes.toList = [sT, xT])
    {si xi ei : TI} (hsi : T sT = some si) (hxi : T xT = some xi) (htd : si.td = .slice el) (hxtd : xi.td = .str ∨ ∃ q, xi.td = .slice q) (hei : T el = some ei) {z : List AV} (hz : ei.zero = some z) (hsz : ei.sz ≠ 0) (hzl : z.length = ei.sz) (hby : ei.bytes ≠ 0) (hs : cOpd s = some s') (hx : cOpd x = some x')
    (hv : qd t m (.app ei.sz ei.bytes s' x') = some (v, m')) : MC P g m w a o v m' := by
  obtain ⟨i, d, hd⟩ := hT.facts hsi
  obtain ⟨i2, d2, hd2⟩ := hT.facts hxi
  obtain ⟨j, de, hde⟩ := hT.facts hei
  obtain ⟨zv, hzv1, hzv2, hzv3⟩ := hde.zeroValue hz
  obtain ⟨hc1, _, _⟩ := qkd (I := g.I) (w := w) hzv2
  have hzs : zv.cells.size = ei.sz := by rw [hc1, hzl]
  have htd' := hd.td
  rw [htd] at htd'
  cases d <;> simp [TDof] at htd'
  subst htd'
  have hd2i : ∀ k, d2 ≠ .int k := by
    intro k hk
    subst hk
    have := hd2.td
    rcases hxtd with h | ⟨q, h⟩ <;> rw [h] at this <;> simp [TDof] at this
  have hargs' : c.args = #[s, x] := by rw [← Array.toList_inj]; exact hargs
  have hty' : c.argTypes = #[sT, xT] := by rw [← Array.toList_inj]; exact hty
  have hs1 := qe hr hs
  have hx1 := qe hr hx
  have hexec : ∀ u w', (Builtin.append_ #[sT, xT] o.type #[a.eval s, a.eval x]).run P w = .ok u w' → (execOp a.eval o).run P w = .ok (.value u) w' := by
    intro u w' hr'
    unfold execOp
    simp only [ho]
    simp [resolve, hb, hargs', hty', invoke, builtin, hr']
  simp only [qd, q3b] at hv
  split at hv
  · rename_i xs ys hxs hys
    split at hv
    · rename_i hcond
      obtain ⟨hesz, hbig⟩ := hcond
      obtain ⟨news, hn1, hn2, hn3, hn4, hn5, hn6, hn7⟩ := qbcc (P := P) hok hx1 hsz hys
      -- a new block behind what was drawn
      have hdr := hok.same (w' := w.drew) rfl rfl rfl rfl
      split at hv
      · -- onto nil
        rename_i hse
        simp at hv
        obtain ⟨rfl, rfl⟩ := hv
        rw [hse] at hs1 hxs
        simp [els] at hxs; subst hxs
        generalize hpv : a.eval s = pv at hs1
        cases hs1 with
        | c h => cases h with
          | nils =>
            obtain ⟨hfit, hgrow⟩ := qst (P := P) (w := w) (ty := o.type) hd.und hd2.und hd2i hde hzv3 hzs hby none 0 0 (a.eval x) ys.length [] news hn3 hn4 (by simpa using hbig)
            by_cases hy0 : ys.length = 0
            · have hys0 : ys = [] := List.eq_nil_of_length_eq_zero hy0
              have hrun := hexec _ _ (by rw [hpv]; exact hfit (by omega) w rfl)
              obtain ⟨h1, h2⟩ := hok.newNil ei.sz
              subst hys0
              refine ⟨.value (.slice none 0 0), _, w, _, by simpa using hrun, .inl rfl, ?_, h1, h2⟩
              exact VRel.own _ _ none 0 (by simp [Mem.new]) (fun wf e' xs' hs => by
                simp [Mem.new] at hs
                obtain ⟨rfl, rfl, rfl⟩ := hs
                exact ⟨by simp, fun _ => by simp [Gh.adda, Bk.val]⟩)
            · obtain ⟨cap, rest, hcap, hrl, hrun0⟩ := hgrow (by omega) (fun w' _ => by simp [Builtin.firstCells])
              have hrun := hexec _ _ (by rw [hpv]; exact hrun0)
              simp only [Nat.zero_add, List.nil_append] at hrun hcap hrl
              obtain ⟨h1, h2⟩ := hdr.1.newArr ei.sz cap ys (news ++ rest).toArray el hcap (by
                  simp only [List.size_toArray, List.length_append, hn1, hrl, ← Nat.add_mul]
                  exact Nat.mul_le_mul_right _ (by omega)) hn5 hn6 (fun i x k y u hx hy hu => by
                  have h0 : (([] : List AV) ++ ys)[i]? = some x := by simpa using hx
                  rcases qom (xs := []) (olds := []) (rest := rest) (by simp) hn1 (by simp) hn5 h0 hy (by simpa using hu) with ⟨h, _⟩ | ⟨h3, h4⟩
                  · simp at h
                  · exact (hn7 _ x k y u (by simpa using h3) hy (by simpa using h4)).mono (fun b k hk => hdr.2.im b k hk))
              refine ⟨.value (.slice (some ⟨w.heap.size, 0, none⟩) ys.length cap), _, _, _, by simpa using hrun, .inl rfl, ?_, h1, hdr.2.trans h2⟩
              exact VRel.own _ _ _ _ (by simp [Mem.new]) (fun wf e' xs' hs => by
                simp [Mem.new] at hs
                obtain ⟨rfl, rfl, rfl⟩ := hs
                exact ⟨by simp, fun _ => by simp [Gh.adda, Bk.val]⟩)
      · -- onto a slice of the frame's own
        rename_i r n hse
        split at hv
        · rename_i wf e0 xs0 hsr
          simp at hv
          obtain ⟨rfl, rfl⟩ := hv
          rw [hse] at hs1 hxs hesz
          have he0 : e0 = ei.sz := by simpa [esz, hsr] using hesz
          subst he0
          simp only [els, hsr] at hxs
          split at hxs
          · rename_i hlen
            simp at hxs; subst hxs
            generalize hpv : a.eval s = pv at hs1
            cases hs1 with
            | c h => cases h
            | own _ _ sa cc hrn hh =>
              obtain ⟨_, hval⟩ := hh wf ei.sz xs0 hsr
              have hval := hval hlen
              have hVR : ∀ (g1 : Gh) (w1 : World) (sa' : Option Addr) (c' : Nat), Value.slice sa' (xs0.length + ys.length) c' = (g1.ja r).val (xs0.length + ys.length) →
                  VRel g1 (m.set r (.arr wf ei.sz (xs0 ++ ys))) w1 (.own r (xs0.length + ys.length)) (.slice sa' (xs0.length + ys.length) c') := by
                intro g1 w1 sa' c' hvv
                refine VRel.own _ _ _ _ hrn (fun wf' e' xs' hs => ?_)
                simp [Mem.set] at hs
                obtain ⟨rfl, rfl, rfl⟩ := hs
                exact ⟨by simp, fun _ => hvv⟩
              -- the object grown into a new block
              have grow : ∀ (olds : List Value), (g.ja r).nil = true ∨ (g.ja r).nil = false → olds.length = xs0.length * ei.sz →
                  (∀ (i : Nat) (x : AV) (k : Nat) (y : AV) (u : Value), xs0[i]? = some x → x.cells[k]? = some y → olds[i * ei.sz + k]? = some u → CRel g.I w y u) →
                  (∀ (i : Nat) (x : AV), xs0[i]? = some x → x.cells.length = ei.sz) → (∀ (i : Nat) (x : AV) (k : Nat) (y : AV), xs0[i]? = some x → x.cells[k]? = some y → y.leaf = true) →
                  ys.length ≠ 0 → ∀ (cap : Nat) (rest : List Value), xs0.length + ys.length ≤ cap → rest.length = (cap - (xs0.length + ys.length)) * ei.sz →
                  (Builtin.append_ #[sT, xT] o.type #[a.eval s, a.eval x]).run P w = .ok (.slice (some ⟨w.heap.size, 0, none⟩) (xs0.length + ys.length) cap) (w.drew.alloc (.cells (olds ++ news ++ rest).toArray el)) →
                  MC P g m w a o (.own r (xs0.length + ys.length)) (m.set r (.arr wf ei.sz (xs0 ++ ys))) := by
                intro olds _ hol hor hoe holf hy0 cap rest hcap hrl hrun0
                have hrun := hexec _ _ hrun0
                let w1 := w.drew.alloc (.cells (olds ++ news ++ rest).toArray el)
                let g1 : Gh := { I := fun b k => g.I b k ∨ (wf = false ∧ b = w.heap.size ∧ k < (xs0.length + ys.length) * ei.sz), jb := g.jb, ja := fun q => if q = r then ⟨w.heap.size, cap, false⟩ else g.ja q }
                have hblk : Blk w1 w.heap.size (olds ++ news ++ rest).toArray := qpq w.drew _ el
                have hsize : (xs0.length + ys.length) * ei.sz ≤ (olds ++ news ++ rest).toArray.size := by
                  simp only [List.size_toArray, List.length_append, hol, hn1, Nat.add_mul]; omega
                have hsize2 : cap * ei.sz ≤ (olds ++ news ++ rest).toArray.size := by
                  simp only [List.size_toArray, List.length_append, hol, hn1, hrl, ← Nat.add_mul]
                  exact Nat.mul_le_mul_right _ (by omega)
                have hold : ∀ b, b < w.heap.size → w1.heap[b]? = w.heap[b]? := fun b hb => qe3 w.drew _ hb
                have hnoI : ∀ k, ¬ g.I w.heap.size k := fun k hk => by have := hok.lt_of_I hk; omega
                obtain ⟨hok1, hext1⟩ := OK.one (g := g) (m := m) (w := w) (g1 := g1) (w1 := w1) (m1 := m.set r (.arr wf ei.sz (xs0 ++ ys))) r (.arr wf ei.sz (xs0 ++ ys)) hok rfl (Nat.le_refl _) hrn
                  (fun q hq => ⟨rfl, by simp [g1, hq]⟩) (fun _ => rfl) (fun _ wf' e' xs' h => by
                    cases h
                    refine ⟨wf, ei.sz, xs0, hsr, rfl, by simp, fun hl => ?_⟩
                    simp at hl; exact absurd hl (fun h => hy0 (by simp [h])))
                  (fun b hb _ => hold b hb) (by simp [w1]) rfl rfl rfl (fun _ _ h => .inl h) (fun b k hk => by
                    rcases hk with hk | ⟨_, rfl, _⟩
                    · exact .inl hk
                    · exact .inr (.inl (Nat.le_refl _)))
                  (fun b k hk => qbj (hold b (hok.lt_of_I hk)) k)
                  (fun b k hk => by
                    rcases hk with hk | ⟨_, rfl, hk⟩
                    · obtain ⟨u, hu⟩ := hok.im b k hk
                      exact ⟨u, (qbj (hold b (hok.lt_of_I hk)) k).trans hu⟩
                    · have hlt : k < (olds ++ news ++ rest).toArray.size := by omega
                      exact ⟨(olds ++ news ++ rest).toArray[k], by rw [qr hblk]; simp only [hlt, getElem?_pos]⟩)
                  (fun hvx => by
                    refine .inr ⟨by simp [g1], (olds ++ news ++ rest).toArray, by simpa [g1] using hblk, by simpa [g1] using hcap, by simpa only [g1, if_true] using hsize2, fun i x hx => ?_, fun i x k y hx hy => ?_, fun i x k y u hx hy hu => ?_, fun k => ⟨fun hk => ?_, fun hk => ?_⟩⟩
                    · by_cases hi : i < xs0.length
                      · rw [List.getElem?_append_left hi] at hx; exact hoe i x hx
                      · rw [List.getElem?_append_right (by omega)] at hx; exact hn5 _ x hx
                    · by_cases hi : i < xs0.length
                      · rw [List.getElem?_append_left hi] at hx; exact holf i x k y hx hy
                      · rw [List.getElem?_append_right (by omega)] at hx; exact hn6 _ x k y hx hy
                    · rcases qom hol hn1 hoe hn5 hx hy (by simpa using hu) with ⟨h3, h4⟩ | ⟨h3, h4⟩
                      · exact (hor i x k y u h3 hy h4).mono hvx.im
                      · exact (hn7 _ x k y u h3 hy h4).mono hvx.im
                    · simp only [g1, if_true] at hk
                      rcases hk with hk | ⟨h1, _, h2⟩
                      · exact absurd hk (hnoI k)
                      · exact ⟨h1, by simpa using h2⟩
                    · simp only [g1, if_true]
                      exact .inr ⟨hk.1, trivial, by simpa using hk.2⟩)
                  (fun b hb => by
                    simp [Ob.blk, g1] at hb
                    exact .inl (by omega))
                refine ⟨.value (.slice (some ⟨w.heap.size, 0, none⟩) (xs0.length + ys.length) cap), _, w1, g1, hrun, .inl rfl, ?_, hok1, hext1⟩
                exact hVR g1 w1 _ _ (by simp [g1, Bk.val])
              rcases hok.ob r _ hsr with ⟨hnil, hx0⟩ | ⟨hnil, arr, hb1, hb2, hb3, hb4, hb5, hb6, hb7⟩
              · -- it is nil yet
                simp [Bk.val, hnil] at hval
                obtain ⟨rfl, rfl, rfl⟩ := hval
                subst hx0
                obtain ⟨hfit, hgrow⟩ := qst (P := P) (w := w) (ty := o.type) hd.und hd2.und hd2i hde hzv3 hzs hby none 0 0 (a.eval x) ys.length [] news hn3 hn4 (by simpa using hbig)
                by_cases hy0 : ys.length = 0
                · have hys0 : ys = [] := List.eq_nil_of_length_eq_zero hy0
                  subst hys0
                  have hrun := hexec _ _ (by rw [hpv]; exact hfit (by simp) w rfl)
                  obtain ⟨hok1, hext1⟩ := OK.one (g := g) (m := m) (w := w) (g1 := g) (w1 := w) (m1 := m.set r (.arr wf ei.sz ([] ++ []))) r (.arr wf ei.sz ([] ++ [])) hok rfl (Nat.le_refl _) hrn
                    (fun _ _ => ⟨rfl, rfl⟩) (fun _ => rfl) (fun _ wf' e' xs' h => by cases h; exact ⟨_, _, _, hsr, rfl, by simp, fun _ => rfl⟩)
                    (fun _ _ _ => rfl) (Nat.le_refl _) rfl rfl rfl (fun _ _ h => h) (fun _ _ h => .inl h) (fun _ _ _ => rfl) (fun b k hk => hok.im b k hk)
                    (fun hvx => .inl ⟨hnil, rfl⟩) (fun b hb => by simp [Ob.blk, hnil] at hb)
                  exact ⟨.value (.slice none 0 0), _, w, g, by simpa using hrun, .inl rfl, hVR g w none 0 (by simp [Bk.val, hnil]), hok1, hext1⟩
                · obtain ⟨cap, rest, hcap, hrl, hrun0⟩ := hgrow (by omega) (fun w' _ => by simp [Builtin.firstCells])
                  exact grow [] (.inl hnil) (by simp) (by simp) (by simp) (by simp) hy0 cap rest (by simpa using hcap) (by simpa using hrl) (by rw [hpv]; simpa using hrun0)
              · -- it has a block
                simp [Bk.val, hnil] at hval
                obtain ⟨rfl, rfl⟩ := hval
                have hel : q0z g w (g.ja r).b 0 ei.sz xs0 := by
                  refine ⟨hb4, hb5, fun i x k y hx hy => ?_⟩
                  have hi : i < xs0.length := (List.getElem?_eq_some_iff.1 hx).1
                  have hk : k < ei.sz := by rw [← hb4 i x hx]; exact (List.getElem?_eq_some_iff.1 hy).1
                  have hle : (i + 1) * ei.sz ≤ (g.ja r).c * ei.sz := Nat.mul_le_mul_right _ (by omega)
                  have hlt : i * ei.sz + k < arr.size := by rw [Nat.add_mul] at hle; omega
                  exact ⟨arr[i * ei.sz + k], by rw [Nat.zero_add, qr hb1]; simp [hlt], hb6 i x k y _ hx hy (by simp [hlt])⟩
                obtain ⟨olds, ho1, ho2, ho3⟩ := q8d hel hsz
                obtain ⟨hfit, hgrow⟩ := qst (P := P) (w := w) (ty := o.type) hd.und hd2.und hd2i hde hzv3 hzs hby (some ⟨(g.ja r).b, 0, none⟩) xs0.length (g.ja r).c (a.eval x) ys.length olds news hn3 hn4 hbig
                by_cases hroom : xs0.length + ys.length ≤ (g.ja r).c
                · have hle : (xs0.length + ys.length) * ei.sz ≤ (g.ja r).c * ei.sz := Nat.mul_le_mul_right _ hroom
                  rw [Nat.add_mul] at hle
                  obtain ⟨w1, arr1, h1, h2, h3, h4, h5, h6, h7, h8, h9⟩ := qpu (P := P) hb1 (xs0.length * ei.sz) news (by rw [hn1]; omega) hn2
                  have hrun := hexec _ _ (by rw [hpv, ← hlen]; exact hfit hroom w1 (by simp only [qhi, Nat.zero_add]; exact h1))
                  let g1 : Gh := { g with I := fun b k => g.I b k ∨ (wf = false ∧ b = (g.ja r).b ∧ k < (xs0.length + ys.length) * ei.sz) }
                  have hcellI : ∀ b k, g.I b k → w1.cell? ⟨b, k, none⟩ = w.cell? ⟨b, k, none⟩ := by
                    intro b k hk
                    by_cases hbb : b = (g.ja r).b
                    · subst hbb
                      have := (hb7 k).1 hk
                      rw [qr h2, qr hb1, h4 k, if_neg (by omega)]
                    · exact qbj (h5 b hbb) k
                  obtain ⟨hok1, hext1⟩ := OK.one (g := g) (m := m) (w := w) (g1 := g1) (w1 := w1) (m1 := m.set r (.arr wf ei.sz (xs0 ++ ys))) r (.arr wf ei.sz (xs0 ++ ys)) hok rfl (Nat.le_refl _) hrn
                    (fun _ _ => ⟨rfl, rfl⟩) (fun _ => rfl) (fun _ wf' e' xs' h => by cases h; exact ⟨_, _, _, hsr, rfl, by simp, fun _ => rfl⟩)
                    (fun b hb hno => h5 b (fun hbb => hno _ hsr (by simp [Ob.blk, hnil, hbb]))) (by omega) h7 h8 h9 (fun _ _ h => .inl h) (fun b k hk => by
                      rcases hk with hk | ⟨_, rfl, _⟩
                      · exact .inl hk
                      · exact .inr (.inr ⟨_, hsr, by simp [Ob.blk, hnil]⟩)) hcellI
                    (fun b k hk => by
                      rcases hk with hk | ⟨_, rfl, hk⟩
                      · obtain ⟨u, hu⟩ := hok.im b k hk
                        exact ⟨u, (hcellI b k hk).trans hu⟩
                      · have hlt : k < arr1.size := by rw [h3]; rw [Nat.add_mul] at hk; omega
                        exact ⟨arr1[k], by rw [qr h2]; simp [hlt]⟩)
                    (fun hvx => by
                      refine .inr ⟨hnil, arr1, h2, by simpa using hroom, by rw [h3]; exact hb3, fun i x hx => ?_, fun i x k y hx hy => ?_, fun i x k y u hx hy hu => ?_, fun k => ⟨fun hk => ?_, fun hk => ?_⟩⟩
                      · by_cases hi : i < xs0.length
                        · rw [List.getElem?_append_left hi] at hx; exact hb4 i x hx
                        · rw [List.getElem?_append_right (by omega)] at hx; exact hn5 _ x hx
                      · by_cases hi : i < xs0.length
                        · rw [List.getElem?_append_left hi] at hx; exact hb5 i x k y hx hy
                        · rw [List.getElem?_append_right (by omega)] at hx; exact hn6 _ x k y hx hy
                      · rw [h4] at hu
                        by_cases hi : i < xs0.length
                        · rw [List.getElem?_append_left hi] at hx
                          have hk : k < ei.sz := by rw [← hb4 i x hx]; exact (List.getElem?_eq_some_iff.1 hy).1
                          have := Nat.mul_le_mul_right ei.sz (show i + 1 ≤ xs0.length by omega)
                          rw [Nat.add_mul] at this
                          rw [if_neg (by omega)] at hu
                          exact (hb6 i x k y u hx hy hu).mono hvx.im
                        · rw [List.getElem?_append_right (by omega)] at hx
                          have hk : k < ei.sz := by rw [← hn5 _ x hx]; exact (List.getElem?_eq_some_iff.1 hy).1
                          have hi2 : i - xs0.length < ys.length := (List.getElem?_eq_some_iff.1 hx).1
                          have e1 : i * ei.sz = xs0.length * ei.sz + (i - xs0.length) * ei.sz := by rw [← Nat.add_mul]; congr 1; omega
                          have e2 := Nat.mul_le_mul_right ei.sz (show i - xs0.length + 1 ≤ ys.length by omega)
                          rw [Nat.add_mul] at e2
                          rw [if_pos (by rw [hn1]; omega)] at hu
                          have e3 : i * ei.sz + k - xs0.length * ei.sz = (i - xs0.length) * ei.sz + k := by omega
                          rw [e3] at hu
                          exact (hn7 _ x k y u hx hy hu).mono hvx.im
                      · rcases hk with hk | ⟨h1, _, h2⟩
                        · have := (hb7 k).1 hk
                          exact ⟨this.1, by rw [List.length_append, Nat.add_mul]; omega⟩
                        · exact ⟨h1, by simpa using h2⟩
                      · exact .inr ⟨hk.1, rfl, by simpa using hk.2⟩)
                    (fun b hb => .inr ⟨_, hsr, by simpa [Ob.blk] using hb⟩)
                  refine ⟨.value (.slice (some ⟨(g.ja r).b, 0, none⟩) (xs0.length + ys.length) (g.ja r).c), _, w1, g1, by simpa using hrun, .inl rfl, hVR g1 w1 _ _ (by simp [g1, Bk.val, hnil]), hok1, hext1⟩
                · have hy0 : ys.length ≠ 0 := by omega
                  obtain ⟨cap, rest, hcap, hrl, hrun0⟩ := hgrow (by omega) (fun w' hw => by
                    have := run_loadCells_list (P := P) w' ⟨(g.ja r).b, 0, none⟩ olds (fun j v hj => by rw [qhi]; exact hw.cell (ho2 j v hj).1)
                    rw [ho1] at this
                    simp only [Builtin.firstCells, this])
                  exact grow olds (.inr hnil) ho1 ho3 hb4 hb5 hy0 cap rest hcap hrl (by rw [hpv, ← hlen]; exact hrun0)
          · cases hxs
        · cases hv
      · cases hv
    · cases hv
  · cases hv
end
end Go.Pev
/- Maps, made and written. -/
namespace Go.Pev
open Go
set_option linter.unusedVariables false
set_option linter.unusedSimpArgs false
section
variable {g : Gh} {m : Mem} {w : World} {t : Env} {a : Act} {P : Program} {T : Tab}
theorem q39 {ty : TypeId} {x k : Operand} {ok : Bool} {so : SOp} (hc : cOp T (.lookup ty x k ok) = some so) : ∃ kk z x' k', so = .mget kk z ok x' k' := by
  simp only [cOp, Option.bind_eq_bind, Option.bind_eq_some_iff] at hc
  obtain ⟨ti, hti, hc⟩ := hc
  split at hc
  · simp only [Option.bind_eq_some_iff] at hc
    obtain ⟨ki, hki, ks, hks, vi, hvi, z, hz, hc⟩ := hc
    split at hc
    · split at hc
      · simp only [Option.bind_eq_some_iff, Option.some.injEq] at hc
        obtain ⟨x', hx, k', hk, rfl⟩ := hc
        exact ⟨_, _, _, _, rfl⟩
      · cases hc
    · cases hc
  · cases hc
theorem qbcd (hok : OK g m w) {o : Oper} {ty : TypeId} {so : SOp} {v : AV} {m' : Mem} (ho : o.op = .makeMap ty none) (hso : so = .mkmap) (hv : qd t m so = some (v, m')) : MC P g m w a o v m' := by
  subst hso
  simp [qd] at hv
  obtain ⟨rfl, rfl⟩ := hv
  have hnoI : ∀ k, ¬ g.I w.heap.size k := fun k hk => by have := hok.lt_of_I hk; omega
  have hal := MapKept.heap_alloc w (.map #[] 0)
  obtain ⟨h1, h2⟩ := OK.one (g := g) (m := m) (w := w) (g1 := g.addb m.n w.heap.size) (w1 := w.alloc (.map #[] 0)) (m1 := m.new (.map [])) m.n (.map []) hok rfl (by simp [Mem.new]) (by simp [Mem.new]) (fun i hi => by simp [Gh.addb, hi]) (fun hr => by omega) (fun hr => by omega)
    (fun b hb _ => qe3 w _ hb) (by simp) rfl rfl rfl (fun b k hk => hk) (fun b k hk => .inl hk) (fun b k hk => by
      obtain ⟨v, hv⟩ := hok.im b k hk
      exact qfz _ hv) (fun b k hk => by
      obtain ⟨v, hv⟩ := hok.im b k hk
      exact ⟨v, (qfz _ hv).trans hv⟩) (fun hx => ⟨#[], 0, by simpa [Gh.addb] using hal.1, rfl, by simp⟩) (fun b hb => by
      simp [Ob.blk, Gh.addb] at hb
      exact .inl (by omega))
  refine ⟨.value (.map (some w.heap.size)), _, _, _, ?_, .inl rfl, ?_, h1, h2⟩
  · unfold execOp
    simp only [ho]
    simp [Instr.makeMap]
  · have := VRel.map (g := g.addb m.n w.heap.size) (m := m.new (.map [])) (w := w.alloc (.map #[] 0)) m.n (by simp [Mem.new])
    simpa [Gh.addb] using this
theorem q8e (hT : T.ok P) (hok : OK g m w) (hr : ERel g m w t a) {o : Oper} {ty : TypeId} {x k y : Operand} {so : SOp} {v : AV} {m' : Mem} (ho : o.op = .mapUpdate ty x k y ∨ o.op = .insert ty x k y) (hc : cOp T o.op = some so) (hv : qd t m so = some (v, m')) : MC P g m w a o v m' := by
  obtain ⟨ks, x', k', y', ti, ki, kt, vt, hti, hki, htd, hks, hx, hk, hy, rfl⟩ : ∃ ks x' k' y' ti ki kt vt, T ty = some ti ∧ T kt = some ki ∧ ti.td = .map kt vt ∧ qbu T 20 kt = some ks ∧ cOpd x = some x' ∧ cOpd k = some k' ∧ cOpd y = some y' ∧ so = .mput (.mk ki.agg ks) x' k' y' := by
    rcases ho with ho | ho
    all_goals
      rw [ho] at hc
      simp only [cOp, Option.bind_eq_bind, Option.bind_eq_some_iff] at hc
      obtain ⟨ti, hti, hc⟩ := hc
      split at hc
      · rename_i kt vt htd
        simp only [Option.bind_eq_some_iff, Option.some.injEq] at hc
        obtain ⟨ki, hki, ks, hks, x', hx, k', hk, y', hy, rfl⟩ := hc
        exact ⟨_, _, _, _, _, _, _, _, hti, hki, htd, hks, hx, hk, hy, rfl⟩
      · cases hc
  obtain ⟨i, d, hd⟩ := hT.facts hti
  obtain ⟨ii, dk, hdk⟩ := hT.facts hki
  have htd1 := hd.td
  rw [htd] at htd1
  cases d <;> simp [TDof] at htd1
  obtain ⟨rfl, rfl⟩ := htd1
  have hx1 := qe hr hx
  have hk1 := qe hr hk
  have hy1 := qe hr hy
  simp only [qd, Option.map_eq_some_iff, Prod.mk.injEq] at hv
  obtain ⟨m1, hm1, rfl, rfl⟩ := hv
  unfold q30 at hm1
  split at hm1
  · rename_i r he1
    rw [he1] at hx1
    obtain ⟨hxv, hrn⟩ := q6l hx1
    split at hm1
    · rename_i hcnd
      obtain ⟨hkk, hmv⟩ := hcnd
      have hkv := q01 hkk hk1
      have hchk := q1m hT hki hks hkk
      split at hm1
      · rename_i es hs
        obtain ⟨arr, clock, b1, b2, b3⟩ := hok.ob r _ hs
        have hlt : g.jb r < w.heap.size := (Array.getElem?_eq_some_iff.1 b1).1
        have hfs := qsq (w := w) (I := g.I) hT hki hks (d := dk) (k := ev t k') es arr.toList 0 (by simpa using b2) (fun j p e hp he => b3 j p e hp (by simpa using he))
        have hnoI : ∀ q, ¬ g.I (g.jb r) q := by
          intro q hq
          obtain ⟨u, hu⟩ := hok.im _ _ hq
          simp [World.cell?, b1] at hu
        have hexec : ∀ w', (Instr.mapUpdate ty (.map (some (g.jb r))) (kval (ev t k')) (a.eval y)).run P w = .ok () w' → (execOp a.eval o).run P w = .ok .skip w' := by
          intro w' hrun
          unfold execOp
          rcases ho with ho | ho
          all_goals
            simp only [ho, hxv, hkv]
            simp [hrun]
        -- the map written
        have done : ∀ (es' : List (AV × AV)) (arr' : Array MapEntry) (clock' : Nat), arr'.size = es'.length →
            (∀ (i : Nat) (p : AV × AV) (e : MapEntry), es'[i]? = some p → arr'[i]? = some e → CRel g.I w p.1 e.key ∧ mvOk p.2 = true ∧ CRel g.I w p.2 e.val) →
            (Instr.mapUpdate ty (.map (some (g.jb r))) (kval (ev t k')) (a.eval y)).run P w = .ok () { w with heap := w.heap.setIfInBounds (g.jb r) (.map arr' clock') } →
            MC P g m w a o .undef (m.set r (.map es')) := by
          intro es' arr' clock' hsz hrel hrun
          have hset := MapKept.heap_set (o' := .map arr' clock') b1
          let w1 : World := { w with heap := w.heap.setIfInBounds (g.jb r) (.map arr' clock') }
          have hcell : ∀ b q, g.I b q → w1.cell? ⟨b, q, none⟩ = w.cell? ⟨b, q, none⟩ := by
            intro b q hq
            have hb : b ≠ g.jb r := fun e => hnoI q (by rw [← e]; exact hq)
            exact qbj (hset.2 b hb) q
          obtain ⟨h1, h2⟩ := OK.one (g := g) (m := m) (w := w) (g1 := g) (w1 := w1) (m1 := m.set r (.map es')) r (.map es') hok rfl (Nat.le_refl _) hrn
            (fun _ _ => ⟨rfl, rfl⟩) (fun _ => rfl) (fun _ wf' e' xs' h => by cases h)
            (fun b hb hno => hset.2 b (fun hbb => hno _ hs (by simp [Ob.blk, hbb]))) (by simp [w1]) rfl rfl rfl (fun _ _ h => h) (fun b k hk => .inl hk) hcell
            (fun b k hk => by
              obtain ⟨u, hu⟩ := hok.im b k hk
              exact ⟨u, (hcell b k hk).trans hu⟩)
            (fun hvx => ⟨arr', clock', hset.1, hsz, fun i p e hp he => ⟨(hrel i p e hp he).1.mono hvx.im, (hrel i p e hp he).2.1, (hrel i p e hp he).2.2.mono hvx.im⟩⟩)
            (fun b hb => .inr ⟨_, hs, by simpa [Ob.blk] using hb⟩)
          exact ⟨.skip, undef, w1, g, hexec _ hrun, .inr ⟨rfl, rfl⟩, .c .undef, h1, h2⟩
        split at hm1
        · rename_i j v0 hf
          simp at hm1; subst hm1
          obtain ⟨res, f1, f2, ⟨h1, _⟩ | ⟨j', p, e, h1, h2, h3, h4, h5, h6⟩⟩ := hfs _ hf
          · cases h1
          · have hfind := qsr hdk.und f1 f2
            simp at h1
            obtain ⟨rfl, rfl⟩ := h1
            simp at h4
            subst h4
            have h3' : arr[j]? = some e := by simpa using h3
            refine done _ (arr.modify j fun e => { e with key := kval (ev t k'), val := a.eval y }) clock (by simp [b2]) (fun i p' e' hp he => ?_) ?_
            · by_cases hij : j = i
              · subst hij
                simp only [List.getElem?_modify_eq, h2, Option.map_eq_map, Option.map_some, Option.some.injEq] at hp
                subst hp
                simp only [Array.getElem?_modify, if_true, h3', Option.map_some, Option.some.injEq] at he
                subst he
                refine ⟨?_, hmv, q8b hmv hy1 _ _⟩
                have := (b3 j p e h2 h3').1
                rw [h5] at this
                exact this
              · rw [List.getElem?_modify_ne _ _ hij] at hp
                rw [Array.getElem?_modify, if_neg hij] at he
                exact b3 i p' e' hp he
            · simp [Instr.mapUpdate, run_underlying hd.und, MapKept.run_getObj_map b1, hchk, hfind, h3', h5, q8a hkk, MapKept.run_setObj_map _ b1]
        · rename_i hf
          simp at hm1; subst hm1
          obtain ⟨res, f1, f2, ⟨_, h4⟩ | ⟨j', p, e, h1, _⟩⟩ := hfs _ hf
          · have hfind := qsr hdk.und f1 f2
            subst h4
            refine done _ (arr.push { key := kval (ev t k'), val := a.eval y, born := clock }) (clock + 1) (by simp [b2]) (fun i p' e' hp he => ?_) ?_
            · by_cases hi : i < es.length
              · rw [List.getElem?_append_left hi] at hp
                rw [Array.getElem?_push, if_neg (by omega)] at he
                exact b3 i p' e' hp he
              · rw [List.getElem?_append_right (by omega)] at hp
                have hlt2 := (List.getElem?_eq_some_iff.1 hp).1
                simp at hlt2
                have hi2 : i = es.length := by omega
                subst hi2
                simp at hp
                subst hp
                rw [Array.getElem?_push, if_pos (by omega)] at he
                simp at he
                subst he
                exact ⟨qsp hkk _ _, hmv, q8b hmv hy1 _ _⟩
            · simp [Instr.mapUpdate, run_underlying hd.und, MapKept.run_getObj_map b1, hchk, hfind, MapKept.run_setObj_map _ b1]
          · cases h1
        · cases hm1
      · cases hm1
    · cases hm1
  · cases hm1
end
end Go.Pev
/- All operations that make or write small objects, together. -/
namespace Go.Pev
open Go
set_option linter.unusedVariables false
set_option linter.unusedSimpArgs false
section
variable {g : Gh} {m : Mem} {w : World} {t : Env} {a : Act} {P : Program} {T : Tab}
theorem qin (hT : T.ok P) (hok : OK g m w) (hr : ERel g m w t a) {o : Oper} {so : SOp} {v : AV} {m' : Mem} (hc : cOp T o.op = some so) (hv : qd t m so = some (v, m')) : MC P g m w a o v m' := by
  have hc0 := hc
  cases ho : o.op with
  | alloc ty => exact qbb8 hT hok ho (by rw [ho] at hc; exact hc0) hv
  | box ty x => exact qbez hok hr ho hc0 hv
  | buildSlice ty n ps => exact qbe0 hT hok hr ho hc0 hv
  | store ty x y => exact qbb9 hT hok hr ho hc0 hv
  | move x =>
    rw [ho] at hc
    simp only [cOp, Option.bind_eq_bind, Option.bind_eq_some_iff, Option.some.injEq] at hc
    obtain ⟨y, h1, rfl⟩ := hc
    simp [qd] at hv
  | assign x =>
    rw [ho] at hc
    simp only [cOp, Option.bind_eq_bind, Option.bind_eq_some_iff, Option.some.injEq] at hc
    obtain ⟨y, h1, rfl⟩ := hc
    simp [qd] at hv
  | pick c x y =>
    rw [ho] at hc
    simp only [cOp, Option.bind_eq_bind, Option.bind_eq_some_iff, Option.some.injEq] at hc
    obtain ⟨_, _, _, _, _, _, rfl⟩ := hc
    simp [qd] at hv
  | build ty ps =>
    rw [ho] at hc
    simp only [cOp, Option.bind_eq_bind, Option.bind_eq_some_iff] at hc
    obtain ⟨ti, _, z, _, hc⟩ := hc
    split at hc
    · cases hc
    split at hc
    · split at hc
      · cases hc
      simp only [Option.bind_eq_some_iff, Option.some.injEq] at hc
      obtain ⟨_, _, rfl⟩ := hc
      simp [qd] at hv
    · simp only [Option.bind_eq_some_iff, Option.some.injEq] at hc
      obtain ⟨_, _, _, _, rfl⟩ := hc
      simp [qd] at hv
    · cases hc
  | load ty x =>
    rw [ho] at hc
    simp only [cOp, Option.bind_eq_bind, Option.bind_eq_some_iff] at hc
    obtain ⟨ti, _, hc⟩ := hc
    split at hc
    · cases hc
    simp only [Option.bind_eq_some_iff, Option.some.injEq] at hc
    obtain ⟨_, _, rfl⟩ := hc
    simp [qd] at hv
  | nilCheck x =>
    rw [ho] at hc
    simp only [cOp, Option.bind_eq_bind, Option.bind_eq_some_iff, Option.some.injEq] at hc
    obtain ⟨_, _, rfl⟩ := hc
    simp [qd] at hv
  | binOp op ty x y ty' =>
    rw [ho] at hc
    simp only [cOp, Option.bind_eq_bind, Option.bind_eq_some_iff] at hc
    obtain ⟨ti, hti, hc⟩ := hc
    split at hc
    · simp only [Option.bind_eq_some_iff, Option.some.injEq] at hc
      obtain ⟨x', h1, y', h2, rfl⟩ := hc
      simp [qd] at hv
    · simp only [Option.bind_eq_some_iff, Option.some.injEq] at hc
      obtain ⟨x', h1, y', h2, rfl⟩ := hc
      simp [qd] at hv
    · simp only [Option.bind_eq_some_iff, Option.some.injEq] at hc
      obtain ⟨ks, hk, x', h1, y', h2, rfl⟩ := hc
      simp [qd] at hv
    · simp only [Option.bind_eq_some_iff, Option.some.injEq] at hc
      obtain ⟨ks, hk, x', h1, y', h2, rfl⟩ := hc
      simp [qd] at hv
    · cases hc
  | unOp op ty x =>
    rw [ho] at hc
    simp only [cOp, Option.bind_eq_bind, Option.bind_eq_some_iff, Option.some.injEq] at hc
    obtain ⟨_, _, rfl⟩ := hc
    simp [qd] at hv
  | convert sT dT x =>
    rw [ho] at hc
    simp only [cOp, Option.bind_eq_bind, Option.bind_eq_some_iff] at hc
    obtain ⟨si, _, di, _, hc⟩ := hc
    split at hc
    · simp only [Option.bind_eq_some_iff, Option.some.injEq] at hc
      obtain ⟨_, _, rfl⟩ := hc
      simp [qd] at hv
    · simp only [Option.bind_eq_some_iff, Option.some.injEq] at hc
      obtain ⟨_, _, rfl⟩ := hc
      simp [qd] at hv
    · simp only [Option.bind_eq_some_iff] at hc
      obtain ⟨_, _, hc⟩ := hc
      split at hc
      · simp only [Option.bind_eq_some_iff, Option.some.injEq] at hc
        obtain ⟨_, _, rfl⟩ := hc
        simp [qd] at hv
      · cases hc
    · cases hc
  | slice s x lo hi mx =>
    rw [ho] at hc
    simp only [cOp, Option.bind_eq_bind, Option.bind_eq_some_iff] at hc
    obtain ⟨ti, hti, hc⟩ := hc
    split at hc
    · cases hc
    rename_i hmx
    have hmx' : mx = none := by simpa using hmx
    subst hmx'
    split at hc
    · simp only [Option.bind_eq_some_iff, Option.some.injEq] at hc
      obtain ⟨x', h1, lo', h2, hi', h3, rfl⟩ := hc
      simp [qd] at hv
    · rename_i htd
      simp only [Option.bind_eq_some_iff] at hc
      obtain ⟨ei, hei, hc⟩ := hc
      split at hc
      · cases hc
      rename_i hsz
      simp only [Option.bind_eq_some_iff, Option.some.injEq] at hc
      obtain ⟨x', h1, lo', h2, hi', h3, rfl⟩ := hc
      exact qbe1 hT hok hr ho hti htd hei h1 h2 h3 hv
    · rename_i htd
      simp only [Option.bind_eq_some_iff] at hc
      obtain ⟨ei, hei, hc⟩ := hc
      split at hc
      · cases hc
      rename_i hsz
      simp only [Option.bind_eq_some_iff, Option.some.injEq] at hc
      obtain ⟨x', h1, lo', h2, hi', h3, rfl⟩ := hc
      exact qbdt hT hok hr ho hti htd hei h1 h2 h3 hv
    · cases hc
  | fieldAddr s x f =>
    rw [ho] at hc
    simp only [cOp, Option.bind_eq_bind, Option.bind_eq_some_iff] at hc
    obtain ⟨⟨off, fi⟩, _, hc⟩ := hc
    simp only at hc
    split at hc
    · cases hc
    simp only [Option.bind_eq_some_iff, Option.some.injEq] at hc
    obtain ⟨_, _, rfl⟩ := hc
    simp [qd] at hv
  | field s x f =>
    rw [ho] at hc
    simp only [cOp, Option.bind_eq_bind, Option.bind_eq_some_iff, Option.some.injEq] at hc
    obtain ⟨⟨off, fi⟩, _, _, _, rfl⟩ := hc
    simp [qd] at hv
  | indexAddr s x ix =>
    rw [ho] at hc
    simp only [cOp, Option.bind_eq_bind, Option.bind_eq_some_iff] at hc
    obtain ⟨ti, hti, hc⟩ := hc
    split at hc
    · simp only [Option.bind_eq_some_iff] at hc
      obtain ⟨ei, hei, hc⟩ := hc
      split at hc
      · cases hc
      simp only [Option.bind_eq_some_iff, Option.some.injEq] at hc
      obtain ⟨x', h1, i', h2, rfl⟩ := hc
      simp [qd] at hv
    · simp only [Option.bind_eq_some_iff] at hc
      obtain ⟨ei, hei, hc⟩ := hc
      split at hc
      · cases hc
      simp only [Option.bind_eq_some_iff, Option.some.injEq] at hc
      obtain ⟨x', h1, i', h2, rfl⟩ := hc
      simp [qd] at hv
    · cases hc
  | index s x ix =>
    rw [ho] at hc
    simp only [cOp, Option.bind_eq_bind, Option.bind_eq_some_iff] at hc
    obtain ⟨ti, hti, hc⟩ := hc
    split at hc
    · simp only [Option.bind_eq_some_iff, Option.some.injEq] at hc
      obtain ⟨x', h1, i', h2, rfl⟩ := hc
      simp [qd] at hv
    · simp only [Option.bind_eq_some_iff, Option.some.injEq] at hc
      obtain ⟨ei, hei, x', h1, i', h2, rfl⟩ := hc
      simp [qd] at hv
    · cases hc
  | extract x i =>
    rw [ho] at hc
    simp only [cOp, Option.bind_eq_bind, Option.bind_eq_some_iff, Option.some.injEq] at hc
    obtain ⟨_, _, rfl⟩ := hc
    simp [qd] at hv
  | makeSlice ty l c =>
    rw [ho] at hc
    simp only [cOp, Option.bind_eq_bind, Option.bind_eq_some_iff] at hc
    obtain ⟨ti, hti, hc⟩ := hc
    split at hc
    · rename_i htd
      simp only [Option.bind_eq_some_iff] at hc
      obtain ⟨ei, hei, z, hz, hc⟩ := hc
      split at hc
      · cases hc
      rename_i hcnd
      simp only [not_or, Decidable.not_not] at hcnd
      split at hc
      · simp only [Option.bind_eq_some_iff, Option.some.injEq] at hc
        obtain ⟨l', h1, c', h2, rfl⟩ := hc
        exact q8c hT hok hr ho hti htd hei hz hcnd.1 hcnd.2.1 hcnd.2.2 h1 h2 rfl hv
      · split at hc
        · rename_i h1sz
          simp only [Option.bind_eq_some_iff, Option.some.injEq] at hc
          obtain ⟨l', h1, c', h2, rfl⟩ := hc
          obtain ⟨j, de, hde⟩ := hT.facts hei
          obtain ⟨zv, hzv1, hzv2, hzv3⟩ := hde.zeroValue hz
          obtain ⟨_, hleaf, _⟩ := qkd (I := g.I) (w := w) hzv2
          have hz1 : (z.headD .undef).cells = z := by
            match z, hcnd.2.1, hleaf with
            | [y], _, hleaf =>
              have := hleaf y (by simp)
              cases y <;> simp [AV.leaf] at this <;> rfl
            | [], h, _ => simp at h; omega
            | _ :: _ :: _, h, _ => simp at h; omega
          exact q8c hT hok hr ho hti htd hei hz hcnd.1 hcnd.2.1 hcnd.2.2 h1 h2 hz1 hv
        · cases hc
    · cases hc
  | makeFunc fn first caps =>
    cases fn with
    | func f =>
      rw [ho] at hc
      simp only [cOp] at hc
      split at hc
      · simp only [Option.bind_eq_bind, Option.bind_eq_some_iff, Option.some.injEq] at hc
        obtain ⟨_, _, rfl⟩ := hc
        simp [qd] at hv
      · cases hc
    | _ => rw [ho] at hc; simp [cOp] at hc
  | makeMap ty r =>
    cases r with
    | none => exact qbcd hok ho (by rw [ho] at hc0; simpa [cOp] using hc0.symm) hv
    | some r => rw [ho] at hc; simp [cOp] at hc
  | mapUpdate ty x k y => exact q8e hT hok hr (.inl ho) hc0 hv
  | insert ty x k y => exact q8e hT hok hr (.inr ho) hc0 hv
  | lookup ty x k ok =>
    rw [ho] at hc
    obtain ⟨kk, z, x', k', rfl⟩ := q39 hc
    simp [qd] at hv
  | call c =>
    obtain ⟨callee, args, argTypes⟩ := c
    cases callee with
    | builtin b =>
      rw [ho] at hc
      simp only [cOp] at hc
      split at hc
      · rename_i s x st xt ha hat
        simp only [Option.bind_eq_bind, Option.bind_eq_some_iff] at hc
        obtain ⟨si, hsi, xi, hxi, hc⟩ := hc
        split at hc
        · rename_i e q htd hxtd
          simp only [Option.bind_eq_some_iff] at hc
          obtain ⟨ei, hei, z, hz, hc⟩ := hc
          split at hc
          · cases hc
          rename_i hcnd
          simp only [not_or, Decidable.not_not] at hcnd
          simp only [Option.bind_eq_some_iff, Option.some.injEq] at hc
          obtain ⟨s', h1, x', h2, rfl⟩ := hc
          exact qbbu hT hok hr ho rfl ha hat hsi hxi htd (.inr ⟨q, hxtd⟩) hei hz hcnd.1 hcnd.2.2 hcnd.2.1 h1 h2 hv
        · rename_i e htd hxtd
          simp only [Option.bind_eq_some_iff] at hc
          obtain ⟨ei, hei, z, hz, hc⟩ := hc
          split at hc
          · cases hc
          rename_i hcnd
          simp only [not_or, Decidable.not_not] at hcnd
          simp only [Option.bind_eq_some_iff, Option.some.injEq] at hc
          obtain ⟨s', h1, x', h2, rfl⟩ := hc
          have hs0 : ei.sz ≠ 0 := by omega
          exact qbbu hT hok hr ho rfl ha hat hsi hxi htd (.inl hxtd) hei hz hs0 hcnd.2.2 hcnd.2.1 h1 h2 hv
        · cases hc
      · simp only [Option.bind_eq_bind, Option.bind_eq_some_iff] at hc
        obtain ⟨xi, hxi, hc⟩ := hc
        split at hc
        · simp only [Option.bind_eq_some_iff, Option.some.injEq] at hc
          obtain ⟨x', h1, rfl⟩ := hc
          simp [qd] at hv
        · simp only [Option.bind_eq_some_iff, Option.some.injEq] at hc
          obtain ⟨x', h1, rfl⟩ := hc
          simp [qd] at hv
        · simp at hc; subst hc
          simp [qd] at hv
        · cases hc
      · simp only [Option.bind_eq_bind, Option.bind_eq_some_iff, Option.some.injEq] at hc
        obtain ⟨x', h1, xs', h2, rfl⟩ := hc
        simp [qd] at hv
      · simp only [Option.bind_eq_bind, Option.bind_eq_some_iff, Option.some.injEq] at hc
        obtain ⟨x', h1, xs', h2, rfl⟩ := hc
        simp [qd] at hv
      · cases hc
    | value f =>
      rw [ho] at hc
      cases f <;> simp only [cOp, Option.bind_eq_bind, Option.bind_eq_some_iff, Option.some.injEq] at hc
      case func f => obtain ⟨ys, _, rfl⟩ := hc; simp [qd] at hv
      all_goals (obtain ⟨y, _, ys, _, rfl⟩ := hc; simp [qd] at hv)
    | invoke r s => rw [ho] at hc; simp [cOp] at hc
  | _ => rw [ho] at hc; simp [cOp] at hc
end
end Go.Pev
/- Calls: what comes back, in the caller's words. -/
namespace Go.Pev
open Go
set_option linter.unusedVariables false
set_option linter.unusedSimpArgs false
section
variable {g : Gh} {m : Mem} {w : World} {P : Program}
theorem OK.behind (h : OK g m w) {g0 g' : Gh} {m' : Mem} {w' : World} (h0 : g0.I = g.I) (hok' : OK g' m' w') (he : Ext g0 Mem.none w g' m' w') :
    OK { g with I := g'.I } m w' ∧ Ext g m w { g with I := g'.I } m w' := by
  have hheap : ∀ b, b < w.heap.size → w'.heap[b]? = w.heap[b]? := fun b hb => he.fr b hb (fun r ob hs => by simp [Mem.none] at hs)
  have hI : ∀ b k, g'.I b k → g.I b k ∨ w.heap.size ≤ b := by
    intro b k hk
    rcases he.inew b k hk with h1 | h1 | ⟨r, ob, h1, _⟩
    · rw [h0] at h1; exact .inl h1
    · exact .inr h1
    · simp [Mem.none] at h1
  have him : ∀ b k, g.I b k → g'.I b k ∧ w'.cell? ⟨b, k, none⟩ = w.cell? ⟨b, k, none⟩ := by
    intro b k hk
    exact he.im b k (by rw [h0]; exact hk)
  have hv : VExt g m w { g with I := g'.I } m w' := ⟨him, fun _ _ => rfl, fun _ _ wf e xs h => ⟨wf, e, xs, h, rfl, Nat.le_refl _, fun _ => rfl⟩, Nat.le_refl _⟩
  have hblk : ∀ (r : Nat) (ob : Ob), ob.blk { g with I := g'.I } r = ob.blk g r := fun r ob => by cases ob <;> rfl
  refine ⟨⟨h.lt, fun r ob hs => (h.ob r ob hs).keep hv (fun b hb => hheap b (qfb h hs hb)) rfl rfl (fun b hb k => ⟨fun hk => ?_, fun hk => (him b k hk).1⟩), fun r r' ob ob' b hs hs' hb hb' => h.ne r r' ob ob' b hs hs' (by rw [← hblk]; exact hb) (by rw [← hblk]; exact hb'), hok'.im, h.tb.go (fun b k hk => (him b k hk).1) (fun b hb _ => hheap b hb) (fun r ob b hs hb => .inr ⟨r, ob, hs, by rw [← hblk]; exact hb⟩)⟩, ?_⟩
  · rcases hI b k hk with h1 | h1
    · exact h1
    · have := qfb h hs hb
      omega
  · exact ⟨hv.im, hv.jb, hv.ja, hv.n, fun b hb _ => hheap b hb, fun b k hk => (hI b k hk).imp id .inl, fun r ob b hs hb => .inr ⟨r, ob, hs, by rw [← hblk]; exact hb⟩, he.size, he.os, he.tape, he.output⟩
theorem OK.adopt (h : OK g m w) {g' : Gh} {m' : Mem} {q : Nat} {wf : Bool} {e : Nat} {xs : List AV} (hI : g.I = g'.I) (ho : qmc g' m' w q (.arr wf e xs))
    (hne : ∀ b, Ob.blk g' q (.arr wf e xs) = some b → ∀ r ob, m.s r = some ob → ob.blk g r ≠ some b) (htb : ∀ p, p ∈ qy8 → Ob.blk g' q (.arr wf e xs) ≠ some p.1) :
    OK (g.adda m.n (g'.ja q)) (m.new (.arr wf e xs)) w ∧ VExt g m w (g.adda m.n (g'.ja q)) (m.new (.arr wf e xs)) w := by
  have hv : VExt g m w (g.adda m.n (g'.ja q)) (m.new (.arr wf e xs)) w := by
    refine ⟨fun b k hk => ⟨hk, rfl⟩, fun r hr => rfl, fun r hr wf' e' xs' hs => ?_, by simp [Mem.new]⟩
    have hrn : r ≠ m.n := by omega
    simp only [Mem.new, if_neg hrn] at hs
    exact ⟨wf', e', xs', hs, rfl, Nat.le_refl _, fun _ => by simp [Gh.adda, hrn]⟩
  have hlt : ∀ r ob, m.s r = some ob → r ≠ m.n := fun r ob hs => by have := h.lt r ob hs; omega
  have hblk : ∀ (r : Nat) (ob : Ob), r ≠ m.n → ob.blk (g.adda m.n (g'.ja q)) r = ob.blk g r := fun r ob hr => by cases ob <;> simp [Ob.blk, Gh.adda, hr]
  have hblkn : ∀ (ob : Ob), ob = .arr wf e xs → ob.blk (g.adda m.n (g'.ja q)) m.n = Ob.blk g' q (.arr wf e xs) := fun ob ho => by subst ho; simp [Ob.blk, Gh.adda]
  refine ⟨⟨fun r ob hs => ?_, fun r ob hs => ?_, fun r r' ob ob' b hs hs' hb hb' => ?_, h.im, fun p hp => ⟨(h.tb p hp).1, fun r ob hs hb => ?_, (h.tb p hp).2.2⟩⟩, hv⟩
  rotate_right 1
  · by_cases hr : r = m.n
    · subst hr
      simp only [Mem.new, if_true, Option.some.injEq] at hs
      subst hs
      rw [hblkn _ rfl] at hb
      exact htb p hp hb
    · simp only [Mem.new, if_neg hr] at hs
      rw [hblk r ob hr] at hb
      exact (h.tb p hp).2.1 r ob hs hb
  · simp only [Mem.new] at hs ⊢
    split at hs
    · omega
    · have := h.lt r ob hs; omega
  · by_cases hr : r = m.n
    · subst hr
      simp only [Mem.new, if_true, Option.some.injEq] at hs
      subst hs
      rcases ho with ⟨h1, h2⟩ | ⟨h0, arr, h1, h2, h3, h4, h5, h6, h7⟩
      · exact .inl ⟨by simpa [Gh.adda] using h1, h2⟩
      · refine .inr ⟨by simpa [Gh.adda] using h0, arr, by simpa [Gh.adda] using h1, by simpa [Gh.adda] using h2, by simpa [Gh.adda] using h3, h4, h5, fun i x k y v hx hy hvv => ?_, fun k => ?_⟩
        · have := h6 i x k y v hx hy hvv
          show CRel g.I w y v
          rw [hI]; exact this
        · show g.I _ k ↔ _
          rw [hI]
          simpa [Gh.adda] using h7 k
    · simp only [Mem.new, if_neg hr] at hs
      refine (h.ob r ob hs).keep hv (fun _ _ => rfl) rfl (by simp [Gh.adda, hr]) (fun b hb k => Iff.rfl)
  · by_cases hr : r = m.n
    · subst hr
      simp only [Mem.new, if_true, Option.some.injEq] at hs
      subst hs
      rw [hblkn _ rfl] at hb
      by_cases hr' : r' = m.n
      · exact hr'.symm
      · simp only [Mem.new, if_neg hr'] at hs'
        rw [hblk r' ob' hr'] at hb'
        exact absurd hb' (hne b hb r' ob' hs')
    · simp only [Mem.new, if_neg hr] at hs
      rw [hblk r ob hr] at hb
      by_cases hr' : r' = m.n
      · subst hr'
        simp only [Mem.new, if_true, Option.some.injEq] at hs'
        subst hs'
        rw [hblkn _ rfl] at hb'
        exact absurd hb (hne b hb' r ob hs)
      · simp only [Mem.new, if_neg hr'] at hs'
        rw [hblk r' ob' hr'] at hb'
        exact h.ne r r' ob ob' b hs hs' hb hb'
structure Imp (E : Prop) (N : Nat → Prop) (g : Gh) (m : Mem) (w : World) (g' : Gh) (m' : Mem) (w' : World) (gi : Gh) (mi : Mem) (U : List Nat) : Prop where
  ok : OK gi mi w'
  I : gi.I = g'.I
  src : ∀ r ob b, mi.s r = some ob → ob.blk gi r = some b → ¬ N b ∨ ∃ q, q ∈ U ∧ ∃ ob', m'.s q = some ob' ∧ ob'.blk g' q = some b
  ext : E → Ext g m w gi mi w'
  old : E → ∀ b, N b → w.heap.size ≤ b ∨ ∃ r0 ob0, m.s r0 = some ob0 ∧ ob0.blk g r0 = some b
variable {E : Prop} {N : Nat → Prop} {g' : Gh} {m' : Mem} {w' : World} {gi : Gh} {mi : Mem} {U : List Nat}
theorem Imp.leaf (h : Imp E N g m w g' m' w' gi mi U) (hok' : OK g' m' w') (hnew : ∀ r ob b, m'.s r = some ob → ob.blk g' r = some b → N b) {x y : AV} {v : Value} (hx : VRel g' m' w' x v) (hy : qbr m' x = some y) (hU : ∀ q, q ∈ qv x → q ∉ U) :
    ∃ gj, Imp E N g m w g' m' w' gj (qeo y mi).2 (U ++ qv x) ∧ VExt gi mi w' gj (qeo y mi).2 w' ∧ VRel gj (qeo y mi).2 w' (qeo y mi).1 v ∧ (qeo y mi).1.leaf = true := by
  by_cases hid : qv x = []
  · have hs : qu m' x = some y ∧ qeo y mi = (y, mi) := by
      cases x <;> simp [qv, qbr] at hid hy <;> (try subst hy) <;> (try (exact ⟨rfl, rfl⟩))
      case func f cs =>
        obtain ⟨h1, rfl⟩ := hy
        exact ⟨by simp [qu, h1], rfl⟩
    obtain ⟨hc, rfl⟩ := qil hx hs.1 hid
    rw [hs.2]
    have hlf : y.leaf = true := by cases y <;> first | rfl | (simp [qbr] at hy)
    refine ⟨gi, by rw [hid, List.append_nil]; exact h, ⟨fun b k hk => ⟨hk, rfl⟩, fun _ _ => rfl, fun _ _ wf e xs h => ⟨wf, e, xs, h, rfl, Nat.le_refl _, fun _ => rfl⟩, Nat.le_refl _⟩, .c ?_, hlf⟩
    rw [h.I]; exact hc
  · obtain ⟨r, n, rfl⟩ : ∃ r n, x = .own r n := by cases x <;> first | exact ⟨_, _, rfl⟩ | (exact absurd rfl hid)
    simp only [qbr] at hy
    split at hy
    · rename_i wf e xs hs
      split at hy
      · rename_i hn
        simp at hy
        subst hy
        simp only [qeo]
        have hob := hok'.ob r _ hs
        have hnu : r ∉ U := hU r (by simp [qv])
        have hne : ∀ b, Ob.blk g' r (.arr wf e xs) = some b → ∀ q ob, mi.s q = some ob → ob.blk gi q ≠ some b := by
          intro b hb q ob hq hqb
          have h1 := hnew r _ b hs hb
          rcases h.src q ob b hq hqb with h2 | ⟨q', hq', ob', h3, h4⟩
          · exact h2 h1
          · have := hok'.ne r q' _ ob' b hs h3 hb h4
            subst this
            exact hnu hq'
        obtain ⟨h1, h2⟩ := h.ok.adopt h.I hob hne (fun p hp hb => (hok'.tb p hp).2.1 _ _ hs hb)
        have hlt : ∀ q ob, mi.s q = some ob → q ≠ mi.n := fun q ob hs => by have := h.ok.lt q ob hs; omega
        have hblk : ∀ (q : Nat) (ob : Ob), q ≠ mi.n → ob.blk (gi.adda mi.n (g'.ja r)) q = ob.blk gi q := fun q ob hr => by cases ob <;> simp [Ob.blk, Gh.adda, hr]
        refine ⟨gi.adda mi.n (g'.ja r), ⟨h1, h.I, fun q ob b hq hb => ?_, ?_, h.old⟩, h2, ?_, rfl⟩
        · by_cases hqn : q = mi.n
          · subst hqn
            simp only [Mem.new, if_true, Option.some.injEq] at hq
            subst hq
            exact .inr ⟨r, by simp [qv], _, hs, by simpa [Ob.blk, Gh.adda] using hb⟩
          · simp only [Mem.new, if_neg hqn] at hq
            rw [hblk q ob hqn] at hb
            rcases h.src q ob b hq hb with h3 | ⟨q', h3, h4⟩
            · exact .inl h3
            · exact .inr ⟨q', by simp [h3], h4⟩
        · intro hEE
          have hE := h.ext hEE
          have hmn : m.n ≤ mi.n := hE.n
          refine ⟨hE.im, hE.jb, fun q hq wf' e' xs' hs' => ?_, by simp [Mem.new]; omega, hE.fr, hE.inew, fun q ob b hq hb => ?_, hE.size, hE.os, hE.tape, hE.output⟩
          · have hqn : q ≠ mi.n := by omega
            simp only [Mem.new, if_neg hqn] at hs'
            obtain ⟨a1, a2, a3, a4, a5, a6, a7⟩ := hE.ja q hq wf' e' xs' hs'
            exact ⟨a1, a2, a3, a4, a5, a6, fun hl => by simp only [Gh.adda, if_neg hqn]; exact a7 hl⟩
          · by_cases hqn : q = mi.n
            · subst hqn
              simp only [Mem.new, if_true, Option.some.injEq] at hq
              subst hq
              exact h.old hEE b (hnew r _ b hs (by simpa [Ob.blk, Gh.adda] using hb))
            · simp only [Mem.new, if_neg hqn] at hq
              rw [hblk q ob hqn] at hb
              exact hE.onew q ob b hq hb
        · cases hx with
          | c h => cases h
          | own _ _ a c hr hh =>
            obtain ⟨_, h4⟩ := hh wf e xs hs
            subst hn
            refine .own _ _ a c (by simp [Mem.new]) (fun wf' e' xs' hs' => ?_)
            simp only [Mem.new, if_true, Option.some.injEq, Ob.arr.injEq] at hs'
            obtain ⟨rfl, rfl, rfl⟩ := hs'
            exact ⟨Nat.le_refl _, fun _ => by simp only [Gh.adda, if_true]; exact h4 rfl⟩
      · cases hy
    · cases hy
theorem VExt.trans {g0 m0 w0 g1 m1 w1 g2 m2 w2} (h : VExt g0 m0 w0 g1 m1 w1) (k : VExt g1 m1 w1 g2 m2 w2) : VExt g0 m0 w0 g2 m2 w2 := by
  refine ⟨fun b q hk => ⟨(k.im b q (h.im b q hk).1).1, ((k.im b q (h.im b q hk).1).2).trans (h.im b q hk).2⟩, fun r hr => (k.jb r (Nat.lt_of_lt_of_le hr h.n)).trans (h.jb r hr), fun r hr wf e xs hs => ?_, Nat.le_trans h.n k.n⟩
  obtain ⟨a1, a2, a3, a4, rfl, a6, a7⟩ := k.ja r (Nat.lt_of_lt_of_le hr h.n) wf e xs hs
  obtain ⟨b1, b2, b3, b4, rfl, b6, b7⟩ := h.ja r hr _ _ _ a4
  exact ⟨b1, _, b3, b4, rfl, Nat.le_trans b6 a6, fun hl => (a7 (by omega)).trans (b7 (by omega))⟩
theorem VExt.refl' (g : Gh) (m : Mem) (w : World) : VExt g m w g m w := (Ext.refl g m w).vext
theorem Imp.cells : ∀ (cs ys : List AV) (vs : List Value) (gi : Gh) (mi : Mem) (U : List Nat), Imp E N g m w g' m' w' gi mi U → OK g' m' w' → (∀ r ob b, m'.s r = some ob → ob.blk g' r = some b → N b) →
    vs.length = cs.length → (∀ (k : Nat) (x : AV) (v : Value), cs[k]? = some x → vs[k]? = some v → VRel g' m' w' x v) → qdc m' cs = some ys → (U ++ cs.flatMap qv).Nodup →
    ∃ gj, Imp E N g m w g' m' w' gj (qbw ys mi).2 (U ++ cs.flatMap qv) ∧ VExt gi mi w' gj (qbw ys mi).2 w' ∧ (qbw ys mi).1.length = cs.length ∧ (∀ x, x ∈ (qbw ys mi).1 → x.leaf = true) ∧
      ∀ (k : Nat) (x : AV) (v : Value), (qbw ys mi).1[k]? = some x → vs[k]? = some v → VRel gj (qbw ys mi).2 w' x v
  | [], ys, vs, gi, mi, U, h, _, _, hl, _, he, _ => by
    simp [qdc] at he; subst he
    exact ⟨gi, by simpa [qbw] using h, VExt.refl' _ _ _, rfl, by simp [qbw], by simp [qbw]⟩
  | x :: cs, ys, vs, gi, mi, U, h, hok', hnew, hl, hr, he, hnd => by
    obtain ⟨v, vs, rfl⟩ : ∃ v vs', vs = v :: vs' := by cases vs with
      | nil => simp at hl
      | cons v vs => exact ⟨v, vs, rfl⟩
    simp only [qdc] at he
    split at he
    · rename_i y ys' hy hys
      simp at he; subst he
      have hU : ∀ q, q ∈ qv x → q ∉ U := by
        intro q hq hqU
        have := (List.nodup_append.1 hnd).2.2 q hqU q (by simp [hq])
        exact this rfl
      obtain ⟨gj, h1, h2, h3, h4⟩ := h.leaf hok' hnew (hr 0 x v rfl rfl) hy hU
      obtain ⟨gk, h5, h6, h7, h8, h9⟩ := Imp.cells cs ys' vs gj _ _ h1 hok' hnew (by simpa using hl) (fun k p q hp hq => hr (k + 1) p q (by simpa using hp) (by simpa using hq)) hys (by simpa [List.append_assoc] using hnd)
      refine ⟨gk, by simpa [qbw, List.append_assoc] using h5, h2.trans h6, by simp [qbw, h7], fun z hz => ?_, fun k p q hp hq => ?_⟩
      · simp only [qbw, List.mem_cons] at hz
        rcases hz with rfl | hz
        · exact h4
        · exact h8 z hz
      · cases k with
        | zero => simp [qbw] at hp hq; subst hp; subst hq; exact h3.mono h6
        | succ k => exact h9 k p q (by simpa [qbw] using hp) (by simpa using hq)
    · cases he
theorem Imp.one (h : Imp E N g m w g' m' w' gi mi U) (hok' : OK g' m' w') (hnew : ∀ r ob b, m'.s r = some ob → ob.blk g' r = some b → N b) {x y : AV} {v : Value} (hx : VRel g' m' w' x v) (hy : exp1 m' x = some y) (hnd : (U ++ ids x).Nodup) :
    ∃ gj, Imp E N g m w g' m' w' gj (imp1 y mi).2 (U ++ ids x) ∧ VExt gi mi w' gj (imp1 y mi).2 w' ∧ VRel gj (imp1 y mi).2 w' (imp1 y mi).1 v := by
  by_cases hag : ∃ cs, x = .agg cs
  · obtain ⟨cs, rfl⟩ := hag
    simp only [exp1] at hy
    obtain ⟨ys, h1, rfl⟩ := Option.map_eq_some_iff.1 hy
    obtain ⟨vs, rfl, hs, hh⟩ : ∃ vs, v = .agg vs ∧ vs.size = cs.length ∧ ∀ (k : Nat) (x : AV) (v : Value), cs[k]? = some x → vs[k]? = some v → VRel g' m' w' x v := by
      cases hx with
      | c h => cases h with
        | agg _ vs hl hs hh => exact ⟨vs, rfl, hs, fun k x v h1 h2 => .c (hh k x v h1 h2)⟩
      | agg _ vs hl hs hh => exact ⟨vs, rfl, hs, hh⟩
    obtain ⟨gj, h5, h6, h7, h8, h9⟩ := Imp.cells cs ys vs.toList gi mi U h hok' hnew (by simpa using hs) (fun k p q hp hq => hh k p q hp (by simpa using hq)) h1 hnd
    exact ⟨gj, h5, h6, .agg _ vs h8 (by simp [h7, hs]) (fun k p q hp hq => h9 k p q hp (by simpa using hq))⟩
  · have e1 : exp1 m' x = qbr m' x := by cases x <;> first | rfl | (exact absurd ⟨_, rfl⟩ hag)
    have e2 : ids x = qv x := by cases x <;> first | rfl | (exact absurd ⟨_, rfl⟩ hag)
    rw [e1] at hy
    rw [e2] at hnd ⊢
    have hU : ∀ q, q ∈ qv x → q ∉ U := fun q hq hqU => (List.nodup_append.1 hnd).2.2 q hqU q hq rfl
    obtain ⟨gj, h1, h2, h3, _⟩ := h.leaf hok' hnew hx hy hU
    have e3 : imp1 y mi = qeo y mi := by
      cases y with
      | agg cs =>
        cases x <;> simp [qbr] at hy
        split at hy
        · split at hy <;> simp at hy
        · simp at hy
      | _ => rfl
    rw [e3]
    exact ⟨gj, h1, h2, h3⟩
theorem Imp.many : ∀ (xs ys : List AV) (vs : List Value) (gi : Gh) (mi : Mem) (U : List Nat), Imp E N g m w g' m' w' gi mi U → OK g' m' w' → (∀ r ob b, m'.s r = some ob → ob.blk g' r = some b → N b) →
    vs.length = xs.length → (∀ (k : Nat) (x : AV) (v : Value), xs[k]? = some x → vs[k]? = some v → VRel g' m' w' x v) → exps m' xs = some ys → (U ++ xs.flatMap ids).Nodup →
    ∃ gj, Imp E N g m w g' m' w' gj (imps ys mi).2 (U ++ xs.flatMap ids) ∧ VExt gi mi w' gj (imps ys mi).2 w' ∧ (imps ys mi).1.length = xs.length ∧
      ∀ (k : Nat) (x : AV) (v : Value), (imps ys mi).1[k]? = some x → vs[k]? = some v → VRel gj (imps ys mi).2 w' x v
  | [], ys, vs, gi, mi, U, h, _, _, hl, _, he, _ => by
    simp [exps] at he; subst he
    exact ⟨gi, by simpa [imps] using h, VExt.refl' _ _ _, rfl, by simp [imps]⟩
  | x :: xs, ys, vs, gi, mi, U, h, hok', hnew, hl, hr, he, hnd => by
    obtain ⟨v, vs, rfl⟩ : ∃ v vs', vs = v :: vs' := by cases vs with
      | nil => simp at hl
      | cons v vs => exact ⟨v, vs, rfl⟩
    simp only [exps] at he
    split at he
    · rename_i y ys' hy hys
      simp at he; subst he
      have hnd1 : (U ++ ids x).Nodup := by
        have : (U ++ ids x) ++ xs.flatMap ids = U ++ (x :: xs).flatMap ids := by simp
        rw [← this] at hnd
        exact (List.nodup_append.1 hnd).1
      obtain ⟨gj, h1, h2, h3⟩ := h.one hok' hnew (hr 0 x v rfl rfl) hy hnd1
      obtain ⟨gk, h5, h6, h7, h9⟩ := Imp.many xs ys' vs gj _ _ h1 hok' hnew (by simpa using hl) (fun k p q hp hq => hr (k + 1) p q (by simpa using hp) (by simpa using hq)) hys (by simpa [List.append_assoc] using hnd)
      refine ⟨gk, by simpa [imps, List.append_assoc] using h5, h2.trans h6, by simp [imps, h7], fun k p q hp hq => ?_⟩
      cases k with
      | zero => simp [imps] at hp hq; subst hp; subst hq; exact h3.mono h6
      | succ k => exact h9 k p q (by simpa [imps] using hp) (by simpa using hq)
    · cases he
theorem qzf {md : Mem} (hA : OK { g with I := g'.I } md w') (hE : Ext g m w { g with I := g'.I } md w') (hN : ∀ b, N b → w.heap.size ≤ b ∨ ∃ r0 ob0, m.s r0 = some ob0 ∧ ob0.blk g r0 = some b)
    (hsrc : ∀ r ob b, md.s r = some ob → ob.blk g r = some b → ¬ N b) (hok' : OK g' m' w') (hnew : ∀ r ob b, m'.s r = some ob → ob.blk g' r = some b → N b) {x z : AV} {v : Value} (hx : VRel g' m' w' x v) (hz : expo m' x = some z) :
    ∃ gj, OK gj (imp z md).2 w' ∧ Ext g m w gj (imp z md).2 w' ∧ VRel gj (imp z md).2 w' (imp z md).1 v := by
  have hI0 : Imp True N g m w g' m' w' { g with I := g'.I } md [] := by
    refine ⟨hA, rfl, fun r ob b hs hb => .inl ?_, fun _ => hE, fun _ => hN⟩
    have hb' : ob.blk g r = some b := by cases ob <;> exact hb
    exact hsrc r ob b hs hb'
  unfold expo at hz
  split at hz
  · rename_i vs
    split at hz
    · rename_i hnd
      obtain ⟨ys, h1, rfl⟩ := Option.map_eq_some_iff.1 hz
      obtain ⟨us, rfl, hs, hh⟩ : ∃ us, v = .tuple us ∧ us.size = vs.length ∧ ∀ (k : Nat) (x : AV) (v : Value), vs[k]? = some x → us[k]? = some v → VRel g' m' w' x v := by
        cases hx with
        | c h => cases h with
          | tup _ us hs hh => exact ⟨us, rfl, hs, fun k x v h1 h2 => .c (hh k x v h1 h2)⟩
        | tup _ us hs hh => exact ⟨us, rfl, hs, hh⟩
      obtain ⟨gj, h5, h6, h7, h9⟩ := Imp.many vs ys us.toList _ md [] hI0 hok' hnew (by simpa using hs) (fun k p q hp hq => hh k p q hp (by simpa using hq)) h1 (by simpa using hnd)
      exact ⟨gj, h5.ok, h5.ext trivial, .tup _ us (by simp [imp, h7, hs]) (fun k p q hp hq => h9 k p q hp (by simpa using hq))⟩
    · cases hz
  · simp at hz; subst hz
    have := hx.undef_inv
    subst this
    exact ⟨_, hA, hE, .c .undef⟩
  · rename_i hn1 hn2
    split at hz
    · rename_i hnd
      obtain ⟨gj, h5, h6, h7⟩ := hI0.one hok' hnew hx hz (by simpa using hnd)
      have e3 : imp z md = imp1 z md := by
        cases z with
        | tup cs =>
          cases x <;> simp [exp1, qbr] at hz
          split at hz
          · split at hz <;> simp at hz
          · simp at hz
        | _ => rfl
      rw [e3]
      exact ⟨gj, h5.ok, h5.ext trivial, h7⟩
    · cases hz
theorem q8f (hok : OK g m w) {g0 : Gh} (h0 : g0.I = g.I) (hok' : OK g' m' w') (he : Ext g0 Mem.none w g' m' w') {x z : AV} {v : Value} (hx : VRel g' m' w' x v) (hz : expo m' x = some z) :
    ∃ gj, OK gj (imp z m).2 w' ∧ Ext g m w gj (imp z m).2 w' ∧ VRel gj (imp z m).2 w' (imp z m).1 v := by
  obtain ⟨hA, hE⟩ := hok.behind h0 hok' he
  refine qzf (N := fun b => w.heap.size ≤ b) hA hE (fun b hb => .inl hb) (fun r ob b hs hb => ?_) hok' (fun r ob b hs hb => ?_) hx hz
  · have := qfb hok hs hb; omega
  · rcases he.onew r ob b hs hb with h | ⟨_, _, h, _⟩
    · exact h
    · simp [Mem.none] at h
end
end Go.Pev
/- Which operations are calls. -/
namespace Go.Pev
open Go
set_option linter.unusedVariables false
set_option linter.unusedSimpArgs false
def SOp.isCall : SOp → Bool
  | .call .. | .callv .. | .callf .. => true
  | _ => false
section
variable {T : Tab}
theorem qlz {op : Op} {so : SOp} (hc : cOp T op = some so) (hv : so.isCall = true) : ∃ c x, op = .call c ∧ c.callee = .value x ∧
    ((∃ f xs, x = .func f ∧ so = .call f xs ∧ qpp c.args = some xs) ∨ (∃ x' xs, so = .callv x' xs ∧ cOpd x = some x' ∧ qpp c.args = some xs)) := by
  cases op with
  | alloc ty =>
    simp only [cOp, Option.bind_eq_bind, Option.bind_eq_some_iff] at hc
    obtain ⟨ti, _, z, _, hc⟩ := hc
    split at hc <;> simp at hc
    subst hc
    simp [SOp.isCall] at hv
  | box ty x =>
    simp only [cOp, Option.bind_eq_bind, Option.bind_eq_some_iff, Option.some.injEq] at hc
    obtain ⟨y, h1, rfl⟩ := hc
    simp [SOp.isCall] at hv
  | buildSlice ty n ps =>
    simp only [cOp, Option.bind_eq_bind, Option.bind_eq_some_iff] at hc
    obtain ⟨ti, _, hc⟩ := hc
    split at hc
    · simp only [Option.bind_eq_some_iff] at hc
      obtain ⟨ei, _, z, _, hc⟩ := hc
      split at hc
      · cases hc
      split at hc
      · cases hc
      split at hc
      · cases hc
      simp only [Option.bind_eq_some_iff, Option.some.injEq] at hc
      obtain ⟨y, h1, rfl⟩ := hc
      simp [SOp.isCall] at hv
    · cases hc
  | store ty x y =>
    simp only [cOp, Option.bind_eq_bind, Option.bind_eq_some_iff, Option.some.injEq] at hc
    obtain ⟨ti, _, x', _, y', _, rfl⟩ := hc
    simp [SOp.isCall] at hv
  | move x =>
    simp only [cOp, Option.bind_eq_bind, Option.bind_eq_some_iff, Option.some.injEq] at hc
    obtain ⟨y, h1, rfl⟩ := hc
    simp [SOp.isCall] at hv
  | assign x =>
    simp only [cOp, Option.bind_eq_bind, Option.bind_eq_some_iff, Option.some.injEq] at hc
    obtain ⟨y, h1, rfl⟩ := hc
    simp [SOp.isCall] at hv
  | pick c x y =>
    simp only [cOp, Option.bind_eq_bind, Option.bind_eq_some_iff, Option.some.injEq] at hc
    obtain ⟨_, _, _, _, _, _, rfl⟩ := hc
    simp [SOp.isCall] at hv
  | build ty ps =>
    simp only [cOp, Option.bind_eq_bind, Option.bind_eq_some_iff] at hc
    obtain ⟨ti, _, z, _, hc⟩ := hc
    split at hc
    · cases hc
    split at hc
    · split at hc
      · cases hc
      simp only [Option.bind_eq_some_iff, Option.some.injEq] at hc
      obtain ⟨_, _, rfl⟩ := hc
      simp [SOp.isCall] at hv
    · simp only [Option.bind_eq_some_iff, Option.some.injEq] at hc
      obtain ⟨_, _, _, _, rfl⟩ := hc
      simp [SOp.isCall] at hv
    · cases hc
  | load ty x =>
    simp only [cOp, Option.bind_eq_bind, Option.bind_eq_some_iff] at hc
    obtain ⟨ti, _, hc⟩ := hc
    split at hc
    · cases hc
    simp only [Option.bind_eq_some_iff, Option.some.injEq] at hc
    obtain ⟨_, _, rfl⟩ := hc
    simp [SOp.isCall] at hv
  | nilCheck x =>
    simp only [cOp, Option.bind_eq_bind, Option.bind_eq_some_iff, Option.some.injEq] at hc
    obtain ⟨_, _, rfl⟩ := hc
    simp [SOp.isCall] at hv
  | binOp op ty x y ty' =>
    simp only [cOp, Option.bind_eq_bind, Option.bind_eq_some_iff] at hc
    obtain ⟨ti, hti, hc⟩ := hc
    split at hc
    · simp only [Option.bind_eq_some_iff, Option.some.injEq] at hc
      obtain ⟨x', h1, y', h2, rfl⟩ := hc
      simp [SOp.isCall] at hv
    · simp only [Option.bind_eq_some_iff, Option.some.injEq] at hc
      obtain ⟨x', h1, y', h2, rfl⟩ := hc
      simp [SOp.isCall] at hv
    · simp only [Option.bind_eq_some_iff, Option.some.injEq] at hc
      obtain ⟨ks, hk, x', h1, y', h2, rfl⟩ := hc
      simp [SOp.isCall] at hv
    · simp only [Option.bind_eq_some_iff, Option.some.injEq] at hc
      obtain ⟨ks, hk, x', h1, y', h2, rfl⟩ := hc
      simp [SOp.isCall] at hv
    · cases hc
  | unOp op ty x =>
    simp only [cOp, Option.bind_eq_bind, Option.bind_eq_some_iff, Option.some.injEq] at hc
    obtain ⟨_, _, rfl⟩ := hc
    simp [SOp.isCall] at hv
  | convert sT dT x =>
    simp only [cOp, Option.bind_eq_bind, Option.bind_eq_some_iff] at hc
    obtain ⟨si, _, di, _, hc⟩ := hc
    split at hc
    · simp only [Option.bind_eq_some_iff, Option.some.injEq] at hc
      obtain ⟨_, _, rfl⟩ := hc
      simp [SOp.isCall] at hv
    · simp only [Option.bind_eq_some_iff, Option.some.injEq] at hc
      obtain ⟨_, _, rfl⟩ := hc
      simp [SOp.isCall] at hv
    · simp only [Option.bind_eq_some_iff] at hc
      obtain ⟨_, _, hc⟩ := hc
      split at hc
      · simp only [Option.bind_eq_some_iff, Option.some.injEq] at hc
        obtain ⟨_, _, rfl⟩ := hc
        simp [SOp.isCall] at hv
      · cases hc
    · cases hc
  | slice s x lo hi mx =>
    simp only [cOp, Option.bind_eq_bind, Option.bind_eq_some_iff] at hc
    obtain ⟨ti, hti, hc⟩ := hc
    split at hc
    · cases hc
    rename_i hmx
    have hmx' : mx = none := by simpa using hmx
    subst hmx'
    split at hc
    · simp only [Option.bind_eq_some_iff, Option.some.injEq] at hc
      obtain ⟨x', h1, lo', h2, hi', h3, rfl⟩ := hc
      simp [SOp.isCall] at hv
    · rename_i htd
      simp only [Option.bind_eq_some_iff] at hc
      obtain ⟨ei, hei, hc⟩ := hc
      split at hc
      · cases hc
      rename_i hsz
      simp only [Option.bind_eq_some_iff, Option.some.injEq] at hc
      obtain ⟨x', h1, lo', h2, hi', h3, rfl⟩ := hc
      simp [SOp.isCall] at hv
    · rename_i htd
      simp only [Option.bind_eq_some_iff] at hc
      obtain ⟨ei, hei, hc⟩ := hc
      split at hc
      · cases hc
      rename_i hsz
      simp only [Option.bind_eq_some_iff, Option.some.injEq] at hc
      obtain ⟨x', h1, lo', h2, hi', h3, rfl⟩ := hc
      simp [SOp.isCall] at hv
    · cases hc
  | fieldAddr s x f =>
    simp only [cOp, Option.bind_eq_bind, Option.bind_eq_some_iff] at hc
    obtain ⟨⟨off, fi⟩, _, hc⟩ := hc
    simp only at hc
    split at hc
    · cases hc
    simp only [Option.bind_eq_some_iff, Option.some.injEq] at hc
    obtain ⟨_, _, rfl⟩ := hc
    simp [SOp.isCall] at hv
  | field s x f =>
    simp only [cOp, Option.bind_eq_bind, Option.bind_eq_some_iff, Option.some.injEq] at hc
    obtain ⟨⟨off, fi⟩, _, _, _, rfl⟩ := hc
    simp [SOp.isCall] at hv
  | indexAddr s x ix =>
    simp only [cOp, Option.bind_eq_bind, Option.bind_eq_some_iff] at hc
    obtain ⟨ti, hti, hc⟩ := hc
    split at hc
    · simp only [Option.bind_eq_some_iff] at hc
      obtain ⟨ei, hei, hc⟩ := hc
      split at hc
      · cases hc
      simp only [Option.bind_eq_some_iff, Option.some.injEq] at hc
      obtain ⟨x', h1, i', h2, rfl⟩ := hc
      simp [SOp.isCall] at hv
    · simp only [Option.bind_eq_some_iff] at hc
      obtain ⟨ei, hei, hc⟩ := hc
      split at hc
      · cases hc
      simp only [Option.bind_eq_some_iff, Option.some.injEq] at hc
      obtain ⟨x', h1, i', h2, rfl⟩ := hc
      simp [SOp.isCall] at hv
    · cases hc
  | index s x ix =>
    simp only [cOp, Option.bind_eq_bind, Option.bind_eq_some_iff] at hc
    obtain ⟨ti, hti, hc⟩ := hc
    split at hc
    · simp only [Option.bind_eq_some_iff, Option.some.injEq] at hc
      obtain ⟨x', h1, i', h2, rfl⟩ := hc
      simp [SOp.isCall] at hv
    · simp only [Option.bind_eq_some_iff, Option.some.injEq] at hc
      obtain ⟨ei, hei, x', h1, i', h2, rfl⟩ := hc
      simp [SOp.isCall] at hv
    · cases hc
  | extract x i =>
    simp only [cOp, Option.bind_eq_bind, Option.bind_eq_some_iff, Option.some.injEq] at hc
    obtain ⟨_, _, rfl⟩ := hc
    simp [SOp.isCall] at hv
  | makeSlice ty l c =>
    simp only [cOp, Option.bind_eq_bind, Option.bind_eq_some_iff] at hc
    obtain ⟨ti, hti, hc⟩ := hc
    split at hc
    · rename_i htd
      simp only [Option.bind_eq_some_iff] at hc
      obtain ⟨ei, hei, z, hz, hc⟩ := hc
      split at hc
      · cases hc
      rename_i hcnd
      simp only [not_or, Decidable.not_not] at hcnd
      split at hc
      · simp only [Option.bind_eq_some_iff, Option.some.injEq] at hc
        obtain ⟨l', h1, c', h2, rfl⟩ := hc
        simp [SOp.isCall] at hv
      · split at hc
        · rename_i h1sz
          simp only [Option.bind_eq_some_iff, Option.some.injEq] at hc
          obtain ⟨l', h1, c', h2, rfl⟩ := hc
          simp [SOp.isCall] at hv
        · cases hc
    · cases hc
  | makeFunc fn first caps =>
    cases fn with
    | func f =>
      simp only [cOp] at hc
      split at hc
      · simp only [Option.bind_eq_bind, Option.bind_eq_some_iff, Option.some.injEq] at hc
        obtain ⟨_, _, rfl⟩ := hc
        simp [SOp.isCall] at hv
      · cases hc
    | _ => simp [cOp] at hc
  | makeMap ty r =>
    cases r with
    | none => simp [cOp] at hc; subst hc; simp [SOp.isCall] at hv
    | some r => simp [cOp] at hc
  | mapUpdate ty x k y =>
    obtain ⟨kk, x', k', y', rfl⟩ := qss (.inl rfl) hc
    simp [SOp.isCall] at hv
  | insert ty x k y =>
    obtain ⟨kk, x', k', y', rfl⟩ := qss (.inr rfl) hc
    simp [SOp.isCall] at hv
  | lookup ty x k ok =>
    obtain ⟨kk, z, x', k', rfl⟩ := q39 hc
    simp [SOp.isCall] at hv
  | call c =>
    obtain ⟨callee, args, argTypes⟩ := c
    cases callee with
    | builtin b =>
      simp only [cOp] at hc
      split at hc
      · rename_i s x st xt ha hat
        simp only [Option.bind_eq_bind, Option.bind_eq_some_iff] at hc
        obtain ⟨si, hsi, xi, hxi, hc⟩ := hc
        split at hc
        · rename_i e q htd hxtd
          simp only [Option.bind_eq_some_iff] at hc
          obtain ⟨ei, hei, z, hz, hc⟩ := hc
          split at hc
          · cases hc
          rename_i hcnd
          simp only [not_or, Decidable.not_not] at hcnd
          simp only [Option.bind_eq_some_iff, Option.some.injEq] at hc
          obtain ⟨s', h1, x', h2, rfl⟩ := hc
          simp [SOp.isCall] at hv
        · rename_i e htd hxtd
          simp only [Option.bind_eq_some_iff] at hc
          obtain ⟨ei, hei, z, hz, hc⟩ := hc
          split at hc
          · cases hc
          rename_i hcnd
          simp only [not_or, Decidable.not_not] at hcnd
          simp only [Option.bind_eq_some_iff, Option.some.injEq] at hc
          obtain ⟨s', h1, x', h2, rfl⟩ := hc
          simp [SOp.isCall] at hv
        · cases hc
      · simp only [Option.bind_eq_bind, Option.bind_eq_some_iff] at hc
        obtain ⟨xi, hxi, hc⟩ := hc
        split at hc
        · simp only [Option.bind_eq_some_iff, Option.some.injEq] at hc
          obtain ⟨x', h1, rfl⟩ := hc
          simp [SOp.isCall] at hv
        · simp only [Option.bind_eq_some_iff, Option.some.injEq] at hc
          obtain ⟨x', h1, rfl⟩ := hc
          simp [SOp.isCall] at hv
        · simp at hc; subst hc
          simp [SOp.isCall] at hv
        · cases hc
      · simp only [Option.bind_eq_bind, Option.bind_eq_some_iff, Option.some.injEq] at hc
        obtain ⟨x', h1, xs', h2, rfl⟩ := hc
        simp [SOp.isCall] at hv
      · simp only [Option.bind_eq_bind, Option.bind_eq_some_iff, Option.some.injEq] at hc
        obtain ⟨x', h1, xs', h2, rfl⟩ := hc
        simp [SOp.isCall] at hv
      · cases hc
    | value f =>
      cases f <;> simp only [cOp, Option.bind_eq_bind, Option.bind_eq_some_iff, Option.some.injEq] at hc
      case func f => obtain ⟨ys, h1, rfl⟩ := hc; exact ⟨_, _, rfl, rfl, .inl ⟨f, ys, rfl, rfl, h1⟩⟩
      all_goals (obtain ⟨y, h1, ys, h2, rfl⟩ := hc; exact ⟨_, _, rfl, rfl, .inr ⟨y, ys, rfl, h1, h2⟩⟩)
    | invoke r s => simp [cOp] at hc
  | _ => simp [cOp] at hc
end
end Go.Pev
/- Operations, one after the other: the predicate transformer is sound. -/
namespace Go.Pev
open Go
set_option linter.unusedVariables false
set_option linter.unusedSimpArgs false
section
variable {g : Gh} {m : Mem} {w : World} {P : Program} {T : Tab}
theorem OK.grow (h : OK g m w) {w' : World} (hh : ∀ b, b < w.heap.size → w'.heap[b]? = w.heap[b]?) (hsz : w.heap.size ≤ w'.heap.size) (hos : w'.os = w.os) (ht : w'.tape = w.tape) (ho : w'.output = w.output) : OK g m w' ∧ Ext g m w g m w' := by
  have him : ∀ b k, g.I b k → w'.cell? ⟨b, k, none⟩ = w.cell? ⟨b, k, none⟩ := fun b k hk => qbj (hh b (h.lt_of_I hk)) k
  have hv : VExt g m w g m w' := ⟨fun b k hk => ⟨hk, him b k hk⟩, fun _ _ => rfl, fun _ _ wf e xs h => ⟨wf, e, xs, h, rfl, Nat.le_refl _, fun _ => rfl⟩, Nat.le_refl _⟩
  refine ⟨⟨h.lt, fun r ob hs => (h.ob r ob hs).keep hv (fun b hb => hh b (qfb h hs hb)) rfl rfl (fun b _ k => Iff.rfl), h.ne, fun b k hk => ?_, h.tb.go (fun _ _ hk => hk) (fun b hb _ => hh b hb) (fun r ob b hs hb => .inr ⟨r, ob, hs, hb⟩)⟩, ?_⟩
  · obtain ⟨v, hv⟩ := h.im b k hk
    exact ⟨v, (him b k hk).trans hv⟩
  · exact ⟨hv.im, hv.jb, hv.ja, hv.n, fun b hb _ => hh b hb, fun b k hk => .inl hk, fun r ob b hs hb => .inr ⟨r, ob, hs, hb⟩, hsz, hos, ht, ho⟩
theorem qk7 {g' : Gh} {m' : Mem} {w' : World} {z : AV} {v : Value} (hf : qcl z = true) (h : VRel g' m' w' z v) (I : Nat → Nat → Prop) (w : World) : CRel I w z v := by
  cases z <;> simp [qcl] at hf <;> (cases h with | c h => cases h <;> constructor)
theorem q1n {g' : Gh} {m' : Mem} {w' : World} {z : AV} {v : Value} (hf : qhh z = true) (h : VRel g' m' w' z v) (I : Nat → Nat → Prop) (w : World) : CRel I w z v := by
  by_cases hag : ∃ cs, z = .agg cs
  · obtain ⟨cs, rfl⟩ := hag
    simp only [qhh, List.all_eq_true] at hf
    obtain ⟨vs, rfl, hl, hs, hh⟩ : ∃ vs, v = .agg vs ∧ (∀ x, x ∈ cs → x.leaf = true) ∧ vs.size = cs.length ∧ ∀ (k : Nat) (x : AV) (v : Value), cs[k]? = some x → vs[k]? = some v → VRel g' m' w' x v := by
      cases h with
      | c h => cases h with
        | agg _ vs hl hs hh => exact ⟨vs, rfl, hl, hs, fun k x v h1 h2 => .c (hh k x v h1 h2)⟩
      | agg _ vs hl hs hh => exact ⟨vs, rfl, hl, hs, hh⟩
    exact .agg cs vs hl hs (fun k x v h1 h2 => qk7 (hf x (List.mem_of_getElem? h1)) (hh k x v h1 h2) I w)
  · exact qk7 (by cases z <;> first | exact hf | (exact absurd ⟨_, rfl⟩ hag)) h I w
theorem qsu {g' : Gh} {m' : Mem} {w' : World} {z : AV} {v : Value} (hf : flat z = true) (h : VRel g' m' w' z v) (I : Nat → Nat → Prop) (w : World) : CRel I w z v := by
  by_cases hag : ∃ cs, z = .tup cs
  · obtain ⟨cs, rfl⟩ := hag
    simp only [flat, List.all_eq_true] at hf
    obtain ⟨vs, rfl, hs, hh⟩ : ∃ vs, v = .tuple vs ∧ vs.size = cs.length ∧ ∀ (k : Nat) (x : AV) (v : Value), cs[k]? = some x → vs[k]? = some v → VRel g' m' w' x v := by
      cases h with
      | c h => cases h with
        | tup _ vs hs hh => exact ⟨vs, rfl, hs, fun k x v h1 h2 => .c (hh k x v h1 h2)⟩
      | tup _ vs hs hh => exact ⟨vs, rfl, hs, hh⟩
    exact .tup cs vs hs (fun k x v h1 h2 => q1n (hf x (List.mem_of_getElem? h1)) (hh k x v h1 h2) I w)
  · exact q1n (by cases z <;> first | exact hf | (exact absurd ⟨_, rfl⟩ hag)) h I w
theorem q1o {m : Mem} {x z : AV} (h : exp1 m x = some z) (hf : qhh z = true) : x = z := by
  have leaf : ∀ (x z : AV), qbr m x = some z → qcl z = true → x = z := by
    intro x z h hf
    cases x <;> simp [qbr] at h <;> (try (first | exact h | (obtain ⟨_, rfl⟩ := h; simp [qcl] at hf)))
    split at h
    · split at h <;> simp at h; subst h; simp [qcl] at hf
    · cases h
  have cells : ∀ (cs ys : List AV), qdc m cs = some ys → (∀ y, y ∈ ys → qcl y = true) → cs = ys := by
    intro cs
    induction cs with
    | nil => intro ys h _; simp [qdc] at h; exact h.symm
    | cons x cs ih =>
      intro ys h hf
      simp only [qdc] at h
      split at h
      · rename_i y ys' h1 h2
        simp at h; subst h
        rw [leaf x y h1 (hf y (by simp)), ih ys' h2 (fun z hz => hf z (by simp [hz]))]
      · cases h
  by_cases hag : ∃ cs, x = .agg cs
  · obtain ⟨cs, rfl⟩ := hag
    simp only [exp1] at h
    obtain ⟨ys, h1, rfl⟩ := Option.map_eq_some_iff.1 h
    simp only [qhh, List.all_eq_true] at hf
    rw [cells cs ys h1 hf]
  · have e1 : exp1 m x = qbr m x := by cases x <;> first | rfl | (exact absurd ⟨_, rfl⟩ hag)
    rw [e1] at h
    refine leaf x z h ?_
    cases z with
    | agg cs =>
      cases x <;> simp [qbr] at h
      split at h
      · split at h <;> simp at h
      · simp at h
    | _ => exact hf
theorem qpv {m : Mem} {x z : AV} (h : expo m x = some z) (hf : flat z = true) : x = z := by
  unfold expo at h
  split at h
  · rename_i vs
    split at h
    · obtain ⟨ys, h1, rfl⟩ := Option.map_eq_some_iff.1 h
      simp only [flat, List.all_eq_true] at hf
      have many : ∀ (cs ys : List AV), exps m cs = some ys → (∀ y, y ∈ ys → qhh y = true) → cs = ys := by
        intro cs
        induction cs with
        | nil => intro ys h _; simp [exps] at h; exact h.symm
        | cons x cs ih =>
          intro ys h hf
          simp only [exps] at h
          split at h
          · rename_i y ys' h1 h2
            simp at h; subst h
            rw [q1o h1 (hf y (by simp)), ih ys' h2 (fun z hz => hf z (by simp [hz]))]
          · cases h
      rw [many vs ys h1 hf]
    · cases h
  · simp at h; exact h
  · split at h
    · refine q1o h ?_
      cases z with
      | tup cs =>
        cases x <;> simp [exp1, qbr] at h
        split at h
        · split at h <;> simp at h
        · simp at h
      | _ => exact hf
    · cases h
theorem q4a {z : AV} {m : Mem} (hf : flat z = true) : imp z m = (z, m) := by
  have leaf : ∀ z, qcl z = true → ∀ m, qeo z m = (z, m) := fun z hz m => by cases z <;> simp [qcl] at hz <;> rfl
  have cells : ∀ cs, (∀ y, y ∈ cs → qcl y = true) → ∀ m, qbw cs m = (cs, m) := by
    intro cs
    induction cs with
    | nil => intro _ m; rfl
    | cons x cs ih =>
      intro hf m
      simp only [qbw, leaf x (hf x (by simp)), ih (fun z hz => hf z (by simp [hz]))]
  have one : ∀ z, qhh z = true → ∀ m, imp1 z m = (z, m) := by
    intro z hz m
    cases z with
    | agg cs => simp only [qhh, List.all_eq_true] at hz; simp only [imp1, cells cs hz]
    | _ => exact leaf _ (by simpa [qhh] using hz) m
  have many : ∀ cs, (∀ y, y ∈ cs → qhh y = true) → ∀ m, imps cs m = (cs, m) := by
    intro cs
    induction cs with
    | nil => intro _ m; rfl
    | cons x cs ih =>
      intro hf m
      simp only [imps, one x (hf x (by simp)), ih (fun z hz => hf z (by simp [hz]))]
  cases z with
  | tup cs => simp only [flat, List.all_eq_true] at hf; simp only [imp, many cs hf]
  | _ => exact one _ (by simpa [flat] using hf) m
def qbce (P : Program) (g : Gh) (m : Mem) (w : World) (f : FuncId) (args : Array Value) (K : AV → Mem → Prop) : Prop :=
  Calls P f args w fun e w' => ∃ v y g' m', e = .returned v ∧ K y m' ∧ OK g' m' w' ∧ VRel g' m' w' y v ∧ Ext g m w g' m' w'
theorem OK.nothing (h : OK g m w) (g' : Gh) (hI : g'.I = g.I) : OK g' Mem.none w :=
  ⟨fun r ob hs => by simp [Mem.none] at hs, fun r ob hs => by simp [Mem.none] at hs, fun r r' ob ob' b hs => by simp [Mem.none] at hs, fun b k hk => h.im b k (by rw [← hI]; exact hk), fun p hp => ⟨(h.tb p hp).1, fun r ob hs => by simp [Mem.none] at hs, by rw [hI]; exact (h.tb p hp).2.2⟩⟩
def qbae (P : Program) (g : Gh) (m : Mem) (w : World) (f : FuncId) (args : Array Value) (K : AV → Mem → Prop) : Prop :=
  (Ent P f ∧ qbce P g m w f args K) ∨ ∃ v y g' m', (callFunc f args).run P w = .ok (.value v) w ∧ K y m' ∧ OK g' m' w ∧ VRel g' m' w y v ∧ Ext g m w g' m' w
theorem qu8 (hok : OK g m w) {f : FuncId} {xs : List AV} {K : AV → Mem → Prop} (h : qq9 P f xs m K) {args : Array Value} (hs : args.size = xs.length) (hr : ∀ (k : Nat) (x : AV) (v : Value), xs[k]? = some x → args[k]? = some v → VRel g m w x v) :
    qbae P g m w f args K := by
  rcases h with ⟨as_, Q, h1, h2, h3⟩ | ⟨_, Q, h2, h3⟩
  · obtain ⟨hf1, hf2⟩ := hok.frz (idss xs)
    have hext := Ext.frz hok (idss xs)
    obtain ⟨h4, h5⟩ := qim xs as_ h1
    have hsz : args.size = as_.length := by omega
    have hrel : ∀ (k : Nat) (y : AV) (v : Value), as_[k]? = some y → args[k]? = some v → VRel (g.shut m (idss xs)) Mem.none w y v := fun k y v hy hv => by
      have hk : k < xs.length := by rw [← h4]; exact (List.getElem?_eq_some_iff.1 hy).1
      have hx : xs[k]? = some xs[k] := by simp [hk]
      exact .c (qeu hok (hr k _ v hx hv) (h5 k _ y hx hy) (fun r hr => by
        simp only [idss, List.mem_flatMap]; exact ⟨_, List.mem_of_getElem? hx, hr⟩)).1
    have fin : ∀ (v : Value) (y : AV) (g' : Gh) (m' : Mem) (w' : World) (z : AV), expo m' y = some z → Q z → OK g' m' w' → VRel g' m' w' y v → Ext (g.shut m (idss xs)) Mem.none w g' m' w' →
        ∃ y2 g2 m2, K y2 m2 ∧ OK g2 m2 w' ∧ VRel g2 m2 w' y2 v ∧ Ext g m w g2 m2 w' := by
      intro v y g' m' w' z hz hQ hok' hv hext'
      have hK := h3 z hQ
      by_cases hflat : flat z = true
      · rw [if_pos hflat, q4a hflat] at hK
        have hyz := qpv hz hflat
        subst hyz
        obtain ⟨h6, h7⟩ := hok.grow (fun b hb => hext'.fr b hb (fun r ob hs => by simp [Mem.none] at hs)) hext'.size hext'.os hext'.tape hext'.output
        exact ⟨y, g, m, hK, h6, .c (qsu hflat hv _ _), h7⟩
      · rw [if_neg hflat] at hK
        obtain ⟨gj, h6, h7, h8⟩ := q8f hf1 (g0 := g.shut m (idss xs)) rfl hok' hext' hv hz
        exact ⟨_, gj, _, hK, h6, h8, hext.trans h7⟩
    rcases h2 with ⟨hE, h2⟩ | h2
    · refine .inl ⟨hE, ?_⟩
      refine (h2 (g.shut m (idss xs)) w args (hf1.nothing _ rfl) hsz hrel).mono fun e w' ⟨v, y, g', m', he, ⟨z, hz, hQ⟩, hok', hv, hext'⟩ => ?_
      obtain ⟨y2, g2, m2, k1, k2, k3, k4⟩ := fin v y g' m' w' z hz hQ hok' hv hext'
      exact ⟨v, y2, g2, m2, he, k1, k2, k3, k4⟩
    · obtain ⟨v, y, hrun, ⟨z, hz, hQ⟩, hv⟩ := h2 (g.shut m (idss xs)) w args (hf1.nothing _ rfl) hsz hrel
      obtain ⟨y2, g2, m2, k1, k2, k3, k4⟩ := fin v y (g.shut m (idss xs)) Mem.none w z hz hQ (hf1.nothing _ rfl) hv (Ext.refl _ _ _)
      exact .inr ⟨v, y2, g2, m2, hrun, k1, k2, k3, k4⟩
  · rcases h2 with ⟨hE, h2⟩ | h2
    · refine .inl ⟨hE, (h2 g w args hok hs hr).mono fun e w' ⟨v, y, g', m', he, hQ, hok', hv, hext'⟩ => ?_⟩
      exact ⟨v, y, g', m', he, h3 y m' hQ, hok', hv, hext'⟩
    · obtain ⟨v, y, hrun, hQ, hv⟩ := h2 g w args hok hs hr
      exact .inr ⟨v, y, g, m, hrun, h3 y m hQ, hok, hv, Ext.refl _ _ _⟩
structure ARel (g : Gh) (m : Mem) (w : World) (nt : Nat) (t : Env) (a : Act) : Prop where
  r : ERel g m w t a
  n : nt ≤ a.tmps.size
  d : a.defers = []
theorem ERel.ext {g m w g' m' w'} {t : Env} {a : Act} (h : ERel g m w t a) (he : Ext g m w g' m' w') : ERel g' m' w' t a := fun i => (h i).ext he
theorem ARel.ext {g m w g' m' w' nt} {t : Env} {a : Act} (h : ARel g m w nt t a) (he : Ext g m w g' m' w') : ARel g' m' w' nt t a := ⟨h.r.ext he, h.n, h.d⟩
theorem ARel.put {nt} {t : Env} {a : Act} (h : ARel g m w nt t a) {dst : Option Nat} (hd : dst.all (· < nt) = true) {v : AV} {cv : Value} (hv : VRel g m w v cv) : ARel g m w nt (upd t dst v) (a.put dst cv) := by
  cases dst with
  | none => exact h
  | some d =>
    have hdn : d < nt := by simpa using hd
    refine ⟨fun i => ?_, by simp [Act.put]; exact h.n, h.d⟩
    simp only [upd, Act.put]
    by_cases hi : i = d
    · subst hi
      have : i < a.tmps.size := Nat.lt_of_lt_of_le hdn h.n
      rw [if_pos rfl]
      have e : (a.tmps.setIfInBounds i cv).getD i undef = cv := by simp [this]
      rw [e]; exact hv
    · rw [if_neg hi]
      have e : (a.tmps.setIfInBounds d cv).getD i undef = a.tmps.getD i undef := by
        simp only [Array.getD_eq_getD_getElem?]
        rw [Array.getElem?_setIfInBounds_ne (Ne.symm hi)]
      rw [e]; exact h.r i
theorem qkf {t : Env} {a : Act} (hr : ERel g m w t a) {l : Array Operand} {xs : List Opd} (h : qpp l = some xs) :
    (l.map a.eval).size = (evs t xs).length ∧ ∀ (k : Nat) (x : AV) (v : Value), (evs t xs)[k]? = some x → (l.map a.eval)[k]? = some v → VRel g m w x v := by
  obtain ⟨h1, h2⟩ := qbx cOpd _ _ h
  refine ⟨by simp [evs, h1], fun k x v hx hv => ?_⟩
  simp only [evs, List.getElem?_map, Option.map_eq_some_iff, Array.getElem?_map] at hx hv
  obtain ⟨y, hy, rfl⟩ := hx
  obtain ⟨u, hu, rfl⟩ := hv
  exact qe hr (h2 k u y (by simpa using hu) hy)
theorem qgv {f : FuncId} (hE : Ent P f) (args : Array Value) (w : World) : (callFunc f args).run P w = .ok (.enter f args) w := by
  obtain ⟨fn, h1, h2, h3⟩ := hE
  have h2' : fn.body ≠ none := by intro h; simp [h] at h2
  have h3' : fn.name ≠ "runtime.NumGoroutine" := by intro h; simp [h] at h3
  unfold callFunc
  simp [h1, h2', h3']
theorem qyh {f : FuncId} {cs : List AV} {v : Value} (h : VRel g m w (.func f cs) v) : ∃ vs, v = .func (.func f) #[] vs ∧ vs.size = cs.length ∧ ∀ (k : Nat) (x : AV) (v : Value), cs[k]? = some x → vs[k]? = some v → VRel g m w x v := by
  cases h with
  | c h => cases h with
    | func _ _ vs _ hs hh => exact ⟨vs, rfl, hs, fun k x v hx hv => .c (hh k x v hx hv)⟩
  | func _ _ vs _ hs hh => exact ⟨vs, rfl, hs, hh⟩
theorem qbdu {x : AV} {v : Value} (h : VRel g m w (.fv x) v) : fnC x = true ∧ CRel g.I w x v := by
  cases h with
  | c h => cases h with
    | fv _ _ hx h => exact ⟨hx, h⟩
theorem q6o {f : FuncId} {cs : List AV} {x : AV} {v : Value} (hx : x = .func f cs ∨ x = .fv (.func f cs)) (h : VRel g m w x v) : ∃ vs, v = .func (.func f) #[] vs ∧ vs.size = cs.length ∧ ∀ (k : Nat) (x : AV) (v : Value), cs[k]? = some x → vs[k]? = some v → VRel g m w x v := by
  rcases hx with rfl | rfl
  · exact qyh h
  · exact qyh (.c (qbdu h).2)
theorem q8g (hT : T.ok P) (hok : OK g m w) {t : Env} {a : Act} (hr : ERel g m w t a) {o : Oper} {so : SOp} (hc : cOp T o.op = some so) {K : AV → Mem → Prop} (h : WpOp P t m K so) {next : Act → World → Prop} {Q : Exit → Act → World → Prop}
    (hK : ∀ v cv m' g' w', K v m' → VRel g' m' w' v cv → OK g' m' w' → Ext g m w g' m' w' → next (a.put o.dst cv) w') : o.wp P a w next Q := by
  by_cases hcall : so.isCall = true
  · obtain ⟨c, x, hop, hcal, hx⟩ := qlz hc hcall
    rcases hx with ⟨f, xs, rfl, rfl, hxs⟩ | ⟨x', xs, rfl, hx', hxs⟩
    · simp only [WpOp] at h
      obtain ⟨h1, h2⟩ := qkf hr hxs
      rcases qu8 hok h h1 h2 with ⟨hE, hcalls⟩ | ⟨v, y, g', m', hx, hK', hok', hv, hext⟩
      · have hrun : (execOp a.eval o).run P w = .ok (.enter f (c.args.map a.eval)) w := by
          unfold execOp
          simp only [hop]
          simp [resolve, hcal, Act.eval, Deferred.ofValue, invoke, qgv hE]
        unfold Oper.wp
        rw [hrun, Oper.upon_enter]
        refine hcalls.mono fun e w' ⟨v, y, g', m', he, hK', hok', hv, hext⟩ => ?_
        subst he
        exact hK y v m' g' w' hK' hv hok' hext
      · have hrun : (execOp a.eval o).run P w = .ok (.value v) w := by
          unfold execOp
          simp only [hop]
          simp [resolve, hcal, Act.eval, Deferred.ofValue, invoke, hx]
        unfold Oper.wp
        rw [hrun, Oper.upon_value]
        exact hK y v m' g' w hK' hv hok' hext
    · simp only [WpOp] at h
      have key : ∀ (f : FuncId) (caps : List AV), (ev t x' = .func f caps ∨ ev t x' = .fv (.func f caps)) → qq9 P f (evs t xs ++ caps) m K → o.wp P a w next Q := by
        intro f caps hev h
        have hfx := qe hr hx'
        obtain ⟨vs, hv1, hv2, hv3⟩ := q6o hev hfx
        obtain ⟨h1, h2⟩ := qkf hr hxs
        have hsays := qu8 hok h (args := c.args.map a.eval ++ vs) (by simp [hv2] at h1 ⊢; omega) (fun k y v hy hv => by
          by_cases hk : k < (evs t xs).length
          · rw [List.getElem?_append_left hk] at hy
            rw [Array.getElem?_append_left (by omega)] at hv
            exact h2 k y v hy hv
          · rw [List.getElem?_append_right (by omega)] at hy
            rw [Array.getElem?_append_right (by omega), h1] at hv
            exact hv3 _ y v hy hv)
        rcases hsays with ⟨hE, hcalls⟩ | ⟨v, y, g', m', hx, hK', hok', hv, hext⟩
        · have hrun : (execOp a.eval o).run P w = .ok (.enter f (c.args.map a.eval ++ vs)) w := by
            unfold execOp
            simp only [hop]
            simp [resolve, hcal, hv1, Deferred.ofValue, invoke, qgv hE]
          unfold Oper.wp
          rw [hrun, Oper.upon_enter]
          refine hcalls.mono fun e w' ⟨v, y, g', m', he, hK', hok', hv, hext⟩ => ?_
          subst he
          exact hK y v m' g' w' hK' hv hok' hext
        · have hrun : (execOp a.eval o).run P w = .ok (.value v) w := by
            unfold execOp
            simp only [hop]
            simp [resolve, hcal, hv1, Deferred.ofValue, invoke, hx]
          unfold Oper.wp
          rw [hrun, Oper.upon_value]
          exact hK y v m' g' w hK' hv hok' hext
      split at h
      · rename_i f caps hev
        exact key f caps (.inl hev) h
      · rename_i f caps hev
        exact key f caps (.inr hev) h
      · exact h.elim
  · have h' : if so.quiet then oP (qa t m so) (fun v => K v m) else oP (qd t m so) (fun p => K p.1 p.2) := by
      cases so <;> first | exact h | (exact absurd rfl hcall)
    split at h'
    · cases hp : qa t m so with
      | none => rw [hp] at h'; exact h'.elim
      | some v =>
        rw [hp] at h'
        obtain ⟨cv, hv, hrun⟩ := qiz hT hok hr hc hp
        unfold Oper.wp
        rw [hrun w (Old.refl w), Oper.upon_value]
        exact hK v cv m g w h' hv hok (Ext.refl g m w)
    · cases hp : qd t m so with
      | none => rw [hp] at h'; exact h'.elim
      | some p =>
        obtain ⟨v, m'⟩ := p
        rw [hp] at h'
        obtain ⟨nx, cv, w', g', hrun, hnx, hv, hok', hext⟩ := qin hT hok hr hc hp
        unfold Oper.wp
        rw [hrun]
        rcases hnx with rfl | ⟨rfl, rfl⟩
        · rw [Oper.upon_value]; exact hK v cv m' g' w' h' hv hok' hext
        · rw [Oper.upon_skip]; exact hK v undef m' g' w' h' hv hok' hext
theorem qj4 (hT : T.ok P) (hok : OK g m w) {t : Env} {a : Act} (hr : ERel g m w t a) {o : Oper} {so : SOp} (hc : cOpT T o.op = some so) {K : AV → Mem → Prop} (h : WpOp P t m K so) {next : Act → World → Prop} {Q : Exit → Act → World → Prop}
    (hK : ∀ v cv m' g' w', K v m' → VRel g' m' w' v cv → OK g' m' w' → Ext g m w g' m' w' → next (a.put o.dst cv) w') : o.wp P a w next Q := by
  unfold cOpT at hc
  cases hq : cOp T o.op with
  | some x => rw [hq] at hc; simp at hc; subst hc; exact q8g hT hok hr hq h hK
  | none => rw [hq] at hc; simp at hc; subst hc; simp [WpOp, SOp.quiet, qd, oP] at h
end
end Go.Pev
/- Operations, one after the other. -/
namespace Go.Pev
open Go
set_option linter.unusedVariables false
set_option linter.unusedSimpArgs false
section
variable {g : Gh} {m : Mem} {w : World} {P : Program} {T : Tab} {nt : Nat}
theorem qq {ops : Array Oper} {o : Oper} {s : SOper} (h : qbc T nt ops o = some s) :
    s.dst = o.dst ∧ cOpT T o.op = some s.op ∧ o.dst.all (· < nt) = true ∧
      ((o.guard = none ∧ s.g = none) ∨ ∃ j b oj d, o.guard = some (j, b) ∧ ops[j]? = some oj ∧ oj.dst = some d ∧ s.g = some (d, b)) := by
  unfold qbc at h
  cases hg : o.guard with
  | none =>
    simp only [hg, Option.bind_eq_bind, Option.bind_eq_some_iff, Option.some.injEq] at h
    obtain ⟨op, h1, _, rfl, h3⟩ := h
    split at h3
    · rename_i hd
      simp at h3; subst h3
      exact ⟨rfl, h1, hd, .inl ⟨rfl, rfl⟩⟩
    · cases h3
  | some p =>
    obtain ⟨j, b⟩ := p
    simp only [hg, Option.bind_eq_bind, Option.bind_eq_some_iff, Option.some.injEq] at h
    obtain ⟨op, h1, oj, h4, d, h5, _, rfl, h3⟩ := h
    split at h3
    · rename_i hd
      simp at h3; subst h3
      exact ⟨rfl, h1, hd, .inr ⟨j, b, oj, d, rfl, h4, h5, rfl⟩⟩
    · cases h3
theorem qkg {ops : Array Oper} {o : Oper} {t : Env} {a : Act} (hr : ERel g m w t a) {j : Nat} {b : Bool} {oj : Oper} {d : Nat} (hg : o.guard = some (j, b)) (hj : ops[j]? = some oj) (hd : oj.dst = some d) :
    (∀ q, t d = .bool q → Region.wanted o (yielded ops a.tmps) = (q == b)) ∧ (t d = .undef → Region.wanted o (yielded ops a.tmps) = false) := by
  have hrd := hr d
  constructor
  · intro q hq
    rw [hq] at hrd
    have hv := hrd.bool_inv
    have hv2 : a.tmps[d]? = some (.bool q) := by
      simp only [Array.getD_eq_getD_getElem?] at hv
      cases hx : a.tmps[d]? with
      | none => rw [hx] at hv; simp [undef] at hv
      | some u => rw [hx] at hv; simp at hv; rw [hv]
    simp [Region.wanted, hg, yielded, hj, hd, hv2]
  · intro hq
    rw [hq] at hrd
    have hv := hrd.undef_inv
    simp only [Array.getD_eq_getD_getElem?] at hv
    cases hx : a.tmps[d]? with
    | none => simp [Region.wanted, hg, yielded, hj, hd, hx]
    | some u => rw [hx] at hv; simp at hv; subst hv; simp [Region.wanted, hg, yielded, hj, hd, hx, undef]
end
end Go.Pev
/- Operations that may stand in any order: what each is worth. -/
namespace Go.Pev
open Go
set_option linter.unusedVariables false
set_option linter.unusedSimpArgs false
section
variable {g : Gh} {m : Mem} {w : World} {P : Program} {T : Tab}
theorem qyi {t t' : Env} {x : Opd} (h : ∀ d, Opd.isT d x = true → t d = t' d) : ev t x = ev t' x := by
  cases x with
  | t i => exact h i (by simp [Opd.isT])
  | c v => rfl
theorem qga {t t' : Env} {xs : List Opd} (h : ∀ x, x ∈ xs → ev t x = ev t' x) : evs t xs = evs t' xs := by
  simp only [evs]; exact List.map_congr_left h
theorem qm5 {t t' : Env} {so : SOp} (h : ∀ x, x ∈ so.opds → ev t x = ev t' x) : qa t m so = qa t' m so := by
  cases so with
  | build z ps =>
    simp only [qa]
    have : ps.map (fun p => (p.1, p.2.1, ev t p.2.2)) = ps.map (fun p => (p.1, p.2.1, ev t' p.2.2)) := by
      refine List.map_congr_left fun p hp => ?_
      rw [h p.2.2 (by simp only [SOp.opds, List.mem_map]; exact ⟨p, hp, rfl⟩)]
    rw [this]
  | slcs x lo hi =>
    have e1 : ev t x = ev t' x := h x (by simp [SOp.opds])
    have e2 : lo.map (ev t) = lo.map (ev t') := by cases lo with
      | none => rfl
      | some y => simp [h y (by simp [SOp.opds])]
    have e3 : hi.map (ev t) = hi.map (ev t') := by cases hi with
      | none => rfl
      | some y => simp [h y (by simp [SOp.opds])]
    simp only [qa, e1, e2, e3]
  | mm mx x xs =>
    have e1 : ev t x = ev t' x := h x (by simp [SOp.opds])
    have e2 : evs t xs = evs t' xs := qga fun y hy => h y (by simp [SOp.opds, hy])
    simp only [qa, e1, e2]
  | mkf f cs =>
    have e2 : evs t cs = evs t' cs := qga fun y hy => h y (by simpa [SOp.opds] using hy)
    simp only [qa, e2]
  | held fl ps =>
    have e1 : evs t fl = evs t' fl := qga fun y hy => h y (by simp [SOp.opds, hy])
    have e2 : ps.all (qns m t) = ps.all (qns m t') := by
      rw [Bool.eq_iff_iff, List.all_eq_true, List.all_eq_true]
      refine forall_congr' fun p => forall_congr' fun hp => ?_
      have h1 : ev t p.1 = ev t' p.1 := h _ (by simp only [SOp.opds, List.mem_append, List.mem_flatMap]; exact .inr ⟨p, hp, by simp⟩)
      have h2 : ev t p.2 = ev t' p.2 := h _ (by simp only [SOp.opds, List.mem_append, List.mem_flatMap]; exact .inr ⟨p, hp, by simp⟩)
      unfold qns
      obtain ⟨x, y⟩ := p
      cases x with
      | c z => rw [h2]
      | t i =>
        have h3 : t i = t' i := h1
        rw [h2]; simp only [h3]
    simp only [qa, e1, e2]
  | _ => simp only [qa] <;> simp only [SOp.opds, List.mem_cons, List.not_mem_nil, or_false, forall_eq_or_imp, forall_eq] at h <;> simp [h]
theorem qhu {F : List Nat} {t t' : Env} {so : SOp} {K : AV → Prop} (h : ∀ x, x ∈ so.opds → ev t x = ev t' x) (hq : qbq P F t m K so) : qbq P F t' m K so := by
  cases so with
  | call f xs =>
    have e : evs t xs = evs t' xs := qga fun y hy => h y (by simpa [SOp.opds] using hy)
    simp only [qbq, e] at hq ⊢
    exact hq
  | callv x xs =>
    have e0 : ev t x = ev t' x := h x (by simp [SOp.opds])
    have e : evs t xs = evs t' xs := qga fun y hy => h y (by simp [SOp.opds, hy])
    simp only [qbq, e0, e] at hq ⊢
    exact hq
  | callf f xs =>
    have e : evs t xs = evs t' xs := qga fun y hy => h y (by simpa [SOp.opds] using hy)
    simp only [qbq, e] at hq ⊢
    exact hq
  | bsl e ps =>
    have e : evs t ps = evs t' ps := qga fun y hy => h y (by simpa [SOp.opds] using hy)
    simp only [qbq, e] at hq ⊢
    exact hq
  | slc e x lo hi =>
    have e1 : ev t x = ev t' x := h x (by simp [SOp.opds])
    have e2 : lo.map (ev t) = lo.map (ev t') := by cases lo with
      | none => rfl
      | some y => simp [h y (by simp [SOp.opds])]
    have e3 : hi.map (ev t) = hi.map (ev t') := by cases hi with
      | none => rfl
      | some y => simp [h y (by simp [SOp.opds])]
    simp only [qbq, e1, e2, e3] at hq ⊢
    exact hq
  | _ =>
    have e := qm5 (m := m) h
    simp only [qbq, e] at hq ⊢
    exact hq
theorem q4b {F : List Nat} {t : Env} {so : SOp} {K : AV → Prop} (hq : qbq P F t m K so) : ∃ v, K v ∧ qbq P F t m (· = v) so := by
  have pure : ∀ (b : Bool) (o : Option AV), (if b then oP o K else False) → ∃ v, K v ∧ (if b then oP o (· = v) else False) := by
    intro b o h
    cases b <;> cases o <;> simp [oP] at h ⊢
    exact h
  cases so with
  | call f xs =>
    obtain ⟨as_, y, h1, h2, h3, h4⟩ := hq
    exact ⟨y, h4, as_, y, h1, h2, h3, rfl⟩
  | callv x xs =>
    obtain ⟨f, caps, h0, as_, y, h1, h2, h3, h4⟩ := hq
    exact ⟨y, h4, f, caps, h0, as_, y, h1, h2, h3, rfl⟩
  | callf f xs =>
    obtain ⟨as_, e, ys, h1, h2, h3, h4⟩ := hq
    exact ⟨_, h4, as_, e, ys, h1, h2, h3, rfl⟩
  | bsl e ps =>
    obtain ⟨h1, h2⟩ := hq
    cases hs : qcd m (evs t ps) with
    | none => rw [hs] at h2; exact h2.elim
    | some xs =>
      rw [hs] at h2
      exact ⟨_, h2.2, h1, by rw [hs]; exact ⟨h2.1, rfl⟩⟩
  | slc e x lo hi =>
    obtain ⟨h1, h2, h3⟩ := hq
    cases hs : els m (ev t x) with
    | none => rw [hs] at h3; exact h3.elim
    | some xs =>
      rw [hs] at h3
      simp only [oP] at h3
      cases hcut : cut xs (lo.map (ev t)) (hi.map (ev t)) with
      | none => rw [hcut] at h3; exact h3.elim
      | some ys =>
        rw [hcut] at h3
        exact ⟨_, h3, h1, h2, by rw [hs]; simp only [oP]; rw [hcut]⟩
  | _ => simp only [qbq] at hq ⊢; exact pure _ _ hq
theorem qxg {x z : AV} (h : qbr m x = some z) : qu m x = some (qff z) := by
  cases x <;> simp [qbr] at h <;> (try subst h) <;> (try rfl)
  case own r n =>
    split at h
    · rename_i wf e xs hs
      split at h
      · rename_i hn
        simp at h; subst h
        simp [qu, hs, hn, qff]
      · cases h
    · cases h
  case func f cs =>
    obtain ⟨h1, rfl⟩ := h
    simp [qu, h1, qff]
theorem qu9 : ∀ (cs ys : List AV), qdc m cs = some ys → qck m cs = some (ys.map qff)
  | [], ys, h => by simp [qdc] at h; subst h; rfl
  | x :: cs, ys, h => by
    simp only [qdc] at h
    split at h
    · rename_i y ys' h1 h2
      simp at h; subst h
      simp [qck, qxg h1, qu9 cs ys' h2]
    · cases h
theorem q4c {x z : AV} (h : exp1 m x = some z) : snap m x = some (clo1 z) := by
  by_cases hag : ∃ cs, x = .agg cs
  · obtain ⟨cs, rfl⟩ := hag
    simp only [exp1] at h
    obtain ⟨ys, h1, rfl⟩ := Option.map_eq_some_iff.1 h
    simp [snap, clo1, qu9 cs ys h1]
  · have e1 : exp1 m x = qbr m x := by cases x <;> first | rfl | (exact absurd ⟨_, rfl⟩ hag)
    have e2 : snap m x = qu m x := by cases x <;> first | rfl | (exact absurd ⟨_, rfl⟩ hag)
    rw [e1] at h
    have e3 : clo1 z = qff z := by
      cases z with
      | agg cs =>
        cases x <;> simp [qbr] at h
        split at h
        · split at h <;> simp at h
        · simp at h
      | _ => rfl
    rw [e2, e3]
    exact qxg h
theorem q4d : ∀ (cs ys : List AV), exps m cs = some ys → qcd m cs = some (ys.map clo1)
  | [], ys, h => by simp [exps] at h; subst h; rfl
  | x :: cs, ys, h => by
    simp only [exps] at h
    split at h
    · rename_i y ys' h1 h2
      simp at h; subst h
      simp [qcd, q4c h1, q4d cs ys' h2]
    · cases h
theorem q1p (hok : OK g m w) {x z : AV} {v : Value} (hx : VRel g m w x v) (hz : expo m x = some z) : ∃ l, CRel (g.shut m l).I w (clo z) v := by
  unfold expo at hz
  split at hz
  · rename_i vs
    split at hz
    · obtain ⟨ys, h1, rfl⟩ := Option.map_eq_some_iff.1 hz
      obtain ⟨us, rfl, hs, hh⟩ : ∃ us, v = .tuple us ∧ us.size = vs.length ∧ ∀ (k : Nat) (x : AV) (v : Value), vs[k]? = some x → us[k]? = some v → VRel g m w x v := by
        cases hx with
        | c h => cases h with
          | tup _ us hs hh => exact ⟨us, rfl, hs, fun k x v h1 h2 => .c (hh k x v h1 h2)⟩
        | tup _ us hs hh => exact ⟨us, rfl, hs, hh⟩
      have h2 := q4d vs ys h1
      obtain ⟨h3, h4⟩ := qim vs _ h2
      refine ⟨vs.flatMap ids, .tup _ us (by simp only [List.length_map] at h3 ⊢; omega) (fun k y v hy hv => ?_)⟩
      have hk : k < vs.length := by rw [← h3]; exact (List.getElem?_eq_some_iff.1 hy).1
      have hvk : vs[k]? = some vs[k] := by simp [hk]
      exact (qeu hok (hh k _ v hvk hv) (h4 k _ y hvk hy) (fun r hr => by simp only [List.mem_flatMap]; exact ⟨_, List.mem_of_getElem? hvk, hr⟩)).1
    · cases hz
  · simp at hz; subst hz
    have := hx.undef_inv
    subst this
    exact ⟨[], .undef⟩
  · rename_i hn1 hn2
    split at hz
    · have h2 := q4c hz
      have e3 : clo z = clo1 z := by
        cases z with
        | tup cs =>
          cases x <;> simp [exp1, qbr] at hz
          split at hz
          · split at hz <;> simp at hz
          · simp at hz
        | _ => rfl
      rw [e3]
      exact ⟨ids x, (qeu hok hx h2 (fun r hr => hr)).1⟩
    · cases hz
theorem q4e {z : AV} (h : flat (clo z) = true) : z = clo z := by
  have leaf : ∀ z, qcl (qff z) = true → z = qff z := fun z hz => by cases z <;> first | rfl | (simp [qff, qcl] at hz)
  have one : ∀ z, qhh (clo1 z) = true → z = clo1 z := by
    intro z hz
    cases z with
    | agg cs =>
      simp only [clo1, qhh, List.all_eq_true, List.mem_map] at hz ⊢
      congr 1
      have : cs.map qff = cs.map id := List.map_congr_left fun x hx => (leaf x (hz _ ⟨x, hx, rfl⟩)).symm
      rw [this, List.map_id]
    | fr w e xs => simp [clo1, qff, qhh, qcl] at hz
    | _ => rfl
  cases z with
  | tup cs =>
    simp only [clo, flat, List.all_eq_true, List.mem_map] at h ⊢
    congr 1
    have : cs.map clo1 = cs.map id := List.map_congr_left fun x hx => (one x (h _ ⟨x, hx, rfl⟩)).symm
    rw [this, List.map_id]
  | fr w e xs => simp [clo, clo1, qff, flat, qhh, qcl] at h
  | agg cs => exact one (.agg cs) h
  | _ => rfl
theorem qv7 (hok : OK g m w) {l : List Nat} (h : ∀ r, r ∈ l → ∀ wf e xs, m.s r = some (.arr wf e xs) → wf = false) : (g.shut m l).I = g.I := by
  funext b k
  refine propext ⟨fun hk => ?_, .inl⟩
  rcases hk with hk | ⟨r, hr, wf, e, xs, hs, hn, rfl, hk⟩
  · exact hk
  · have hw := h r hr wf e xs hs
    rcases hok.ob r _ hs with ⟨h1, _⟩ | ⟨h0, arr, h1, h2, h3, h4, h5, h6, h7⟩
    · rw [hn] at h1; cases h1
    · exact (h7 k).2 ⟨hw, hk⟩
theorem qsv (m : Mem) (F : List Nat) {l : List Nat} (hl : ∀ r, r ∈ l → r ∈ F) : ∀ r, r ∈ l → ∀ wf e xs, (m.frz F).s r = some (.arr wf e xs) → wf = false := by
  intro r hr wf e xs hs
  simp only [Mem.frz, if_pos (hl r hr)] at hs
  cases hm : m.s r with
  | none => rw [hm] at hs; cases hs
  | some ob => rw [hm] at hs; cases ob <;> simp [Ob.frz] at hs; exact hs.1
theorem q02 (m : Mem) (F : List Nat) {l : List Nat} (hl : ∀ r, r ∈ l → r ∈ F) : (m.frz F).frz l = m.frz F := by
  simp only [Mem.frz, Mem.mk.injEq, and_true]
  funext i
  by_cases hi : i ∈ l
  · simp only [if_pos hi, if_pos (hl i hi), Option.map_map]
    cases m.s i with
    | none => rfl
    | some ob => cases ob <;> rfl
  · simp only [if_neg hi]
end
end Go.Pev
/- Operations that may stand in any order: one of them, carried out in a world of the walk. -/
namespace Go.Pev
open Go
set_option linter.unusedVariables false
set_option linter.unusedSimpArgs false
section
variable {g : Gh} {m : Mem} {w : World} {P : Program} {T : Tab}
theorem Ext.forget {g m w g2 m2 w2} (h : Ext g m w g2 m2 w2) (hs : ∀ r, r < m.n → m2.s r = m.s r) (hlt : ∀ r ob, m.s r = some ob → r < m.n) : Ext g m w g2 m w2 := by
  refine ⟨h.im, h.jb, fun r hr wf e xs hx => ?_, Nat.le_refl _, h.fr, h.inew, fun r ob b hx hb => ?_, h.size, h.os, h.tape, h.output⟩
  · exact h.ja r hr wf e xs (by rw [hs r hr]; exact hx)
  · exact h.onew r ob b (by rw [hs r (hlt r ob hx)]; exact hx) hb
theorem VRel.back {g m w g2 m2 w2} (hs : ∀ r, r < m.n → m2.s r = m.s r) {x : AV} {v : Value} (h2 : VRel g2 m2 w2 x v) : ∀ {v0 : Value}, VRel g m w x v0 → VRel g2 m w2 x v := by
  induction h2 with
  | c h => intro v0 _; exact .c h
  | ptr r off h =>
    intro v0 h1
    cases h1 with
    | c h => cases h
    | ptr _ _ h => exact .ptr r off h
  | own r n a c hr hh =>
    intro v0 h1
    cases h1 with
    | c h => cases h
    | own _ _ _ _ hr1 _ => exact .own r n a c hr1 (fun wf e xs hx => hh wf e xs (by rw [hs r hr1]; exact hx))
  | eptr r n i off v hr h1' hh =>
    intro v0 h1
    cases h1 with
    | c h => cases h
    | eptr _ _ _ _ _ hr1 _ _ => exact .eptr r n i off v hr1 h1' (fun wf e xs hx => hh wf e xs (by rw [hs r hr1]; exact hx))
  | func f cs vs hp hsz _ ih =>
    intro v0 h1
    cases h1 with
    | c h =>
      cases h with
      | func _ _ vs1 _ hs1 hh1 =>
        refine .func f cs vs hp hsz (fun k x v hx hv => ?_)
        have hk : k < vs1.size := by rw [hs1]; exact (List.getElem?_eq_some_iff.1 hx).1
        exact ih k x v hx hv (.c (hh1 k x vs1[k] hx (by simp [hk])))
    | func _ _ vs1 _ hs1 hh1 =>
      refine .func f cs vs hp hsz (fun k x v hx hv => ?_)
      have hk : k < vs1.size := by rw [hs1]; exact (List.getElem?_eq_some_iff.1 hx).1
      exact ih k x v hx hv (hh1 k x vs1[k] hx (by simp [hk]))
  | agg cs vs hl hsz _ ih =>
    intro v0 h1
    cases h1 with
    | c h =>
      cases h with
      | agg _ vs1 _ hs1 hh1 =>
        refine .agg cs vs hl hsz (fun k x v hx hv => ?_)
        have hk : k < vs1.size := by rw [hs1]; exact (List.getElem?_eq_some_iff.1 hx).1
        exact ih k x v hx hv (.c (hh1 k x vs1[k] hx (by simp [hk])))
    | agg _ vs1 _ hs1 hh1 =>
      refine .agg cs vs hl hsz (fun k x v hx hv => ?_)
      have hk : k < vs1.size := by rw [hs1]; exact (List.getElem?_eq_some_iff.1 hx).1
      exact ih k x v hx hv (hh1 k x vs1[k] hx (by simp [hk]))
  | tup cs vs hsz _ ih =>
    intro v0 h1
    cases h1 with
    | c h =>
      cases h with
      | tup _ vs1 hs1 hh1 =>
        refine .tup cs vs hsz (fun k x v hx hv => ?_)
        have hk : k < vs1.size := by rw [hs1]; exact (List.getElem?_eq_some_iff.1 hx).1
        exact ih k x v hx hv (.c (hh1 k x vs1[k] hx (by simp [hk])))
    | tup _ vs1 hs1 hh1 =>
      refine .tup cs vs hsz (fun k x v hx hv => ?_)
      have hk : k < vs1.size := by rw [hs1]; exact (List.getElem?_eq_some_iff.1 hx).1
      exact ih k x v hx hv (hh1 k x vs1[k] hx (by simp [hk]))
  | map r h =>
    intro v0 h1
    cases h1 with
    | c h => cases h
    | map _ h => exact .map r h
theorem OK.forget {g m w g2 m2 w2} (hok : OK g m w) (h2 : OK g2 m2 w2) (hs : ∀ r, r < m.n → m2.s r = m.s r) : OK g2 m w2 := by
  refine ⟨hok.lt, fun r ob hx => ?_, fun r r' ob ob' b h1 h3 h4 h5 => ?_, h2.im, fun p hp => ⟨(h2.tb p hp).1, fun r ob hx => (h2.tb p hp).2.1 r ob (by rw [hs r (hok.lt r ob hx)]; exact hx), (h2.tb p hp).2.2⟩⟩
  · have hr := hok.lt r ob hx
    have hx2 : m2.s r = some ob := by rw [hs r hr]; exact hx
    have ho := h2.ob r ob hx2
    cases ob with
    | arr wf e xs => exact ho
    | map es => exact ho
    | box wf cs =>
      obtain ⟨arr, a1, a2, a3, a4, a5⟩ := ho
      obtain ⟨arr0, b1, b2, b3, b4, b5⟩ := hok.ob r _ hx
      refine ⟨arr, a1, a2, a3, fun k x v hxx hvv => ?_, a5⟩
      have hk : k < arr0.size := by rw [b2]; exact (List.getElem?_eq_some_iff.1 hxx).1
      exact (a4 k x v hxx hvv).back hs (b4 k x arr0[k] hxx (by simp [hk]))
  · exact h2.ne r r' ob ob' b (by rw [hs r (hok.lt r ob h1)]; exact h1) (by rw [hs r' (hok.lt r' ob' h3)]; exact h3) h4 h5
theorem q5v (hT : T.ok P) {m0 : Mem} {F : List Nat} (hm : m = m0.frz F) (hok : OK g m w) {t : Env} {a : Act} (hr : ERel g m w t a) {o : Oper} {so : SOp} (hc : cOp T o.op = some so) {K : AV → Prop} (h : qbq P F t m K so) {next : Act → World → Prop} {Q : Exit → Act → World → Prop}
    (hK : ∀ v cv g' w', K v → VRel g' m w' v cv → OK g' m w' → Ext g m w g' m w' → next (a.put o.dst cv) w') : o.wp P a w next Q := by
  have hpure : ∀ v, so.quiet = true → qa t m so = some v → K v → o.wp P a w next Q := by
    intro v _ hp hKv
    obtain ⟨cv, hv, hrun⟩ := qiz hT hok hr hc hp
    unfold Oper.wp
    rw [hrun w (Old.refl w), Oper.upon_value]
    exact hK v cv g w hKv hv hok (Ext.refl g m w)
  have hsub : ∀ l : List Nat, l.all (fun r => F.contains r) = true → ∀ r, r ∈ l → r ∈ F := fun l hl r hr => by
    have := List.all_eq_true.1 hl r hr
    simpa using this
  cases so with
  | call f xs =>
    obtain ⟨as_, y, hsn, hcall, hfl, hKy⟩ := h
    obtain ⟨c, x, hop, hcal, hx⟩ := qlz hc rfl
    rcases hx with ⟨f', xs', rfl, hso, hxs⟩ | ⟨x', xs', hso, _, _⟩
    · cases hso
      obtain ⟨h1, h2⟩ := qkf hr hxs
      obtain ⟨hf1, hf2⟩ := hok.frz (idss (evs t xs))
      obtain ⟨h4, h5⟩ := qim (evs t xs) as_ hsn
      have hsz : (c.args.map a.eval).size = as_.length := by omega
      have hrel : ∀ (k : Nat) (y : AV) (v : Value), as_[k]? = some y → (c.args.map a.eval)[k]? = some v → VRel (g.shut m (idss (evs t xs))) Mem.none w y v := fun k y v hy hv => by
        have hk : k < (evs t xs).length := by rw [← h4]; exact (List.getElem?_eq_some_iff.1 hy).1
        have hx : (evs t xs)[k]? = some (evs t xs)[k] := by simp [hk]
        exact .c (qeu hok (h2 k _ v hx hv) (h5 k _ y hx hy) (fun r hr => by
          simp only [idss, List.mem_flatMap]; exact ⟨_, List.mem_of_getElem? hx, hr⟩)).1
      have fin : ∀ (v : Value) (y' : AV) (g' : Gh) (m' : Mem) (w' : World) (z : AV), expo m' y' = some z → clo z = y → OK g' m' w' → VRel g' m' w' y' v → Ext (g.shut m (idss (evs t xs))) Mem.none w g' m' w' → next (a.put o.dst v) w' := by
        intro v y' g' m' w' z hz hzy hok' hv hext'
        rcases hfl with hfl | hfl
        · have hzf : z = y := by rw [← hzy] at hfl ⊢; exact q4e hfl
          subst hzf
          have hyz := qpv hz hfl
          subst hyz
          obtain ⟨h6, h7⟩ := hok.grow (fun b hb => hext'.fr b hb (fun r ob hs => by simp [Mem.none] at hs)) hext'.size hext'.os hext'.tape hext'.output
          exact hK _ v g w' hKy (.c (qsu hfl hv _ _)) h6 h7
        · have hsh := qv7 hok (l := idss (evs t xs)) (by subst hm; exact qsv m0 F (hsub _ hfl))
          obtain ⟨l, hcl⟩ := q1p hok' hv hz
          rw [hzy] at hcl
          have hE2 := hext'.trans (Ext.frz hok' l)
          obtain ⟨h6, h7⟩ := hok.behind (g0 := g.shut m (idss (evs t xs))) hsh (hok'.frz l).1 hE2
          exact hK y v { g with I := (g'.shut m' l).I } w' hKy (.c hcl) h6 h7
      rcases hcall with ⟨hE, hcall⟩ | hcall
      · have hrun : (execOp a.eval o).run P w = .ok (.enter f (c.args.map a.eval)) w := by
          unfold execOp
          simp only [hop]
          simp [resolve, hcal, Act.eval, Deferred.ofValue, invoke, qgv hE]
        unfold Oper.wp
        rw [hrun, Oper.upon_enter]
        refine (hcall (g.shut m (idss (evs t xs))) w (c.args.map a.eval) (hf1.nothing _ rfl) hsz hrel).mono fun e w' ⟨v, y', g', m', he, ⟨z, hz, hzy⟩, hok', hv, hext'⟩ => ?_
        subst he
        exact fin v y' g' m' w' z hz hzy hok' hv hext'
      · obtain ⟨v, y', hx, ⟨z, hz, hzy⟩, hv⟩ := hcall (g.shut m (idss (evs t xs))) w (c.args.map a.eval) (hf1.nothing _ rfl) hsz hrel
        have hrun : (execOp a.eval o).run P w = .ok (.value v) w := by
          unfold execOp
          simp only [hop]
          simp [resolve, hcal, Act.eval, Deferred.ofValue, invoke, hx]
        unfold Oper.wp
        rw [hrun, Oper.upon_value]
        exact fin v y' _ _ w z hz hzy (hf1.nothing _ rfl) hv (Ext.refl _ _ _)
    · cases hso
  | callv x xs =>
    obtain ⟨f, caps, hev, as_, y, hsn, hcall, hfl, hKy⟩ := h
    obtain ⟨c, x0, hop, hcal, hx⟩ := qlz hc rfl
    rcases hx with ⟨f', xs', rfl, hso, hxs⟩ | ⟨x', xs', hso, hx', hxs⟩
    · cases hso
    · cases hso
      obtain ⟨h1, h2⟩ := qkf hr hxs
      have hfx := qe hr hx'
      have hev' : ev t x = .func f caps ∨ ev t x = .fv (.func f caps) := hev.imp (fun h => by rw [h.1, h.2]) id
      obtain ⟨vs, hv1, hv2, hv3⟩ := q6o hev' hfx
      have hsz0 : (c.args.map a.eval ++ vs).size = (evs t xs ++ caps).length := by simp [hv2] at h1 ⊢; omega
      have hrel0 : ∀ (k : Nat) (y : AV) (v : Value), (evs t xs ++ caps)[k]? = some y → (c.args.map a.eval ++ vs)[k]? = some v → VRel g m w y v := fun k y v hy hv => by
        by_cases hk : k < (evs t xs).length
        · rw [List.getElem?_append_left hk] at hy
          rw [Array.getElem?_append_left (by omega)] at hv
          exact h2 k y v hy hv
        · rw [List.getElem?_append_right (by omega)] at hy
          rw [Array.getElem?_append_right (by omega), h1] at hv
          exact hv3 _ y v hy hv
      generalize evs t xs ++ caps = vxs at *
      generalize hargs : c.args.map a.eval ++ vs = vargs at *
      obtain ⟨hf1, hf2⟩ := hok.frz (idss (vxs))
      obtain ⟨h4, h5⟩ := qim (vxs) as_ hsn
      have hsz : vargs.size = as_.length := by omega
      have hrel : ∀ (k : Nat) (y : AV) (v : Value), as_[k]? = some y → vargs[k]? = some v → VRel (g.shut m (idss (vxs))) Mem.none w y v := fun k y v hy hv => by
        have hk : k < (vxs).length := by rw [← h4]; exact (List.getElem?_eq_some_iff.1 hy).1
        have hx : (vxs)[k]? = some (vxs)[k] := by simp [hk]
        exact .c (qeu hok (hrel0 k _ v hx hv) (h5 k _ y hx hy) (fun r hr => by
          simp only [idss, List.mem_flatMap]; exact ⟨_, List.mem_of_getElem? hx, hr⟩)).1
      have fin : ∀ (v : Value) (y' : AV) (g' : Gh) (m' : Mem) (w' : World) (z : AV), expo m' y' = some z → clo z = y → OK g' m' w' → VRel g' m' w' y' v → Ext (g.shut m (idss (vxs))) Mem.none w g' m' w' → next (a.put o.dst v) w' := by
        intro v y' g' m' w' z hz hzy hok' hv hext'
        rcases hfl with hfl | hfl
        · have hzf : z = y := by rw [← hzy] at hfl ⊢; exact q4e hfl
          subst hzf
          have hyz := qpv hz hfl
          subst hyz
          obtain ⟨h6, h7⟩ := hok.grow (fun b hb => hext'.fr b hb (fun r ob hs => by simp [Mem.none] at hs)) hext'.size hext'.os hext'.tape hext'.output
          exact hK _ v g w' hKy (.c (qsu hfl hv _ _)) h6 h7
        · have hsh := qv7 hok (l := idss (vxs)) (by subst hm; exact qsv m0 F (hsub _ hfl))
          obtain ⟨l, hcl⟩ := q1p hok' hv hz
          rw [hzy] at hcl
          have hE2 := hext'.trans (Ext.frz hok' l)
          obtain ⟨h6, h7⟩ := hok.behind (g0 := g.shut m (idss (vxs))) hsh (hok'.frz l).1 hE2
          exact hK y v { g with I := (g'.shut m' l).I } w' hKy (.c hcl) h6 h7
      rcases hcall with ⟨hE, hcall⟩ | hcall
      · have hrun : (execOp a.eval o).run P w = .ok (.enter f vargs) w := by
          unfold execOp
          simp only [hop]
          simp [resolve, hcal, hv1, Deferred.ofValue, invoke, qgv hE, ← hargs]
        unfold Oper.wp
        rw [hrun, Oper.upon_enter]
        refine (hcall (g.shut m (idss (vxs))) w vargs (hf1.nothing _ rfl) hsz hrel).mono fun e w' ⟨v, y', g', m', he, ⟨z, hz, hzy⟩, hok', hv, hext'⟩ => ?_
        subst he
        exact fin v y' g' m' w' z hz hzy hok' hv hext'
      · obtain ⟨v, y', hx, ⟨z, hz, hzy⟩, hv⟩ := hcall (g.shut m (idss (vxs))) w vargs (hf1.nothing _ rfl) hsz hrel
        have hrun : (execOp a.eval o).run P w = .ok (.value v) w := by
          unfold execOp
          simp only [hop]
          rw [← hargs] at hx
          simp [resolve, hcal, hv1, Deferred.ofValue, invoke, hx]
        unfold Oper.wp
        rw [hrun, Oper.upon_value]
        exact fin v y' _ _ w z hz hzy (hf1.nothing _ rfl) hv (Ext.refl _ _ _)
  | slc e x lo hi =>
    obtain ⟨h1, h2, h3⟩ := h
    cases hs : els m (ev t x) with
    | none => rw [hs] at h3; exact h3.elim
    | some xs =>
      rw [hs] at h3
      simp only [oP] at h3
      cases hcut : cut xs (lo.map (ev t)) (hi.map (ev t)) with
      | none => rw [hcut] at h3; exact h3.elim
      | some ys =>
        rw [hcut] at h3
        have hmem : qd t m (.slc e x lo hi) = some (.sl e ys, m) := by
          have hfr : m.frz (ids (ev t x)) = m := by subst hm; exact q02 m0 F (hsub _ h1)
          simp only [qd, h2, if_true, hs, hcut, Option.map_some, hfr]
        obtain ⟨nx, cv, w', g', hrun, hnx, hv, hok', hext⟩ := qin hT hok hr hc hmem
        unfold Oper.wp
        rw [hrun]
        rcases hnx with rfl | ⟨rfl, rfl⟩
        · rw [Oper.upon_value]; exact hK _ cv g' w' h3 hv hok' hext
        · rw [Oper.upon_skip]; exact hK _ undef g' w' h3 hv hok' hext
  | callf f xs =>
    obtain ⟨c, x, _, _, hx⟩ := qlz hc rfl
    rcases hx with ⟨_, _, _, h, _⟩ | ⟨_, _, h, _⟩ <;> cases h
  | bsl e ps =>
    obtain ⟨h1, h2⟩ := h
    cases hs : qcd m (evs t ps) with
    | none => rw [hs] at h2; exact h2.elim
    | some xs =>
      rw [hs] at h2
      obtain ⟨h2, h3⟩ := h2
      have hfr : m.frz (idss (evs t ps)) = m := by subst hm; exact q02 m0 F (hsub _ h1)
      have hmem : qd t m (.bsl e ps) = some (.own m.n xs.length, m.new (.arr true e xs)) := by
        simp only [qd, hs, h2, if_true, hfr]
      obtain ⟨nx, cv, w', g', hrun, hnx, hv, hok', hext⟩ := qin hT hok hr hc hmem
      have hsn : qu (m.new (.arr true e xs)) (.own m.n xs.length) = some (.sl e xs) := by simp [qu, Mem.new]
      have hcl := (qi0 hok' hv hsn (l := [m.n]) (fun r hr => by simpa [qv] using hr)).1
      obtain ⟨h6, _⟩ := hok'.frz [m.n]
      have h7 := hext.trans (Ext.frz hok' [m.n])
      have hsame : ∀ r, r < m.n → ((m.new (.arr true e xs)).frz [m.n]).s r = m.s r := by
        intro r hr
        have hne : r ≠ m.n := by omega
        simp [Mem.frz, Mem.new, hne]
      have h8 := hok.forget h6 hsame
      have h9 := h7.forget hsame hok.lt
      unfold Oper.wp
      rw [hrun]
      rcases hnx with rfl | ⟨rfl, rfl⟩
      · rw [Oper.upon_value]; exact hK _ cv _ w' h3 (.c hcl) h8 h9
      · rw [Oper.upon_skip]; exact hK _ undef _ w' h3 (.c hcl) h8 h9
  | _ =>
    simp only [qbq] at h
    split at h
    · rename_i hq
      revert h
      generalize hp : qa t m _ = pv
      intro h
      cases pv with
      | none => exact h.elim
      | some v => exact hpure v hq hp h
    · exact h.elim
theorem qnu (hT : T.ok P) {m0 : Mem} {F : List Nat} (hm : m = m0.frz F) (hok : OK g m w) {t : Env} {a : Act} (hr : ERel g m w t a) {o : Oper} {so : SOp} (hc : cOpT T o.op = some so) {K : AV → Prop} (h : qbq P F t m K so) {next : Act → World → Prop} {Q : Exit → Act → World → Prop}
    (hK : ∀ v cv g' w', K v → VRel g' m w' v cv → OK g' m w' → Ext g m w g' m w' → next (a.put o.dst cv) w') : o.wp P a w next Q := by
  unfold cOpT at hc
  cases hq : cOp T o.op with
  | some x => rw [hq] at hc; simp at hc; subst hc; exact q5v hT hm hok hr hq h hK
  | none => rw [hq] at hc; simp at hc; subst hc; simp [qbq, SOp.quiet] at h
end
end Go.Pev
/- Regions that draw their order: one walk, in the order of the text, serves every order. -/
namespace Go.Pev
open Go
set_option linter.unusedVariables false
set_option linter.unusedSimpArgs false
section
variable {g : Gh} {m : Mem} {w : World} {P : Program} {T : Tab} {nt : Nat}
def qcw (P : Program) (F : List Nat) (m : Mem) (tF : Env) (s : SOper) : Prop :=
  match s.g with
  | none => qbq P F tF m (fun v => ∀ d, s.dst = some d → tF d = v) s.op
  | some (x, want) => match tF x with
    | .bool b => (b = want → qbq P F tF m (fun v => ∀ d, s.dst = some d → tF d = v) s.op) ∧ (b = !want → ∀ d, s.dst = some d → tF d = .undef)
    | .undef => ∀ d, s.dst = some d → tF d = .undef
    | _ => False
theorem qd0 {F : List Nat} {t : Env} {so : SOp} {K K' : AV → Prop} (h : ∀ v, K v → K' v) (hq : qbq P F t m K so) : qbq P F t m K' so := by
  have pure : ∀ (b : Bool) (o : Option AV), (if b then oP o K else False) → (if b then oP o K' else False) := by
    intro b o hh
    cases b <;> cases o <;> simp [oP] at hh ⊢
    exact h _ hh
  cases so with
  | call f xs =>
    obtain ⟨as_, y, h1, h2, h3, h4⟩ := hq
    exact ⟨as_, y, h1, h2, h3, h _ h4⟩
  | callv x xs =>
    obtain ⟨f, caps, h0, as_, y, h1, h2, h3, h4⟩ := hq
    exact ⟨f, caps, h0, as_, y, h1, h2, h3, h _ h4⟩
  | callf f xs =>
    obtain ⟨as_, e, ys, h1, h2, h3, h4⟩ := hq
    exact ⟨as_, e, ys, h1, h2, h3, h _ h4⟩
  | bsl e ps =>
    obtain ⟨h1, h2⟩ := hq
    refine ⟨h1, ?_⟩
    cases hs : qcd m (evs t ps) with
    | none => rw [hs] at h2; exact h2.elim
    | some xs => rw [hs] at h2; exact ⟨h2.1, h _ h2.2⟩
  | slc e x lo hi =>
    obtain ⟨h1, h2, h3⟩ := hq
    refine ⟨h1, h2, ?_⟩
    cases hs : els m (ev t x) with
    | none => rw [hs] at h3; exact h3.elim
    | some xs =>
      rw [hs] at h3
      simp only [oP] at h3 ⊢
      cases hcut : cut xs (lo.map (ev t)) (hi.map (ev t)) with
      | none => rw [hcut] at h3; exact h3.elim
      | some ys => rw [hcut] at h3; exact h _ h3
  | _ => simp only [qbq] at hq ⊢; exact pure _ _ hq
def qb7 : List SOper → Bool
  | [] => true
  | s :: r => (s :: r).all (fun o => match o.dst with
      | some d => !s.reads d
      | none => true) && qb7 r
theorem qbi {l : List SOper} {d : Nat} : d ∈ dsts l ↔ ∃ s, s ∈ l ∧ s.dst = some d := by
  simp [dsts, List.mem_filterMap]
theorem qe4 {s : SOper} {t t' : Env} (h : ∀ d, s.reads d = true → t d = t' d) : ∀ x, x ∈ s.op.opds → ev t x = ev t' x := by
  intro x hx
  refine qyi fun d hd => h d ?_
  simp only [SOper.reads, Bool.or_eq_true, List.any_eq_true]
  exact .inl ⟨x, hx, hd⟩
theorem qn4 {s : SOper} {x : Nat} {want : Bool} {t t' : Env} (h : ∀ d, s.reads d = true → t d = t' d) (hg : s.g = some (x, want)) : t x = t' x := by
  refine h x ?_
  simp [SOper.reads, hg]
theorem qsw {F : List Nat} : ∀ (hd : List SOper) (t : Env) (post : Env → Prop), WpQs P F m hd t post → (dsts hd).Nodup → qb7 hd = true →
    ∃ tF, post tF ∧ (∀ i, i ∉ dsts hd → tF i = t i) ∧ ∀ s, s ∈ hd → qcw P F m tF s
  | [], t, post, h, _, _ => ⟨t, h, fun _ _ => rfl, fun s hs => by simp at hs⟩
  | s :: r, t, post, h, hnd, hrd => by
    simp only [qb7, Bool.and_eq_true, List.all_eq_true] at hrd
    obtain ⟨hrd1, hrd2⟩ := hrd
    have hnd2 : (dsts r).Nodup := by
      unfold dsts at hnd ⊢
      simp only [List.filterMap_cons] at hnd
      split at hnd
      · exact hnd
      · exact (List.nodup_cons.1 hnd).2
    have hself : ∀ d, s.dst = some d → d ∉ dsts r := by
      intro d hd
      unfold dsts at hnd ⊢
      simp only [List.filterMap_cons, hd] at hnd
      exact (List.nodup_cons.1 hnd).1
    have hreads : ∀ d, s.reads d = true → d ∉ dsts (s :: r) := by
      intro d hd hm
      obtain ⟨o, ho, hod⟩ := qbi.1 hm
      have := hrd1 o ho
      rw [hod] at this
      simp [hd] at this
    -- what follows, whatever value is set
    have go : ∀ v, WpQs P F m r (upd t s.dst v) post → ∃ tF, post tF ∧ (∀ i, i ∉ dsts (s :: r) → tF i = t i) ∧ (∀ o, o ∈ r → qcw P F m tF o) ∧ (∀ d, s.dst = some d → tF d = v) ∧ (∀ d, s.reads d = true → t d = tF d) := by
      intro v hv
      obtain ⟨tF, h1, h2, h3⟩ := qsw r _ post hv hnd2 hrd2
      have hout : ∀ i, i ∉ dsts (s :: r) → tF i = t i := by
        intro i hi
        have hir : i ∉ dsts r := fun hm => hi (by
          obtain ⟨o, ho, hod⟩ := qbi.1 hm
          exact qbi.2 ⟨o, by simp [ho], hod⟩)
        rw [h2 i hir]
        cases hsd : s.dst with
        | none => rfl
        | some d =>
          have hid : i ≠ d := fun e => hi (qbi.2 ⟨s, by simp, by rw [hsd, e]⟩)
          simp [upd, hid]
      refine ⟨tF, h1, hout, h3, fun d hd => ?_, fun d hd => (hout d (hreads d hd)).symm⟩
      rw [h2 d (hself d hd), hd]
      simp [upd]
    have fin : ∀ v, WpQs P F m r (upd t s.dst v) post → (∀ tF : Env, (∀ d, s.dst = some d → tF d = v) → (∀ d, s.reads d = true → t d = tF d) → qcw P F m tF s) →
        ∃ tF, post tF ∧ (∀ i, i ∉ dsts (s :: r) → tF i = t i) ∧ ∀ o, o ∈ s :: r → qcw P F m tF o := by
      intro v hv hs
      obtain ⟨tF, h1, h2, h3, h4, h5⟩ := go v hv
      refine ⟨tF, h1, h2, fun o ho => ?_⟩
      rcases List.mem_cons.1 ho with rfl | ho
      · exact hs tF h4 h5
      · exact h3 o ho
    unfold WpQs at h
    cases hg : s.g with
    | none =>
      rw [hg] at h
      obtain ⟨v, hv, hq⟩ := q4b h
      refine fin v hv (fun tF h4 h5 => ?_)
      unfold qcw
      rw [hg]
      exact qhu (qe4 h5) (qd0 (fun u hu d hd => by rw [h4 d hd, hu]) hq)
    | some p =>
      obtain ⟨x, want⟩ := p
      rw [hg] at h
      simp only at h
      split at h
      · rename_i b hb
        by_cases hbw : b = want
        · obtain ⟨v, hv, hq⟩ := q4b (h.1 hbw)
          refine fin v hv (fun tF h4 h5 => ?_)
          unfold qcw
          rw [hg]
          simp only
          rw [← qn4 h5 hg, hb]
          exact ⟨fun _ => qhu (qe4 h5) (qd0 (fun u hu d hd => by rw [h4 d hd, hu]) hq), fun hn => by subst hbw; cases b <;> simp at hn⟩
        · have hbn : b = !want := by cases b <;> cases want <;> simp_all
          refine fin _ (h.2 hbn) (fun tF h4 h5 => ?_)
          unfold qcw
          rw [hg]
          simp only
          rw [← qn4 h5 hg, hb]
          exact ⟨fun hn => absurd hn hbw, fun _ d hd => h4 d hd⟩
      · rename_i hb
        refine fin _ h (fun tF h4 h5 => ?_)
        unfold qcw
        rw [hg]
        simp only
        rw [← qn4 h5 hg, hb]
        exact fun d hd => h4 d hd
      · exact h.elim
def cntN (listed : Array Bool) : Nat → Nat
  | 0 => 0
  | n + 1 => cntN listed n + if listed.getD n true then 0 else 1
theorem qxh {listed : Array Bool} {i : Nat} : ∀ n, n ≤ i → cntN (listed.setIfInBounds i true) n = cntN listed n
  | 0, _ => rfl
  | n + 1, h => by
    simp only [cntN]
    rw [qxh n (by omega), getD_set_ne true (by omega)]
theorem ql0 {listed : Array Bool} {i : Nat} (hi : listed.getD i true = false) : ∀ n, i < n → cntN listed n = cntN (listed.setIfInBounds i true) n + 1
  | 0, h => by omega
  | n + 1, h => by
    simp only [cntN]
    by_cases hin : i = n
    · subst hin
      rw [qxh i (Nat.le_refl _), hi]
      have hlt : i < listed.size := by
        rcases Nat.lt_or_ge i listed.size with h' | h'
        · exact h'
        · simp [Array.getElem?_eq_none h'] at hi
      simp [hlt]
    · rw [ql0 hi n (by omega), getD_set_ne true hin]
      omega
theorem qkh {listed : Array Bool} : ∀ n, cntN listed n = 0 → ∀ j, j < n → listed.getD j true = true
  | 0, _, j, h => by omega
  | n + 1, h0, j, h => by
    simp only [cntN] at h0
    by_cases hj : j = n
    · subst hj
      cases hg : listed.getD j true with
      | true => rfl
      | false => rw [hg] at h0; simp at h0
    · exact qkh n (by omega) j (by omega)
theorem q4f {listed : Array Bool} : ∀ n, cntN listed n ≠ 0 → ∃ j, j < n ∧ listed.getD j true = false
  | 0, h => absurd rfl h
  | n + 1, h0 => by
    cases hg : listed.getD n true with
    | false => exact ⟨n, by omega, hg⟩
    | true =>
      simp only [cntN, hg, if_true, Nat.add_zero] at h0
      obtain ⟨j, h1, h2⟩ := q4f n h0
      exact ⟨j, by omega, h2⟩
theorem qms (k : Nat) : ∀ n, n ≤ k → cntN (Array.replicate k false) n = n
  | 0, _ => rfl
  | n + 1, h => by
    simp only [cntN]
    rw [qms k n (by omega)]
    have hlt : n < k := by omega
    simp [hlt]
theorem qgw {listed : Array Bool} {n : Nat} (h : cntN listed n ≠ 0) : ∃ j, j < n ∧ listed.getD j true = false ∧ ∀ i, i < j → listed.getD i true = true := by
  have h1 := q4f n h
  obtain ⟨j, ⟨hj1, hj2⟩, hmin⟩ : ∃ j, (j < n ∧ listed.getD j true = false) ∧ ∀ k, (k < n ∧ listed.getD k true = false) → j ≤ k := by
    obtain ⟨j0, h0⟩ := h1
    induction j0 using Nat.strongRecOn with
    | _ j0 ih =>
      by_cases hk : ∃ k, k < j0 ∧ (k < n ∧ listed.getD k true = false)
      · obtain ⟨k, hkj, hkp⟩ := hk
        exact ih k hkj hkp
      · exact ⟨j0, h0, fun k hk' => by
          rcases Nat.lt_or_ge k j0 with h | h
          · exact absurd ⟨k, h, hk'⟩ hk
          · exact h⟩
  refine ⟨j, hj1, hj2, fun i hi => ?_⟩
  cases hg : listed.getD i true with
  | true => rfl
  | false => have := hmin i ⟨by omega, hg⟩; omega
end
end Go.Pev
/- Regions that draw their order: the theorem. -/
namespace Go.Pev
open Go
set_option linter.unusedVariables false
set_option linter.unusedSimpArgs false
section
variable {P : Program} {T : Tab} {nt : Nat}
open Classical in
noncomputable def midE (l : List SOper) (n : Nat) (t tF : Env) (listed : Array Bool) : Env := fun i =>
  if ∃ j, j < n ∧ listed.getD j true = true ∧ (l[j]?).bind (·.dst) = some i then tF i else t i
theorem qb9 {ops : Array Oper} {l : List SOper} (h : ops.toList.mapM (qbc T nt ops) = some l) {j : Nat} {o : Oper} (ho : ops[j]? = some o) : ∃ s, l[j]? = some s ∧ qbc T nt ops o = some s := by
  obtain ⟨h1, h2⟩ := qbx _ _ _ h
  have hj : j < ops.size := (Array.getElem?_eq_some_iff.1 ho).1
  have hjl : j < l.length := by rw [h1]; simpa using hj
  exact ⟨l[j], by simp [hjl], h2 j o l[j] (by simpa using ho) (by simp [hjl])⟩
theorem qpw : ∀ (l : List Nat), qq5 l = true → l.Nodup
  | [], _ => List.nodup_nil
  | x :: xs, h => by
    simp only [qq5, Bool.and_eq_true, Bool.not_eq_true', List.contains_eq_mem, decide_eq_false_iff_not] at h
    exact List.nodup_cons.2 ⟨h.1, qpw xs h.2⟩
structure HeadFact (ops : Array Oper) (l : List SOper) (n j : Nat) (o : Oper) (s : SOper) : Prop where
  after : ∀ e, e ∈ o.after → Region.binds .any e = true → e.on < j
  reads : ∀ i oi d, i < n → ops[i]? = some oi → oi.dst = some d → s.reads d = true → i < j ∧ ∃ e, e ∈ o.after ∧ Region.binds .any e = true ∧ e.on = i
theorem qzg {ops : Array Oper} {l : List SOper} {n j : Nat} {o : Oper} {s : SOper} (ho : ops[j]? = some o) (hs : l[j]? = some s) (h : q27 ops l n j = true) : HeadFact ops l n j o s := by
  unfold q27 at h
  simp only [ho, hs, Bool.and_eq_true, List.all_eq_true] at h
  obtain ⟨⟨_, h1⟩, h2⟩ := h
  refine ⟨fun e he hb => ?_, fun i oi d hin hoi hd hr => ?_⟩
  · have := h1 e (by simpa using he)
    simpa [hb] using this
  · have := h2 i (by simpa using hin)
    simp only [hoi, hd, hr, if_true, Bool.and_eq_true, decide_eq_true_eq, List.any_eq_true, beq_iff_eq] at this
    obtain ⟨h3, e, he, hb, hon⟩ := this
    exact ⟨h3, e, by simpa using he, hb, hon⟩
theorem qki : ∀ (l : List SOper), (∀ (i j : Nat) (s o : SOper) (d : Nat), l[j]? = some s → l[i]? = some o → o.dst = some d → s.reads d = true → i < j) → qb7 l = true
  | [], _ => rfl
  | s :: r, h => by
    simp only [qb7, Bool.and_eq_true, List.all_eq_true]
    refine ⟨fun o ho => ?_, qki r (fun i j s' o d h1 h2 h3 h4 => by have := h (i + 1) (j + 1) s' o d (by simpa using h1) (by simpa using h2) h3 h4; omega)⟩
    split
    · rename_i d hd
      obtain ⟨i, hi⟩ := List.getElem?_of_mem ho
      cases hr : s.reads d with
      | false => rfl
      | true => have := h i 0 s o d rfl hi hd hr; omega
    · rfl
structure DrawFacts (ops : Array Oper) (l : List SOper) (n : Nat) : Prop where
  le : n ≤ ops.size
  head : ∀ j o s, j < n → ops[j]? = some o → l[j]? = some s → HeadFact ops l n j o s
  nodup : (dsts (l.take n)).Nodup
  tail : n = ops.size ∨ (n < ops.size ∧ Region.sinkB .any ops n = true ∧ Region.chainB .any ops n = true ∧ Region.seqB .any ops (ops.size - n) n ((Array.range ops.size).map (fun i => decide (i < n))) = true)
theorem qmf {ops : Array Oper} {l : List SOper} {n : Nat} (h : qsj ops l n = true) : DrawFacts ops l n := by
  unfold qsj at h
  simp only [Bool.and_eq_true, decide_eq_true_eq, List.all_eq_true, Bool.or_eq_true, beq_iff_eq] at h
  obtain ⟨⟨⟨h1, h2⟩, h3⟩, h4⟩ := h
  refine ⟨h1, fun j o s hj ho hs => qzg ho hs (h2 j (by simpa using hj)), qpw _ h3, ?_⟩
  rcases h4 with h4 | ⟨⟨h4, h5⟩, h6⟩
  · exact .inl h4
  · by_cases hn : n = ops.size
    · exact .inl hn
    · exact .inr ⟨by omega, h4, h5, h6⟩
variable {gS : Gh} {mS : Mem} {wS : World}
theorem q8h (hT : T.ok P) {ops : Array Oper} {l : List SOper} {n : Nat} (hmap : ops.toList.mapM (qbc T nt ops) = some l) (hF : DrawFacts ops l n) {m0 m1 : Mem} {F : List Nat} (hm1 : m1 = m0.frz F) {t tF : Env} (hout : ∀ i, i ∉ dsts (l.take n) → tF i = t i) (hheads : ∀ s, s ∈ l.take n → qcw P F m1 tF s)
    {Q : Exit → Act → World → Prop} (hQ : ∀ a w g, OK g m1 w → ARel g m1 w nt tF a → Ext gS mS wS g m1 w → wpList P ops Q (ops.toList.drop n) a w) :
    ∀ (k : Nat) (listed : Array Bool) (a : Act) (w : World), cntN listed n = k → HeadInv .any ops n listed → (∃ g, OK g m1 w ∧ ARel g m1 w nt (midE l n t tF listed) a ∧ Ext gS mS wS g m1 w) →
      wpAny P .any ops Q (k + (ops.size - n)) listed a w := by
  have hlen : l.length = ops.size := by have := (qbx _ _ _ hmap).1; simpa using this
  intro k
  induction k with
  | zero =>
    intro listed a w hk inv hI
    obtain ⟨g, hok, hr, hext⟩ := hI
    have hall := qkh n hk
    have henv : midE l n t tF listed = tF := by
      funext i
      unfold midE
      split
      · rfl
      · rename_i hno
        refine (hout i fun hm => hno ?_).symm
        obtain ⟨s, hs, hd⟩ := qbi.1 hm
        obtain ⟨j, hj⟩ := List.getElem?_of_mem hs
        have hjn : j < n := by have := (List.getElem?_eq_some_iff.1 hj).1; simp at this; omega
        rw [List.getElem?_take_of_lt hjn] at hj
        exact ⟨j, hjn, hall j hjn, by simp [hj, hd]⟩
    rw [henv] at hr
    have hw := hQ a w g hok hr hext
    rw [Nat.zero_add]
    rcases hF.tail with hn | ⟨hn, hs, hc, hseq⟩
    · have : ops.size - n = 0 := by omega
      rw [this]
      refine ⟨?_, ?_⟩
      · rw [List.eq_nil_iff_forall_not_mem]
        intro i hi
        obtain ⟨hun, o, ho, _⟩ := mem_ready.1 hi
        have hi2 : i < ops.size := (Array.getElem?_eq_some_iff.1 ho).1
        rw [hall i (by omega)] at hun
        cases hun
      · have hd : ops.toList.drop n = [] := by simp; omega
        rw [hd] at hw
        exact hw
    · have hlist : listed = (Array.range ops.size).map (fun i => decide (i < n)) := by
        apply Array.ext
        · simp [inv.size]
        · intro i h1 h2
          have hi : i < ops.size := by simpa using h2
          simp only [Array.getElem_map, Array.getElem_range]
          by_cases hin : i < n
          · have := hall i hin
            simp [h1] at this
            rw [this]; simp [hin]
          · have := inv.tail i (by omega) hi
            simp [h1] at this
            rw [this]; simp [hin]
      have := wpAny_of_seq (P := P) (md := .any) (ops := ops) (Q' := Q) (ops.toList.drop n) n listed a w (fun j => by simp [List.getElem?_drop]) (by
        have hl2 : (ops.toList.drop n).length = ops.size - n := by simp
        rw [hl2, hlist]; exact hseq) hw
      have hl2 : (ops.toList.drop n).length = ops.size - n := by simp
      rw [hl2] at this
      exact this
  | succ k ih =>
    intro listed a w hk inv hI
    obtain ⟨g, hok, hr, hext⟩ := hI
    obtain ⟨j0, hj0, hun0, hmin⟩ := qgw (listed := listed) (n := n) (by omega)
    rw [show k + 1 + (ops.size - n) = (k + (ops.size - n)) + 1 by omega]
    refine ⟨fun hnil => ?_, fun i hi => ?_⟩
    · -- the qbbx one may come up
      exfalso
      have hj0s : j0 < ops.size := by have := hF.le; omega
      have ho : ops[j0]? = some ops[j0] := by simp [hj0s]
      obtain ⟨s, hs, _⟩ := qb9 hmap ho
      have hfact := hF.head j0 _ s hj0 ho hs
      have : j0 ∈ Region.ready .any ops listed := by
        refine mem_ready.2 ⟨hun0, _, ho, fun e he hb => ?_⟩
        have h1 := hmin e.on (hfact.after e he hb)
        have h2 : e.on < listed.size := by rw [inv.size]; have := hfact.after e he hb; omega
        simp [h2] at h1 ⊢
        exact h1
      rw [hnil] at this
      cases this
    · obtain ⟨hun, o, ho, hready⟩ := mem_ready.1 hi
      have his : i < ops.size := (Array.getElem?_eq_some_iff.1 ho).1
      have hin : i < n := by
        rcases hF.tail with hn | ⟨hn, hs, hc, _⟩
        · omega
        · rcases Nat.lt_or_ge i n with h | h
          · exact h
          · exact absurd hi (tail_waits hs hc hn inv (n - j0) j0 rfl hj0 hun0 i h)
      obtain ⟨s, hs, hcs⟩ := qb9 hmap ho
      have hfact := hF.head i o s hin ho hs
      obtain ⟨hdst, hop, hdn, hg⟩ := qq hcs
      have hsm : s ∈ l.take n := by
        refine List.mem_of_getElem? (i := i) ?_
        rw [List.getElem?_take_of_lt hin]; exact hs
      have hh := hheads s hsm
      -- what it reads is as_ it is in the end
      have hreads : ∀ d, s.reads d = true → tF d = midE l n t tF listed d := by
        intro d hd
        unfold midE
        split
        · rfl
        · rename_i hno
          refine hout d fun hm => hno ?_
          obtain ⟨s', hs', hd'⟩ := qbi.1 hm
          obtain ⟨j, hj⟩ := List.getElem?_of_mem hs'
          have hjn : j < n := by have := (List.getElem?_eq_some_iff.1 hj).1; simp at this; omega
          rw [List.getElem?_take_of_lt hjn] at hj
          have hjs : j < ops.size := by have := hF.le; omega
          have hoj : ops[j]? = some ops[j] := by simp [hjs]
          obtain ⟨s2, hs2, hc2⟩ := qb9 hmap hoj
          rw [hj] at hs2
          cases hs2
          obtain ⟨hd2, _⟩ := qq hc2
          obtain ⟨_, e, he, hb, hon⟩ := hfact.reads j _ d hjn hoj (by rw [← hd2]; exact hd') hd
          have h1 := hready e he hb
          rw [hon] at h1
          have h2 : j < listed.size := by rw [inv.size]; exact hjs
          refine ⟨j, hjn, ?_, by simp [hj, hd']⟩
          simp [h2] at h1 ⊢
          exact h1
      -- the temporaries behind it
      have henv : ∀ v, (∀ d, s.dst = some d → tF d = v) → upd (midE l n t tF listed) o.dst v = midE l n t tF (listed.setIfInBounds i true) := by
        intro v hv
        funext x
        have hil : i < listed.size := by rw [inv.size]; exact his
        have hset : ∀ j, (listed.setIfInBounds i true).getD j true = true ↔ j = i ∨ listed.getD j true = true := by
          intro j
          by_cases hji : i = j
          · subst hji; simp [hil]
          · rw [getD_set_ne true hji]
            constructor
            · exact .inr
            · rintro (h | h)
              · exact absurd h.symm hji
              · exact h
        cases hod : o.dst with
        | none =>
          simp only [upd]
          unfold midE
          have : (∃ j, j < n ∧ listed.getD j true = true ∧ (l[j]?).bind (·.dst) = some x) ↔ (∃ j, j < n ∧ (listed.setIfInBounds i true).getD j true = true ∧ (l[j]?).bind (·.dst) = some x) := by
            constructor
            · rintro ⟨j, h1, h2, h3⟩; exact ⟨j, h1, (hset j).2 (.inr h2), h3⟩
            · rintro ⟨j, h1, h2, h3⟩
              rcases (hset j).1 h2 with rfl | h2
              · rw [hs] at h3; simp [hdst, hod] at h3
              · exact ⟨j, h1, h2, h3⟩
          simp only [this]
        | some d =>
          simp only [upd]
          by_cases hxd : x = d
          · subst hxd
            rw [if_pos rfl]
            unfold midE
            rw [if_pos ⟨i, hin, (hset i).2 (.inl rfl), by rw [hs]; simp [hdst, hod]⟩]
            exact (hv x (by rw [hdst, hod])).symm
          · rw [if_neg hxd]
            unfold midE
            have : (∃ j, j < n ∧ listed.getD j true = true ∧ (l[j]?).bind (·.dst) = some x) ↔ (∃ j, j < n ∧ (listed.setIfInBounds i true).getD j true = true ∧ (l[j]?).bind (·.dst) = some x) := by
              constructor
              · rintro ⟨j, h1, h2, h3⟩; exact ⟨j, h1, (hset j).2 (.inr h2), h3⟩
              · rintro ⟨j, h1, h2, h3⟩
                rcases (hset j).1 h2 with rfl | h2
                · rw [hs] at h3; simp [hdst, hod] at h3; exact absurd h3.symm hxd
                · exact ⟨j, h1, h2, h3⟩
            simp only [this]
      have hcnt : cntN (listed.setIfInBounds i true) n = k := by have := ql0 hun n hin; omega
      have hinv' := inv.set hi hin
      have run : Region.wanted o (yielded ops a.tmps) = true → qbq P F tF m1 (fun v => ∀ d, s.dst = some d → tF d = v) s.op → wpOp P ops Q i (wpAny P .any ops Q (k + (ops.size - n)) (listed.setIfInBounds i true)) a w := by
        intro hw hq
        unfold wpOp
        simp only [ho]
        rw [if_pos hw]
        refine .inl (qnu hT hm1 hok hr.r hop (qhu (qe4 hreads) hq) fun v cv g' w' hv hvr hok' hext' => ?_)
        refine ih _ _ _ hcnt hinv' ⟨g', hok', ?_, hext.trans hext'⟩
        rw [← henv v hv]
        exact (hr.ext hext').put hdn hvr
      have skip : Region.wanted o (yielded ops a.tmps) = false → (∀ d, s.dst = some d → tF d = .undef) → wpOp P ops Q i (wpAny P .any ops Q (k + (ops.size - n)) (listed.setIfInBounds i true)) a w := by
        intro hw hv
        unfold wpOp
        simp only [ho]
        rw [if_neg (by simp [hw])]
        refine ih _ _ _ hcnt hinv' ⟨g, hok, ?_, hext⟩
        rw [← henv _ hv]
        exact hr.put hdn (.c .undef)
      unfold qcw at hh
      rcases hg with ⟨hg1, hg2⟩ | ⟨j, b, oj, d, hg1, hj, hd, hg2⟩
      · rw [hg2] at hh
        exact run (by simp [Region.wanted, hg1]) hh
      · rw [hg2] at hh
        obtain ⟨hw1, hw2⟩ := qkg (o := o) hr.r hg1 hj hd
        have hx := qn4 hreads hg2
        simp only at hh
        split at hh
        · rename_i q hq
          rw [hx] at hq
          by_cases hqb : q = b
          · exact run (by rw [hw1 q hq]; simp [hqb]) (hh.1 hqb)
          · exact skip (by rw [hw1 q hq]; simpa using hqb) (hh.2 (by cases q <;> cases b <;> simp_all))
        · rename_i hq
          rw [hx] at hq
          exact skip (hw2 hq) hh
        · exact hh.elim
end
end Go.Pev
