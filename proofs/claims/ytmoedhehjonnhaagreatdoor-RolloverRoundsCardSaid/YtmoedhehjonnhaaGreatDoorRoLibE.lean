/- The calculus over trees that the proof rests on, proved sound against the model (LibE). -/
import Derived.Test.YtmoedhehjonnhaaGreatDoorRoLibD
import Derived.Shelf.Strconv.Itoa3
import Derived.Lib.LaidTab
import Derived.LaidSub
import Derived.Shelf.Sort.Plain
import Derived.Shelf.Slices.CompactI
set_option linter.all false
/- strconv.Itoa, by the kit's contract: the table of the powers of ten stands in the world. -/
namespace Go.Pev
open Go Go.RowKit
set_option linter.unusedVariables false
def q0e (n : Int) : Option (List UInt8) := bif decide (-9223372036854775808 ≤ n) && decide (n ≤ 9223372036854775807) then some (Lib.itoa n) else none
section
variable {P : Program} {R : Type} {ρ : Go.Shelf.Ren}
def qvz (xs : List AV) (K : AV → Option R) : Option R :=
  match xs with
  | [.int .i64 n] => oB (q0e n) fun r => K (.str r)
  | _ => none
theorem qbd7 (L : Go.Proofs.LaysM.n171 P ρ) (ht : (ρ.g 17, qy7 Lib.pow10Tab) ∈ qy8) : qli P (ρ.f 171) (qvz (R := R)) := by
  have hE : Ent P (ρ.f 171) := ⟨_, L.f171, rfl, by kernel_rfl⟩
  intro xs K r hr
  unfold qvz at hr
  split at hr
  · rename_i n
    obtain ⟨s, h1, h2⟩ := qb5 hr
    unfold q0e at h1
    obtain ⟨h3, h4⟩ := qg h1
    simp only [Bool.and_eq_true, decide_eq_true_eq] at h3
    simp only [Option.some.injEq] at h4
    subst h4
    refine ⟨_, ⟨hE, fun g w args hok hs hrel => ?_⟩, h2⟩
    obtain ⟨v, rfl⟩ : ∃ v, args = #[v] := by
      obtain ⟨ys⟩ := args
      match ys, hs with
      | [v], _ => exact ⟨v, rfl⟩
    have hv := (hrel 0 _ v rfl rfl).int_inv
    subst hv
    obtain ⟨⟨T, fr, hc⟩, _⟩ := hok.tb _ ht
    have htab : Lib.TabIs P w "internal/strconv.uint64pow10" .u64 Lib.pow10Tab := by
      unfold Lib.TabIs World.var?
      rw [L.m17]
      simp only [Option.bind_some, hc]
      rfl
    refine (Go.Proofs.Any.strconv_Itoa L n h3.1 h3.2 w htab).mono ?_
    rintro e w' ⟨rfl, k, os, rfl⟩
    have hbel : Below w.heap.size w (Sort.grow (w.drewN k) os) :=
      ⟨rfl, rfl, rfl, by simp [Sort.grow, World.drewN], fun j hj => by
        show (w.heap ++ os)[j]? = _
        rw [Array.getElem?_append_left hj]⟩
    obtain ⟨k1, k2⟩ := qvx hok hbel
    exact ⟨_, .str (Lib.itoa n), g, _, rfl, ⟨_, rfl, rfl⟩, k1, .c (by simpa using CRel.str (I := g.I) (w := Sort.grow (w.drewN k) os) ⟨(Lib.itoa n).toArray⟩), k2⟩
  · cases hr
theorem qbax {w : World} (hg : P.globalNamed "internal/strconv.uint64pow10" = some 0) (h : Lib.TabIs P w "internal/strconv.uint64pow10" .u64 Lib.pow10Tab) : q69 w := by
  intro p hp
  have hp' : p = (0, qy7 Lib.pow10Tab) := List.mem_singleton.1 hp
  subst hp'
  refine ⟨by decide, ?_⟩
  unfold Lib.TabIs World.var? at h
  rw [hg] at h
  simp only [Option.bind_some] at h
  split at h
  · rename_i cs T fr hh
    have : cs = qy7 Lib.pow10Tab := Option.some.inj h
    subst this
    exact ⟨T, fr, hh⟩
  · cases h
end
end Go.Pev
/- slices.Sort and slices.Compact at int, over a slice of one's own; by the kit's contracts. -/
namespace Go.Pev
open Go Go.RowKit Go.Sort
set_option linter.unusedVariables false
set_option linter.unusedSimpArgs false
def qmw : List AV → Option (List Int)
  | [] => some []
  | .int .i64 z :: r => (qmw r).map (z :: ·)
  | _ => none
theorem qqk : ∀ (xs : List AV) (zs : List Int), qmw xs = some zs → xs = zs.map (AV.int .i64)
  | [], zs, h => by simp [qmw] at h; subst h; rfl
  | x :: r, zs, h => by
    unfold qmw at h
    split at h
    · rename_i h1; cases h1
    · rename_i z r' h1
      cases h1
      obtain ⟨l, h2, rfl⟩ := Option.map_eq_some_iff.1 h
      rw [qqk _ _ h2]; rfl
    · cases h
theorem qtc : ∀ zs : List Int, qmw (zs.map (AV.int .i64)) = some zs
  | [] => rfl
  | z :: r => by simp [qmw, qtc r]
def qiq (xs : List AV) : Option (List AV) := (qmw xs).bind fun zs => bif Nat.blt 0 zs.length && Nat.blt zs.length 4611686018427387904 then some ((zs.mergeSort fun x y => decide (x ≤ y)).map (AV.int .i64)) else none
def qfc (xs : List AV) : Option (List AV) := (qmw xs).bind fun zs => bif Nat.blt 0 zs.length && Nat.blt zs.length 4611686018427387904 then some ((Lib.compact zs).map (AV.int .i64)) else none
section
variable {P : Program} {R : Type} {ρ : Go.Shelf.Ren} {g : Gh} {m : Mem} {w : World}
def qtd (vs : List AV) (m : Mem) (K : AV → Mem → Option R) : Option R :=
  match vs with
  | [.own r n] => match m.s r with
    | some (.arr true e' xs) => cond (Nat.beq e' 1) (cond (hd xs n) (oB (qiq xs) fun ys => K (.tup []) (m.set r (.arr true 1 ys))) none) none
    | _ => none
  | _ => none
theorem q0f {α : Type} [Inhabited α] (enc : α → Value) {w : World} {b : Nat} {arr : Array Value} (hb : Blk w b arr) (off : Nat) (d : Array α) :
    Blk (putRow enc w b off d) b (Go.Sort.putCells enc off d arr) ∧ ∀ b', b' ≠ b → (putRow enc w b off d).heap[b']? = w.heap[b']? := by
  obtain ⟨T, h⟩ := hb
  constructor
  · exact ⟨T, by simp [putRow, mapBlock, Array.getElem?_modify, h, onCells]⟩
  · intro b' hne
    simp [putRow, mapBlock, Array.getElem?_modify, Ne.symm hne]
theorem qv0 {α : Type} [Inhabited α] (enc : α → Value) (d : Array α) (arr : Array Value) (hle : d.size ≤ arr.size) (k : Nat) (hk : k < d.size) : (Go.Sort.putCells enc 0 d arr)[k]? = some (enc d[k]!) := by
  unfold Go.Sort.putCells
  rw [Array.getElem?_mapIdx, Array.getElem?_eq_getElem (show k < arr.size by omega)]
  simp [hk]
theorem q5f (hok : OK g m w) {r n e : Nat} {zs : List Int} {v : Value} (hs : m.s r = some (.arr true e (zs.map (AV.int .i64)))) (he : e = 1) (hn : zs.length = n) (h0 : 0 < n) (hv : VRel g m w (.own r n) v) :
    (g.ja r).nil = false ∧ v = .slice (some ⟨(g.ja r).b, 0, none⟩) n (g.ja r).c ∧ ∃ arr, Blk w (g.ja r).b arr ∧ n ≤ (g.ja r).c ∧ (g.ja r).c ≤ arr.size ∧ Holds (Value.int .i64) w (g.ja r).b 0 zs.toArray ∧ (g.ja r).b < w.heap.size := by
  subst he
  rcases qbaw hok hs (by simpa using hn) hv with ⟨_, h9⟩ | ⟨hnil, hv⟩
  · omega
  rcases hok.ob r _ hs with ⟨h, _⟩ | ⟨_, arr, q1, q2, q3, q4, q5, q6, q7⟩
  · rw [hnil] at h; cases h
  refine ⟨hnil, hv, arr, q1, by simp at q2; omega, by simpa using q3, fun j hj => ?_, qf9 q1⟩
  have hjl : j < zs.length := by simpa using hj
  have hja : j < arr.size := by have h2 : zs.length ≤ (g.ja r).c := by simpa using q2
                                omega
  have h1 : arr[j]? = some arr[j] := Array.getElem?_eq_getElem hja
  have h2 := q6 j (.int .i64 zs[j]) 0 (.int .i64 zs[j]) arr[j] (by simp [hjl]) rfl (by simp)
  have h3 : arr[j] = .int .i64 zs[j] := (VRel.c (g := g) (m := m) h2).int_inv
  constructor
  · rw [Nat.zero_add, qr q1, h1, h3]
    simp [hjl]
  · obtain ⟨T, hT⟩ := q1
    simp [World.frozen?, hT]
theorem q61 {args : Array Value} {n : Nat} (h : args.size = n) (hn : n = 1) : ∃ a, args = #[a] := by
  subst hn
  obtain ⟨l⟩ := args
  match l, h with
  | [a], _ => exact ⟨a, rfl⟩
theorem q9g (hok : OK g m w) {w' : World} {r : Nat} {xs : List AV} {zs : List Int} {arr : Array Value} {d : Array Int} {q : Nat} {os : Array Obj} (hs : m.s r = some (.arr true 1 xs)) (hn : (g.ja r).nil = false) (hb : Blk w (g.ja r).b arr) (hlt : (g.ja r).b < w.heap.size)
    (hzd : zs.length ≤ d.size) (hd : d.size ≤ (g.ja r).c) (hc : (g.ja r).c ≤ arr.size) (hv : ∀ j, j < zs.length → d[j]! = zs.getD j 0) (hw : w' = grow (putRow (Value.int .i64) (Sort.ahead w q) (g.ja r).b 0 d) os) :
    ∃ g', OK g' ((m.del r).new (.arr true 1 (zs.map (AV.int .i64)))) w' ∧ Ext g m w g' ((m.del r).new (.arr true 1 (zs.map (AV.int .i64)))) w' ∧ VRel g' ((m.del r).new (.arr true 1 (zs.map (AV.int .i64)))) w' (.own m.n zs.length) (.slice (some ⟨(g.ja r).b, 0, none⟩) zs.length (g.ja r).c) := by
  subst hw
  obtain ⟨p1, p2⟩ := q0f (Value.int .i64) (w := Sort.ahead w q) hb 0 d
  have hlt' : (g.ja r).b < (putRow (Value.int .i64) (Sort.ahead w q) (g.ja r).b 0 d).heap.size := by simpa using hlt
  have hblk : Blk (grow (putRow (Value.int .i64) (Sort.ahead w q) (g.ja r).b 0 d) os) (g.ja r).b (Go.Sort.putCells (Value.int .i64) 0 d arr) := by
    obtain ⟨T, hT⟩ := p1
    exact ⟨T, by show (_ ++ os)[_]? = _; rw [Array.getElem?_append_left hlt']; exact hT⟩
  have h := OK.swap hok (w' := grow (putRow (Value.int .i64) (Sort.ahead w q) (g.ja r).b 0 d) os) (r := r) (c2 := (g.ja r).c) (e := 1) (b2 := (g.ja r).b) (ys := zs.map (AV.int .i64)) (arr2 := Go.Sort.putCells (Value.int .i64) 0 d arr) hs hn (.inl rfl) hblk
    (by simp; omega) (by simp [Go.Sort.putCells]; exact hc)
    (fun i x hx => by
      obtain ⟨z, _, rfl⟩ := List.mem_map.1 (List.mem_of_getElem? hx)
      rfl)
    (fun i x k y hx hy => by
      obtain ⟨z, _, rfl⟩ := List.mem_map.1 (List.mem_of_getElem? hx)
      cases k with
      | zero => simp [AV.cells] at hy; subst hy; rfl
      | succ k => simp [AV.cells] at hy)
    (fun i x k y v hx hy hv' => by
      rw [List.getElem?_map] at hx
      obtain ⟨z, hz, rfl⟩ := Option.map_eq_some_iff.1 hx
      have hi : i < zs.length := (List.getElem?_eq_some_iff.1 hz).1
      cases k with
      | succ k => simp [AV.cells] at hy
      | zero =>
        simp [AV.cells] at hy; subst hy
        have e1 : i * 1 + 0 = i := by omega
        rw [e1, qv0 (Value.int .i64) d arr (by omega) i (by omega), hv i hi] at hv'
        simp only [Option.some.injEq] at hv'
        subst hv'
        rw [List.getD_eq_getElem?_getD, hz]
        exact .int _ _)
    (fun b' hb' hne => by
      show (_ ++ os)[_]? = _
      rw [Array.getElem?_append_left (by simpa using hb')]
      exact p2 b' hne)
    (by simp [grow]) rfl rfl rfl
  simpa using h
theorem qbay (hok : OK g m w) {w' : World} {r : Nat} {xs : List AV} {zs : List Int} {arr : Array Value} {q : Nat} {os : Array Obj} (hs : m.s r = some (.arr true 1 xs)) (hn : (g.ja r).nil = false) (hb : Blk w (g.ja r).b arr) (hlt : (g.ja r).b < w.heap.size)
    (hzx : zs.length = xs.length) (hd : zs.length ≤ (g.ja r).c) (hc : (g.ja r).c ≤ arr.size) (hw : w' = grow (putRow (Value.int .i64) (Sort.ahead w q) (g.ja r).b 0 zs.toArray) os) :
    OK g (m.set r (.arr true 1 (zs.map (AV.int .i64)))) w' ∧ Ext g m w g (m.set r (.arr true 1 (zs.map (AV.int .i64)))) w' := by
  subst hw
  obtain ⟨p1, p2⟩ := q0f (Value.int .i64) (w := Sort.ahead w q) hb 0 zs.toArray
  have hlt' : (g.ja r).b < (putRow (Value.int .i64) (Sort.ahead w q) (g.ja r).b 0 zs.toArray).heap.size := by simpa using hlt
  have hbr : (Ob.arr true 1 xs).blk g r = some (g.ja r).b := by simp [Ob.blk, hn]
  have hnoI : ∀ k, ¬ g.I (g.ja r).b k := fun k hk => by
    rcases hok.ob r _ hs with ⟨h, _⟩ | ⟨_, _, _, _, _, _, _, _, h⟩
    · rw [hn] at h; cases h
    · have := ((h k).1 hk).1; cases this
  have hfr : ∀ b', b' < w.heap.size → b' ≠ (g.ja r).b → (grow (putRow (Value.int .i64) (Sort.ahead w q) (g.ja r).b 0 zs.toArray) os).heap[b']? = w.heap[b']? := fun b' hb' hne => by
    show (_ ++ os)[_]? = _
    rw [Array.getElem?_append_left (by simpa using hb')]
    exact p2 b' hne
  have hI : ∀ b k, g.I b k → (grow (putRow (Value.int .i64) (Sort.ahead w q) (g.ja r).b 0 zs.toArray) os).cell? ⟨b, k, none⟩ = w.cell? ⟨b, k, none⟩ := fun b k hk =>
    qbj (hfr b (hok.lt_of_I hk) (fun e => hnoI k (e ▸ hk))) k
  refine OK.one r (.arr true 1 (zs.map (AV.int .i64))) hok rfl (Nat.le_refl _) (hok.lt r _ hs) (fun i hi => ⟨rfl, rfl⟩) (fun _ => rfl) (fun _ wf' e' xs' he => ?_) (fun b hb' hno => hfr b hb' (fun e1 => hno _ hs (by rw [hbr, e1]))) (by simp [grow]) rfl rfl rfl
    (fun b k hk => hk) (fun b k hk => .inl hk) hI (fun b k hk => ?_) (fun hx => ?_) (fun b hb' => .inr ⟨_, hs, by simpa [Ob.blk] using hb'⟩)
  · cases he
    exact ⟨true, 1, xs, hs, rfl, by simp [hzx], fun _ => rfl⟩
  · obtain ⟨v, hv⟩ := hok.im b k hk
    exact ⟨v, (hI b k hk).trans hv⟩
  · refine .inr ⟨hn, Go.Sort.putCells (Value.int .i64) 0 zs.toArray arr, ?_, by simpa using hd, by simpa [Go.Sort.putCells] using hc, fun i x hx => ?_, fun i x k y hx hy => ?_, fun i x k y v hx hy hv' => ?_, fun k => ⟨fun hk => absurd hk (hnoI k), fun hk => by simp at hk⟩⟩
    · obtain ⟨T, hT⟩ := p1
      exact ⟨T, by show (_ ++ os)[_]? = _; rw [Array.getElem?_append_left hlt']; exact hT⟩
    · obtain ⟨z, _, rfl⟩ := List.mem_map.1 (List.mem_of_getElem? hx)
      rfl
    · obtain ⟨z, _, rfl⟩ := List.mem_map.1 (List.mem_of_getElem? hx)
      cases k with
      | zero => simp [AV.cells] at hy; subst hy; rfl
      | succ k => simp [AV.cells] at hy
    · rw [List.getElem?_map] at hx
      obtain ⟨z, hz, rfl⟩ := Option.map_eq_some_iff.1 hx
      have hi : i < zs.length := (List.getElem?_eq_some_iff.1 hz).1
      cases k with
      | succ k => simp [AV.cells] at hy
      | zero =>
        simp [AV.cells] at hy; subst hy
        have e1 : i * 1 + 0 = i := by omega
        rw [e1, qv0 (Value.int .i64) zs.toArray arr (by simp; omega) i (by simpa using hi)] at hv'
        simp only [Option.some.injEq] at hv'
        subst hv'
        have h2 : zs.toArray[i]! = z := by simp [hz, getElem!_def]
        rw [h2]
        exact .int _ _
theorem q9h (L : Go.Proofs.Lays.n189 P ρ) : qju P (ρ.f 189) (qtd (R := R)) := by
  intro vs m K r hr
  have hE : Ent P (ρ.f 189) := ⟨_, L.f189, rfl, by kernel_rfl⟩
  unfold qtd at hr
  split at hr
  case h_2 => cases hr
  rename_i rr n
  split at hr
  case h_2 => cases hr
  rename_i e' xs hs
  obtain ⟨h1, h2⟩ := qg hr
  obtain ⟨h1', h2⟩ := qg h2
  have h3 : e' = 1 := Nat.eq_of_beq_eq_true h1
  have h4 : xs.length = n := Nat.eq_of_beq_eq_true h1'
  subst h3
  obtain ⟨ys, h5, h6⟩ := qb5 h2
  obtain ⟨zs, h7, h8⟩ := Option.bind_eq_some_iff.1 h5
  obtain ⟨h9, h10⟩ := qg h8
  have hxs := qqk _ _ h7
  subst hxs
  simp only [Option.some.injEq] at h10
  subst h10
  simp only [Bool.and_eq_true, Nat.blt_eq] at h9
  refine .inl ⟨hE, fun g w args hok hsa hrel => ?_⟩
  obtain ⟨a, rfl⟩ := q61 hsa rfl
  have ha := hrel 0 _ a rfl rfl
  have hzl : zs.length = n := by simpa using h4
  obtain ⟨p1, rfl, arr, p2, p3, p4, p5, p6⟩ := q5f hok hs rfl hzl (by omega) ha
  subst hzl
  refine (Go.Proofs.Any.slices_Sort_int L (g.ja rr).b 0 (g.ja rr).c zs w p5 p6 h9.2).mono ?_
  rintro en w' ⟨rfl, q, os, hw⟩
  obtain ⟨k1, k2⟩ := qbay (zs := zs.mergeSort fun x y => decide (x ≤ y)) hok hs p1 p2 p6 (by simp) (by simpa using p3) p4 hw
  exact ⟨_, _, g, _, rfl, h6, k1, .c (.tup [] #[] rfl (by simp)), k2⟩
def qm6 (vs : List AV) (m : Mem) (K : AV → Mem → Option R) : Option R :=
  match vs with
  | [.own r n] => match m.s r with
    | some (.arr true e' xs) => cond (Nat.beq e' 1) (cond (hd xs n) (oB (qfc xs) fun ys => K (.own m.n ys.length) ((m.del r).new (.arr true 1 ys))) none) none
    | _ => none
  | _ => none
theorem q5g (L : Go.Proofs.Lays2.n20 P ρ) : qju P (ρ.f 20) (qm6 (R := R)) := by
  intro vs m K r hr
  have hE : Ent P (ρ.f 20) := ⟨_, L.f20, rfl, by kernel_rfl⟩
  unfold qm6 at hr
  split at hr
  case h_2 => cases hr
  rename_i rr n
  split at hr
  case h_2 => cases hr
  rename_i e' xs hs
  obtain ⟨h1, h2⟩ := qg hr
  obtain ⟨h1', h2⟩ := qg h2
  have h3 : e' = 1 := Nat.eq_of_beq_eq_true h1
  have h4 : xs.length = n := Nat.eq_of_beq_eq_true h1'
  subst h3
  obtain ⟨ys, h5, h6⟩ := qb5 h2
  obtain ⟨zs, h7, h8⟩ := Option.bind_eq_some_iff.1 h5
  obtain ⟨h9, h10⟩ := qg h8
  have hxs := qqk _ _ h7
  subst hxs
  simp only [Option.some.injEq] at h10
  subst h10
  simp only [Bool.and_eq_true, Nat.blt_eq] at h9
  refine .inl ⟨hE, fun g w args hok hsa hrel => ?_⟩
  obtain ⟨a, rfl⟩ := q61 hsa rfl
  have ha := hrel 0 _ a rfl rfl
  have hzl : zs.length = n := by simpa using h4
  obtain ⟨p1, rfl, arr, p2, p3, p4, p5, p6⟩ := q5f hok hs rfl hzl (by omega) ha
  subst hzl
  refine (Go.Proofs.Any.slices_Compact_int L (g.ja rr).b 0 (g.ja rr).c zs w p5 (by omega) p3).mono ?_
  rintro en w' ⟨rfl, q, hw⟩
  have hcl : (Lib.compact zs).length ≤ zs.length := by
    unfold Lib.compact Lib.compactUpTo
    rw [List.length_map]
    exact Nat.le_trans (List.length_filter_le _ _) (by simp)
  have hdz : ((Lib.compact zs ++ List.replicate (zs.length - (Lib.compact zs).length) 0).toArray).size = zs.length := by simp; omega
  obtain ⟨g', k1, k2, k3⟩ := q9g (w' := w') (zs := Lib.compact zs) (d := (Lib.compact zs ++ List.replicate (zs.length - (Lib.compact zs).length) 0).toArray) (q := q) (os := #[]) hok hs p1 p2 p6 (by rw [hdz]; exact hcl) (by rw [hdz]; exact p3) p4 (fun j hj => by
    rw [List.getD_eq_getElem?_getD, List.getElem?_eq_getElem hj]
    simp [getElem!_def, List.getElem?_append_left hj, List.getElem?_eq_getElem hj]) (by rw [hw]; exact (grow_empty _).symm)
  refine ⟨_, _, g', _, rfl, ?_, k1, k3, k2⟩
  simpa using h6
end
end Go.Pev
