/- Addresses of subnets: both loops, and the law. -/
import Derived.Test.YtmfghgaboaocgaaLw47
set_option linter.all false
namespace Go.Proofs.Ytmfghgaboaocgaa.Dn
open Go Go.Pev
set_option linter.unusedVariables false
set_option linter.unusedSimpArgs false
set_option maxRecDepth 4000

/-! ### The map of used addresses -/
abbrev Key := Bool × Int × Int
def kdA : KD := .mk true [.b, .i .u64, .i .u64]
def keyV (k : Key) : AV := .agg [.bool k.1, .int .u64 k.2.1, .int .u64 k.2.2]
def entK (k : Key) : AV × AV := (keyV k, .bool true)
def keyB (a b : Key) : Bool := (a.1 == b.1) && ((a.2.1 == b.2.1) && ((a.2.2 == b.2.2) && true))
theorem keyB_iff {a b : Key} : keyB a b = true ↔ a = b := by
  obtain ⟨a1, a2, a3⟩ := a
  obtain ⟨b1, b2, b3⟩ := b
  simp [keyB]
theorem keq_key (a b : Key) : keq kdA (keyV a) (keyV b) = some (keyB a b) := by
  simp [keq, kdA, keyV, eqv, eqCells, eqLeaf, keyB]
def hasK (ks : List Key) (a : Key) : Bool := ks.any (keyB a)
def addK (ks : List Key) (a : Key) : List Key := bif hasK ks a then ks else ks ++ [a]
theorem mgB_keys {R : Type} (a : Key) (F : AV → Option R) (N : Option R) : ∀ ks : List Key, mgB kdA (keyV a) (ks.map entK) F N = bif hasK ks a then F (.bool true) else N
  | [] => rfl
  | k :: ks => by
    simp only [List.map_cons, mgB, entK, keq_key]
    have := mgB_keys a F N ks
    rw [show (List.map entK ks) = List.map (fun k => (keyV k, AV.bool true)) ks from rfl] at this
    unfold hasK
    simp only [List.any_cons]
    cases keyB a k
    · simp only [cond_f, Bool.false_or]
      exact mgB_keys a F N ks
    · rfl
theorem mfind_keys (a : Key) : ∀ (ks : List Key) (i : Nat), (hasK ks a = false ∧ mfind kdA (keyV a) (ks.map entK) i = some none) ∨ (hasK ks a = true ∧ ∃ j, j < ks.length ∧ mfind kdA (keyV a) (ks.map entK) i = some (some (i + j, .bool true)))
  | [], i => .inl ⟨rfl, rfl⟩
  | k :: ks, i => by
    unfold hasK
    simp only [List.map_cons, mfind, List.any_cons]
    rw [show (entK k).1 = keyV k from rfl, keq_key]
    cases keyB a k
    · rcases mfind_keys a ks (i + 1) with ⟨h1, h2⟩ | ⟨h1, j, h2, h3⟩
      · exact .inl ⟨by simpa [hasK] using h1, h2⟩
      · exact .inr ⟨by simpa [hasK] using h1, j + 1, by simp; omega, by simp only []; rw [h3]; congr 3; omega⟩
    · exact .inr ⟨rfl, 0, by simp, rfl⟩
theorem modify_same : ∀ (ks : List Key) (j : Nat), (ks.map entK).modify j (fun p => (p.1, .bool true)) = ks.map entK
  | [], j => by simp
  | k :: ks, 0 => by simp [entK]
  | k :: ks, j + 1 => by simpa using modify_same ks j
theorem mputL_keys (a : Key) (ks : List Key) : mputL kdA (keyV a) (.bool true) (ks.map entK) = some ((addK ks a).map entK) := by
  unfold mputL addK
  rcases mfind_keys a ks 0 with ⟨h1, h2⟩ | ⟨h1, j, h2, h3⟩
  · rw [h2, h1]
    simp [entK]
  · rw [h3, h1]
    simp only [modify_same, cond_t]
def decK (s : List (AV × AV)) : List Key := s.map fun p => (gB p.1.cells 0, gI p.1.cells 1, gI p.1.cells 2)
theorem decK_map (ks : List Key) : decK (ks.map entK) = ks := by
  simp only [decK, List.map_map]
  exact List.map_id'' (fun k => rfl) ks

theorem addK_has (ks : List Key) (a b : Key) : hasK (addK ks a) b = (hasK ks b || keyB b a) := by
  unfold addK
  cases h : hasK ks a
  · simp [hasK]
  · simp only [cond_t]
    cases h2 : keyB b a
    · simp
    · have := keyB_iff.1 h2
      subst this
      simp [h]
theorem addK_len (ks : List Key) (a : Key) : (addK ks a).length ≤ ks.length + 1 := by
  unfold addK; cases hasK ks a <;> simp

/-! ### Hosts and blocks -/
def hostFit (y : AV) : Prop := fitC T_api_Host y.cells = true
def hostsFit (l : List AV) : Prop := l.length ≤ 9223372036854775807 ∧ ∀ y, y ∈ l → hostFit y
def tyHost : Ty := .st [.str, tyAddr, .int .i64]
theorem hostsFit_of {l : List AV} (h : l.length ≤ 9223372036854775807 ∧ ∀ y, y ∈ l → fitC tyHost.lts y.cells = true ∧ tyHost.good y.cells 0) : hostsFit l := ⟨h.1, fun y hy => (h.2 y hy).1⟩
def hostK (y : AV) : Key := (gB y.cells 1, gI y.cells 2, gI y.cells 3)
def blkK (y : AV) : Key := (gB y.cells 0, gI y.cells 1, gI y.cells 2)
def hostsK (ks : List Key) (l : List AV) : List Key := l.foldl (fun ks y => addK ks (hostK y)) ks
/-- A prefix and its bounds. -/
structure Sub where
  v6 : Bool
  hi : Int
  lo : Int
  bits : Int
def Sub.fst (s : Sub) : Ad := (s.hi, s.lo)
def Sub.last (s : Sub) : Ad := (lastHi s.v6 s.hi s.bits, lastLo s.v6 s.lo s.bits)
structure Sub.ok (s : Sub) : Prop where
  p : prefOk s.v6 s.hi s.lo s.bits = true
  u1 : uok s.hi
  u2 : uok s.lo
def Sub.holds (s : Sub) (y : AV) : Bool := !(atP s.v6 s.hi s.lo s.bits y) && withinF (gB y.cells 0) (gI y.cells 1) (gI y.cells 2) (gI y.cells 3) s.v6 s.hi s.lo s.bits
def blocksK (s : Sub) (ks : List Key) (l : List AV) : List Key := l.foldl (fun ks y => bif s.holds y then addK ks (blkK y) else ks) ks
def usedK (s : Sub) (l hosts : List AV) : List Key := blocksK s (hostsK [] hosts) l
theorem hostsK_has : ∀ (l : List AV) (ks : List Key) (b : Key), hasK (hostsK ks l) b = (hasK ks b || l.any fun y => keyB b (hostK y))
  | [], ks, b => by simp [hostsK]
  | y :: l, ks, b => by
    show hasK (hostsK (addK ks (hostK y)) l) b = _
    rw [hostsK_has l, addK_has]
    simp [Bool.or_assoc]
theorem blocksK_has (s : Sub) : ∀ (l : List AV) (ks : List Key) (b : Key), hasK (blocksK s ks l) b = (hasK ks b || l.any fun y => s.holds y && keyB b (blkK y))
  | [], ks, b => by simp [blocksK]
  | y :: l, ks, b => by
    show hasK (blocksK s (bif s.holds y then addK ks (blkK y) else ks) l) b = _
    rw [blocksK_has s l]
    cases h : s.holds y
    · simp [h]
    · simp [h, addK_has, Bool.or_assoc]
theorem hostsK_len : ∀ (l : List AV) (ks : List Key), (hostsK ks l).length ≤ ks.length + l.length
  | [], ks => by simp [hostsK]
  | y :: l, ks => by
    show (hostsK (addK ks (hostK y)) l).length ≤ _
    have h1 := hostsK_len l (addK ks (hostK y))
    have h2 := addK_len ks (hostK y)
    simp; omega
theorem blocksK_len (s : Sub) : ∀ (l : List AV) (ks : List Key), (blocksK s ks l).length ≤ ks.length + l.length
  | [], ks => by simp [blocksK]
  | y :: l, ks => by
    show (blocksK s (bif s.holds y then addK ks (blkK y) else ks) l).length ≤ _
    cases s.holds y
    · have h1 := blocksK_len s l ks
      simp; omega
    · have h1 := blocksK_len s l (addK ks (blkK y))
      have h2 := addK_len ks (blkK y)
      simp; omega
theorem usedK_len (s : Sub) (l hosts : List AV) : (usedK s l hosts).length ≤ l.length + hosts.length := by
  have h1 := blocksK_len s l (hostsK [] hosts)
  have h2 := hostsK_len hosts []
  unfold usedK
  simp at h2
  omega

/-! ### The search -/
def a0 : AV := .agg [(.bool false), (.int .u64 0), (.int .u64 0)]
def adB (a b : Ad) : Bool := (a.1 == b.1) && ((a.2 == b.2) && true)
theorem adB_iff {a b : Ad} : adB a b = true ↔ a = b := by
  obtain ⟨a1, a2⟩ := a
  obtain ⟨b1, b2⟩ := b
  simp [adB]
def broadB (s : Sub) (a : Ad) : Bool := (adB a s.last && !s.v6) && decide (s.bits ≤ 30)
def freeB (s : Sub) (ks : List Key) (a : Ad) : Bool := !broadB s a && !hasK ks (s.v6, a)
def goF (s : Sub) (ks : List Key) : Nat → Ad → AV × Int
  | 0, _ => (a0, 22)
  | n + 1, a => bif adB a s.last then (a0, 22) else bif freeB s ks (nextA a) then (addrV s.v6 (nextA a), 0) else goF s ks n (nextA a)
/-- How many used addresses come later. -/
def laterK (ks : List Key) (a : Ad) : Nat := (ks.filter fun k => decide (numA k.2 > numA a)).length
theorem filter_len {α : Type} (p q : α → Bool) : ∀ l : List α, (∀ x, p x = true → q x = true) → (l.filter p).length ≤ (l.filter q).length
  | [], _ => by simp
  | x :: l, h => by
    have := filter_len p q l h
    simp only [List.filter_cons]
    cases hp : p x
    · cases hq : q x <;> simp <;> omega
    · rw [h x hp]; simp; omega
theorem filter_lt {α : Type} (p q : α → Bool) : ∀ l : List α, (∀ x, p x = true → q x = true) → (∃ x, x ∈ l ∧ p x = false ∧ q x = true) → (l.filter p).length < (l.filter q).length
  | [], _, ⟨x, hx, _⟩ => by cases hx
  | y :: l, h, ⟨x, hx, h1, h2⟩ => by
    simp only [List.filter_cons]
    rcases List.mem_cons.1 hx with rfl | hx
    · rw [h1, h2]
      have := filter_len p q l h
      simp; omega
    · have := filter_lt p q l h ⟨x, hx, h1, h2⟩
      cases hp : p y
      · cases hq : q y <;> simp <;> omega
      · rw [h y hp]; simp; omega
theorem laterK_next (ks : List Key) (a : Ad) : laterK ks (nextA a) ≤ laterK ks a :=
  filter_len _ _ ks (fun k hk => by
    have := next_num (a := a)
    simp at hk ⊢; omega)
theorem laterK_used {v6 : Bool} {ks : List Key} {a : Ad} (h : hasK ks (v6, nextA a) = true) : laterK ks (nextA a) < laterK ks a := by
  refine filter_lt _ _ ks (fun k hk => by
    have := next_num (a := a)
    simp at hk ⊢; omega) ?_
  simp only [hasK, List.any_eq_true] at h
  obtain ⟨k, h1, h2⟩ := h
  have h3 := keyB_iff.1 h2
  subst h3
  refine ⟨_, h1, ?_, ?_⟩
  · simp
  · have := next_num (a := a)
    simp; omega
theorem laterK_len (ks : List Key) (a : Ad) : laterK ks a ≤ ks.length := List.length_filter_le _ _
theorem notFree {s : Sub} {ks : List Key} {a : Ad} (h : freeB s ks (nextA a) = false) : nextA a = s.last ∨ laterK ks (nextA a) < laterK ks a := by
  unfold freeB at h
  cases hb : broadB s (nextA a) with
  | true =>
    simp only [broadB, Bool.and_eq_true] at hb
    exact .inl (adB_iff.1 hb.1.1)
  | false =>
    rw [hb] at h
    simp at h
    exact .inr (laterK_used h)
theorem goF_stable (s : Sub) (ks : List Key) : ∀ (n m : Nat) (a : Ad), laterK ks a + 2 ≤ n → laterK ks a + 2 ≤ m → goF s ks n a = goF s ks m a := by
  intro n
  induction n with
  | zero => intro m a h; omega
  | succ n ih =>
    intro m a h1 h2
    obtain ⟨m, rfl⟩ : ∃ m', m = m' + 1 := ⟨m - 1, by omega⟩
    simp only [goF]
    cases h3 : adB a s.last
    · simp only [cond_f]
      cases h4 : freeB s ks (nextA a)
      · simp only [cond_f]
        rcases notFree h4 with h5 | h5
        · obtain ⟨n, rfl⟩ : ∃ n', n = n' + 1 := ⟨n - 1, by omega⟩
          obtain ⟨m, rfl⟩ : ∃ n', m = n' + 1 := ⟨m - 1, by omega⟩
          simp [goF, adB_iff.2 h5]
        · exact ih m (nextA a) (by omega) (by omega)
      · rfl
    · rfl
def goS (s : Sub) (ks : List Key) (a : Ad) : AV × Int := goF s ks (laterK ks a + 2) a
theorem goS_eq (s : Sub) (ks : List Key) (a : Ad) : goS s ks a = bif adB a s.last then (a0, 22) else bif freeB s ks (nextA a) then (addrV s.v6 (nextA a), 0) else goS s ks (nextA a) := by
  have h0 : goS s ks a = bif adB a s.last then (a0, 22) else bif freeB s ks (nextA a) then (addrV s.v6 (nextA a), 0) else goF s ks (laterK ks a + 1) (nextA a) := rfl
  rw [h0]
  cases h3 : adB a s.last
  · simp only [cond_f]
    cases h4 : freeB s ks (nextA a)
    · simp only [cond_f]
      rcases notFree h4 with h5 | h5
      · unfold goS
        simp [goF, adB_iff.2 h5]
      · exact goF_stable s ks _ _ (nextA a) (by omega) (by omega)
    · rfl
  · rfl
/-- What is left to do, at the most. -/
def muA (s : Sub) (ks : List Key) (a : Ad) : Nat := if a = s.last then 0 else laterK ks a + 1
theorem muA_next {s : Sub} {ks : List Key} {a : Ad} (hne : a ≠ s.last) (h : freeB s ks (nextA a) = false) : muA s ks (nextA a) < muA s ks a := by
  unfold muA
  rw [if_neg hne]
  split
  · omega
  · rcases notFree h with h5 | h5
    · rename_i h6; exact absurd h5 h6
    · omega

/-! ### The program's Address -/
theorem p_hosts (l : List AV) (hl : hostsFit l) (ks : List Key) (v0 : List AV) (b00 : Bool) (b01 b02 b03 : Int) (b10 : Bool) (b11 b12 : Int) (b20 : Bool) (b21 b22 : Int) (b23 : Bool) (b24 b25 : Int) (kx : List (AV × AV) → Option (AV × Int)) :
    allocate_Address_L27 v0 l (l.length : Int) b00 b01 b02 b03 b10 b11 b12 b20 b21 b22 b23 b24 b25 kx FU 0 (ks.map entK) = kx ((hostsK ks l).map entK) := by
  rw [allocate_Address_L27_eq]
  have key := for_list l hl.1 (fun n i (s : List (AV × AV)) => allocate_Address_L27_i v0 l (l.length : Int) b00 b01 b02 b03 b10 b11 b12 b20 b21 b22 b23 b24 b25 kx n i s)
    (fun i s nx => allocate_Address_L27_b v0 l (l.length : Int) i b00 b01 b02 b03 b10 b11 b12 b20 b21 b22 b23 b24 b25 s nx kx) (fun _ _ _ => rfl)
    (fun i s => ∃ ks : List Key, s = ks.map entK) (fun r s => kx ((hostsK (decK s) r).map entK)) ?_ ?_ (ks.map entK) FU ⟨ks, rfl⟩ (FU_big (by have := hl.1; omega))
  · rw [decK_map] at key; exact key
  · rintro s nx ⟨ks, rfl⟩
    simp [allocate_Address_L27_b, hostsK, decK_map]
  · rintro i y r _ nx h1 h2 h3 h4 ⟨ks, rfl⟩ h5
    have hy := hl.2 y (List.mem_of_getElem? h2)
    have h6 : (i : Int) < (l.length : Int) := by omega
    unfold allocate_Address_L27_b
    have hm := mputL_keys (hostK y) ks
    simp only [h6, decide_true, cond_t, ixB_nat, h2, oB_s, h4]
    have hy' : fitC T_api_Host y.cells = true := hy
    rw [hy']
    simp only [cond_t]
    rw [show mputL (.mk true [.b, .i .u64, .i .u64]) (.agg [.bool (gB y.cells 1), .int .u64 (gI y.cells 2), .int .u64 (gI y.cells 3)]) (.bool true) (ks.map entK) = some ((addK ks (hostK y)).map entK) from hm]
    simp only [oB_s]
    rw [h5 _ ⟨_, rfl⟩, decK_map, decK_map]
    rfl
theorem p_blocks (l : List AV) (hl : blksFit l) (s : Sub) (ks : List Key) (b10 : Bool) (b11 b12 : Int) (b20 : Bool) (b21 b22 : Int) (b23 : Bool) (b24 b25 : Int) (kx : List (AV × AV) → Option (AV × Int)) :
    allocate_Address_L44 l (l.length : Int) s.v6 s.hi s.lo s.bits b10 b11 b12 b20 b21 b22 b23 b24 b25 kx FU 0 (ks.map entK) = kx ((blocksK s ks l).map entK) := by
  rw [allocate_Address_L44_eq]
  have key := for_list l hl.1 (fun n i (q : List (AV × AV)) => allocate_Address_L44_i l (l.length : Int) s.v6 s.hi s.lo s.bits b10 b11 b12 b20 b21 b22 b23 b24 b25 kx n i q)
    (fun i q nx => allocate_Address_L44_b l (l.length : Int) i s.v6 s.hi s.lo s.bits b10 b11 b12 b20 b21 b22 b23 b24 b25 q nx kx) (fun _ _ _ => rfl)
    (fun i q => ∃ ks : List Key, q = ks.map entK) (fun r q => kx ((blocksK s (decK q) r).map entK)) ?_ ?_ (ks.map entK) FU ⟨ks, rfl⟩ (FU_big (by have := hl.1; omega))
  · rw [decK_map] at key; exact key
  · rintro q nx ⟨ks, rfl⟩
    simp [allocate_Address_L44_b, blocksK, decK_map]
  · rintro i y r _ nx h1 h2 h3 h4 ⟨ks, rfl⟩ h5
    have hy := (hl.2 y (List.mem_of_getElem? h2)).1
    have h6 : (i : Int) < (l.length : Int) := by omega
    unfold allocate_Address_L44_b
    have hm := mputL_keys (blkK y) ks
    simp only [h6, decide_true, cond_t, ixB_nat, h2, oB_s, h4, hy, p_pWithin]
    rw [show ((gB y.cells 0 == s.v6) && ((gI y.cells 1 == s.hi) && ((gI y.cells 2 == s.lo) && ((gI y.cells 3 == s.bits) && true)))) = atP s.v6 s.hi s.lo s.bits y from rfl]
    rw [show mputL (.mk true [.b, .i .u64, .i .u64]) (.agg [.bool (gB y.cells 0), .int .u64 (gI y.cells 1), .int .u64 (gI y.cells 2)]) (.bool true) (ks.map entK) = some ((addK ks (blkK y)).map entK) from hm]
    have hs : blocksK s ks (y :: r) = blocksK s (bif s.holds y then addK ks (blkK y) else ks) r := rfl
    rw [decK_map, hs]
    unfold Sub.holds
    cases atP s.v6 s.hi s.lo s.bits y
    · cases withinF (gB y.cells 0) (gI y.cells 1) (gI y.cells 2) (gI y.cells 3) s.v6 s.hi s.lo s.bits
      · simp only [Bool.not_false, cond_t, cond_f, Bool.true_and]
        rw [h5 _ ⟨_, rfl⟩, decK_map]
      · simp only [Bool.not_false, cond_t, cond_f, Bool.true_and, oB_s]
        rw [h5 _ ⟨_, rfl⟩, decK_map]
    · simp only [Bool.not_true, cond_f, Bool.false_and]
      rw [h5 _ ⟨_, rfl⟩, decK_map]
theorem p_search (s : Sub) (hs : s.ok) (ks : List Key) (hks : ks.length ≤ 18446744073709551615) (b10 : Bool) (b11 b12 : Int) :
    allocate_Address_L65 s.v6 s.hi s.lo s.bits b10 b11 b12 s.v6 s.hi s.lo s.v6 s.last.1 s.last.2 (ks.map entK) (fun _ => some (a0, 22)) FU s.v6 s.hi s.lo = some (goS s ks s.fst) := by
  obtain ⟨k1, k2, k3⟩ := last_ok hs.p hs.u1 hs.u2
  rw [allocate_Address_L65_eq]
  have key := loop_is (fun n (q : Bool × Ad) => allocate_Address_L65_i s.v6 s.hi s.lo s.bits b10 b11 b12 s.v6 s.hi s.lo s.v6 s.last.1 s.last.2 (ks.map entK) (fun _ => some (a0, 22)) n q.1 q.2.1 q.2.2)
    (fun q nx => allocate_Address_L65_b s.v6 s.hi s.lo s.bits b10 b11 b12 s.v6 s.hi s.lo s.v6 s.last.1 s.last.2 (ks.map entK) q.1 q.2.1 q.2.2 (fun a b c => nx (a, (b, c))) (fun _ => some (a0, 22))) (fun _ _ => rfl)
    (fun q => q.1 = s.v6 ∧ aok s.v6 q.2 ∧ numA q.2 ≤ numA s.last) (fun q => muA s ks q.2) (fun q => some (goS s ks q.2)) ?_ FU (s.v6, s.fst) ⟨rfl, k1, k3⟩ (FU_big (by
      have := laterK_len ks s.fst
      show muA s ks s.fst ≤ _
      unfold muA
      split <;> omega))
  · exact key
  · rintro ⟨v, a⟩ ⟨rfl, h1, h2⟩ nx hn
    simp only at h1 h2
    show allocate_Address_L65_b s.v6 s.hi s.lo s.bits b10 b11 b12 s.v6 s.hi s.lo s.v6 s.last.1 s.last.2 (ks.map entK) s.v6 a.1 a.2 (fun a b c => nx (a, (b, c))) (fun _ => some (a0, 22)) = some (goS s ks a)
    rw [goS_eq]
    unfold allocate_Address_L65_b
    have he : ((s.v6 == s.v6) && ((a.1 == s.last.1) && ((a.2 == s.last.2) && true))) = adB a s.last := by simp [adB]
    rw [he]
    cases h3 : adB a s.last with
    | true => rfl
    | false =>
      have hne : a ≠ s.last := fun e => by rw [adB_iff.2 e] at h3; cases h3
      have hlt : numA a < numA s.last := by
        have : numA a ≠ numA s.last := fun e => hne (num_inj h1 k2 e)
        omega
      have hok := next_ok h1 k2 hlt
      have hnum := next_num (a := a)
      simp only [Bool.not_false, cond_t, cond_f, p_pAdd h1 k2 hlt, oB_s, allocate_Address_J79_eq, allocate_Address_J79_i]
      show (bif (!((((s.v6 == s.v6) && (((nextA a).1 == s.last.1) && (((nextA a).2 == s.last.2) && true))) && !s.v6) && decide (s.bits ≤ 30))) then mgB kdA (keyV (s.v6, nextA a)) (ks.map entK) (fun q1 => bif fitV (.one .b) q1 then (bif (!(aB q1)) then some (addrV s.v6 (nextA a), 0) else nx (s.v6, nextA a)) else none) (some (addrV s.v6 (nextA a), 0)) else nx (s.v6, nextA a)) = _
      have hb : ((((s.v6 == s.v6) && (((nextA a).1 == s.last.1) && (((nextA a).2 == s.last.2) && true))) && !s.v6) && decide (s.bits ≤ 30)) = broadB s (nextA a) := by simp [broadB, adB]
      rw [hb, mgB_keys]
      have hnx : freeB s ks (nextA a) = false → nx (s.v6, nextA a) = some (goS s ks (nextA a)) := fun hf => hn (s.v6, nextA a) ⟨rfl, hok, by simp only [hnum]; omega⟩ (muA_next hne hf)
      cases h4 : broadB s (nextA a) with
      | true =>
        have hf : freeB s ks (nextA a) = false := by simp [freeB, h4]
        simp only [Bool.not_true, cond_f, hf, hnx hf]
      | false =>
        cases h5 : hasK ks (s.v6, nextA a) with
        | true =>
          have hf : freeB s ks (nextA a) = false := by simp [freeB, h5]
          simp only [Bool.not_false, cond_t, hf, cond_f]
          exact hnx hf
        | false =>
          have hf : freeB s ks (nextA a) = true := by simp [freeB, h4, h5]
          simp only [Bool.not_false, cond_t, cond_f, hf]

def toSub (v6 : Bool) (hi lo bits : Int) : Sub := ⟨v6, hi, lo, bits⟩
def addressF (l hosts : List AV) (s : Sub) : AV × Int := match l.find? (atP s.v6 s.hi s.lo s.bits) with
  | none => (a0, 11)
  | some y => bif gI y.cells 4 != 2 then (a0, 21) else goS s (usedK s l hosts) s.fst
theorem p_pAddress (l hosts : List AV) (hl : blksFit l) (hh : hostsFit hosts) (s : Sub) (hs : ∀ y, l.find? (atP s.v6 s.hi s.lo s.bits) = some y → s.ok) : allocate_Address l hosts s.v6 s.hi s.lo s.bits = some (addressF l hosts s) := by
  rw [allocate_Address_eq]; unfold allocate_Address_i addressF
  simp only [p_pFind l hl, oB_s]
  unfold findF
  cases hf : l.find? (atP s.v6 s.hi s.lo s.bits) with
  | none => rfl
  | some y =>
    have hok := hs y hf
    simp only [Bool.not_true, cond_f]
    rw [show gI (blkV y).cells 4 = gI y.cells 4 from rfl]
    cases gI y.cells 4 != 2 with
    | true => rfl
    | false =>
      simp only [cond_f, p_pBounds hok.p, oB_s]
      have h1 := p_hosts hosts hh [] l s.v6 s.hi s.lo s.bits false 0 0 s.v6 s.hi s.lo s.v6 s.last.1 s.last.2
      simp only [List.map_nil] at h1
      show allocate_Address_L27 l hosts (hosts.length : Int) s.v6 s.hi s.lo s.bits false 0 0 s.v6 s.hi s.lo s.v6 s.last.1 s.last.2 _ FU 0 [] = _
      rw [h1]
      show allocate_Address_L44 l (l.length : Int) s.v6 s.hi s.lo s.bits false 0 0 s.v6 s.hi s.lo s.v6 s.last.1 s.last.2 _ FU 0 _ = _
      rw [p_blocks l hl]
      have hn := usedK_len s l hosts
      exact p_search s hok _ (by have := hl.1; have := hh.1; unfold usedK at hn; omega) false 0 0

/-! ### The document's Address -/
def edgeB (s : Sub) (a : Ad) : Bool := bif adB a s.fst then true else bif adB a s.last then (bif !s.v6 then decide (s.bits ≤ 30) else false) else false
def unusedF (s : Sub) (l hosts : List AV) (a : Ad) : Bool :=
  bif edgeB s a then false
  else bif hosts.any (fun y => keyB (hostK y) (s.v6, a)) then false else bif l.any (fun y => s.holds y && contF (gB y.cells 0) (gI y.cells 1) (gI y.cells 2) (gI y.cells 3) s.v6 a.1 a.2) then false else true
theorem p_unused (l hosts : List AV) (hl : blksFit l) (hh : hostsFit hosts) (s : Sub) (a : Ad) (u1 : uok a.1) (u2 : uok a.2) :
    ddiref47_unused l hosts s.v6 s.hi s.lo s.bits s.v6 s.hi s.lo s.v6 s.last.1 s.last.2 s.v6 a.1 a.2 = some (unusedF s l hosts a) := by
  rw [ddiref47_unused_eq]; unfold ddiref47_unused_i unusedF
  have hblk : ddiref47_unused_L35 l s.v6 s.hi s.lo s.bits s.v6 a.1 a.2 (fun _ => some true) FU 0 = some (bif l.any (fun y => s.holds y && contF (gB y.cells 0) (gI y.cells 1) (gI y.cells 2) (gI y.cells 3) s.v6 a.1 a.2) then false else true) := by
    rw [ddiref47_unused_L35_eq, for_list0 l hl.1 (ddiref47_unused_L35_i l s.v6 s.hi s.lo s.bits s.v6 a.1 a.2 fun _ => some true) (fun i nx => ddiref47_unused_L35_b l i s.v6 s.hi s.lo s.bits s.v6 a.1 a.2 nx fun _ => some true) (fun _ _ => rfl) (fun r => some (bif r.any (fun y => s.holds y && contF (gB y.cells 0) (gI y.cells 1) (gI y.cells 2) (gI y.cells 3) s.v6 a.1 a.2) then false else true))]
    · intro nx; simp [ddiref47_unused_L35_b]
    · intro i y r nx h1 h2 h3 h4 h5
      have hy := hl.2 y (List.mem_of_getElem? h2)
      have h6 : (i : Int) < (l.length : Int) := by omega
      unfold ddiref47_unused_L35_b
      simp only [h6, decide_true, cond_t, ixB_nat, h2, oB_s, hy.1, ddiref47_unused_J47_eq, ddiref47_unused_J47_i, p_rWithin _ _ _ _ _ _ _ _ hy.2.1 hy.2.2.1, p_rContains _ _ _ _ _ _ _ u1 u2, h4, h5, List.any_cons]
      rw [show ((gB y.cells 0 == s.v6) && ((gI y.cells 1 == s.hi) && ((gI y.cells 2 == s.lo) && ((gI y.cells 3 == s.bits) && true)))) = atP s.v6 s.hi s.lo s.bits y from rfl]
      unfold Sub.holds
      cases atP s.v6 s.hi s.lo s.bits y <;> cases withinF (gB y.cells 0) (gI y.cells 1) (gI y.cells 2) (gI y.cells 3) s.v6 s.hi s.lo s.bits <;> cases contF (gB y.cells 0) (gI y.cells 1) (gI y.cells 2) (gI y.cells 3) s.v6 a.1 a.2 <;> rfl
  have hhst : ddiref47_unused_L14 l hosts s.v6 s.hi s.lo s.bits s.v6 a.1 a.2 (fun _ => ddiref47_unused_L35 l s.v6 s.hi s.lo s.bits s.v6 a.1 a.2 (fun _ => some true) FU 0) FU 0 = some (bif hosts.any (fun y => keyB (hostK y) (s.v6, a)) then false else bif l.any (fun y => s.holds y && contF (gB y.cells 0) (gI y.cells 1) (gI y.cells 2) (gI y.cells 3) s.v6 a.1 a.2) then false else true) := by
    rw [hblk]
    rw [ddiref47_unused_L14_eq, for_list0 hosts hh.1 (ddiref47_unused_L14_i l hosts s.v6 s.hi s.lo s.bits s.v6 a.1 a.2 fun _ => some (bif l.any (fun y => s.holds y && contF (gB y.cells 0) (gI y.cells 1) (gI y.cells 2) (gI y.cells 3) s.v6 a.1 a.2) then false else true)) (fun i nx => ddiref47_unused_L14_b l hosts i s.v6 s.hi s.lo s.bits s.v6 a.1 a.2 nx fun _ => some (bif l.any (fun y => s.holds y && contF (gB y.cells 0) (gI y.cells 1) (gI y.cells 2) (gI y.cells 3) s.v6 a.1 a.2) then false else true)) (fun _ _ => rfl) (fun r => some (bif r.any (fun y => keyB (hostK y) (s.v6, a)) then false else bif l.any (fun y => s.holds y && contF (gB y.cells 0) (gI y.cells 1) (gI y.cells 2) (gI y.cells 3) s.v6 a.1 a.2) then false else true))]
    · intro nx; simp [ddiref47_unused_L14_b]
    · intro i y r nx h1 h2 h3 h4 h5
      have hy : fitC T_api_Host y.cells = true := hh.2 y (List.mem_of_getElem? h2)
      have h6 : (i : Int) < (hosts.length : Int) := by omega
      unfold ddiref47_unused_L14_b
      simp only [h6, decide_true, cond_t, ixB_nat, h2, oB_s, hy, h4, h5, List.any_cons]
      rw [show ((gB y.cells 1 == s.v6) && ((gI y.cells 2 == a.1) && ((gI y.cells 3 == a.2) && true))) = keyB (hostK y) (s.v6, a) from rfl]
      cases keyB (hostK y) (s.v6, a) <;> rfl
  rw [hhst, ddiref47_unused_J4_eq]
  unfold ddiref47_unused_J4_i edgeB
  have e1 : ((s.v6 == s.v6) && ((a.1 == s.hi) && ((a.2 == s.lo) && true))) = adB a s.fst := by simp [adB, Sub.fst]
  have e2 : ((s.v6 == s.v6) && ((a.1 == s.last.1) && ((a.2 == s.last.2) && true))) = adB a s.last := by simp [adB]
  rw [e1, e2]
  cases adB a s.fst <;> cases adB a s.last <;> cases s.v6 <;> cases decide (s.bits ≤ 30) <;> rfl
theorem keyB_comm (a b : Key) : keyB a b = keyB b a := by
  cases h : keyB b a with
  | true => rw [keyB_iff.1 h]; exact keyB_iff.2 rfl
  | false =>
    rw [Bool.eq_false_iff]
    intro h2
    rw [keyB_iff.1 h2, keyB_iff.2 rfl] at h
    cases h
/-- In a table the document's word and the program's are one. -/
theorem unused_free {s : Sub} {l hosts : List AV} (hl : blksFit l) (ht : Table l) {z : AV} (hz : l.find? (atP s.v6 s.hi s.lo s.bits) = some z) (hk : gI z.cells 4 = 2) {a : Ad} (u1 : uok a.1) (u2 : uok a.2) (hne : a ≠ s.fst) :
    unusedF s l hosts a = freeB s (usedK s l hosts) a := by
  have hzm := List.mem_of_find?_eq_some hz
  have hza := List.find?_some hz
  obtain ⟨z1, z2, z3, z4⟩ := atP_iff.1 hza
  have hb : (l.any fun y => s.holds y && contF (gB y.cells 0) (gI y.cells 1) (gI y.cells 2) (gI y.cells 3) s.v6 a.1 a.2) = l.any fun y => s.holds y && keyB (s.v6, a) (blkK y) := by
    rw [Bool.eq_iff_iff, List.any_eq_true, List.any_eq_true]
    have one : ∀ y, y ∈ l → (s.holds y && contF (gB y.cells 0) (gI y.cells 1) (gI y.cells 2) (gI y.cells 3) s.v6 a.1 a.2) = (s.holds y && keyB (s.v6, a) (blkK y)) := by
      intro y hy
      cases hh : s.holds y with
      | false => rfl
      | true =>
        simp only [Sub.holds, Bool.and_eq_true, Bool.not_eq_true'] at hh
        obtain ⟨j, hj⟩ := List.getElem?_of_mem hy
        have hp := (ht j y hj).p
        have hw : withinY y z = true := by unfold withinY; rw [z1, z2, z3, z4]; exact hh.2
        have hn : atP (gB z.cells 0) (gI z.cells 1) (gI z.cells 2) (gI z.cells 3) y = false := by rw [z1, z2, z3, z4]; exact hh.1
        have h32 := ht.host hl hy hzm hk hw hn
        rw [cont_host hp h32 u1 u2, keyB_comm]
        rfl
    constructor
    · rintro ⟨y, hy, h⟩; exact ⟨y, hy, by rw [← one y hy]; exact h⟩
    · rintro ⟨y, hy, h⟩; exact ⟨y, hy, by rw [one y hy]; exact h⟩
  have hhs : (hosts.any fun y => keyB (hostK y) (s.v6, a)) = hosts.any fun y => keyB (s.v6, a) (hostK y) := by
    congr 1; funext y; exact keyB_comm _ _
  have hf : adB a s.fst = false := by
    rw [Bool.eq_false_iff]; intro h; exact hne (adB_iff.1 h)
  unfold unusedF freeB usedK
  rw [blocksK_has, hostsK_has, hb, hhs]
  simp only [edgeB, broadB, hf, cond_f, hasK, List.any_nil, Bool.false_or]
  cases adB a s.last <;> cases s.v6 <;> cases decide (s.bits ≤ 30) <;> cases (hosts.any fun y => keyB (s.v6, a) (hostK y)) <;> cases (l.any fun y => s.holds y && keyB (s.v6, a) (blkK y)) <;> simp [*]

end Go.Proofs.Ytmfghgaboaocgaa.Dn
