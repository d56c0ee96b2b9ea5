import Derived.Test.YtmfghgaboaocgaaProg
import Derived.Test.YtmfghgaboaocgaaFrLibD
import Derived.Test.YtmfghgaboaocgaaFrDn47x1
set_option linter.all false
namespace Go.Proofs.Ytmfghgaboaocgaa.Dn
open Go Go.Pev
set_option linter.unusedVariables false
set_option linter.unusedSimpArgs false
set_option maxRecDepth 100000
set_option maxHeartbeats 4000000
def quc : Shp := ⟨[(0, .one (.own 0)), (1, .one (.l (.sl 8))), (2, .st (lk qc))], [.arr true 4]⟩
noncomputable section
def qft (rec : (List AV) → (List AV) → Bool → Int → Int → Int → Option (List AV)) (xs cl : List AV) : Option (List AV) := chk (q1k quc (qk (.own 0 xs.length :: cl)) (M1 4 xs)) (cond (hdS quc (qk (.own 0 xs.length :: cl)) (M1 4 xs)) (rec xs (gL [(qk (.own 0 xs.length :: cl)) 1] 0) (gB ((qk (.own 0 xs.length :: cl)) 2).cells 0) (gI ((qk (.own 0 xs.length :: cl)) 2).cells 1) (gI ((qk (.own 0 xs.length :: cl)) 2).cells 2) (gI ((qk (.own 0 xs.length :: cl)) 2).cells 3)) none)
def qlr  (a0 : List AV) (Aq : Bool) (Ar As At : Int) (K : Ex → Env → Mem → Option (List AV)) := (fun z_a2 => K (.exit 0) (qi [(0, (.own 0 a0.length)), (5, (.ptr 1 0)), (7, (.own 2 z_a2.length))]) (qh [(some (.arr true 4 a0)), (some (.box true (qa Aq Ar As At))), (some (.arr true 8 z_a2))]))
def q7k : Shp := ⟨[(0, .one (.own 0)), (5, .one (.ptr 1 0)), (7, .one (.own 2)), (13, .one (.l (.sl 8))), (14, .one (.l (.i .i64))), (15, .one (.l (.i .i64)))], [.arr true 4, .box true (lk qc), .arr true 8]⟩
def qrs (v13 : List AV) (v14 v15 : Int) (a0 : List AV) (Aq : Bool) (Ar As At : Int) (a2 : List AV) : Env := qi [(0, (.own 0 a0.length)), (5, (.ptr 1 0)), (7, (.own 2 a2.length)), (13, (.sl 8 v13)), (14, (.int .i64 v14)), (15, (.int .i64 v15))]
def qrt (v13 : List AV) (v14 v15 : Int) (a0 : List AV) (Aq : Bool) (Ar As At : Int) (a2 : List AV) : Mem := qh [(some (.arr true 4 a0)), (some (.box true (qa Aq Ar As At))), (some (.arr true 8 a2))]
def qjb  (rec : (List AV) → (List AV) → Bool → Int → Int → Int → Option (List AV)) (v13 : List AV) (v14 v15 : Int) (a0 : List AV) (Aq : Bool) (Ar As At : Int) (a2 : List AV) (next : Int → (List AV) → Option (List AV)) (kx0 : (List AV) → Option (List AV)) : Option (List AV) :=
  (bif (decide (v15 < v14)) then (oB (ixB v13 v15) fun y1 => (bif fitC qj y1.cells then (oB (qfs Aq Ar As At (gB y1.cells 0) (gI y1.cells 1) (gI y1.cells 2) (gI y1.cells 3)) fun r2 => (bif r2 then (bif hd a0 a0.length then (some a0) else none) else (oB (qk0 (gB y1.cells 0) (gI y1.cells 1) (gI y1.cells 2) (gI y1.cells 3) Aq Ar As At) fun r3 => (bif r3 then (bif hd a2 a2.length then (bif hd ([(.agg [(.bool (gB y1.cells 0)), (.int .u64 (gI y1.cells 1)), (.int .u64 (gI y1.cells 2)), (.int .i64 (gI y1.cells 3)), (.int .i64 (gI y1.cells 4)), (.str (gS y1.cells 5)), (.str (gS y1.cells 6)), (.int .i64 (gI y1.cells 7))])] : List AV) (([(.agg [(.bool (gB y1.cells 0)), (.int .u64 (gI y1.cells 1)), (.int .u64 (gI y1.cells 2)), (.int .i64 (gI y1.cells 3)), (.int .i64 (gI y1.cells 4)), (.str (gS y1.cells 5)), (.str (gS y1.cells 6)), (.int .i64 (gI y1.cells 7))])] : List AV).length) then (bif decide ((a2.length + ([(.agg [(.bool (gB y1.cells 0)), (.int .u64 (gI y1.cells 1)), (.int .u64 (gI y1.cells 2)), (.int .i64 (gI y1.cells 3)), (.int .i64 (gI y1.cells 4)), (.str (gS y1.cells 5)), (.str (gS y1.cells 6)), (.int .i64 (gI y1.cells 7))])] : List AV).length) * 80 ≤ 140737488355328) then (next (IntKind.i64.wrap (v15 + (1 : Int))) (a2 ++ ([(.agg [(.bool (gB y1.cells 0)), (.int .u64 (gI y1.cells 1)), (.int .u64 (gI y1.cells 2)), (.int .i64 (gI y1.cells 3)), (.int .i64 (gI y1.cells 4)), (.str (gS y1.cells 5)), (.str (gS y1.cells 6)), (.int .i64 (gI y1.cells 7))])] : List AV))) else none) else none) else none) else (next (IntKind.i64.wrap (v15 + (1 : Int))) a2))))) else none)) else (kx0 a2))
def qnm  (rec : (List AV) → (List AV) → Bool → Int → Int → Int → Option (List AV)) (v13 : List AV) (v14 : Int) (a0 : List AV) (Aq : Bool) (Ar As At : Int) (kx0 : (List AV) → Option (List AV)) : Nat → Int → (List AV) → Option (List AV)
  | 0 => (fun _ _ => none)
  | n + 1 => (fun v15 a2 => qjb rec v13 v14 v15 a0 Aq Ar As At a2 (qnm rec v13 v14 a0 Aq Ar As At kx0 n) kx0)
def qmq  (rec : (List AV) → (List AV) → Bool → Int → Int → Int → Option (List AV)):= hull (qnm rec)
theorem qyv  (rec : (List AV) → (List AV) → Bool → Int → Int → Int → Option (List AV)): qmq rec = qnm rec := ql _
def qjc (rec : (List AV) → (List AV) → Bool → Int → Int → Int → Option (List AV)) : AC (List AV) :=
  .seq (.reg [ao 16 (.bin .lss 15 14)]) (.seq (.cond 16 (.skip) (.seq (.view [.sel [0, 5, 7] [0, 1, 2]]) (.exit 0))) (.seq (.block 1 (.seq (.reg [ao 17 (.ia 8 13 15),
 .st (.etac 17 qj),
 ao 18 (.load true 8 17),
 ao 9 (.alloc [(.bool false), (.int .u64 0), (.int .u64 0), (.int .i64 0), (.int .i64 0), (.str []), (.str []), (.int .i64 0)]),
 an (.store 8 9 18)]) (.seq (.seq (.reg [ao 19 (.load true 4 5),
 ao 20 (.fa 0 9),
 ao 21 (.load true 4 20),
 .call (po 22 (.call 23 [19, 21])) 23 qf3]) (.cond 22 (.seq (.reg [ao 23 (.mv 0),
 ao 6 (.mv 23)]) (.ret)) (.skip))) (.seq (.reg [ao 24 (.fa 0 9),
 ao 25 (.load true 4 24),
 ao 26 (.load true 4 5),
 .call (po 27 (.call 24 [25, 26])) 24 qp8]) (.cond 27 (.reg [ao 28 (.mv 7),
 ao 29 (.load true 8 9),
 ao 30 (.bsl 8 [29]),
 ao 31 (.app 8 80 28 30),
 ao 7 (.mv 31)]) (.skip)))))) (.seq (.reg [ao 32 (.bin .add 15 (.c (.int .i64 1))),
 ao 15 (.mv 32)]) (.view [.sel [0, 5, 7, 13, 14, 15] [0, 1, 2]]))))
theorem qbai (rec : (List AV) → (List AV) → Bool → Int → Int → Int → Option (List AV)) (hrec : qsk Try.prog 84 4 (qft rec)) : AC.ok Try.prog (TIof Try.prog) 56 1 (qbk [.t 6] (grK 4)) (qjc rec) := qn (zA (qe.ok qkb) (zA (qe.ok qzr) trivial))
theorem q7l (rec : (List AV) → (List AV) → Bool → Int → Int → Int → Option (List AV)) (v13 : List AV) (v14 v15 : Int) (a0 : List AV) (Aq : Bool) (Ar As At : Int) (a2 : List AV) (K : Ex → Env → Mem → Option (List AV)) : den 1 (qbk [.t 6] (grK 4)) (qjc rec) (qrs v13 v14 v15 a0 Aq Ar As At a2) (qrt v13 v14 v15 a0 Aq Ar As At a2) K = qjb rec v13 v14 v15 a0 Aq Ar As At a2 (fun z_v15 z_a2 => K .norm (qrs v13 v14 z_v15 a0 Aq Ar As At z_a2) (qrt v13 v14 z_v15 a0 Aq Ar As At z_a2)) (qlr a0 Aq Ar As At K) := by kernel_rfl
theorem qbb8 (rec : (List AV) → (List AV) → Bool → Int → Int → Int → Option (List AV)) (v13 : List AV) (v14 : Int) (a0 : List AV) (Aq : Bool) (Ar As At : Int) (K : Ex → Env → Mem → Option (List AV)) : ∀ (n : Nat) (v15 : Int) (a2 : List AV), qht (den 1 (qbk [.t 6] (grK 4)) (qjc rec)) n (qrs v13 v14 v15 a0 Aq Ar As At a2) (qrt v13 v14 v15 a0 Aq Ar As At a2) K = qmq rec v13 v14 a0 Aq Ar As At (qlr a0 Aq Ar As At K) n v15 a2 := by
  rw [qyv]
  intro n
  induction n with
  | zero => intros; rfl
  | succ n ih =>
 intro v15 a2
 exact (q7l rec v13 v14 v15 a0 Aq Ar As At a2 (itK (den 1 (qbk [.t 6] (grK 4)) (qjc rec)) n K)).trans (congrArg (fun q => qjb rec v13 v14 v15 a0 Aq Ar As At a2 q (qlr a0 Aq Ar As At K)) (funext fun v15 => funext fun a2 => ih v15 a2))
def qzu (rec : (List AV) → (List AV) → Bool → Int → Int → Int → Option (List AV)) := subE (R := List AV) q7k fun t m K => qb (bxC (m.s 1)) (qmq rec (gL [t 13] 0) (gI [t 14] 0) (arL (m.s 0))) (qlr (arL (m.s 0)) (gB (bxC (m.s 1)) 0) (gI (bxC (m.s 1)) 1) (gI (bxC (m.s 1)) 2) (gI (bxC (m.s 1)) 3) K) FU (gI [t 15] 0) (arL (m.s 2))
theorem qbb9 (rec : (List AV) → (List AV) → Bool → Int → Int → Int → Option (List AV)) (hrec : qsk Try.prog 84 4 (qft rec)) : qc9 Try.prog (TIof Try.prog) 56 1 (qbk [.t 6] (grK 4)) (.loop (scOf (qjc rec))) (qzu rec) :=
  qjh tabOk follows (qbai rec hrec) (qbe (by kernel_rfl)) fun t m K => qbb8 rec _ _ _ _ _ _ _ K FU _ _
def qsr (rec : (List AV) → (List AV) → Bool → Int → Int → Int → Option (List AV)) (a0 v1 : List AV) (A2 : Bool) (A3 A4 A5 : Int) : Option (List AV) :=
  (bif (hd a0 (a0.length) && (hd ([] : List AV) (([] : List AV).length) && true)) then (qmq rec v1 (v1.length : Int) a0 A2 A3 A4 A5 (fun a2q1 => (bif ((a2q1.length : Int) == (0 : Int)) then (bif hd a0 a0.length then (bif hd ([(.agg [(.bool A2), (.int .u64 A3), (.int .u64 A4), (.int .i64 A5)])] : List AV) (([(.agg [(.bool A2), (.int .u64 A3), (.int .u64 A4), (.int .i64 A5)])] : List AV).length) then (bif decide ((a0.length + ([(.agg [(.bool A2), (.int .u64 A3), (.int .u64 A4), (.int .i64 A5)])] : List AV).length) * 32 ≤ 140737488355328) then (bif hd (a0 ++ ([(.agg [(.bool A2), (.int .u64 A3), (.int .u64 A4), (.int .i64 A5)])] : List AV)) ((a0 ++ ([(.agg [(.bool A2), (.int .u64 A3), (.int .u64 A4), (.int .i64 A5)])] : List AV)).length) then (some (a0 ++ ([(.agg [(.bool A2), (.int .u64 A3), (.int .u64 A4), (.int .i64 A5)])] : List AV))) else none) else none) else none) else none) else (oB (qgl A2 A3 A4 A5) fun r2 => (bif (!r2.2.2) then (bif hd a0 a0.length then (some a0) else none) else (bif hd a2q1 a2q1.length then (bif hd a0 a0.length then (oB (bif (hd a0 (a0.length) && true) then (rec a0 a2q1 (gB r2.1.cells 0) (gI r2.1.cells 1) (gI r2.1.cells 2) (gI r2.1.cells 3)) else none) fun r3 => (bif hd r3 r3.length then (oB (bif (hd r3 (r3.length) && true) then (rec r3 a2q1 (gB r2.2.1.cells 0) (gI r2.2.1.cells 1) (gI r2.2.1.cells 2) (gI r2.2.1.cells 3)) else none) fun r4 => (bif hd r4 r4.length then (some r4) else none)) else none)) else none) else none))))) FU (0 : Int) ([] : List AV)) else none)
def qe0 : Nat → (List AV) → (List AV) → Bool → Int → Int → Int → Option (List AV)
  | 0 => (fun _ _ _ _ _ _ => none)
  | n + 1 => (fun a0 v1 A2 A3 A4 A5 => qsr (qe0 n) a0 v1 A2 A3 A4 A5)
def qwu : (List AV) → (List AV) → Bool → Int → Int → Int → Option (List AV) := hull (qe0 FU)
theorem q2h : qwu = qe0 FU := ql _
def qod (rec : (List AV) → (List AV) → Bool → Int → Int → Int → Option (List AV)) : AC (List AV) :=
  .seq (.reg [ao 5 (.box 2),
 ao 6 (.mv (.c .nils))]) (.seq (.reg [ao 7 (.mv (.c .nils))]) (.seq (.seq (.reg [ao 13 (.mv 1),
 ao 14 (.len false 13),
 ao 15 (.mv (.c (.int .i64 0)))]) (.block 0 (.seq (.view [.own 7 8, .sel [0, 5, 7, 13, 14, 15] [0, 1, 2]]) (.sub (.loop (scOf (qjc rec))) (qzu rec))))) (.seq (.seq (.reg [ao 33 (.mv 7),
 ao 34 (.len false 33),
 ao 35 (.bin .eql 34 (.c (.int .i64 0)))]) (.cond 35 (.seq (.reg [ao 36 (.mv 0),
 ao 37 (.load true 4 5),
 ao 38 (.bsl 4 [37]),
 ao 39 (.app 4 32 36 38),
 ao 6 (.mv 39)]) (.ret)) (.skip))) (.seq (.reg [ao 41 (.load true 4 5),
 .call (po 42 (.call 47 [41])) 47 qrr,
 ao 40 (.mv 42),
 ao 43 (.ext 40 0),
 ao 44 (.ext 40 1),
 ao 45 (.ext 40 2),
 ao 10 (.alloc [(.bool false), (.int .u64 0), (.int .u64 0), (.int .i64 0)]),
 ao 11 (.alloc [(.bool false), (.int .u64 0), (.int .u64 0), (.int .i64 0)]),
 an (.store 4 10 43),
 an (.store 4 11 44),
 ao 12 (.mv 45)]) (.seq (.seq (.reg [ao 46 (.mv 12),
 ao 47 (.un .not 46)]) (.cond 47 (.seq (.reg [ao 48 (.mv 0),
 ao 6 (.mv 48)]) (.ret)) (.skip))) (.seq (.seq (.view [.snap 7]) (.draw4 [(po 49 (.mv 0)), (po 50 (.mv 7)), (po 51 (.load true 4 10))] 52 84 4 49 [50, 51] (qft rec) [(po 53 (.mv 7)), (po 54 (.load true 4 11))] [.callr (po 55 (.call 84 [52, 53, 54])) 84 (qbe8 4 (qft rec)),
 ao 6 (.mv 55)])) (.ret)))))))
theorem qbfy (rec : (List AV) → (List AV) → Bool → Int → Int → Int → Option (List AV)) (hrec : qsk Try.prog 84 4 (qft rec)) : AC.ok Try.prog (TIof Try.prog) 56 1 (qbk [.t 6] (grK 4)) (qod rec) := qn (zA (qbb9 rec hrec) (zA (qe.ok q07) (zA hrec (zA (qbht hrec) trivial))))
theorem qbii (rec : (List AV) → (List AV) → Bool → Int → Int → Int → Option (List AV)) (v1 : List AV) (A2 : Bool) (A3 A4 A5 : Int) (a0 : List AV) : den 1 (qbk [.t 6] (grK 4)) (qod rec) (qi [(0, (.own 0 a0.length)), (1, (.sl 8 v1)), (2, .agg (qa A2 A3 A4 A5))]) (qh [(some (.arr true 4 a0))]) (kend (qbk [.t 6] (grK 4))) = qsr rec a0 v1 A2 A3 A4 A5 := by
  kernel_rfl
theorem qbij : cFn (TIof Try.prog) Try.f84 = some ⟨56, [.t 6], scOf (qod (fun _ _ _ _ _ _ => none))⟩ := by kernel_rfl
theorem qbik (rec : (List AV) → (List AV) → Bool → Int → Int → Int → Option (List AV)) : (qod rec).er = some (scOf (qod (fun _ _ _ _ _ _ => none))) := by kernel_rfl
theorem q2i : ∀ (k : Nat), qsk Try.prog 84 4 (qft (qe0 k))
  | 0 => fun xs cl zs h => by
   unfold qft at h
   obtain ⟨h1, h2⟩ := qti h
   obtain ⟨h3, h4⟩ := qm h2
   cases h4
  | k + 1 => fun xs cl zs h => by
   unfold qft at h
   obtain ⟨h1, h2⟩ := qti h
   obtain ⟨h3, h4⟩ := qm h2
   exact qbkr tabOk follows Try.func84 (by kernel_rfl) qbij (qbfy (qe0 k) (q2i k)) (qbik (qe0 k)) quc (q9p h1 h3) ((qbii (qe0 k) (gL [(qk (.own 0 xs.length :: cl)) 1] 0) (gB ((qk (.own 0 xs.length :: cl)) 2).cells 0) (gI ((qk (.own 0 xs.length :: cl)) 2).cells 1) (gI ((qk (.own 0 xs.length :: cl)) 2).cells 2) (gI ((qk (.own 0 xs.length :: cl)) 2).cells 3) (arL ((M1 4 xs).s 0))).trans h4)
theorem qbil : qsk Try.prog 84 4 (qft qwu) := by
  have h := q2i FU
  rw [← q2h] at h
  exact h
def qlc  (Aa : Bool) (Ab Ac Ad : Int) (K : Ex → Env → Mem → Option (List AV)) := (fun z_a1 => K (.exit 0) (qi [(3, (.ptr 0 0)), (7, (.own 1 z_a1.length))]) (qh [(some (.box true (qa Aa Ab Ac Ad))), (some (.arr true 8 z_a1))]))
def q55 : Shp := ⟨[(3, .one (.ptr 0 0)), (7, .one (.own 1)), (23, .one (.l (.sl 8))), (24, .one (.l (.i .i64))), (25, .one (.l (.i .i64)))], [.box true (lk qc), .arr true 8]⟩
def qqc (v23 : List AV) (v24 v25 : Int) (Aa : Bool) (Ab Ac Ad : Int) (a1 : List AV) : Env := qi [(3, (.ptr 0 0)), (7, (.own 1 a1.length)), (23, (.sl 8 v23)), (24, (.int .i64 v24)), (25, (.int .i64 v25))]
def qqd (v23 : List AV) (v24 v25 : Int) (Aa : Bool) (Ab Ac Ad : Int) (a1 : List AV) : Mem := qh [(some (.box true (qa Aa Ab Ac Ad))), (some (.arr true 8 a1))]
def qhx  (v23 : List AV) (v24 v25 : Int) (Aa : Bool) (Ab Ac Ad : Int) (a1 : List AV) (next : Int → (List AV) → Option (List AV)) (kx0 : (List AV) → Option (List AV)) : Option (List AV) :=
  (bif (decide (v25 < v24)) then (oB (ixB v23 v25) fun y1 => (bif fitC qj y1.cells then (oB (ql3 (gB y1.cells 0) (gI y1.cells 1) (gI y1.cells 2) (gI y1.cells 3) Aa Ab Ac Ad) fun r2 => (bif r2 then (bif hd a1 a1.length then (bif hd ([(.agg [(.bool (gB y1.cells 0)), (.int .u64 (gI y1.cells 1)), (.int .u64 (gI y1.cells 2)), (.int .i64 (gI y1.cells 3)), (.int .i64 (gI y1.cells 4)), (.str (gS y1.cells 5)), (.str (gS y1.cells 6)), (.int .i64 (gI y1.cells 7))])] : List AV) (([(.agg [(.bool (gB y1.cells 0)), (.int .u64 (gI y1.cells 1)), (.int .u64 (gI y1.cells 2)), (.int .i64 (gI y1.cells 3)), (.int .i64 (gI y1.cells 4)), (.str (gS y1.cells 5)), (.str (gS y1.cells 6)), (.int .i64 (gI y1.cells 7))])] : List AV).length) then (bif decide ((a1.length + ([(.agg [(.bool (gB y1.cells 0)), (.int .u64 (gI y1.cells 1)), (.int .u64 (gI y1.cells 2)), (.int .i64 (gI y1.cells 3)), (.int .i64 (gI y1.cells 4)), (.str (gS y1.cells 5)), (.str (gS y1.cells 6)), (.int .i64 (gI y1.cells 7))])] : List AV).length) * 80 ≤ 140737488355328) then (next (IntKind.i64.wrap (v25 + (1 : Int))) (a1 ++ ([(.agg [(.bool (gB y1.cells 0)), (.int .u64 (gI y1.cells 1)), (.int .u64 (gI y1.cells 2)), (.int .i64 (gI y1.cells 3)), (.int .i64 (gI y1.cells 4)), (.str (gS y1.cells 5)), (.str (gS y1.cells 6)), (.int .i64 (gI y1.cells 7))])] : List AV))) else none) else none) else none) else (next (IntKind.i64.wrap (v25 + (1 : Int))) a1))) else none)) else (kx0 a1))
def qmf  (v23 : List AV) (v24 : Int) (Aa : Bool) (Ab Ac Ad : Int) (kx0 : (List AV) → Option (List AV)) : Nat → Int → (List AV) → Option (List AV)
  | 0 => (fun _ _ => none)
  | n + 1 => (fun v25 a1 => qhx v23 v24 v25 Aa Ab Ac Ad a1 (qmf v23 v24 Aa Ab Ac Ad kx0 n) kx0)
def qls := hull (qmf)
theorem qxe : qls = qmf := ql _
def qhy : AC (List AV) :=
  .seq (.reg [ao 26 (.bin .lss 25 24)]) (.seq (.cond 26 (.skip) (.seq (.view [.sel [3, 7] [0, 1]]) (.exit 0))) (.seq (.block 1 (.seq (.reg [ao 27 (.ia 8 23 25),
 .st (.etac 27 qj),
 ao 28 (.load true 8 27),
 ao 9 (.alloc [(.bool false), (.int .u64 0), (.int .u64 0), (.int .i64 0), (.int .i64 0), (.str []), (.str []), (.int .i64 0)]),
 an (.store 8 9 28)]) (.seq (.reg [ao 29 (.fa 0 9),
 ao 30 (.load true 4 29),
 ao 31 (.load true 4 3),
 .call (po 32 (.call 83 [30, 31])) 83 qpr]) (.cond 32 (.reg [ao 33 (.mv 7),
 ao 34 (.load true 8 9),
 ao 35 (.bsl 8 [34]),
 ao 36 (.app 8 80 33 35),
 ao 7 (.mv 36)]) (.skip))))) (.seq (.reg [ao 37 (.bin .add 25 (.c (.int .i64 1))),
 ao 25 (.mv 37)]) (.view [.sel [3, 7, 23, 24, 25] [0, 1]]))))
theorem q7m : AC.ok Try.prog (TIof Try.prog) 41 0 (kret [.t 4] (decF true 4)) qhy := qn (zA (qe.ok qyd) trivial)
theorem q56 (v23 : List AV) (v24 v25 : Int) (Aa : Bool) (Ab Ac Ad : Int) (a1 : List AV) (K : Ex → Env → Mem → Option (List AV)) : den 0 (kret [.t 4] (decF true 4)) qhy (qqc v23 v24 v25 Aa Ab Ac Ad a1) (qqd v23 v24 v25 Aa Ab Ac Ad a1) K = qhx v23 v24 v25 Aa Ab Ac Ad a1 (fun z_v25 z_a1 => K .norm (qqc v23 v24 z_v25 Aa Ab Ac Ad z_a1) (qqd v23 v24 z_v25 Aa Ab Ac Ad z_a1)) (qlc Aa Ab Ac Ad K) := by kernel_rfl
theorem qbaj (v23 : List AV) (v24 : Int) (Aa : Bool) (Ab Ac Ad : Int) (K : Ex → Env → Mem → Option (List AV)) : ∀ (n : Nat) (v25 : Int) (a1 : List AV), qht (den 0 (kret [.t 4] (decF true 4)) qhy) n (qqc v23 v24 v25 Aa Ab Ac Ad a1) (qqd v23 v24 v25 Aa Ab Ac Ad a1) K = qls v23 v24 Aa Ab Ac Ad (qlc Aa Ab Ac Ad K) n v25 a1 := by
  rw [qxe]
  intro n
  induction n with
  | zero => intros; rfl
  | succ n ih =>
 intro v25 a1
 exact (q56 v23 v24 v25 Aa Ab Ac Ad a1 (itK (den 0 (kret [.t 4] (decF true 4)) qhy) n K)).trans (congrArg (fun q => qhx v23 v24 v25 Aa Ab Ac Ad a1 q (qlc Aa Ab Ac Ad K)) (funext fun v25 => funext fun a1 => ih v25 a1))
def qyw := subE (R := (List AV)) q55 fun t m K => qb (bxC (m.s 0)) (qls (gL [t 23] 0) (gI [t 24] 0)) (qlc (gB (bxC (m.s 0)) 0) (gI (bxC (m.s 0)) 1) (gI (bxC (m.s 0)) 2) (gI (bxC (m.s 0)) 3) K) FU (gI [t 25] 0) (arL (m.s 1))
theorem qbak : qc9 Try.prog (TIof Try.prog) 41 0 (kret [.t 4] (decF true 4)) (.loop (scOf qhy)) (qyw) :=
  qjh tabOk follows (q7m) (qbe (by kernel_rfl)) fun t m K => qbaj _ _ _ _ _ _ K FU _ _
def qbdv : Shp := ⟨[(0, .one (.l (.sl 8))), (1, .st (lk qc))], []⟩
def qyg (v0 : List AV) (Am : Bool) (An Ao Ap : Int) : Option (List AV) :=
  (oB (qky v0 Am An Ao Ap) fun r1 => (bif ((!r1.2) || ((gI r1.1.cells 4) != (1 : Int))) then (bif hd ([] : List AV) (([] : List AV).length) then (some ([] : List AV)) else none) else (bif (hd ([] : List AV) (([] : List AV).length) && true) then (qls v0 (v0.length : Int) Am An Ao Ap (fun a1q2 => (bif hd a1q2 a1q2.length then (oB (bif (hd ([] : List AV) (([] : List AV).length) && true) then (qwu ([] : List AV) a1q2 Am An Ao Ap) else none) fun r3 => (bif hd r3 r3.length then (some r3) else none)) else none)) FU (0 : Int) ([] : List AV)) else none)))
def ql4 := hull qyg
theorem q2j : ql4 = qyg := ql _
def qyh : AC (List AV) :=
  .seq (.reg [ao 3 (.box 1),
 ao 4 (.mv (.c .nils))]) (.seq (.seq (.reg [ao 11 (.mv 0),
 ao 12 (.load true 4 3),
 .call (po 13 (.call 25 [11, 12])) 25 qlm,
 ao 10 (.mv 13),
 ao 14 (.ext 10 0),
 ao 15 (.ext 10 1),
 ao 5 (.alloc [(.bool false), (.int .u64 0), (.int .u64 0), (.int .i64 0), (.int .i64 0), (.str []), (.str []), (.int .i64 0)]),
 an (.store 8 5 14),
 ao 6 (.mv 15)]) (.seq (.reg [ao 16 (.mv 6),
 ao 17 (.un .not 16),
 ao 18 (.mv 17),
 .grp 18 false [(pg 19 18 false (.fa 4 5)), (pg 20 18 false (.load false 1 19)), (pg 21 18 false (.bin .neq 20 (.c (.int .i64 1))))] 22 21]) (.cond 22 (.seq (.reg [ao 4 (.mv (.c .nils))]) (.seq (.view [.own 4 4]) (.ret))) (.skip)))) (.seq (.reg [ao 7 (.mv (.c .nils))]) (.seq (.seq (.reg [ao 23 (.mv 0),
 ao 24 (.len false 23),
 ao 25 (.mv (.c (.int .i64 0)))]) (.block 0 (.seq (.view [.own 7 8, .sel [3, 7, 23, 24, 25] [0, 2]]) (.sub (.loop (scOf qhy)) qyw)))) (.seq (.reg [ao 38 (.mv 7),
 ao 39 (.load true 4 3),
 .st (.snap 38),
 .callr (po 40 (.call 84 [(.c .nils), 38, 39])) 84 (qbe8 4 (qft qwu)),
 ao 4 (.mv 40)]) (.ret)))))
theorem qbfz : AC.ok Try.prog (TIof Try.prog) 41 0 (kret [.t 4] (decF true 4)) qyh := qn (zA (qe.ok qsp) (zA qbak (zA (qbht qbil) trivial)))
theorem qbim (v0 : List AV) (Am : Bool) (An Ao Ap : Int) : den 0 (kret [.t 4] (decF true 4)) qyh (qi [(0, (.sl 8 v0)), (1, .agg (qa Am An Ao Ap))]) (qh []) (kend (kret [.t 4] (decF true 4))) = ql4 v0 Am An Ao Ap := by
  rw [q2j]; kernel_rfl
theorem qbin : cFn (TIof Try.prog) Try.f46 = some ⟨41, [.t 4], scOf qyh⟩ := by kernel_rfl
def qbio (xs : List AV) : Option (List AV) := qb ((qk xs) 1).cells (ql4 (gL [(qk xs) 0] 0))
def qud {R : Type} : List AV → (AV → Option R) → Option R := entF qbdv qbio (AV.fr true 4)
theorem q5m {R : Type} : qe Try.prog 46 (qud (R := R)) :=
  qb6 tabOk follows Try.func46 (by kernel_rfl) qbin hdeF qbfz (qbe (by kernel_rfl)) fun xs => qbim _ _ _ _ _
def q2k : Shp := ⟨[(0, .one (.l (.i .i64))), (1, .one (.l (.i .i64)))], []⟩
def qo1 (v0 v1 : Int) : Option Bool :=
  (some (decide (v0 < v1)))
def qmg := hull qo1
theorem que : qmg = qo1 := ql _
def qo2 : AC Bool :=
  .seq (.reg [ao 4 (.mv (.c (.bool false)))]) (.seq (.reg [ao 5 (.mv 0),
 ao 6 (.mv 1),
 ao 7 (.bin .lss 5 6),
 ao 4 (.mv 7)]) (.ret))
theorem q3r : AC.ok Try.prog (TIof Try.prog) 8 0 (kret [.t 4] decB) qo2 := qn trivial
theorem q57 (v0 v1 : Int) : den 0 (kret [.t 4] decB) qo2 (qi [(0, (.int .i64 v0)), (1, (.int .i64 v1))]) (qh []) (kend (kret [.t 4] decB)) = qmg v0 v1 := by
  rw [que]; kernel_rfl
theorem q58 : cFn (TIof Try.prog) Try.f44 = some ⟨8, [.t 4], scOf qo2⟩ := by kernel_rfl
def q59 (xs : List AV) : Option Bool := qmg (gI [(qk xs) 0] 0) (gI [(qk xs) 1] 0)
def qtk {R : Type} : List AV → (AV → Option R) → Option R := entF q2k q59 AV.bool
theorem q6a {R : Type} : qe Try.prog 44 (qtk (R := R)) :=
  qb6 tabOk follows Try.func44 (by kernel_rfl) q58 hdeB q3r (qbe (by kernel_rfl)) fun xs => q57 _ _
def qp (z : AV) : Option (AV × Bool) := cond (qkp [(.st [.b, (.i .u64), (.i .u64), (.i .i64)]), (.one .b)] z) (some ((gC (tpL z) 0), aB (gC (tpL z) 1))) none
def qqe (r : AV × Bool) : AV := .tup [qmk (.st [.b, (.i .u64), (.i .u64), (.i .i64)]) r.1, .bool r.2]
def qia  (v1 : Int) (v9 : Bool) (v13 : List AV) (v14 v15 : Int) (Aa : Bool) (Ab Ac Ad : Int) (Aq : Bool) (Ar As At : Int) (Au : Bool) (Av Aw Ax : Int) (K : Ex → Env → Mem → Option (AV × Bool)) := (fun z_v34 => K .norm (qi [(1, (.int .i64 v1)), (2, (.func 44 [])), (6, (.ptr 0 0)), (8, (.ptr 1 0)), (9, (.bool v9)), (11, (.ptr 2 0)), (13, (.sl 4 v13)), (14, (.int .i64 v14)), (15, (.int .i64 v15)), (34, (.bool z_v34))]) (qh [(some (.box true (qa Aa Ab Ac Ad))), (some (.box true (qa Aq Ar As At))), (some (.box true (qa Au Av Aw Ax)))]))
def qnn : Shp := ⟨[(1, .one (.l (.i .i64))), (2, .one (.fn 44 [])), (6, .one (.ptr 0 0)), (8, .one (.ptr 1 0)), (9, .one (.l .b)), (11, .one (.ptr 2 0)), (13, .one (.l (.sl 4))), (14, .one (.l (.i .i64))), (15, .one (.l (.i .i64)))], [.box true (lk qc), .box true (lk qc), .box true (lk qc)]⟩
def qe5  (v1 : Int) (v9 : Bool) (v13 : List AV) (v14 v15 : Int) (Aa : Bool) (Ab Ac Ad : Int) (Aq : Bool) (Ar As At : Int) (Au : Bool) (Av Aw Ax : Int) (kn : Bool → Option (AV × Bool)) : Option (AV × Bool) :=
  (bif (decide (Ax ≤ v1)) then (bif (!v9) then (kn true) else (oB (qmg Ax At) fun r1 => (kn r1))) else (kn false))
def qd4 := hull (qe5)
theorem qib : qd4 = qe5 := ql _
def qdj : AC (AV × Bool) :=
  .seq (.reg [ao 19 (.fa 3 11),
 ao 20 (.load false 1 19),
 ao 21 (.mv 1),
 ao 22 (.bin .leq 20 21),
 ao 23 (.mv 22),
 ag 24 23 true (.mv 9),
 ag 25 23 true (.un .not 24),
 ag 26 23 true (.mv 25),
 ag 27 26 false (.mv 2),
 ag 28 26 false (.fa 3 11),
 ag 29 26 false (.load false 1 28),
 ag 30 26 false (.fa 3 8),
 ag 31 26 false (.load false 1 30),
 .call (pg 32 26 false (.callv 27 [29, 31])) 44 qtk,
 ag 33 23 true (.pick 26 (.c (.bool true)) 32),
 ao 34 (.pick 23 33 (.c (.bool false)))]) (.view [.sel [1, 2, 6, 8, 9, 11, 13, 14, 15, 34] [0, 1, 2]])
theorem qoe : AC.ok Try.prog (TIof Try.prog) 39 0 (kret [(.cell 6 true 4), .t 7] qp) qdj := qn (zA (qe.ok q6a) trivial)
theorem qo3 (v1 : Int) (v9 : Bool) (v13 : List AV) (v14 v15 : Int) (Aa : Bool) (Ab Ac Ad : Int) (Aq : Bool) (Ar As At : Int) (Au : Bool) (Av Aw Ax : Int) (K : Ex → Env → Mem → Option (AV × Bool)) : den 0 (kret [(.cell 6 true 4), .t 7] qp) qdj (qi [(1, (.int .i64 v1)), (2, (.func 44 [])), (6, (.ptr 0 0)), (8, (.ptr 1 0)), (9, (.bool v9)), (11, (.ptr 2 0)), (13, (.sl 4 v13)), (14, (.int .i64 v14)), (15, (.int .i64 v15))]) (qh [(some (.box true (qa Aa Ab Ac Ad))), (some (.box true (qa Aq Ar As At))), (some (.box true (qa Au Av Aw Ax)))]) K = qd4 v1 v9 v13 v14 v15 Aa Ab Ac Ad Aq Ar As At Au Av Aw Ax (qia v1 v9 v13 v14 v15 Aa Ab Ac Ad Aq Ar As At Au Av Aw Ax K) := by
  rw [qib]; kernel_rfl
def qiw := subE (R := AV × Bool) qnn fun t m K => qb (bxC (m.s 2)) (qb (bxC (m.s 1)) (qb (bxC (m.s 0)) (qd4 (gI [t 1] 0) (gB [t 9] 0) (gL [t 13] 0) (gI [t 14] 0) (gI [t 15] 0)))) (qia (gI [t 1] 0) (gB [t 9] 0) (gL [t 13] 0) (gI [t 14] 0) (gI [t 15] 0) (gB (bxC (m.s 0)) 0) (gI (bxC (m.s 0)) 1) (gI (bxC (m.s 0)) 2) (gI (bxC (m.s 0)) 3) (gB (bxC (m.s 1)) 0) (gI (bxC (m.s 1)) 1) (gI (bxC (m.s 1)) 2) (gI (bxC (m.s 1)) 3) (gB (bxC (m.s 2)) 0) (gI (bxC (m.s 2)) 1) (gI (bxC (m.s 2)) 2) (gI (bxC (m.s 2)) 3) K)
theorem qo4 : qc9 Try.prog (TIof Try.prog) 39 0 (kret [(.cell 6 true 4), .t 7] qp) (scOf qdj) (qiw) :=
  qi8 tabOk follows (qoe) (qbe (by kernel_rfl)) fun t m K => qo3 _ _ _ _ _ _ _ _ _ _ _ _ _ _ _ _ _ K
def qdc  (Aa : Bool) (Ab Ac Ad : Int) (K : Ex → Env → Mem → Option (AV × Bool)) := (fun z_v9 z_b1_0 z_b1_1 z_b1_2 z_b1_3 => K (.exit 0) (qi [(6, (.ptr 0 0)), (8, (.ptr 1 0)), (9, (.bool z_v9))]) (qh [(some (.box true (qa Aa Ab Ac Ad))), (some (.box true (qa z_b1_0 z_b1_1 z_b1_2 z_b1_3)))]))
def qof : Shp := ⟨[(1, .one (.l (.i .i64))), (2, .one (.fn 44 [])), (6, .one (.ptr 0 0)), (8, .one (.ptr 1 0)), (9, .one (.l .b)), (13, .one (.l (.sl 4))), (14, .one (.l (.i .i64))), (15, .one (.l (.i .i64)))], [.box true (lk qc), .box true (lk qc)]⟩
def qe6 (v1 : Int) (v9 : Bool) (v13 : List AV) (v14 v15 : Int) (Aa : Bool) (Ab Ac Ad : Int) (Aq : Bool) (Ar As At : Int) : Env := qi [(1, (.int .i64 v1)), (2, (.func 44 [])), (6, (.ptr 0 0)), (8, (.ptr 1 0)), (9, (.bool v9)), (13, (.sl 4 v13)), (14, (.int .i64 v14)), (15, (.int .i64 v15))]
def qe7 (v1 : Int) (v9 : Bool) (v13 : List AV) (v14 v15 : Int) (Aa : Bool) (Ab Ac Ad : Int) (Aq : Bool) (Ar As At : Int) : Mem := qh [(some (.box true (qa Aa Ab Ac Ad))), (some (.box true (qa Aq Ar As At)))]
def qcf  (v1 : Int) (v9 : Bool) (v13 : List AV) (v14 v15 : Int) (Aa : Bool) (Ab Ac Ad : Int) (Aq : Bool) (Ar As At : Int) (next : Bool → Int → Bool → Int → Int → Int → Option (AV × Bool)) (kx0 : Bool → Bool → Int → Int → Int → Option (AV × Bool)) : Option (AV × Bool) :=
  (bif (decide (v15 < v14)) then (oB (ixB v13 v15) fun y1 => (bif fitC qc y1.cells then (qd4 v1 v9 v13 v14 v15 Aa Ab Ac Ad Aq Ar As At (gB y1.cells 0) (gI y1.cells 1) (gI y1.cells 2) (gI y1.cells 3) (fun v34q2 => (bif v34q2 then (next true (IntKind.i64.wrap (v15 + (1 : Int))) (gB y1.cells 0) (gI y1.cells 1) (gI y1.cells 2) (gI y1.cells 3)) else (next v9 (IntKind.i64.wrap (v15 + (1 : Int))) Aq Ar As At)))) else none)) else (kx0 v9 Aq Ar As At))
def qdu  (v1 : Int) (v13 : List AV) (v14 : Int) (Aa : Bool) (Ab Ac Ad : Int) (kx0 : Bool → Bool → Int → Int → Int → Option (AV × Bool)) : Nat → Bool → Int → Bool → Int → Int → Int → Option (AV × Bool)
  | 0 => (fun _ _ _ _ _ _ => none)
  | n + 1 => (fun v9 v15 Aq Ar As At => qcf v1 v9 v13 v14 v15 Aa Ab Ac Ad Aq Ar As At (qdu v1 v13 v14 Aa Ab Ac Ad kx0 n) kx0)
def qeg := hull (qdu)
theorem qix : qeg = qdu := ql _
def qcg : AC (AV × Bool) :=
  .seq (.reg [ao 16 (.bin .lss 15 14)]) (.seq (.cond 16 (.skip) (.seq (.view [.sel [6, 8, 9] [0, 1]]) (.exit 0))) (.seq (.block 1 (.seq (.reg [ao 17 (.ia 4 13 15),
 .st (.etac 17 qc),
 ao 18 (.load true 4 17),
 ao 11 (.alloc [(.bool false), (.int .u64 0), (.int .u64 0), (.int .i64 0)]),
 an (.store 4 11 18)]) (.seq (.seq (.view [.sel [1, 2, 6, 8, 9, 11, 13, 14, 15] [0, 1, 2]]) (.sub (scOf qdj) qiw)) (.cond 34 (.reg [ao 35 (.load true 4 11),
 an (.store 4 8 35),
 ao 9 (.mv (.c (.bool true)))]) (.skip))))) (.seq (.reg [ao 36 (.bin .add 15 (.c (.int .i64 1))),
 ao 15 (.mv 36)]) (.view [.sel [1, 2, 6, 8, 9, 13, 14, 15] [0, 1]]))))
theorem qo5 : AC.ok Try.prog (TIof Try.prog) 39 0 (kret [(.cell 6 true 4), .t 7] qp) qcg := qn (zA qo4 trivial)
theorem qog (v1 : Int) (v9 : Bool) (v13 : List AV) (v14 v15 : Int) (Aa : Bool) (Ab Ac Ad : Int) (Aq : Bool) (Ar As At : Int) (K : Ex → Env → Mem → Option (AV × Bool)) : den 0 (kret [(.cell 6 true 4), .t 7] qp) qcg (qe6 v1 v9 v13 v14 v15 Aa Ab Ac Ad Aq Ar As At) (qe7 v1 v9 v13 v14 v15 Aa Ab Ac Ad Aq Ar As At) K = qcf v1 v9 v13 v14 v15 Aa Ab Ac Ad Aq Ar As At (fun z_v9 z_v15 z_b1_0 z_b1_1 z_b1_2 z_b1_3 => K .norm (qe6 v1 z_v9 v13 v14 z_v15 Aa Ab Ac Ad z_b1_0 z_b1_1 z_b1_2 z_b1_3) (qe7 v1 z_v9 v13 v14 z_v15 Aa Ab Ac Ad z_b1_0 z_b1_1 z_b1_2 z_b1_3)) (qdc Aa Ab Ac Ad K) := by kernel_rfl
theorem qpx (v1 : Int) (v13 : List AV) (v14 : Int) (Aa : Bool) (Ab Ac Ad : Int) (K : Ex → Env → Mem → Option (AV × Bool)) : ∀ (n : Nat) (v9 : Bool) (v15 : Int) (Aq : Bool) (Ar As At : Int), qht (den 0 (kret [(.cell 6 true 4), .t 7] qp) qcg) n (qe6 v1 v9 v13 v14 v15 Aa Ab Ac Ad Aq Ar As At) (qe7 v1 v9 v13 v14 v15 Aa Ab Ac Ad Aq Ar As At) K = qeg v1 v13 v14 Aa Ab Ac Ad (qdc Aa Ab Ac Ad K) n v9 v15 Aq Ar As At := by
  rw [qix]
  intro n
  induction n with
  | zero => intros; rfl
  | succ n ih =>
 intro v9 v15 Aq Ar As At
 exact (qog v1 v9 v13 v14 v15 Aa Ab Ac Ad Aq Ar As At (itK (den 0 (kret [(.cell 6 true 4), .t 7] qp) qcg) n K)).trans (congrArg (fun q => qcf v1 v9 v13 v14 v15 Aa Ab Ac Ad Aq Ar As At q (qdc Aa Ab Ac Ad K)) (funext fun v9 => funext fun v15 => funext fun Aq => funext fun Ar => funext fun As => funext fun At => ih v9 v15 Aq Ar As At))
def qji := subE (R := AV × Bool) qof fun t m K => qb (bxC (m.s 1)) (qb (bxC (m.s 0)) (qeg (gI [t 1] 0) (gL [t 13] 0) (gI [t 14] 0)) (qdc (gB (bxC (m.s 0)) 0) (gI (bxC (m.s 0)) 1) (gI (bxC (m.s 0)) 2) (gI (bxC (m.s 0)) 3) K) FU (gB [t 9] 0) (gI [t 15] 0))
theorem qpy : qc9 Try.prog (TIof Try.prog) 39 0 (kret [(.cell 6 true 4), .t 7] qp) (.loop (scOf qcg)) (qji) :=
  qjh tabOk follows (qo5) (qbe (by kernel_rfl)) fun t m K => qpx _ _ _ _ _ _ _ K FU _ _ _ _ _ _
def qqf : Shp := ⟨[(0, .one (.l (.sl 4))), (1, .one (.l (.i .i64))), (2, .one (.fn 44 []))], []⟩
def qf4 (v0 : List AV) (v1 : Int) : Option (AV × Bool) :=
  (qeg v1 v0 (v0.length : Int) false (0 : Int) (0 : Int) (0 : Int) (fun v9q1 b1_0q2 b1_1q3 b1_2q4 b1_3q5 => (some ((.agg [(.bool b1_0q2), (.int .u64 b1_1q3), (.int .u64 b1_2q4), (.int .i64 b1_3q5)]), v9q1))) FU false (0 : Int) false (0 : Int) (0 : Int) (0 : Int))
def qdg := hull qf4
theorem qkc : qdg = qf4 := ql _
def qf5 : AC (AV × Bool) :=
  .seq (.reg [ao 6 (.alloc [(.bool false), (.int .u64 0), (.int .u64 0), (.int .i64 0)]),
 ao 7 (.mv (.c (.bool false)))]) (.seq (.reg [ao 12 (.build [(.bool false), (.int .u64 0), (.int .u64 0), (.int .i64 0)] []),
 ao 8 (.alloc [(.bool false), (.int .u64 0), (.int .u64 0), (.int .i64 0)]),
 an (.store 4 8 12),
 ao 9 (.mv (.c (.bool false)))]) (.seq (.seq (.reg [ao 13 (.mv 0),
 ao 14 (.len false 13),
 ao 15 (.mv (.c (.int .i64 0)))]) (.block 0 (.seq (.view [.sel [1, 2, 6, 8, 9, 13, 14, 15] [0, 1]]) (.sub (.loop (scOf qcg)) qji)))) (.seq (.reg [ao 37 (.load true 4 8),
 ao 38 (.mv 9),
 an (.store 4 6 37),
 ao 7 (.mv 38)]) (.ret))))
theorem qq5 : AC.ok Try.prog (TIof Try.prog) 39 0 (kret [(.cell 6 true 4), .t 7] qp) qf5 := qn (zA qpy trivial)
theorem qru (v0 : List AV) (v1 : Int) : den 0 (kret [(.cell 6 true 4), .t 7] qp) qf5 (qi [(0, (.sl 4 v0)), (1, (.int .i64 v1)), (2, (.func 44 []))]) (qh []) (kend (kret [(.cell 6 true 4), .t 7] qp)) = qdg v0 v1 := by
  rw [qkc]; kernel_rfl
theorem qrv : cFn (TIof Try.prog) Try.f45 = some ⟨39, [(.cell 6 true 4), .t 7], scOf qf5⟩ := by kernel_rfl
def qrw (xs : List AV) : Option (AV × Bool) := qdg (gL [(qk xs) 0] 0) (gI [(qk xs) 1] 0)
def qjy {R : Type} : List AV → (AV → Option R) → Option R := entF qqf qrw qqe
theorem qrx {R : Type} : qe Try.prog 45 (qjy (R := R)) :=
  qb6 tabOk follows Try.func45 (by kernel_rfl) qrv (fun z r h => by
 obtain ⟨h1, h2⟩ := qm h
 cases h2
 exact (qgh h1).symm) qq5 (qbe (by kernel_rfl)) fun xs => qru _ _
def q2l : Shp := ⟨[(0, .one (.l (.i .i64))), (1, .one (.l (.i .i64)))], []⟩
def qo6 (v0 v1 : Int) : Option Bool :=
  (some (decide (v0 > v1)))
def qmh := hull qo6
theorem quf : qmh = qo6 := ql _
def qo7 : AC Bool :=
  .seq (.reg [ao 4 (.mv (.c (.bool false)))]) (.seq (.reg [ao 5 (.mv 0),
 ao 6 (.mv 1),
 ao 7 (.bin .gtr 5 6),
 ao 4 (.mv 7)]) (.ret))
theorem q3s : AC.ok Try.prog (TIof Try.prog) 8 0 (kret [.t 4] decB) qo7 := qn trivial
theorem q6b (v0 v1 : Int) : den 0 (kret [.t 4] decB) qo7 (qi [(0, (.int .i64 v0)), (1, (.int .i64 v1))]) (qh []) (kend (kret [.t 4] decB)) = qmh v0 v1 := by
  rw [quf]; kernel_rfl
theorem q6c : cFn (TIof Try.prog) Try.f43 = some ⟨8, [.t 4], scOf qo7⟩ := by kernel_rfl
def q6d (xs : List AV) : Option Bool := qmh (gI [(qk xs) 0] 0) (gI [(qk xs) 1] 0)
def qtl {R : Type} : List AV → (AV → Option R) → Option R := entF q2l q6d AV.bool
theorem q6e {R : Type} : qe Try.prog 43 (qtl (R := R)) :=
  qb6 tabOk follows Try.func43 (by kernel_rfl) q6c hdeB q3s (qbe (by kernel_rfl)) fun xs => q6b _ _
def qq (z : AV) : Option (AV × Bool) := cond (qkp [(.st [.b, (.i .u64), (.i .u64), (.i .i64)]), (.one .b)] z) (some ((gC (tpL z) 0), aB (gC (tpL z) 1))) none
def qqg (r : AV × Bool) : AV := .tup [qmk (.st [.b, (.i .u64), (.i .u64), (.i .i64)]) r.1, .bool r.2]
def qic  (v1 : Int) (v9 : Bool) (v13 : List AV) (v14 v15 : Int) (Aa : Bool) (Ab Ac Ad : Int) (Aq : Bool) (Ar As At : Int) (Au : Bool) (Av Aw Ax : Int) (K : Ex → Env → Mem → Option (AV × Bool)) := (fun z_v34 => K .norm (qi [(1, (.int .i64 v1)), (2, (.func 43 [])), (6, (.ptr 0 0)), (8, (.ptr 1 0)), (9, (.bool v9)), (11, (.ptr 2 0)), (13, (.sl 4 v13)), (14, (.int .i64 v14)), (15, (.int .i64 v15)), (34, (.bool z_v34))]) (qh [(some (.box true (qa Aa Ab Ac Ad))), (some (.box true (qa Aq Ar As At))), (some (.box true (qa Au Av Aw Ax)))]))
def qno : Shp := ⟨[(1, .one (.l (.i .i64))), (2, .one (.fn 43 [])), (6, .one (.ptr 0 0)), (8, .one (.ptr 1 0)), (9, .one (.l .b)), (11, .one (.ptr 2 0)), (13, .one (.l (.sl 4))), (14, .one (.l (.i .i64))), (15, .one (.l (.i .i64)))], [.box true (lk qc), .box true (lk qc), .box true (lk qc)]⟩
def qe8  (v1 : Int) (v9 : Bool) (v13 : List AV) (v14 v15 : Int) (Aa : Bool) (Ab Ac Ad : Int) (Aq : Bool) (Ar As At : Int) (Au : Bool) (Av Aw Ax : Int) (kn : Bool → Option (AV × Bool)) : Option (AV × Bool) :=
  (bif (decide (Ax ≤ v1)) then (bif (!v9) then (kn true) else (oB (qmh Ax At) fun r1 => (kn r1))) else (kn false))
def qd5 := hull (qe8)
theorem qid : qd5 = qe8 := ql _
def qdk : AC (AV × Bool) :=
  .seq (.reg [ao 19 (.fa 3 11),
 ao 20 (.load false 1 19),
 ao 21 (.mv 1),
 ao 22 (.bin .leq 20 21),
 ao 23 (.mv 22),
 ag 24 23 true (.mv 9),
 ag 25 23 true (.un .not 24),
 ag 26 23 true (.mv 25),
 ag 27 26 false (.mv 2),
 ag 28 26 false (.fa 3 11),
 ag 29 26 false (.load false 1 28),
 ag 30 26 false (.fa 3 8),
 ag 31 26 false (.load false 1 30),
 .call (pg 32 26 false (.callv 27 [29, 31])) 43 qtl,
 ag 33 23 true (.pick 26 (.c (.bool true)) 32),
 ao 34 (.pick 23 33 (.c (.bool false)))]) (.view [.sel [1, 2, 6, 8, 9, 11, 13, 14, 15, 34] [0, 1, 2]])
theorem qoh : AC.ok Try.prog (TIof Try.prog) 39 0 (kret [(.cell 6 true 4), .t 7] qq) qdk := qn (zA (qe.ok q6e) trivial)
theorem qo8 (v1 : Int) (v9 : Bool) (v13 : List AV) (v14 v15 : Int) (Aa : Bool) (Ab Ac Ad : Int) (Aq : Bool) (Ar As At : Int) (Au : Bool) (Av Aw Ax : Int) (K : Ex → Env → Mem → Option (AV × Bool)) : den 0 (kret [(.cell 6 true 4), .t 7] qq) qdk (qi [(1, (.int .i64 v1)), (2, (.func 43 [])), (6, (.ptr 0 0)), (8, (.ptr 1 0)), (9, (.bool v9)), (11, (.ptr 2 0)), (13, (.sl 4 v13)), (14, (.int .i64 v14)), (15, (.int .i64 v15))]) (qh [(some (.box true (qa Aa Ab Ac Ad))), (some (.box true (qa Aq Ar As At))), (some (.box true (qa Au Av Aw Ax)))]) K = qd5 v1 v9 v13 v14 v15 Aa Ab Ac Ad Aq Ar As At Au Av Aw Ax (qic v1 v9 v13 v14 v15 Aa Ab Ac Ad Aq Ar As At Au Av Aw Ax K) := by
  rw [qid]; kernel_rfl
def qiy := subE (R := AV × Bool) qno fun t m K => qb (bxC (m.s 2)) (qb (bxC (m.s 1)) (qb (bxC (m.s 0)) (qd5 (gI [t 1] 0) (gB [t 9] 0) (gL [t 13] 0) (gI [t 14] 0) (gI [t 15] 0)))) (qic (gI [t 1] 0) (gB [t 9] 0) (gL [t 13] 0) (gI [t 14] 0) (gI [t 15] 0) (gB (bxC (m.s 0)) 0) (gI (bxC (m.s 0)) 1) (gI (bxC (m.s 0)) 2) (gI (bxC (m.s 0)) 3) (gB (bxC (m.s 1)) 0) (gI (bxC (m.s 1)) 1) (gI (bxC (m.s 1)) 2) (gI (bxC (m.s 1)) 3) (gB (bxC (m.s 2)) 0) (gI (bxC (m.s 2)) 1) (gI (bxC (m.s 2)) 2) (gI (bxC (m.s 2)) 3) K)
theorem qo9 : qc9 Try.prog (TIof Try.prog) 39 0 (kret [(.cell 6 true 4), .t 7] qq) (scOf qdk) (qiy) :=
  qi8 tabOk follows (qoh) (qbe (by kernel_rfl)) fun t m K => qo8 _ _ _ _ _ _ _ _ _ _ _ _ _ _ _ _ _ K
def qdd  (Aa : Bool) (Ab Ac Ad : Int) (K : Ex → Env → Mem → Option (AV × Bool)) := (fun z_v9 z_b1_0 z_b1_1 z_b1_2 z_b1_3 => K (.exit 0) (qi [(6, (.ptr 0 0)), (8, (.ptr 1 0)), (9, (.bool z_v9))]) (qh [(some (.box true (qa Aa Ab Ac Ad))), (some (.box true (qa z_b1_0 z_b1_1 z_b1_2 z_b1_3)))]))
def qoi : Shp := ⟨[(1, .one (.l (.i .i64))), (2, .one (.fn 43 [])), (6, .one (.ptr 0 0)), (8, .one (.ptr 1 0)), (9, .one (.l .b)), (13, .one (.l (.sl 4))), (14, .one (.l (.i .i64))), (15, .one (.l (.i .i64)))], [.box true (lk qc), .box true (lk qc)]⟩
def qe9 (v1 : Int) (v9 : Bool) (v13 : List AV) (v14 v15 : Int) (Aa : Bool) (Ab Ac Ad : Int) (Aq : Bool) (Ar As At : Int) : Env := qi [(1, (.int .i64 v1)), (2, (.func 43 [])), (6, (.ptr 0 0)), (8, (.ptr 1 0)), (9, (.bool v9)), (13, (.sl 4 v13)), (14, (.int .i64 v14)), (15, (.int .i64 v15))]
def qfa (v1 : Int) (v9 : Bool) (v13 : List AV) (v14 v15 : Int) (Aa : Bool) (Ab Ac Ad : Int) (Aq : Bool) (Ar As At : Int) : Mem := qh [(some (.box true (qa Aa Ab Ac Ad))), (some (.box true (qa Aq Ar As At)))]
def qch  (v1 : Int) (v9 : Bool) (v13 : List AV) (v14 v15 : Int) (Aa : Bool) (Ab Ac Ad : Int) (Aq : Bool) (Ar As At : Int) (next : Bool → Int → Bool → Int → Int → Int → Option (AV × Bool)) (kx0 : Bool → Bool → Int → Int → Int → Option (AV × Bool)) : Option (AV × Bool) :=
  (bif (decide (v15 < v14)) then (oB (ixB v13 v15) fun y1 => (bif fitC qc y1.cells then (qd5 v1 v9 v13 v14 v15 Aa Ab Ac Ad Aq Ar As At (gB y1.cells 0) (gI y1.cells 1) (gI y1.cells 2) (gI y1.cells 3) (fun v34q2 => (bif v34q2 then (next true (IntKind.i64.wrap (v15 + (1 : Int))) (gB y1.cells 0) (gI y1.cells 1) (gI y1.cells 2) (gI y1.cells 3)) else (next v9 (IntKind.i64.wrap (v15 + (1 : Int))) Aq Ar As At)))) else none)) else (kx0 v9 Aq Ar As At))
def qdv  (v1 : Int) (v13 : List AV) (v14 : Int) (Aa : Bool) (Ab Ac Ad : Int) (kx0 : Bool → Bool → Int → Int → Int → Option (AV × Bool)) : Nat → Bool → Int → Bool → Int → Int → Int → Option (AV × Bool)
  | 0 => (fun _ _ _ _ _ _ => none)
  | n + 1 => (fun v9 v15 Aq Ar As At => qch v1 v9 v13 v14 v15 Aa Ab Ac Ad Aq Ar As At (qdv v1 v13 v14 Aa Ab Ac Ad kx0 n) kx0)
def qeh := hull (qdv)
theorem qiz : qeh = qdv := ql _
def qci : AC (AV × Bool) :=
  .seq (.reg [ao 16 (.bin .lss 15 14)]) (.seq (.cond 16 (.skip) (.seq (.view [.sel [6, 8, 9] [0, 1]]) (.exit 0))) (.seq (.block 1 (.seq (.reg [ao 17 (.ia 4 13 15),
 .st (.etac 17 qc),
 ao 18 (.load true 4 17),
 ao 11 (.alloc [(.bool false), (.int .u64 0), (.int .u64 0), (.int .i64 0)]),
 an (.store 4 11 18)]) (.seq (.seq (.view [.sel [1, 2, 6, 8, 9, 11, 13, 14, 15] [0, 1, 2]]) (.sub (scOf qdk) qiy)) (.cond 34 (.reg [ao 35 (.load true 4 11),
 an (.store 4 8 35),
 ao 9 (.mv (.c (.bool true)))]) (.skip))))) (.seq (.reg [ao 36 (.bin .add 15 (.c (.int .i64 1))),
 ao 15 (.mv 36)]) (.view [.sel [1, 2, 6, 8, 9, 13, 14, 15] [0, 1]]))))
theorem qpa : AC.ok Try.prog (TIof Try.prog) 39 0 (kret [(.cell 6 true 4), .t 7] qq) qci := qn (zA qo9 trivial)
theorem qoj (v1 : Int) (v9 : Bool) (v13 : List AV) (v14 v15 : Int) (Aa : Bool) (Ab Ac Ad : Int) (Aq : Bool) (Ar As At : Int) (K : Ex → Env → Mem → Option (AV × Bool)) : den 0 (kret [(.cell 6 true 4), .t 7] qq) qci (qe9 v1 v9 v13 v14 v15 Aa Ab Ac Ad Aq Ar As At) (qfa v1 v9 v13 v14 v15 Aa Ab Ac Ad Aq Ar As At) K = qch v1 v9 v13 v14 v15 Aa Ab Ac Ad Aq Ar As At (fun z_v9 z_v15 z_b1_0 z_b1_1 z_b1_2 z_b1_3 => K .norm (qe9 v1 z_v9 v13 v14 z_v15 Aa Ab Ac Ad z_b1_0 z_b1_1 z_b1_2 z_b1_3) (qfa v1 z_v9 v13 v14 z_v15 Aa Ab Ac Ad z_b1_0 z_b1_1 z_b1_2 z_b1_3)) (qdd Aa Ab Ac Ad K) := by kernel_rfl
theorem qpz (v1 : Int) (v13 : List AV) (v14 : Int) (Aa : Bool) (Ab Ac Ad : Int) (K : Ex → Env → Mem → Option (AV × Bool)) : ∀ (n : Nat) (v9 : Bool) (v15 : Int) (Aq : Bool) (Ar As At : Int), qht (den 0 (kret [(.cell 6 true 4), .t 7] qq) qci) n (qe9 v1 v9 v13 v14 v15 Aa Ab Ac Ad Aq Ar As At) (qfa v1 v9 v13 v14 v15 Aa Ab Ac Ad Aq Ar As At) K = qeh v1 v13 v14 Aa Ab Ac Ad (qdd Aa Ab Ac Ad K) n v9 v15 Aq Ar As At := by
  rw [qiz]
  intro n
  induction n with
  | zero => intros; rfl
  | succ n ih =>
 intro v9 v15 Aq Ar As At
 exact (qoj v1 v9 v13 v14 v15 Aa Ab Ac Ad Aq Ar As At (itK (den 0 (kret [(.cell 6 true 4), .t 7] qq) qci) n K)).trans (congrArg (fun q => qch v1 v9 v13 v14 v15 Aa Ab Ac Ad Aq Ar As At q (qdd Aa Ab Ac Ad K)) (funext fun v9 => funext fun v15 => funext fun Aq => funext fun Ar => funext fun As => funext fun At => ih v9 v15 Aq Ar As At))
def qjj := subE (R := AV × Bool) qoi fun t m K => qb (bxC (m.s 1)) (qb (bxC (m.s 0)) (qeh (gI [t 1] 0) (gL [t 13] 0) (gI [t 14] 0)) (qdd (gB (bxC (m.s 0)) 0) (gI (bxC (m.s 0)) 1) (gI (bxC (m.s 0)) 2) (gI (bxC (m.s 0)) 3) K) FU (gB [t 9] 0) (gI [t 15] 0))
theorem qp0 : qc9 Try.prog (TIof Try.prog) 39 0 (kret [(.cell 6 true 4), .t 7] qq) (.loop (scOf qci)) (qjj) :=
  qjh tabOk follows (qpa) (qbe (by kernel_rfl)) fun t m K => qpz _ _ _ _ _ _ _ K FU _ _ _ _ _ _
def qqh : Shp := ⟨[(0, .one (.l (.sl 4))), (1, .one (.l (.i .i64))), (2, .one (.fn 43 []))], []⟩
def qf6 (v0 : List AV) (v1 : Int) : Option (AV × Bool) :=
  (qeh v1 v0 (v0.length : Int) false (0 : Int) (0 : Int) (0 : Int) (fun v9q1 b1_0q2 b1_1q3 b1_2q4 b1_3q5 => (some ((.agg [(.bool b1_0q2), (.int .u64 b1_1q3), (.int .u64 b1_2q4), (.int .i64 b1_3q5)]), v9q1))) FU false (0 : Int) false (0 : Int) (0 : Int) (0 : Int))
def qdh := hull qf6
theorem qkd : qdh = qf6 := ql _
def qf7 : AC (AV × Bool) :=
  .seq (.reg [ao 6 (.alloc [(.bool false), (.int .u64 0), (.int .u64 0), (.int .i64 0)]),
 ao 7 (.mv (.c (.bool false)))]) (.seq (.reg [ao 12 (.build [(.bool false), (.int .u64 0), (.int .u64 0), (.int .i64 0)] []),
 ao 8 (.alloc [(.bool false), (.int .u64 0), (.int .u64 0), (.int .i64 0)]),
 an (.store 4 8 12),
 ao 9 (.mv (.c (.bool false)))]) (.seq (.seq (.reg [ao 13 (.mv 0),
 ao 14 (.len false 13),
 ao 15 (.mv (.c (.int .i64 0)))]) (.block 0 (.seq (.view [.sel [1, 2, 6, 8, 9, 13, 14, 15] [0, 1]]) (.sub (.loop (scOf qci)) qjj)))) (.seq (.reg [ao 37 (.load true 4 8),
 ao 38 (.mv 9),
 an (.store 4 6 37),
 ao 7 (.mv 38)]) (.ret))))
theorem qq6 : AC.ok Try.prog (TIof Try.prog) 39 0 (kret [(.cell 6 true 4), .t 7] qq) qf7 := qn (zA qp0 trivial)
theorem qry (v0 : List AV) (v1 : Int) : den 0 (kret [(.cell 6 true 4), .t 7] qq) qf7 (qi [(0, (.sl 4 v0)), (1, (.int .i64 v1)), (2, (.func 43 []))]) (qh []) (kend (kret [(.cell 6 true 4), .t 7] qq)) = qdh v0 v1 := by
  rw [qkd]; kernel_rfl
theorem qrz : cFn (TIof Try.prog) Try.f45 = some ⟨39, [(.cell 6 true 4), .t 7], scOf qf7⟩ := by kernel_rfl
def qr0 (xs : List AV) : Option (AV × Bool) := qdh (gL [(qk xs) 0] 0) (gI [(qk xs) 1] 0)
def qjz {R : Type} : List AV → (AV → Option R) → Option R := entF qqh qr0 qqg
theorem qr1 {R : Type} : qe Try.prog 45 (qjz (R := R)) :=
  qb6 tabOk follows Try.func45 (by kernel_rfl) qrz (fun z r h => by
 obtain ⟨h1, h2⟩ := qm h
 cases h2
 exact (qgh h1).symm) qq6 (qbe (by kernel_rfl)) fun xs => qry _ _
def q2m : Shp := ⟨[(0, .one (.l (.i .i64))), (1, .one (.l (.i .i64)))], []⟩
def qpb (v0 v1 : Int) : Option Bool :=
  (some false)
def qmi := hull qpb
theorem qug : qmi = qpb := ql _
def qpc : AC Bool :=
  .seq (.reg [ao 4 (.mv (.c (.bool false)))]) (.seq (.reg [ao 4 (.mv (.c (.bool false)))]) (.ret))
theorem q3t : AC.ok Try.prog (TIof Try.prog) 5 0 (kret [.t 4] decB) qpc := qn trivial
theorem q6f (v0 v1 : Int) : den 0 (kret [.t 4] decB) qpc (qi [(0, (.int .i64 v0)), (1, (.int .i64 v1))]) (qh []) (kend (kret [.t 4] decB)) = qmi v0 v1 := by
  rw [qug]; kernel_rfl
theorem q6g : cFn (TIof Try.prog) Try.f42 = some ⟨5, [.t 4], scOf qpc⟩ := by kernel_rfl
def q6h (xs : List AV) : Option Bool := qmi (gI [(qk xs) 0] 0) (gI [(qk xs) 1] 0)
def qtm {R : Type} : List AV → (AV → Option R) → Option R := entF q2m q6h AV.bool
theorem q6i {R : Type} : qe Try.prog 42 (qtm (R := R)) :=
  qb6 tabOk follows Try.func42 (by kernel_rfl) q6g hdeB q3t (qbe (by kernel_rfl)) fun xs => q6f _ _
def qr (z : AV) : Option (AV × Bool) := cond (qkp [(.st [.b, (.i .u64), (.i .u64), (.i .i64)]), (.one .b)] z) (some ((gC (tpL z) 0), aB (gC (tpL z) 1))) none
def qqi (r : AV × Bool) : AV := .tup [qmk (.st [.b, (.i .u64), (.i .u64), (.i .i64)]) r.1, .bool r.2]
def qie  (v1 : Int) (v9 : Bool) (v13 : List AV) (v14 v15 : Int) (Aa : Bool) (Ab Ac Ad : Int) (Aq : Bool) (Ar As At : Int) (Au : Bool) (Av Aw Ax : Int) (K : Ex → Env → Mem → Option (AV × Bool)) := (fun z_v34 => K .norm (qi [(1, (.int .i64 v1)), (2, (.func 42 [])), (6, (.ptr 0 0)), (8, (.ptr 1 0)), (9, (.bool v9)), (11, (.ptr 2 0)), (13, (.sl 4 v13)), (14, (.int .i64 v14)), (15, (.int .i64 v15)), (34, (.bool z_v34))]) (qh [(some (.box true (qa Aa Ab Ac Ad))), (some (.box true (qa Aq Ar As At))), (some (.box true (qa Au Av Aw Ax)))]))
def qnp : Shp := ⟨[(1, .one (.l (.i .i64))), (2, .one (.fn 42 [])), (6, .one (.ptr 0 0)), (8, .one (.ptr 1 0)), (9, .one (.l .b)), (11, .one (.ptr 2 0)), (13, .one (.l (.sl 4))), (14, .one (.l (.i .i64))), (15, .one (.l (.i .i64)))], [.box true (lk qc), .box true (lk qc), .box true (lk qc)]⟩
def qfb  (v1 : Int) (v9 : Bool) (v13 : List AV) (v14 v15 : Int) (Aa : Bool) (Ab Ac Ad : Int) (Aq : Bool) (Ar As At : Int) (Au : Bool) (Av Aw Ax : Int) (kn : Bool → Option (AV × Bool)) : Option (AV × Bool) :=
  (bif (decide (Ax ≤ v1)) then (bif (!v9) then (kn true) else (oB (qmi Ax At) fun r1 => (kn r1))) else (kn false))
def qd6 := hull (qfb)
theorem qif : qd6 = qfb := ql _
def qdl : AC (AV × Bool) :=
  .seq (.reg [ao 19 (.fa 3 11),
 ao 20 (.load false 1 19),
 ao 21 (.mv 1),
 ao 22 (.bin .leq 20 21),
 ao 23 (.mv 22),
 ag 24 23 true (.mv 9),
 ag 25 23 true (.un .not 24),
 ag 26 23 true (.mv 25),
 ag 27 26 false (.mv 2),
 ag 28 26 false (.fa 3 11),
 ag 29 26 false (.load false 1 28),
 ag 30 26 false (.fa 3 8),
 ag 31 26 false (.load false 1 30),
 .call (pg 32 26 false (.callv 27 [29, 31])) 42 qtm,
 ag 33 23 true (.pick 26 (.c (.bool true)) 32),
 ao 34 (.pick 23 33 (.c (.bool false)))]) (.view [.sel [1, 2, 6, 8, 9, 11, 13, 14, 15, 34] [0, 1, 2]])
theorem qok : AC.ok Try.prog (TIof Try.prog) 39 0 (kret [(.cell 6 true 4), .t 7] qr) qdl := qn (zA (qe.ok q6i) trivial)
theorem qpd (v1 : Int) (v9 : Bool) (v13 : List AV) (v14 v15 : Int) (Aa : Bool) (Ab Ac Ad : Int) (Aq : Bool) (Ar As At : Int) (Au : Bool) (Av Aw Ax : Int) (K : Ex → Env → Mem → Option (AV × Bool)) : den 0 (kret [(.cell 6 true 4), .t 7] qr) qdl (qi [(1, (.int .i64 v1)), (2, (.func 42 [])), (6, (.ptr 0 0)), (8, (.ptr 1 0)), (9, (.bool v9)), (11, (.ptr 2 0)), (13, (.sl 4 v13)), (14, (.int .i64 v14)), (15, (.int .i64 v15))]) (qh [(some (.box true (qa Aa Ab Ac Ad))), (some (.box true (qa Aq Ar As At))), (some (.box true (qa Au Av Aw Ax)))]) K = qd6 v1 v9 v13 v14 v15 Aa Ab Ac Ad Aq Ar As At Au Av Aw Ax (qie v1 v9 v13 v14 v15 Aa Ab Ac Ad Aq Ar As At Au Av Aw Ax K) := by
  rw [qif]; kernel_rfl
def qi0 := subE (R := AV × Bool) qnp fun t m K => qb (bxC (m.s 2)) (qb (bxC (m.s 1)) (qb (bxC (m.s 0)) (qd6 (gI [t 1] 0) (gB [t 9] 0) (gL [t 13] 0) (gI [t 14] 0) (gI [t 15] 0)))) (qie (gI [t 1] 0) (gB [t 9] 0) (gL [t 13] 0) (gI [t 14] 0) (gI [t 15] 0) (gB (bxC (m.s 0)) 0) (gI (bxC (m.s 0)) 1) (gI (bxC (m.s 0)) 2) (gI (bxC (m.s 0)) 3) (gB (bxC (m.s 1)) 0) (gI (bxC (m.s 1)) 1) (gI (bxC (m.s 1)) 2) (gI (bxC (m.s 1)) 3) (gB (bxC (m.s 2)) 0) (gI (bxC (m.s 2)) 1) (gI (bxC (m.s 2)) 2) (gI (bxC (m.s 2)) 3) K)
theorem qpe : qc9 Try.prog (TIof Try.prog) 39 0 (kret [(.cell 6 true 4), .t 7] qr) (scOf qdl) (qi0) :=
  qi8 tabOk follows (qok) (qbe (by kernel_rfl)) fun t m K => qpd _ _ _ _ _ _ _ _ _ _ _ _ _ _ _ _ _ K
def qde  (Aa : Bool) (Ab Ac Ad : Int) (K : Ex → Env → Mem → Option (AV × Bool)) := (fun z_v9 z_b1_0 z_b1_1 z_b1_2 z_b1_3 => K (.exit 0) (qi [(6, (.ptr 0 0)), (8, (.ptr 1 0)), (9, (.bool z_v9))]) (qh [(some (.box true (qa Aa Ab Ac Ad))), (some (.box true (qa z_b1_0 z_b1_1 z_b1_2 z_b1_3)))]))
def qol : Shp := ⟨[(1, .one (.l (.i .i64))), (2, .one (.fn 42 [])), (6, .one (.ptr 0 0)), (8, .one (.ptr 1 0)), (9, .one (.l .b)), (13, .one (.l (.sl 4))), (14, .one (.l (.i .i64))), (15, .one (.l (.i .i64)))], [.box true (lk qc), .box true (lk qc)]⟩
def qfc (v1 : Int) (v9 : Bool) (v13 : List AV) (v14 v15 : Int) (Aa : Bool) (Ab Ac Ad : Int) (Aq : Bool) (Ar As At : Int) : Env := qi [(1, (.int .i64 v1)), (2, (.func 42 [])), (6, (.ptr 0 0)), (8, (.ptr 1 0)), (9, (.bool v9)), (13, (.sl 4 v13)), (14, (.int .i64 v14)), (15, (.int .i64 v15))]
def qfd (v1 : Int) (v9 : Bool) (v13 : List AV) (v14 v15 : Int) (Aa : Bool) (Ab Ac Ad : Int) (Aq : Bool) (Ar As At : Int) : Mem := qh [(some (.box true (qa Aa Ab Ac Ad))), (some (.box true (qa Aq Ar As At)))]
def qcj  (v1 : Int) (v9 : Bool) (v13 : List AV) (v14 v15 : Int) (Aa : Bool) (Ab Ac Ad : Int) (Aq : Bool) (Ar As At : Int) (next : Bool → Int → Bool → Int → Int → Int → Option (AV × Bool)) (kx0 : Bool → Bool → Int → Int → Int → Option (AV × Bool)) : Option (AV × Bool) :=
  (bif (decide (v15 < v14)) then (oB (ixB v13 v15) fun y1 => (bif fitC qc y1.cells then (qd6 v1 v9 v13 v14 v15 Aa Ab Ac Ad Aq Ar As At (gB y1.cells 0) (gI y1.cells 1) (gI y1.cells 2) (gI y1.cells 3) (fun v34q2 => (bif v34q2 then (next true (IntKind.i64.wrap (v15 + (1 : Int))) (gB y1.cells 0) (gI y1.cells 1) (gI y1.cells 2) (gI y1.cells 3)) else (next v9 (IntKind.i64.wrap (v15 + (1 : Int))) Aq Ar As At)))) else none)) else (kx0 v9 Aq Ar As At))
def qdw  (v1 : Int) (v13 : List AV) (v14 : Int) (Aa : Bool) (Ab Ac Ad : Int) (kx0 : Bool → Bool → Int → Int → Int → Option (AV × Bool)) : Nat → Bool → Int → Bool → Int → Int → Int → Option (AV × Bool)
  | 0 => (fun _ _ _ _ _ _ => none)
  | n + 1 => (fun v9 v15 Aq Ar As At => qcj v1 v9 v13 v14 v15 Aa Ab Ac Ad Aq Ar As At (qdw v1 v13 v14 Aa Ab Ac Ad kx0 n) kx0)
def qei := hull (qdw)
theorem qi1 : qei = qdw := ql _
def qck : AC (AV × Bool) :=
  .seq (.reg [ao 16 (.bin .lss 15 14)]) (.seq (.cond 16 (.skip) (.seq (.view [.sel [6, 8, 9] [0, 1]]) (.exit 0))) (.seq (.block 1 (.seq (.reg [ao 17 (.ia 4 13 15),
 .st (.etac 17 qc),
 ao 18 (.load true 4 17),
 ao 11 (.alloc [(.bool false), (.int .u64 0), (.int .u64 0), (.int .i64 0)]),
 an (.store 4 11 18)]) (.seq (.seq (.view [.sel [1, 2, 6, 8, 9, 11, 13, 14, 15] [0, 1, 2]]) (.sub (scOf qdl) qi0)) (.cond 34 (.reg [ao 35 (.load true 4 11),
 an (.store 4 8 35),
 ao 9 (.mv (.c (.bool true)))]) (.skip))))) (.seq (.reg [ao 36 (.bin .add 15 (.c (.int .i64 1))),
 ao 15 (.mv 36)]) (.view [.sel [1, 2, 6, 8, 9, 13, 14, 15] [0, 1]]))))
theorem qpf : AC.ok Try.prog (TIof Try.prog) 39 0 (kret [(.cell 6 true 4), .t 7] qr) qck := qn (zA qpe trivial)
theorem qom (v1 : Int) (v9 : Bool) (v13 : List AV) (v14 v15 : Int) (Aa : Bool) (Ab Ac Ad : Int) (Aq : Bool) (Ar As At : Int) (K : Ex → Env → Mem → Option (AV × Bool)) : den 0 (kret [(.cell 6 true 4), .t 7] qr) qck (qfc v1 v9 v13 v14 v15 Aa Ab Ac Ad Aq Ar As At) (qfd v1 v9 v13 v14 v15 Aa Ab Ac Ad Aq Ar As At) K = qcj v1 v9 v13 v14 v15 Aa Ab Ac Ad Aq Ar As At (fun z_v9 z_v15 z_b1_0 z_b1_1 z_b1_2 z_b1_3 => K .norm (qfc v1 z_v9 v13 v14 z_v15 Aa Ab Ac Ad z_b1_0 z_b1_1 z_b1_2 z_b1_3) (qfd v1 z_v9 v13 v14 z_v15 Aa Ab Ac Ad z_b1_0 z_b1_1 z_b1_2 z_b1_3)) (qde Aa Ab Ac Ad K) := by kernel_rfl
theorem qp1 (v1 : Int) (v13 : List AV) (v14 : Int) (Aa : Bool) (Ab Ac Ad : Int) (K : Ex → Env → Mem → Option (AV × Bool)) : ∀ (n : Nat) (v9 : Bool) (v15 : Int) (Aq : Bool) (Ar As At : Int), qht (den 0 (kret [(.cell 6 true 4), .t 7] qr) qck) n (qfc v1 v9 v13 v14 v15 Aa Ab Ac Ad Aq Ar As At) (qfd v1 v9 v13 v14 v15 Aa Ab Ac Ad Aq Ar As At) K = qei v1 v13 v14 Aa Ab Ac Ad (qde Aa Ab Ac Ad K) n v9 v15 Aq Ar As At := by
  rw [qi1]
  intro n
  induction n with
  | zero => intros; rfl
  | succ n ih =>
 intro v9 v15 Aq Ar As At
 exact (qom v1 v9 v13 v14 v15 Aa Ab Ac Ad Aq Ar As At (itK (den 0 (kret [(.cell 6 true 4), .t 7] qr) qck) n K)).trans (congrArg (fun q => qcj v1 v9 v13 v14 v15 Aa Ab Ac Ad Aq Ar As At q (qde Aa Ab Ac Ad K)) (funext fun v9 => funext fun v15 => funext fun Aq => funext fun Ar => funext fun As => funext fun At => ih v9 v15 Aq Ar As At))
def qjk := subE (R := AV × Bool) qol fun t m K => qb (bxC (m.s 1)) (qb (bxC (m.s 0)) (qei (gI [t 1] 0) (gL [t 13] 0) (gI [t 14] 0)) (qde (gB (bxC (m.s 0)) 0) (gI (bxC (m.s 0)) 1) (gI (bxC (m.s 0)) 2) (gI (bxC (m.s 0)) 3) K) FU (gB [t 9] 0) (gI [t 15] 0))
theorem qp2 : qc9 Try.prog (TIof Try.prog) 39 0 (kret [(.cell 6 true 4), .t 7] qr) (.loop (scOf qck)) (qjk) :=
  qjh tabOk follows (qpf) (qbe (by kernel_rfl)) fun t m K => qp1 _ _ _ _ _ _ _ K FU _ _ _ _ _ _
def qqj : Shp := ⟨[(0, .one (.l (.sl 4))), (1, .one (.l (.i .i64))), (2, .one (.fn 42 []))], []⟩
def qf8 (v0 : List AV) (v1 : Int) : Option (AV × Bool) :=
  (qei v1 v0 (v0.length : Int) false (0 : Int) (0 : Int) (0 : Int) (fun v9q1 b1_0q2 b1_1q3 b1_2q4 b1_3q5 => (some ((.agg [(.bool b1_0q2), (.int .u64 b1_1q3), (.int .u64 b1_2q4), (.int .i64 b1_3q5)]), v9q1))) FU false (0 : Int) false (0 : Int) (0 : Int) (0 : Int))
def qdi := hull qf8
theorem qke : qdi = qf8 := ql _
def qf9 : AC (AV × Bool) :=
  .seq (.reg [ao 6 (.alloc [(.bool false), (.int .u64 0), (.int .u64 0), (.int .i64 0)]),
 ao 7 (.mv (.c (.bool false)))]) (.seq (.reg [ao 12 (.build [(.bool false), (.int .u64 0), (.int .u64 0), (.int .i64 0)] []),
 ao 8 (.alloc [(.bool false), (.int .u64 0), (.int .u64 0), (.int .i64 0)]),
 an (.store 4 8 12),
 ao 9 (.mv (.c (.bool false)))]) (.seq (.seq (.reg [ao 13 (.mv 0),
 ao 14 (.len false 13),
 ao 15 (.mv (.c (.int .i64 0)))]) (.block 0 (.seq (.view [.sel [1, 2, 6, 8, 9, 13, 14, 15] [0, 1]]) (.sub (.loop (scOf qck)) qjk)))) (.seq (.reg [ao 37 (.load true 4 8),
 ao 38 (.mv 9),
 an (.store 4 6 37),
 ao 7 (.mv 38)]) (.ret))))
theorem qq7 : AC.ok Try.prog (TIof Try.prog) 39 0 (kret [(.cell 6 true 4), .t 7] qr) qf9 := qn (zA qp2 trivial)
theorem qr2 (v0 : List AV) (v1 : Int) : den 0 (kret [(.cell 6 true 4), .t 7] qr) qf9 (qi [(0, (.sl 4 v0)), (1, (.int .i64 v1)), (2, (.func 42 []))]) (qh []) (kend (kret [(.cell 6 true 4), .t 7] qr)) = qdi v0 v1 := by
  rw [qke]; kernel_rfl
theorem qr3 : cFn (TIof Try.prog) Try.f45 = some ⟨39, [(.cell 6 true 4), .t 7], scOf qf9⟩ := by kernel_rfl
def qr4 (xs : List AV) : Option (AV × Bool) := qdi (gL [(qk xs) 0] 0) (gI [(qk xs) 1] 0)
def qj0 {R : Type} : List AV → (AV → Option R) → Option R := entF qqj qr4 qqi
theorem qr5 {R : Type} : qe Try.prog 45 (qj0 (R := R)) :=
  qb6 tabOk follows Try.func45 (by kernel_rfl) qr3 (fun z r h => by
 obtain ⟨h1, h2⟩ := qm h
 cases h2
 exact (qgh h1).symm) qq7 (qbe (by kernel_rfl)) fun xs => qr2 _ _
def qrj {R : Type} : List AV → (AV → Option R) → Option R := (fun xs K => bif fnAt xs 2 44 then qjy xs K else (fun xs K => bif fnAt xs 2 43 then qjz xs K else qj0 xs K) xs K)
theorem q2n {R : Type} : qe Try.prog 45 (qrj (R := R)) := (qbmb (fun xs => fnAt xs 2 44) qrx (qbmb (fun xs => fnAt xs 2 43) qr1 qr5))
def qpg (z : AV) : Option (AV × Int) := cond (qkp [(.st [.b, (.i .u64), (.i .u64), (.i .i64)]), (.one (.i .i64))] z) (some ((gC (tpL z) 0), aI (gC (tpL z) 1))) none
def q6j (r : AV × Int) : AV := .tup [qmk (.st [.b, (.i .u64), (.i .u64), (.i .i64)]) r.1, .int .i64 r.2]
def q6k : Shp := ⟨[(0, .one (.l (.sl 8))), (1, .st (lk qc)), (2, .one (.l (.i .i64))), (3, .one (.l (.i .i64)))], []⟩
def qr6 (v0 : List AV) (Am : Bool) (An Ao Ap v2 v3 : Int) : Option (AV × Int) :=
  (oB (qky v0 Am An Ao Ap) fun r1 => (bif (!r1.2) then (some ((.agg [(.bool false), (.int .u64 (0 : Int)), (.int .u64 (0 : Int)), (.int .i64 (0 : Int))]), (11 : Int))) else (bif ((gI r1.1.cells 4) != (1 : Int)) then (some ((.agg [(.bool false), (.int .u64 (0 : Int)), (.int .u64 (0 : Int)), (.int .i64 (0 : Int))]), (21 : Int))) else (bif (decide (v2 < Ap)) then (some ((.agg [(.bool false), (.int .u64 (0 : Int)), (.int .u64 (0 : Int)), (.int .i64 (0 : Int))]), (1 : Int))) else (oB (qlp Am An Ao Ap) fun r2 => (bif (((decide (v2 > r2)) || (decide (v3 < (1 : Int)))) || (decide (v3 > (3 : Int)))) then (some ((.agg [(.bool false), (.int .u64 (0 : Int)), (.int .u64 (0 : Int)), (.int .i64 (0 : Int))]), (1 : Int))) else (oB (ql4 v0 Am An Ao Ap) fun r6 => (bif ((v3 == (1 : Int)) && true) then (oB (qdi r6 v2) fun r9 => (bif (!r9.2) then (some ((.agg [(.bool false), (.int .u64 (0 : Int)), (.int .u64 (0 : Int)), (.int .i64 (0 : Int))]), (22 : Int))) else (bif ((v3 == (3 : Int)) && (decide ((gI r9.1.cells 3) < v2))) then (oB (qgl (gB r9.1.cells 0) (gI r9.1.cells 1) (gI r9.1.cells 2) (gI r9.1.cells 3)) fun r16 => (oB (qee (gB r16.2.1.cells 0) (gI r16.2.1.cells 1) (gI r16.2.1.cells 2) (gI r16.2.1.cells 3) v2 (0 : Int)) fun r17 => (some ((.agg [(.bool (gB r17.1.cells 0)), (.int .u64 (gI r17.1.cells 1)), (.int .u64 (gI r17.1.cells 2)), (.int .i64 (gI r17.1.cells 3))]), (0 : Int))))) else (oB (qee (gB r9.1.cells 0) (gI r9.1.cells 1) (gI r9.1.cells 2) (gI r9.1.cells 3) v2 (0 : Int)) fun r18 => (some ((.agg [(.bool (gB r18.1.cells 0)), (.int .u64 (gI r18.1.cells 1)), (.int .u64 (gI r18.1.cells 2)), (.int .i64 (gI r18.1.cells 3))]), (0 : Int))))))) else (bif ((v3 == (2 : Int)) && true) then (oB (qdh r6 v2) fun r8 => (bif (!r8.2) then (some ((.agg [(.bool false), (.int .u64 (0 : Int)), (.int .u64 (0 : Int)), (.int .i64 (0 : Int))]), (22 : Int))) else (bif ((v3 == (3 : Int)) && (decide ((gI r8.1.cells 3) < v2))) then (oB (qgl (gB r8.1.cells 0) (gI r8.1.cells 1) (gI r8.1.cells 2) (gI r8.1.cells 3)) fun r13 => (oB (qee (gB r13.2.1.cells 0) (gI r13.2.1.cells 1) (gI r13.2.1.cells 2) (gI r13.2.1.cells 3) v2 (0 : Int)) fun r14 => (some ((.agg [(.bool (gB r14.1.cells 0)), (.int .u64 (gI r14.1.cells 1)), (.int .u64 (gI r14.1.cells 2)), (.int .i64 (gI r14.1.cells 3))]), (0 : Int))))) else (oB (qee (gB r8.1.cells 0) (gI r8.1.cells 1) (gI r8.1.cells 2) (gI r8.1.cells 3) v2 (0 : Int)) fun r15 => (some ((.agg [(.bool (gB r15.1.cells 0)), (.int .u64 (gI r15.1.cells 1)), (.int .u64 (gI r15.1.cells 2)), (.int .i64 (gI r15.1.cells 3))]), (0 : Int))))))) else (bif ((v3 == (3 : Int)) && true) then (oB (qdg r6 v2) fun r7 => (bif (!r7.2) then (some ((.agg [(.bool false), (.int .u64 (0 : Int)), (.int .u64 (0 : Int)), (.int .i64 (0 : Int))]), (22 : Int))) else (bif ((v3 == (3 : Int)) && (decide ((gI r7.1.cells 3) < v2))) then (oB (qgl (gB r7.1.cells 0) (gI r7.1.cells 1) (gI r7.1.cells 2) (gI r7.1.cells 3)) fun r10 => (oB (qee (gB r10.2.1.cells 0) (gI r10.2.1.cells 1) (gI r10.2.1.cells 2) (gI r10.2.1.cells 3) v2 (0 : Int)) fun r11 => (some ((.agg [(.bool (gB r11.1.cells 0)), (.int .u64 (gI r11.1.cells 1)), (.int .u64 (gI r11.1.cells 2)), (.int .i64 (gI r11.1.cells 3))]), (0 : Int))))) else (oB (qee (gB r7.1.cells 0) (gI r7.1.cells 1) (gI r7.1.cells 2) (gI r7.1.cells 3) v2 (0 : Int)) fun r12 => (some ((.agg [(.bool (gB r12.1.cells 0)), (.int .u64 (gI r12.1.cells 1)), (.int .u64 (gI r12.1.cells 2)), (.int .i64 (gI r12.1.cells 3))]), (0 : Int))))))) else none))))))))))
def qhh := hull qr6
theorem qxf : qhh = qr6 := ql _
def qr7 : AC (AV × Int) :=
  .seq (.reg [ao 5 (.box 1),
 ao 8 (.alloc [(.bool false), (.int .u64 0), (.int .u64 0), (.int .i64 0)]),
 ao 9 (.mv (.c (.int .i64 0)))]) (.seq (.reg [ao 15 (.mv 0),
 ao 16 (.load true 4 5),
 .call (po 17 (.call 25 [15, 16])) 25 qlm,
 ao 14 (.mv 17),
 ao 18 (.ext 14 0),
 ao 19 (.ext 14 1),
 ao 10 (.alloc [(.bool false), (.int .u64 0), (.int .u64 0), (.int .i64 0), (.int .i64 0), (.str []), (.str []), (.int .i64 0)]),
 an (.store 8 10 18),
 ao 11 (.mv 19)]) (.seq (.block 0 (.seq (.reg [ao 21 (.mv 11),
 ao 22 (.un .not 21),
 ao 20 (.mv 22)]) (.cond 20 (.seq (.reg [ao 23 (.build [(.bool false), (.int .u64 0), (.int .u64 0), (.int .i64 0)] []),
 an (.store 4 8 23),
 ao 9 (.mv (.c (.int .i64 11)))]) (.ret)) (.seq (.reg [ao 25 (.fa 4 10),
 ao 26 (.load false 1 25),
 ao 27 (.bin .neq 26 (.c (.int .i64 1))),
 ao 24 (.mv 27)]) (.cond 24 (.seq (.reg [ao 28 (.build [(.bool false), (.int .u64 0), (.int .u64 0), (.int .i64 0)] []),
 an (.store 4 8 28),
 ao 9 (.mv (.c (.int .i64 21)))]) (.ret)) (.seq (.reg [ao 30 (.mv 2),
 ao 31 (.fa 3 5),
 ao 32 (.load false 1 31),
 ao 33 (.bin .lss 30 32),
 ao 34 (.mv 33),
 ag 35 34 false (.mv 2),
 ag 36 34 false (.load true 4 5),
 .call (pg 37 34 false (.call 41 [36])) 41 qvk,
 ag 38 34 false (.bin .gtr 35 37),
 ao 39 (.pick 34 (.c (.bool true)) 38),
 ao 40 (.mv 39),
 .grp 40 false [(pg 41 40 false (.mv 3)), (pg 42 40 false (.bin .lss 41 (.c (.int .i64 1))))] 43 42,
 ao 44 (.mv 43),
 .grp 44 false [(pg 45 44 false (.mv 3)), (pg 46 44 false (.bin .gtr 45 (.c (.int .i64 3))))] 47 46,
 ao 29 (.mv 47)]) (.cond 29 (.seq (.reg [ao 48 (.build [(.bool false), (.int .u64 0), (.int .u64 0), (.int .i64 0)] []),
 an (.store 4 8 48),
 ao 9 (.mv (.c (.int .i64 1)))]) (.ret)) (.skip)))))))) (.seq (.reg [ao 49 .mkmap,
 an (.mput (.mk false [(.i .i64)]) 49 (.c (.int .i64 1)) (.c (.func 42 []))),
 an (.mput (.mk false [(.i .i64)]) 49 (.c (.int .i64 2)) (.c (.func 43 []))),
 an (.mput (.mk false [(.i .i64)]) 49 (.c (.int .i64 3)) (.c (.func 44 []))),
 ao 50 (.mv 49),
 ao 12 (.mv 50)]) (.seq (.draw [] [ao 52 (.mv 0),
 ao 53 (.load true 4 5),
 .call (po 54 (.call 46 [52, 53])) 46 qud,
 ao 55 (.mv 2),
 ao 56 (.mv 12),
 ao 57 (.mv 3),
 ao 58 (.mget (.mk false [(.i .i64)]) .nilf false 56 57),
 .call (po 59 (.call 45 [54, 55, 58])) 45 qrj,
 ao 51 (.mv 59),
 ao 60 (.ext 51 0),
 ao 61 (.ext 51 1),
 an (.held [51] [])] [ao 13 (.alloc [(.bool false), (.int .u64 0), (.int .u64 0), (.int .i64 0)]),
 an (.store 4 13 60),
 ao 11 (.mv 61)]) (.seq (.seq (.reg [ao 62 (.mv 11),
 ao 63 (.un .not 62)]) (.cond 63 (.seq (.reg [ao 64 (.build [(.bool false), (.int .u64 0), (.int .u64 0), (.int .i64 0)] []),
 an (.store 4 8 64),
 ao 9 (.mv (.c (.int .i64 22)))]) (.ret)) (.skip))) (.seq (.seq (.reg [ao 65 (.mv 3),
 ao 66 (.bin .eql 65 (.c (.int .i64 3))),
 ao 67 (.mv 66),
 .grp 67 true [(pg 68 67 true (.fa 3 13)), (pg 69 67 true (.load false 1 68)), (pg 70 67 true (.mv 2)), (pg 71 67 true (.bin .lss 69 70))] 72 71]) (.cond 72 (.reg [ao 74 (.load true 4 13),
 .call (po 75 (.call 47 [74])) 47 qrr,
 ao 73 (.mv 75),
 ao 76 (.ext 73 0),
 ao 77 (.ext 73 1),
 ao 78 (.ext 73 2),
 an (.store 4 13 77)]) (.skip))) (.seq (.reg [ao 80 (.load true 4 13),
 ao 81 (.mv 2),
 .call (po 82 (.call 48 [80, 81, (.c (.int .u64 0))])) 48 qpt,
 ao 79 (.mv 82),
 ao 83 (.ext 79 0),
 ao 84 (.ext 79 1),
 an (.store 4 13 83)]) (.seq (.reg [ao 85 (.load true 4 13),
 an (.store 4 8 85),
 ao 9 (.mv (.c (.int .i64 0)))]) (.ret)))))))))
theorem q7n : AC.ok Try.prog (TIof Try.prog) 86 0 (kret [(.cell 8 true 4), .t 9] qpg) qr7 := qn (zA (qe.ok qsp) (zA (qe.ok q99) (zA (qe.ok q5m) (zA (qe.ok q2n) (zA rfl (zA (qe.ok q07) (zA (qe.ok qyf) trivial)))))))
theorem qbal (v0 : List AV) (Am : Bool) (An Ao Ap v2 v3 : Int) : den 0 (kret [(.cell 8 true 4), .t 9] qpg) qr7 (qi [(0, (.sl 8 v0)), (1, .agg (qa Am An Ao Ap)), (2, (.int .i64 v2)), (3, (.int .i64 v3))]) (qh []) (kend (kret [(.cell 8 true 4), .t 9] qpg)) = qhh v0 Am An Ao Ap v2 v3 := by
  rw [qxf]; kernel_rfl
theorem qbam : cFn (TIof Try.prog) Try.f15 = some ⟨86, [(.cell 8 true 4), .t 9], scOf qr7⟩ := by kernel_rfl
def qban (xs : List AV) : Option (AV × Int) := qb ((qk xs) 1).cells (qhh (gL [(qk xs) 0] 0)) (gI [(qk xs) 2] 0) (gI [(qk xs) 3] 0)
def qld {R : Type} : List AV → (AV → Option R) → Option R := entF q6k qban q6j
theorem qr8 {R : Type} : qe Try.prog 15 (qld (R := R)) :=
  qb6 tabOk follows Try.func15 (by kernel_rfl) qbam (fun z r h => by
 obtain ⟨h1, h2⟩ := qm h
 cases h2
 exact (qgh h1).symm) q7n (qbe (by kernel_rfl)) fun xs => qbal _ _ _ _ _ _ _
def q10 : Shp := ⟨[(0, .one (.l (.i .i64))), (1, .one (.l (.i .i64)))], []⟩
def qnq (v0 v1 : Int) : Option Bool :=
  (some (decide (v0 < v1)))
def qlt := hull qnq
theorem qtn : qlt = qnq := ql _
def qnr : AC Bool :=
  .seq (.reg [ao 4 (.mv (.c (.bool false)))]) (.seq (.reg [ao 5 (.mv 0),
 ao 6 (.mv 1),
 ao 7 (.bin .lss 5 6),
 ao 4 (.mv 7)]) (.ret))
theorem q2o : AC.ok Try.prog (TIof Try.prog) 8 0 (kret [.t 4] decB) qnr := qn trivial
theorem q3u (v0 v1 : Int) : den 0 (kret [.t 4] decB) qnr (qi [(0, (.int .i64 v0)), (1, (.int .i64 v1))]) (qh []) (kend (kret [.t 4] decB)) = qlt v0 v1 := by
  rw [qtn]; kernel_rfl
theorem q3v : cFn (TIof Try.prog) Try.f54 = some ⟨8, [.t 4], scOf qnr⟩ := by kernel_rfl
def q3w (xs : List AV) : Option Bool := qlt (gI [(qk xs) 0] 0) (gI [(qk xs) 1] 0)
def qsf {R : Type} : List AV → (AV → Option R) → Option R := entF q10 q3w AV.bool
theorem q3x {R : Type} : qe Try.prog 54 (qsf (R := R)) :=
  qb6 tabOk follows Try.func54 (by kernel_rfl) q3v hdeB q2o (qbe (by kernel_rfl)) fun xs => q3u _ _
def qo (z : AV) : Option (AV × Bool) := cond (qkp [(.st [.b, (.i .u64), (.i .u64), (.i .i64)]), (.one .b)] z) (some ((gC (tpL z) 0), aB (gC (tpL z) 1))) none
def qp3 (r : AV × Bool) : AV := .tup [qmk (.st [.b, (.i .u64), (.i .u64), (.i .i64)]) r.1, .bool r.2]
def qhi  (v1 : Int) (v9 : Bool) (v13 : List AV) (v14 v15 : Int) (Aa : Bool) (Ab Ac Ad : Int) (Aq : Bool) (Ar As At : Int) (Au : Bool) (Av Aw Ax : Int) (K : Ex → Env → Mem → Option (AV × Bool)) := (fun z_v34 => K .norm (qi [(1, (.int .i64 v1)), (2, (.func 54 [])), (6, (.ptr 0 0)), (8, (.ptr 1 0)), (9, (.bool v9)), (11, (.ptr 2 0)), (13, (.sl 4 v13)), (14, (.int .i64 v14)), (15, (.int .i64 v15)), (34, (.bool z_v34))]) (qh [(some (.box true (qa Aa Ab Ac Ad))), (some (.box true (qa Aq Ar As At))), (some (.box true (qa Au Av Aw Ax)))]))
def qna : Shp := ⟨[(1, .one (.l (.i .i64))), (2, .one (.fn 54 [])), (6, .one (.ptr 0 0)), (8, .one (.ptr 1 0)), (9, .one (.l .b)), (11, .one (.ptr 2 0)), (13, .one (.l (.sl 4))), (14, .one (.l (.i .i64))), (15, .one (.l (.i .i64)))], [.box true (lk qc), .box true (lk qc), .box true (lk qc)]⟩
def qe1  (v1 : Int) (v9 : Bool) (v13 : List AV) (v14 v15 : Int) (Aa : Bool) (Ab Ac Ad : Int) (Aq : Bool) (Ar As At : Int) (Au : Bool) (Av Aw Ax : Int) (kn : Bool → Option (AV × Bool)) : Option (AV × Bool) :=
  (bif (decide (Ax ≤ v1)) then (bif (!v9) then (kn true) else (oB (qlt Ax At) fun r1 => (kn r1))) else (kn false))
def qdx := hull (qe1)
theorem qhj : qdx = qe1 := ql _
def qdf : AC (AV × Bool) :=
  .seq (.reg [ao 19 (.fa 3 11),
 ao 20 (.load false 1 19),
 ao 21 (.mv 1),
 ao 22 (.bin .leq 20 21),
 ao 23 (.mv 22),
 ag 24 23 true (.mv 9),
 ag 25 23 true (.un .not 24),
 ag 26 23 true (.mv 25),
 ag 27 26 false (.mv 2),
 ag 28 26 false (.fa 3 11),
 ag 29 26 false (.load false 1 28),
 ag 30 26 false (.fa 3 8),
 ag 31 26 false (.load false 1 30),
 .call (pg 32 26 false (.callv 27 [29, 31])) 54 qsf,
 ag 33 23 true (.pick 26 (.c (.bool true)) 32),
 ao 34 (.pick 23 33 (.c (.bool false)))]) (.view [.sel [1, 2, 6, 8, 9, 11, 13, 14, 15, 34] [0, 1, 2]])
theorem qns : AC.ok Try.prog (TIof Try.prog) 39 0 (kret [(.cell 6 true 4), .t 7] qo) qdf := qn (zA (qe.ok q3x) trivial)
theorem qon (v1 : Int) (v9 : Bool) (v13 : List AV) (v14 v15 : Int) (Aa : Bool) (Ab Ac Ad : Int) (Aq : Bool) (Ar As At : Int) (Au : Bool) (Av Aw Ax : Int) (K : Ex → Env → Mem → Option (AV × Bool)) : den 0 (kret [(.cell 6 true 4), .t 7] qo) qdf (qi [(1, (.int .i64 v1)), (2, (.func 54 [])), (6, (.ptr 0 0)), (8, (.ptr 1 0)), (9, (.bool v9)), (11, (.ptr 2 0)), (13, (.sl 4 v13)), (14, (.int .i64 v14)), (15, (.int .i64 v15))]) (qh [(some (.box true (qa Aa Ab Ac Ad))), (some (.box true (qa Aq Ar As At))), (some (.box true (qa Au Av Aw Ax)))]) K = qdx v1 v9 v13 v14 v15 Aa Ab Ac Ad Aq Ar As At Au Av Aw Ax (qhi v1 v9 v13 v14 v15 Aa Ab Ac Ad Aq Ar As At Au Av Aw Ax K) := by
  rw [qhj]; kernel_rfl
def qig := subE (R := AV × Bool) qna fun t m K => qb (bxC (m.s 2)) (qb (bxC (m.s 1)) (qb (bxC (m.s 0)) (qdx (gI [t 1] 0) (gB [t 9] 0) (gL [t 13] 0) (gI [t 14] 0) (gI [t 15] 0)))) (qhi (gI [t 1] 0) (gB [t 9] 0) (gL [t 13] 0) (gI [t 14] 0) (gI [t 15] 0) (gB (bxC (m.s 0)) 0) (gI (bxC (m.s 0)) 1) (gI (bxC (m.s 0)) 2) (gI (bxC (m.s 0)) 3) (gB (bxC (m.s 1)) 0) (gI (bxC (m.s 1)) 1) (gI (bxC (m.s 1)) 2) (gI (bxC (m.s 1)) 3) (gB (bxC (m.s 2)) 0) (gI (bxC (m.s 2)) 1) (gI (bxC (m.s 2)) 2) (gI (bxC (m.s 2)) 3) K)
theorem qoo : qc9 Try.prog (TIof Try.prog) 39 0 (kret [(.cell 6 true 4), .t 7] qo) (scOf qdf) (qig) :=
  qi8 tabOk follows (qns) (qbe (by kernel_rfl)) fun t m K => qon _ _ _ _ _ _ _ _ _ _ _ _ _ _ _ _ _ K
def qc8  (Aa : Bool) (Ab Ac Ad : Int) (K : Ex → Env → Mem → Option (AV × Bool)) := (fun z_v9 z_b1_0 z_b1_1 z_b1_2 z_b1_3 => K (.exit 0) (qi [(6, (.ptr 0 0)), (8, (.ptr 1 0)), (9, (.bool z_v9))]) (qh [(some (.box true (qa Aa Ab Ac Ad))), (some (.box true (qa z_b1_0 z_b1_1 z_b1_2 z_b1_3)))]))
def qnt : Shp := ⟨[(1, .one (.l (.i .i64))), (2, .one (.fn 54 [])), (6, .one (.ptr 0 0)), (8, .one (.ptr 1 0)), (9, .one (.l .b)), (13, .one (.l (.sl 4))), (14, .one (.l (.i .i64))), (15, .one (.l (.i .i64)))], [.box true (lk qc), .box true (lk qc)]⟩
def qe2 (v1 : Int) (v9 : Bool) (v13 : List AV) (v14 v15 : Int) (Aa : Bool) (Ab Ac Ad : Int) (Aq : Bool) (Ar As At : Int) : Env := qi [(1, (.int .i64 v1)), (2, (.func 54 [])), (6, (.ptr 0 0)), (8, (.ptr 1 0)), (9, (.bool v9)), (13, (.sl 4 v13)), (14, (.int .i64 v14)), (15, (.int .i64 v15))]
def qe3 (v1 : Int) (v9 : Bool) (v13 : List AV) (v14 v15 : Int) (Aa : Bool) (Ab Ac Ad : Int) (Aq : Bool) (Ar As At : Int) : Mem := qh [(some (.box true (qa Aa Ab Ac Ad))), (some (.box true (qa Aq Ar As At)))]
def qcb  (v1 : Int) (v9 : Bool) (v13 : List AV) (v14 v15 : Int) (Aa : Bool) (Ab Ac Ad : Int) (Aq : Bool) (Ar As At : Int) (next : Bool → Int → Bool → Int → Int → Int → Option (AV × Bool)) (kx0 : Bool → Bool → Int → Int → Int → Option (AV × Bool)) : Option (AV × Bool) :=
  (bif (decide (v15 < v14)) then (oB (ixB v13 v15) fun y1 => (bif fitC qc y1.cells then (qdx v1 v9 v13 v14 v15 Aa Ab Ac Ad Aq Ar As At (gB y1.cells 0) (gI y1.cells 1) (gI y1.cells 2) (gI y1.cells 3) (fun v34q2 => (bif v34q2 then (next true (IntKind.i64.wrap (v15 + (1 : Int))) (gB y1.cells 0) (gI y1.cells 1) (gI y1.cells 2) (gI y1.cells 3)) else (next v9 (IntKind.i64.wrap (v15 + (1 : Int))) Aq Ar As At)))) else none)) else (kx0 v9 Aq Ar As At))
def qdm  (v1 : Int) (v13 : List AV) (v14 : Int) (Aa : Bool) (Ab Ac Ad : Int) (kx0 : Bool → Bool → Int → Int → Int → Option (AV × Bool)) : Nat → Bool → Int → Bool → Int → Int → Int → Option (AV × Bool)
  | 0 => (fun _ _ _ _ _ _ => none)
  | n + 1 => (fun v9 v15 Aq Ar As At => qcb v1 v9 v13 v14 v15 Aa Ab Ac Ad Aq Ar As At (qdm v1 v13 v14 Aa Ab Ac Ad kx0 n) kx0)
def qd7 := hull (qdm)
theorem qih : qd7 = qdm := ql _
def qcc : AC (AV × Bool) :=
  .seq (.reg [ao 16 (.bin .lss 15 14)]) (.seq (.cond 16 (.skip) (.seq (.view [.sel [6, 8, 9] [0, 1]]) (.exit 0))) (.seq (.block 1 (.seq (.reg [ao 17 (.ia 4 13 15),
 .st (.etac 17 qc),
 ao 18 (.load true 4 17),
 ao 11 (.alloc [(.bool false), (.int .u64 0), (.int .u64 0), (.int .i64 0)]),
 an (.store 4 11 18)]) (.seq (.seq (.view [.sel [1, 2, 6, 8, 9, 11, 13, 14, 15] [0, 1, 2]]) (.sub (scOf qdf) qig)) (.cond 34 (.reg [ao 35 (.load true 4 11),
 an (.store 4 8 35),
 ao 9 (.mv (.c (.bool true)))]) (.skip))))) (.seq (.reg [ao 36 (.bin .add 15 (.c (.int .i64 1))),
 ao 15 (.mv 36)]) (.view [.sel [1, 2, 6, 8, 9, 13, 14, 15] [0, 1]]))))
theorem qop : AC.ok Try.prog (TIof Try.prog) 39 0 (kret [(.cell 6 true 4), .t 7] qo) qcc := qn (zA qoo trivial)
theorem qnu (v1 : Int) (v9 : Bool) (v13 : List AV) (v14 v15 : Int) (Aa : Bool) (Ab Ac Ad : Int) (Aq : Bool) (Ar As At : Int) (K : Ex → Env → Mem → Option (AV × Bool)) : den 0 (kret [(.cell 6 true 4), .t 7] qo) qcc (qe2 v1 v9 v13 v14 v15 Aa Ab Ac Ad Aq Ar As At) (qe3 v1 v9 v13 v14 v15 Aa Ab Ac Ad Aq Ar As At) K = qcb v1 v9 v13 v14 v15 Aa Ab Ac Ad Aq Ar As At (fun z_v9 z_v15 z_b1_0 z_b1_1 z_b1_2 z_b1_3 => K .norm (qe2 v1 z_v9 v13 v14 z_v15 Aa Ab Ac Ad z_b1_0 z_b1_1 z_b1_2 z_b1_3) (qe3 v1 z_v9 v13 v14 z_v15 Aa Ab Ac Ad z_b1_0 z_b1_1 z_b1_2 z_b1_3)) (qc8 Aa Ab Ac Ad K) := by kernel_rfl
theorem qph (v1 : Int) (v13 : List AV) (v14 : Int) (Aa : Bool) (Ab Ac Ad : Int) (K : Ex → Env → Mem → Option (AV × Bool)) : ∀ (n : Nat) (v9 : Bool) (v15 : Int) (Aq : Bool) (Ar As At : Int), qht (den 0 (kret [(.cell 6 true 4), .t 7] qo) qcc) n (qe2 v1 v9 v13 v14 v15 Aa Ab Ac Ad Aq Ar As At) (qe3 v1 v9 v13 v14 v15 Aa Ab Ac Ad Aq Ar As At) K = qd7 v1 v13 v14 Aa Ab Ac Ad (qc8 Aa Ab Ac Ad K) n v9 v15 Aq Ar As At := by
  rw [qih]
  intro n
  induction n with
  | zero => intros; rfl
  | succ n ih =>
 intro v9 v15 Aq Ar As At
 exact (qnu v1 v9 v13 v14 v15 Aa Ab Ac Ad Aq Ar As At (itK (den 0 (kret [(.cell 6 true 4), .t 7] qo) qcc) n K)).trans (congrArg (fun q => qcb v1 v9 v13 v14 v15 Aa Ab Ac Ad Aq Ar As At q (qc8 Aa Ab Ac Ad K)) (funext fun v9 => funext fun v15 => funext fun Aq => funext fun Ar => funext fun As => funext fun At => ih v9 v15 Aq Ar As At))
def qi2 := subE (R := AV × Bool) qnt fun t m K => qb (bxC (m.s 1)) (qb (bxC (m.s 0)) (qd7 (gI [t 1] 0) (gL [t 13] 0) (gI [t 14] 0)) (qc8 (gB (bxC (m.s 0)) 0) (gI (bxC (m.s 0)) 1) (gI (bxC (m.s 0)) 2) (gI (bxC (m.s 0)) 3) K) FU (gB [t 9] 0) (gI [t 15] 0))
theorem qpi : qc9 Try.prog (TIof Try.prog) 39 0 (kret [(.cell 6 true 4), .t 7] qo) (.loop (scOf qcc)) (qi2) :=
  qjh tabOk follows (qop) (qbe (by kernel_rfl)) fun t m K => qph _ _ _ _ _ _ _ K FU _ _ _ _ _ _
def qp4 : Shp := ⟨[(0, .one (.l (.sl 4))), (1, .one (.l (.i .i64))), (2, .one (.fn 54 []))], []⟩
def qfw (v0 : List AV) (v1 : Int) : Option (AV × Bool) :=
  (qd7 v1 v0 (v0.length : Int) false (0 : Int) (0 : Int) (0 : Int) (fun v9q1 b1_0q2 b1_1q3 b1_2q4 b1_3q5 => (some ((.agg [(.bool b1_0q2), (.int .u64 b1_1q3), (.int .u64 b1_2q4), (.int .i64 b1_3q5)]), v9q1))) FU false (0 : Int) false (0 : Int) (0 : Int) (0 : Int))
def qcz := hull qfw
theorem qj1 : qcz = qfw := ql _
def qfx : AC (AV × Bool) :=
  .seq (.reg [ao 6 (.alloc [(.bool false), (.int .u64 0), (.int .u64 0), (.int .i64 0)]),
 ao 7 (.mv (.c (.bool false)))]) (.seq (.reg [ao 12 (.build [(.bool false), (.int .u64 0), (.int .u64 0), (.int .i64 0)] []),
 ao 8 (.alloc [(.bool false), (.int .u64 0), (.int .u64 0), (.int .i64 0)]),
 an (.store 4 8 12),
 ao 9 (.mv (.c (.bool false)))]) (.seq (.seq (.reg [ao 13 (.mv 0),
 ao 14 (.len false 13),
 ao 15 (.mv (.c (.int .i64 0)))]) (.block 0 (.seq (.view [.sel [1, 2, 6, 8, 9, 13, 14, 15] [0, 1]]) (.sub (.loop (scOf qcc)) qi2)))) (.seq (.reg [ao 37 (.load true 4 8),
 ao 38 (.mv 9),
 an (.store 4 6 37),
 ao 7 (.mv 38)]) (.ret))))
theorem qqk : AC.ok Try.prog (TIof Try.prog) 39 0 (kret [(.cell 6 true 4), .t 7] qo) qfx := qn (zA qpi trivial)
theorem qq8 (v0 : List AV) (v1 : Int) : den 0 (kret [(.cell 6 true 4), .t 7] qo) qfx (qi [(0, (.sl 4 v0)), (1, (.int .i64 v1)), (2, (.func 54 []))]) (qh []) (kend (kret [(.cell 6 true 4), .t 7] qo)) = qcz v0 v1 := by
  rw [qj1]; kernel_rfl
theorem qq9 : cFn (TIof Try.prog) Try.f45 = some ⟨39, [(.cell 6 true 4), .t 7], scOf qfx⟩ := by kernel_rfl
def qra (xs : List AV) : Option (AV × Bool) := qcz (gL [(qk xs) 0] 0) (gI [(qk xs) 1] 0)
def qjl {R : Type} : List AV → (AV → Option R) → Option R := entF qp4 qra qp3
theorem qrb {R : Type} : qe Try.prog 45 (qjl (R := R)) :=
  qb6 tabOk follows Try.func45 (by kernel_rfl) qq9 (fun z r h => by
 obtain ⟨h1, h2⟩ := qm h
 cases h2
 exact (qgh h1).symm) qqk (qbe (by kernel_rfl)) fun xs => qq8 _ _
def q11 : Shp := ⟨[(0, .one (.l (.sl 8))), (1, .st (lk qc))], []⟩
def qnv (v0 : List AV) (Am : Bool) (An Ao Ap : Int) : Option Bool :=
  (oB (qky v0 Am An Ao Ap) fun r1 => (some (r1.2 && ((gI r1.1.cells 4) == (1 : Int)))))
def qlu := hull qnv
theorem qto : qlu = qnv := ql _
def qnw : AC Bool :=
  .seq (.reg [ao 3 (.box 1),
 ao 4 (.mv (.c (.bool false)))]) (.seq (.reg [ao 8 (.mv 0),
 ao 9 (.load true 4 3),
 .call (po 10 (.call 25 [8, 9])) 25 qlm,
 ao 7 (.mv 10),
 ao 11 (.ext 7 0),
 ao 12 (.ext 7 1),
 ao 5 (.alloc [(.bool false), (.int .u64 0), (.int .u64 0), (.int .i64 0), (.int .i64 0), (.str []), (.str []), (.int .i64 0)]),
 an (.store 8 5 11),
 ao 6 (.mv 12)]) (.seq (.reg [ao 13 (.mv 6),
 ao 14 (.mv 13),
 .grp 14 true [(pg 15 14 true (.fa 4 5)), (pg 16 14 true (.load false 1 15)), (pg 17 14 true (.bin .eql 16 (.c (.int .i64 1))))] 18 17,
 ao 4 (.mv 18)]) (.ret)))
theorem q2p : AC.ok Try.prog (TIof Try.prog) 19 0 (kret [.t 4] decB) qnw := qn (zA (qe.ok qsp) trivial)
theorem q3y (v0 : List AV) (Am : Bool) (An Ao Ap : Int) : den 0 (kret [.t 4] decB) qnw (qi [(0, (.sl 8 v0)), (1, .agg (qa Am An Ao Ap))]) (qh []) (kend (kret [.t 4] decB)) = qlu v0 Am An Ao Ap := by
  rw [qto]; kernel_rfl
theorem q3z : cFn (TIof Try.prog) Try.f55 = some ⟨19, [.t 4], scOf qnw⟩ := by kernel_rfl
def q30 (xs : List AV) : Option Bool := qb ((qk xs) 1).cells (qlu (gL [(qk xs) 0] 0))
def qsg {R : Type} : List AV → (AV → Option R) → Option R := entF q11 q30 AV.bool
theorem q31 {R : Type} : qe Try.prog 55 (qsg (R := R)) :=
  qb6 tabOk follows Try.func55 (by kernel_rfl) q3z hdeB q2p (qbe (by kernel_rfl)) fun xs => q3y _ _ _ _ _
def qnx (z : AV) : Option (Int × Bool) := cond (qkp [(.one (.i .i64)), (.one .b)] z) (some (aI (gC (tpL z) 0), aB (gC (tpL z) 1))) none
def q32 (r : Int × Bool) : AV := .tup [.int .i64 r.1, .bool r.2]
def q33 : Shp := ⟨[(0, .one (.l (.sl 8))), (1, .st (lk qc))], []⟩
def qql (v0 : List AV) (Am : Bool) (An Ao Ap : Int) : Option (Int × Bool) :=
  (oB (ql4 v0 Am An Ao Ap) fun r1 => (oB (qcz r1 (128 : Int)) fun r2 => (bif (!r2.2) then (some ((0 : Int), false)) else (oB (qlu v0 Am An Ao Ap) fun r3 => (bif (!r3) then (some ((0 : Int), false)) else (some ((gI r2.1.cells 3), true)))))))
def qk9 := hull qql
theorem qvn : qk9 = qql := ql _
def qqm : AC (Int × Bool) :=
  .seq (.reg [ao 3 (.box 1),
 ao 4 (.mv (.c (.int .i64 0))),
 ao 5 (.mv (.c (.bool false)))]) (.seq (.reg [ao 9 (.mv 0),
 ao 10 (.load true 4 3),
 .callc (po 11 (.call 46 [9, 10])) 46 qud,
 .call (po 12 (.call 45 [11, (.c (.int .i64 128)), (.c (.func 54 []))])) 45 qjl,
 ao 8 (.mv 12),
 ao 13 (.ext 8 0),
 ao 14 (.ext 8 1),
 ao 6 (.alloc [(.bool false), (.int .u64 0), (.int .u64 0), (.int .i64 0)]),
 an (.store 4 6 13),
 ao 7 (.mv 14)]) (.seq (.seq (.reg [ao 15 (.mv 7),
 ao 16 (.un .not 15),
 ao 17 (.mv 16),
 ag 18 17 false (.mv 0),
 ag 19 17 false (.load true 4 3),
 .call (pg 20 17 false (.call 55 [18, 19])) 55 qsg,
 ag 21 17 false (.un .not 20),
 ao 22 (.pick 17 (.c (.bool true)) 21)]) (.cond 22 (.seq (.reg [ao 4 (.mv (.c (.int .i64 0))),
 ao 5 (.mv (.c (.bool false)))]) (.ret)) (.skip))) (.seq (.reg [ao 23 (.fa 3 6),
 ao 24 (.load false 1 23),
 ao 4 (.mv 24),
 ao 5 (.mv (.c (.bool true)))]) (.ret))))
theorem q6l : AC.ok Try.prog (TIof Try.prog) 25 0 (kret [.t 4, .t 5] qnx) qqm := qn (zA (qe.ok q5m) (zA (qe.ok qrb) (zA (qe.ok q31) trivial)))
theorem q7o (v0 : List AV) (Am : Bool) (An Ao Ap : Int) : den 0 (kret [.t 4, .t 5] qnx) qqm (qi [(0, (.sl 8 v0)), (1, .agg (qa Am An Ao Ap))]) (qh []) (kend (kret [.t 4, .t 5] qnx)) = qk9 v0 Am An Ao Ap := by
  rw [qvn]; kernel_rfl
theorem q7p : cFn (TIof Try.prog) Try.f17 = some ⟨25, [.t 4, .t 5], scOf qqm⟩ := by kernel_rfl
def q7q (xs : List AV) : Option (Int × Bool) := qb ((qk xs) 1).cells (qk9 (gL [(qk xs) 0] 0))
def quh {R : Type} : List AV → (AV → Option R) → Option R := entF q33 q7q q32
theorem q7r {R : Type} : qe Try.prog 17 (quh (R := R)) :=
  qb6 tabOk follows Try.func17 (by kernel_rfl) q7p (fun z r h => by
 obtain ⟨h1, h2⟩ := qm h
 cases h2
 exact (qgh h1).symm) q6l (qbe (by kernel_rfl)) fun xs => q7o _ _ _ _ _
def q7s : Shp := ⟨[], []⟩
def qs5 : Option Bool :=
  (oB (qka) fun r1 => (oB (qgn) fun r2 => (oB (qhh r1 (gB r2.cells 0) (gI r2.cells 1) (gI r2.cells 2) (gI r2.cells 3) (28 : Int) (3 : Int)) fun r3 => (oB (qka) fun r4 => (oB (qgn) fun r5 => (oB (qk9 r4 (gB r5.cells 0) (gI r5.cells 1) (gI r5.cells 2) (gI r5.cells 3)) fun r6 => (some ((((((gI r3.1.cells 2) == (448 : Int)) && ((gI r3.1.cells 3) == (28 : Int))) && (r3.2 == (0 : Int))) && (r6.1 == (25 : Int))) && r6.2))))))))
def qmr := hull qs5
theorem qyx : qmr = qs5 := ql _
def qs6 : AC Bool :=
  .seq (.reg [ao 0 (.mv (.c (.bool false)))]) (.seq (.reg [.callc (po 6 (.call 10 [])) 10 qo0,
 .call (po 7 (.call 28 [])) 28 qkq,
 .call (po 8 (.call 15 [6, 7, (.c (.int .i64 28)), (.c (.int .i64 3))])) 15 qld,
 ao 5 (.mv 8),
 ao 9 (.ext 5 0),
 ao 10 (.ext 5 1),
 ao 1 (.alloc [(.bool false), (.int .u64 0), (.int .u64 0), (.int .i64 0)]),
 an (.store 4 1 9),
 ao 2 (.mv 10)]) (.seq (.reg [.callc (po 12 (.call 10 [])) 10 qo0,
 .call (po 13 (.call 28 [])) 28 qkq,
 .call (po 14 (.call 17 [12, 13])) 17 quh,
 ao 11 (.mv 14),
 ao 15 (.ext 11 0),
 ao 16 (.ext 11 1),
 ao 3 (.mv 15),
 ao 4 (.mv 16)]) (.seq (.reg [ao 17 (.fa 0 1),
 ao 18 (.fa 2 17),
 ao 19 (.load false 1 18),
 ao 20 (.bin .eql 19 (.c (.int .u64 448))),
 ao 21 (.mv 20),
 .grp 21 true [(pg 22 21 true (.fa 3 1)), (pg 23 21 true (.load false 1 22)), (pg 24 21 true (.bin .eql 23 (.c (.int .i64 28))))] 25 24,
 ao 26 (.mv 25),
 .grp 26 true [(pg 27 26 true (.mv 2)), (pg 28 26 true (.bin .eql 27 (.c (.int .i64 0))))] 29 28,
 ao 30 (.mv 29),
 .grp 30 true [(pg 31 30 true (.mv 3)), (pg 32 30 true (.bin .eql 31 (.c (.int .i64 25))))] 33 32,
 ao 34 (.mv 33),
 .grp 34 true [(pg 35 34 true (.mv 4))] 36 35,
 ao 0 (.mv 36)]) (.ret))))
theorem qbao : AC.ok Try.prog (TIof Try.prog) 37 0 (kret [.t 0] decB) qs6 := qn (zA (qe.ok qyl) (zA (qe.ok qp7) (zA (qe.ok qr8) (zA (qe.ok qyl) (zA (qe.ok qp7) (zA (qe.ok q7r) trivial))))))
theorem qbca : den 0 (kret [.t 0] decB) qs6 (qi []) (qh []) (kend (kret [.t 0] decB)) = qmr := by
  rw [qyx]; kernel_rfl
theorem qbcb : cFn (TIof Try.prog) Try.f14 = some ⟨37, [.t 0], scOf qs6⟩ := by kernel_rfl
def qbcc (xs : List AV) : Option Bool := qmr
def qxg {R : Type} : List AV → (AV → Option R) → Option R := entF q7s qbcc AV.bool
theorem qbcd {R : Type} : qe Try.prog 14 (qxg (R := R)) :=
  qb6 tabOk follows Try.func14 (by kernel_rfl) qbcb hdeB qbao (qbe (by kernel_rfl)) fun xs => qbca
def qbce : Shp := ⟨[(0, .st (lk qc))], []⟩
def qv7 (Ae : Bool) (Af Ag Ah : Int) : Option Int :=
  (bif Ae then (some (128 : Int)) else (some (32 : Int)))
def qqn := hull qv7
theorem q08 : qqn = qv7 := ql _
def qv8 : AC Int :=
  .seq (.reg [ao 1 (.box 0),
 ao 2 (.mv (.c (.int .i64 0)))]) (.seq (.seq (.reg [ao 3 (.fa 0 1),
 ao 4 (.fa 0 3),
 ao 5 (.load false 1 4)]) (.cond 5 (.seq (.reg [ao 2 (.mv (.c (.int .i64 128)))]) (.ret)) (.skip))) (.seq (.reg [ao 2 (.mv (.c (.int .i64 32)))]) (.ret)))
theorem qbdw : AC.ok Try.prog (TIof Try.prog) 6 0 (kret [.t 2] (decI .i64)) qv8 := qn trivial
theorem qbf0 (Ae : Bool) (Af Ag Ah : Int) : den 0 (kret [.t 2] (decI .i64)) qv8 (qi [(0, .agg (qa Ae Af Ag Ah))]) (qh []) (kend (kret [.t 2] (decI .i64))) = qqn Ae Af Ag Ah := by
  rw [q08]; kernel_rfl
theorem qbf1 : cFn (TIof Try.prog) Try.f91 = some ⟨6, [.t 2], scOf qv8⟩ := by kernel_rfl
def qbf2 (xs : List AV) : Option Int := qb ((qk xs) 0).cells (qqn)
def qzv {R : Type} : List AV → (AV → Option R) → Option R := entF qbce qbf2 (AV.int .i64)
theorem qbf3 {R : Type} : qe Try.prog 91 (qzv (R := R)) :=
  qb6 tabOk follows Try.func91 (by kernel_rfl) qbf1 hdeI qbdw (qbe (by kernel_rfl)) fun xs => qbf0 _ _ _ _
def qjo  (K : Ex → Env → Mem → Option Bool) := (fun (_ : Unit) => K (.exit 0) (qi []) (qh []))
def q12 : Shp := ⟨[(0, .one (.l .s)), (19, .one (.l (.i .i64))), (20, .one (.l (.i .i64)))], []⟩
def qms (v0 : List UInt8) (v19 v20 : Int) : Env := qi [(0, (.str v0)), (19, (.int .i64 v19)), (20, (.int .i64 v20))]
def qmt (v0 : List UInt8) (v19 v20 : Int) : Mem := qh []
def qfy  (v0 : List UInt8) (v19 v20 : Int) (next : Int → Option Bool) (kx0 : Unit → Option Bool) : Option Bool :=
  (bif (decide (v20 < v19)) then (oB (ixB v0 v20) fun c1 => (bif (decide ((c1.toNat : Int) < (33 : Int))) then (some false) else (oB (ixB v0 v20) fun c2 => (bif (decide ((c2.toNat : Int) > (126 : Int))) then (some false) else (next (IntKind.i64.wrap (v20 + (1 : Int)))))))) else (kx0 ()))
def qks  (v0 : List UInt8) (v19 : Int) (kx0 : Unit → Option Bool) : Nat → Int → Option Bool
  | 0 => (fun _ => none)
  | n + 1 => (fun v20 => qfy v0 v19 v20 (qks v0 v19 kx0 n) kx0)
def qj2 := hull (qks)
theorem qtp : qj2 = qks := ql _
def qfz : AC Bool :=
  .seq (.reg [ao 21 (.bin .lss 20 19)]) (.seq (.cond 21 (.skip) (.seq (.view [.sel [] []]) (.exit 0))) (.seq (.block 1 (.seq (.reg [ao 22 (.mv 20),
 ao 7 (.mv 22)]) (.seq (.reg [ao 23 (.mv 0),
 ao 24 (.mv 7),
 ao 25 (.ixs 23 24),
 ao 26 (.bin .lss 25 (.c (.int .u8 33))),
 ao 27 (.mv 26),
 ag 28 27 false (.mv 0),
 ag 29 27 false (.mv 7),
 ag 30 27 false (.ixs 28 29),
 ag 31 27 false (.bin .gtr 30 (.c (.int .u8 126))),
 ao 32 (.pick 27 (.c (.bool true)) 31)]) (.cond 32 (.seq (.reg [ao 6 (.mv (.c (.bool false)))]) (.ret)) (.skip))))) (.seq (.reg [ao 33 (.bin .add 20 (.c (.int .i64 1))),
 ao 20 (.mv 33)]) (.view [.sel [0, 19, 20] []]))))
theorem q2q : AC.ok Try.prog (TIof Try.prog) 34 0 (kret [.t 6] decB) qfz := qn trivial
theorem q13 (v0 : List UInt8) (v19 v20 : Int) (K : Ex → Env → Mem → Option Bool) : den 0 (kret [.t 6] decB) qfz (qms v0 v19 v20) (qmt v0 v19 v20) K = qfy v0 v19 v20 (fun z_v20 => K .norm (qms v0 v19 z_v20) (qmt v0 v19 z_v20)) (qjo K) := by kernel_rfl
theorem q34 (v0 : List UInt8) (v19 : Int) (K : Ex → Env → Mem → Option Bool) : ∀ (n : Nat) (v20 : Int), qht (den 0 (kret [.t 6] decB) qfz) n (qms v0 v19 v20) (qmt v0 v19 v20) K = qj2 v0 v19 (qjo K) n v20 := by
  rw [qtp]
  intro n
  induction n with
  | zero => intros; rfl
  | succ n ih =>
 intro v20
 exact (q13 v0 v19 v20 (itK (den 0 (kret [.t 6] decB) qfz) n K)).trans (congrArg (fun q => qfy v0 v19 v20 q (qjo K)) (funext fun v20 => ih v20))
def qui := subE (R := Bool) q12 fun t m K => qj2 (gS [t 0] 0) (gI [t 19] 0) (qjo K) FU (gI [t 20] 0)
theorem q35 : qc9 Try.prog (TIof Try.prog) 34 0 (kret [.t 6] decB) (.loop (scOf qfz)) (qui) :=
  qjh tabOk follows (q2q) (qbe (by kernel_rfl)) fun t m K => q34 _ _ K FU _
def q7t : Shp := ⟨[(0, .one (.l .s)), (1, .one (.l (.i .i64))), (2, .one (.l (.i .i64)))], []⟩
def qs7 (v0 : List UInt8) (v1 v2 : Int) : Option Bool :=
  (bif ((decide ((v0.length : Int) < v1)) || (decide ((v0.length : Int) > v2))) then (some false) else (qj2 v0 (v0.length : Int) (fun (_ : Unit) => (some true)) FU (0 : Int)))
def qk1 := hull qs7
theorem qyy : qk1 = qs7 := ql _
def qs8 : AC Bool :=
  .seq (.reg [ao 6 (.mv (.c (.bool false)))]) (.seq (.seq (.reg [ao 8 (.mv 0),
 ao 9 (.len true 8),
 ao 10 (.mv 1),
 ao 11 (.bin .lss 9 10),
 ao 12 (.mv 11),
 .grp 12 false [(pg 13 12 false (.mv 0)), (pg 14 12 false (.len true 13)), (pg 15 12 false (.mv 2)), (pg 16 12 false (.bin .gtr 14 15))] 17 16]) (.cond 17 (.seq (.reg [ao 6 (.mv (.c (.bool false)))]) (.ret)) (.skip))) (.seq (.seq (.reg [ao 18 (.mv 0),
 ao 19 (.len true 18),
 ao 20 (.mv (.c (.int .i64 0)))]) (.block 0 (.seq (.view [.sel [0, 19, 20] []]) (.sub (.loop (scOf qfz)) qui)))) (.seq (.reg [ao 6 (.mv (.c (.bool true)))]) (.ret))))
theorem qbap : AC.ok Try.prog (TIof Try.prog) 34 0 (kret [.t 6] decB) qs8 := qn (zA q35 trivial)
theorem qbcf (v0 : List UInt8) (v1 v2 : Int) : den 0 (kret [.t 6] decB) qs8 (qi [(0, (.str v0)), (1, (.int .i64 v1)), (2, (.int .i64 v2))]) (qh []) (kend (kret [.t 6] decB)) = qk1 v0 v1 v2 := by
  rw [qyy]; kernel_rfl
theorem qbcg : cFn (TIof Try.prog) Try.f92 = some ⟨34, [.t 6], scOf qs8⟩ := by kernel_rfl
def qbch (xs : List AV) : Option Bool := qk1 (gS [(qk xs) 0] 0) (gI [(qk xs) 1] 0) (gI [(qk xs) 2] 0)
def qqo {R : Type} : List AV → (AV → Option R) → Option R := entF q7t qbch AV.bool
theorem qzw {R : Type} : qe Try.prog 92 (qqo (R := R)) :=
  qb6 tabOk follows Try.func92 (by kernel_rfl) qbcg hdeB qbap (qbe (by kernel_rfl)) fun xs => qbcf _ _ _
def qvo  (Aa : Bool) (Ab Ac Ad A6 : Int) (A7 A8 : List UInt8) (A9 : Int) (K : Ex → Env → Mem → Option Int) := (fun z_v28 => K .norm (qi [(1, (.ptr 0 0)), (28, (.bool z_v28))]) (qh [(some (.box true (qba Aa Ab Ac Ad A6 A7 A8 A9)))]))
def q36 : Shp := ⟨[(1, .one (.ptr 0 0))], [.box true (lk qj)]⟩
def qqp  (Aa : Bool) (Ab Ac Ad A6 : Int) (A7 A8 : List UInt8) (A9 : Int) (kn : Bool → Option Int) : Option Int :=
  (bif (decide (A6 < (1 : Int))) then (kn true) else (bif (decide (A6 > (3 : Int))) then (kn true) else (bif (A6 == (3 : Int)) then (oB (qqn Aa Ab Ac Ad) fun r1 => (kn (Ad != r1))) else (kn false))))
def qny := hull (qqp)
theorem qvp : qny = qqp := ql _
def qlv : AC Int :=
  .seq (.draw [] [ao 7 (.fa 4 1),
 ao 8 (.load false 1 7),
 ao 9 (.bin .lss 8 (.c (.int .i64 1))),
 ao 10 (.mv 9),
 ag 11 10 false (.fa 4 1),
 ag 12 10 false (.load false 1 11),
 ag 13 10 false (.bin .gtr 12 (.c (.int .i64 3))),
 ao 14 (.pick 10 (.c (.bool true)) 13),
 ao 15 (.mv 14),
 ag 16 15 false (.fa 4 1),
 ag 17 15 false (.load false 1 16),
 ag 18 15 false (.bin .eql 17 (.c (.int .i64 3))),
 ag 19 15 false (.mv 18),
 ag 20 19 true (.fa 0 1),
 ag 21 19 true (.fa 3 20),
 ag 22 19 true (.load false 1 21),
 ag 23 19 true (.fa 0 1),
 ag 24 19 true (.load true 4 23),
 .call (pg 25 19 true (.call 91 [24])) 91 qzv] [ag 26 19 true (.bin .neq 22 25),
 ag 27 15 false (.pick 19 26 (.c (.bool false))),
 ao 28 (.pick 15 (.c (.bool true)) 27)]) (.view [.sel [1, 28] [0]])
theorem q6m : AC.ok Try.prog (TIof Try.prog) 49 0 (kret [.t 2] (decI .i64)) qlv := qn (zA (qe.ok qbf3) (zA rfl trivial))
theorem q7u (Aa : Bool) (Ab Ac Ad A6 : Int) (A7 A8 : List UInt8) (A9 : Int) (K : Ex → Env → Mem → Option Int) : den 0 (kret [.t 2] (decI .i64)) qlv (qi [(1, (.ptr 0 0))]) (qh [(some (.box true (qba Aa Ab Ac Ad A6 A7 A8 A9)))]) K = qny Aa Ab Ac Ad A6 A7 A8 A9 (qvo Aa Ab Ac Ad A6 A7 A8 A9 K) := by
  rw [qvp]; kernel_rfl
def qxh := subE (R := Int) q36 fun t m K => qbn (bxC (m.s 0)) (qny) (qvo (gB (bxC (m.s 0)) 0) (gI (bxC (m.s 0)) 1) (gI (bxC (m.s 0)) 2) (gI (bxC (m.s 0)) 3) (gI (bxC (m.s 0)) 4) (gS (bxC (m.s 0)) 5) (gS (bxC (m.s 0)) 6) (gI (bxC (m.s 0)) 7) K)
theorem q7v : qc9 Try.prog (TIof Try.prog) 49 0 (kret [.t 2] (decI .i64)) (scOf qlv) (qxh) :=
  qi8 tabOk follows (q6m) (qbe (by kernel_rfl)) fun t m K => q7u _ _ _ _ _ _ _ _ K
def qbci : Shp := ⟨[(0, .st (lk qj))], []⟩
def qv9 (Ae : Bool) (Af Ag Ah Ai : Int) (Aj Ak : List UInt8) (Al : Int) : Option Int :=
  (oB (qgj Ae Af Ag Ah) fun r1 => (bif (!r1) then (some (3 : Int)) else (qny Ae Af Ag Ah Ai Aj Ak Al (fun v28q2 => (bif v28q2 then (some (1 : Int)) else (oB (qk1 Aj (1 : Int) (63 : Int)) fun r3 => (bif (!r3) then (some (1 : Int)) else (oB (qk1 Ak (0 : Int) (32 : Int)) fun r4 => (bif (((!r4) || (decide (Al < (0 : Int)))) || (decide (Al > (4294967295 : Int)))) then (some (1 : Int)) else (some (0 : Int)))))))))))
def qla := hull qv9
theorem q09 : qla = qv9 := ql _
def qwa : AC Int :=
  .seq (.reg [ao 1 (.box 0),
 ao 2 (.mv (.c (.int .i64 0)))]) (.seq (.seq (.reg [ao 3 (.fa 0 1),
 ao 4 (.load true 4 3),
 .call (po 5 (.call 61 [4])) 61 qgo,
 ao 6 (.un .not 5)]) (.cond 6 (.seq (.reg [ao 2 (.mv (.c (.int .i64 3)))]) (.ret)) (.skip))) (.seq (.seq (.seq (.view [.sel [1] [0]]) (.sub (scOf qlv) qxh)) (.cond 28 (.seq (.reg [ao 2 (.mv (.c (.int .i64 1)))]) (.ret)) (.skip))) (.seq (.seq (.reg [ao 29 (.fa 5 1),
 ao 30 (.load false 1 29),
 .call (po 31 (.call 92 [30, (.c (.int .i64 1)), (.c (.int .i64 63))])) 92 qqo,
 ao 32 (.un .not 31),
 ao 33 (.mv 32),
 ag 34 33 false (.fa 6 1),
 ag 35 33 false (.load false 1 34),
 .call (pg 36 33 false (.call 92 [35, (.c (.int .i64 0)), (.c (.int .i64 32))])) 92 qqo,
 ag 37 33 false (.un .not 36),
 ao 38 (.pick 33 (.c (.bool true)) 37),
 ao 39 (.mv 38),
 .grp 39 false [(pg 40 39 false (.fa 7 1)), (pg 41 39 false (.load false 1 40)), (pg 42 39 false (.bin .lss 41 (.c (.int .i64 0))))] 43 42,
 ao 44 (.mv 43),
 .grp 44 false [(pg 45 44 false (.fa 7 1)), (pg 46 44 false (.load false 1 45)), (pg 47 44 false (.bin .gtr 46 (.c (.int .i64 4294967295))))] 48 47]) (.cond 48 (.seq (.reg [ao 2 (.mv (.c (.int .i64 1)))]) (.ret)) (.skip))) (.seq (.reg [ao 2 (.mv (.c (.int .i64 0)))]) (.ret)))))
theorem qbdx : AC.ok Try.prog (TIof Try.prog) 49 0 (kret [.t 2] (decI .i64)) qwa := qn (zA (qe.ok qkz) (zA q7v (zA (qe.ok qzw) (zA (qe.ok qzw) trivial))))
theorem qbf4 (Ae : Bool) (Af Ag Ah Ai : Int) (Aj Ak : List UInt8) (Al : Int) : den 0 (kret [.t 2] (decI .i64)) qwa (qi [(0, .agg (qba Ae Af Ag Ah Ai Aj Ak Al))]) (qh []) (kend (kret [.t 2] (decI .i64))) = qla Ae Af Ag Ah Ai Aj Ak Al := by
  rw [q09]; kernel_rfl
theorem qbf5 : cFn (TIof Try.prog) Try.f59 = some ⟨49, [.t 2], scOf qwa⟩ := by kernel_rfl
def qbf6 (xs : List AV) : Option Int := qbn ((qk xs) 0).cells (qla)
def qs9 {R : Type} : List AV → (AV → Option R) → Option R := entF qbci qbf6 (AV.int .i64)
theorem q2r {R : Type} : qe Try.prog 59 (qs9 (R := R)) :=
  qb6 tabOk follows Try.func59 (by kernel_rfl) qbf5 hdeI qbdx (qbe (by kernel_rfl)) fun xs => qbf4 _ _ _ _ _ _ _ _
def qbaq : Shp := ⟨[(0, .st (lk qj)), (1, .st (lk qj))], []⟩
def quj (Ae : Bool) (Af Ag Ah Ai : Int) (Aj Ak : List UInt8) (Al : Int) (Am : Bool) (An Ao Ap Ba : Int) (Bb Bc : List UInt8) (Bd : Int) : Option Bool :=
  (bif (Ai == (1 : Int)) then (some true) else (bif (Ai == (2 : Int)) then (some (Ba == (3 : Int))) else (some false)))
def qoq := hull quj
theorem qzx : qoq = quj := ql _
def quk : AC Bool :=
  .seq (.reg [ao 2 (.box 0),
 ao 3 (.box 1),
 ao 4 (.mv (.c (.bool false)))]) (.seq (.reg [ao 5 (.fa 4 2),
 ao 6 (.load false 1 5),
 ao 7 (.bin .eql 6 (.c (.int .i64 1))),
 ao 8 (.mv 7),
 ag 9 8 false (.fa 4 2),
 ag 10 8 false (.load false 1 9),
 ag 11 8 false (.bin .eql 10 (.c (.int .i64 2))),
 ag 12 8 false (.mv 11),
 ag 13 12 true (.fa 4 3),
 ag 14 12 true (.load false 1 13),
 ag 15 12 true (.bin .eql 14 (.c (.int .i64 3))),
 ag 16 8 false (.pick 12 15 (.c (.bool false))),
 ao 17 (.pick 8 (.c (.bool true)) 16),
 ao 4 (.mv 17)]) (.ret))
theorem qbcj : AC.ok Try.prog (TIof Try.prog) 18 0 (kret [.t 4] decB) quk := qn trivial
theorem qbdy (Ae : Bool) (Af Ag Ah Ai : Int) (Aj Ak : List UInt8) (Al : Int) (Am : Bool) (An Ao Ap Ba : Int) (Bb Bc : List UInt8) (Bd : Int) : den 0 (kret [.t 4] decB) quk (qi [(0, .agg (qba Ae Af Ag Ah Ai Aj Ak Al)), (1, .agg (qba Am An Ao Ap Ba Bb Bc Bd))]) (qh []) (kend (kret [.t 4] decB)) = qoq Ae Af Ag Ah Ai Aj Ak Al Am An Ao Ap Ba Bb Bc Bd := by
  rw [qzx]; kernel_rfl
theorem qbdz : cFn (TIof Try.prog) Try.f95 = some ⟨18, [.t 4], scOf quk⟩ := by kernel_rfl
def qbd0 (xs : List AV) : Option Bool := qbn ((qk xs) 1).cells (qbn ((qk xs) 0).cells (qoq))
def qyz {R : Type} : List AV → (AV → Option R) → Option R := entF qbaq qbd0 AV.bool
theorem qbd1 {R : Type} : qe Try.prog 95 (qyz (R := R)) :=
  qb6 tabOk follows Try.func95 (by kernel_rfl) qbdz hdeB qbcj (qbe (by kernel_rfl)) fun xs => qbdy _ _ _ _ _ _ _ _ _ _ _ _ _ _ _ _
def q14 : Shp := ⟨[(0, .st (lk qj)), (1, .one (.ptr 0 0))], [.box true (lk qj)]⟩
def qtq {R : Type} (KK : AV → Mem → Option R) := (fun v3 Aa Ab Ac Ad A6 A7 A8 A9 => KK (.bool v3) (qh [(some (.box true [(.bool Aa), (.int .u64 Ab), (.int .u64 Ac), (.int .i64 Ad), (.int .i64 A6), (.str A7), (.str A8), (.int .i64 A9)]))]))
def qnz {R : Type}  (Ae : Bool) (Af Ag Ah Ai : Int) (Aj Ak : List UInt8) (Al : Int) (Aa : Bool) (Ab Ac Ad A6 : Int) (A7 A8 : List UInt8) (A9 : Int) (kr : Bool → Bool → Int → Int → Int → Int → (List UInt8) → (List UInt8) → Int → Option R) : Option R :=
  (oB (ql3 Aa Ab Ac Ad Ae Af Ag Ah) fun r1 => (bif r1 then (oB (qoq Ae Af Ag Ah Ai Aj Ak Al Aa Ab Ac Ad A6 A7 A8 A9) fun r2 => (kr (!r2) Aa Ab Ac Ad A6 A7 A8 A9)) else (kr false Aa Ab Ac Ad A6 A7 A8 A9)))
def qj3 {R : Type} := hull (qnz (R := R))
theorem qtr {R : Type} : qj3 (R := R) = qnz := ql _
def qf0 {R : Type} (KK : AV → Mem → Option R) : AC R :=
  .seq (.reg [ao 2 (.box 0),
 ao 3 (.mv (.c (.bool false)))]) (.seq (.reg [ao 4 (.fa 0 1),
 ao 5 (.load true 4 4),
 ao 6 (.fa 0 2),
 ao 7 (.load true 4 6),
 .call (po 8 (.call 83 [5, 7])) 83 qpr,
 ao 9 (.mv 8),
 ag 10 9 true (.load true 8 2),
 ag 11 9 true (.load true 8 1),
 .call (pg 12 9 true (.call 95 [10, 11])) 95 qyz,
 ag 13 9 true (.un .not 12),
 ao 14 (.pick 9 13 (.c (.bool false))),
 ao 3 (.mv 14)]) (.seq (.view [.sel [3] [0]]) (.ret)))
theorem q2s {R : Type} (KK : AV → Mem → Option R) : AC.ok Try.prog (TIof Try.prog) 15 1 (qbk [.t 3] KK) (qf0 KK) := qn (zA (qe.ok qyd) (zA (qe.ok qbd1) trivial))
theorem q37 {R : Type} (KK : AV → Mem → Option R) (Ae : Bool) (Af Ag Ah Ai : Int) (Aj Ak : List UInt8) (Al : Int) (Aa : Bool) (Ab Ac Ad A6 : Int) (A7 A8 : List UInt8) (A9 : Int) : den 1 (qbk [.t 3] KK) (qf0 KK) (qi [(0, .agg (qba Ae Af Ag Ah Ai Aj Ak Al)), (1, (.ptr 0 0))]) (qh [(some (.box true (qba Aa Ab Ac Ad A6 A7 A8 A9)))]) (kend (qbk [.t 3] KK)) = qj3 Ae Af Ag Ah Ai Aj Ak Al Aa Ab Ac Ad A6 A7 A8 A9 (qtq KK) := by
  rw [qtr]; kernel_rfl
theorem q38 : cFn (TIof Try.prog) Try.f94 = some ⟨15, [.t 3], scOf (qf0 (R := Unit) (fun _ _ => none))⟩ := by kernel_rfl
theorem q39 {R : Type} (KK : AV → Mem → Option R) : (qf0 KK).er = some (scOf (qf0 (R := Unit) (fun _ _ => none))) := by kernel_rfl
def qul {R : Type} : List AV → Mem → (AV → Mem → Option R) → Option R := refE q14 fun xs m KK => qbn (bxC (m.s 0)) (qbn ((qk xs) 0).cells (qj3)) (qtq KK)
theorem q4a {R : Type} : qit Try.prog 94 (qul (R := R)) :=
  qsl (ac := fun KK => qf0 KK) tabOk follows Try.func94 (by kernel_rfl) q38 (fun KK => q2s KK) (fun KK => q39 KK) rfl fun xs m KK => q37 KK _ _ _ _ _ _ _ _ _ _ _ _ _ _ _ _
def qbp {R : Type}  (K : Ex → Env → Mem → Option R) := (fun z_b0_0 z_b0_1 z_b0_2 z_b0_3 z_b0_4 z_b0_5 z_b0_6 z_b0_7 => K (.exit 0) (qi []) (qh [(some (.box true (qba z_b0_0 z_b0_1 z_b0_2 z_b0_3 z_b0_4 z_b0_5 z_b0_6 z_b0_7)))]))
def qbq {R : Type} (KK : AV → Mem → Option R) := (fun v4 Aa Ab Ac Ad A6 A7 A8 A9 => KK (.int .i64 v4) (qh [(some (.box true [(.bool Aa), (.int .u64 Ab), (.int .u64 Ac), (.int .i64 Ad), (.int .i64 A6), (.str A7), (.str A8), (.int .i64 A9)]))]))
def qgr : Shp := ⟨[(0, .one (.l (.sl 8))), (1, .one (.fn 94 [(0, 0)])), (7, .one (.l (.i .i64))), (8, .one (.l (.i .i64)))], [.box true (lk qj)]⟩
def qcl (v0 : List AV) (v7 v8 : Int) (Aa : Bool) (Ab Ac Ad A6 : Int) (A7 A8 : List UInt8) (A9 : Int) : Env := qi [(0, (.sl 8 v0)), (1, (.func 94 [(.ptr 0 0)])), (7, (.int .i64 v7)), (8, (.int .i64 v8))]
def qcm (v0 : List AV) (v7 v8 : Int) (Aa : Bool) (Ab Ac Ad A6 : Int) (A7 A8 : List UInt8) (A9 : Int) : Mem := qh [(some (.box true (qba Aa Ab Ac Ad A6 A7 A8 A9)))]
def qv {R : Type}  (v0 : List AV) (v7 v8 : Int) (Aa : Bool) (Ab Ac Ad A6 : Int) (A7 A8 : List UInt8) (A9 : Int) (next : Int → Bool → Int → Int → Int → Int → (List UInt8) → (List UInt8) → Int → Option R) (kx0 : Bool → Int → Int → Int → Int → (List UInt8) → (List UInt8) → Int → Option R) (kr : Int → Bool → Int → Int → Int → Int → (List UInt8) → (List UInt8) → Int → Option R) : Option R :=
  (bif (decide (v8 < v7)) then (oB (ixB v0 v8) fun y1 => (bif fitC qj y1.cells then (qj3 (gB y1.cells 0) (gI y1.cells 1) (gI y1.cells 2) (gI y1.cells 3) (gI y1.cells 4) (gS y1.cells 5) (gS y1.cells 6) (gI y1.cells 7) Aa Ab Ac Ad A6 A7 A8 A9 fun v3q2 b0_0q3 b0_1q4 b0_2q5 b0_3q6 b0_4q7 b0_5q8 b0_6q9 b0_7q10 => (bif v3q2 then (kr v8 b0_0q3 b0_1q4 b0_2q5 b0_3q6 b0_4q7 b0_5q8 b0_6q9 b0_7q10) else (next (IntKind.i64.wrap (v8 + (1 : Int))) b0_0q3 b0_1q4 b0_2q5 b0_3q6 b0_4q7 b0_5q8 b0_6q9 b0_7q10))) else none)) else (kx0 Aa Ab Ac Ad A6 A7 A8 A9))
def qbt {R : Type}  (v0 : List AV) (v7 : Int) (kx0 : Bool → Int → Int → Int → Int → (List UInt8) → (List UInt8) → Int → Option R) (kr : Int → Bool → Int → Int → Int → Int → (List UInt8) → (List UInt8) → Int → Option R) : Nat → Int → Bool → Int → Int → Int → Int → (List UInt8) → (List UInt8) → Int → Option R
  | 0 => (fun _ _ _ _ _ _ _ _ _ => none)
  | n + 1 => (fun v8 Aa Ab Ac Ad A6 A7 A8 A9 => qv v0 v7 v8 Aa Ab Ac Ad A6 A7 A8 A9 (qbt v0 v7 kx0 kr n) kx0 kr)
def qbz {R : Type} := hull (qbt (R := R))
theorem qdq {R : Type} : qbz (R := R) = qbt := ql _
def qw {R : Type} (KK : AV → Mem → Option R) : AC R :=
  .seq (.reg [ao 9 (.bin .lss 8 7)]) (.seq (.cond 9 (.skip) (.seq (.view [.sel [] [0]]) (.exit 0))) (.seq (.block 1 (.seq (.reg [ao 10 (.mv 8),
 ao 5 (.mv 10)]) (.seq (.reg [ao 11 (.mv 1),
 ao 12 (.mv 0),
 ao 13 (.mv 5),
 ao 14 (.ia 8 12 13),
 .st (.etac 14 qj),
 ao 15 (.load true 8 14),
 .st (.sel [0, 1, 5, 7, 8, 11, 15] [0]),
 .callr (po 16 (.callv 11 [15])) 94 qul]) (.cond 16 (.seq (.reg [ao 17 (.mv 5),
 ao 4 (.mv 17)]) (.seq (.view [.sel [4] [0]]) (.ret))) (.skip))))) (.seq (.reg [ao 18 (.bin .add 8 (.c (.int .i64 1))),
 ao 8 (.mv 18)]) (.view [.sel [0, 1, 7, 8] [0]]))))
theorem qg3 {R : Type} (KK : AV → Mem → Option R) : AC.ok Try.prog (TIof Try.prog) 19 1 (qbk [.t 4] KK) (qw KK) := qn (zA q4a trivial)
theorem qgs {R : Type} (KK : AV → Mem → Option R) (v0 : List AV) (v7 v8 : Int) (Aa : Bool) (Ab Ac Ad A6 : Int) (A7 A8 : List UInt8) (A9 : Int) (K : Ex → Env → Mem → Option R) : den 1 (qbk [.t 4] KK) (qw KK) (qcl v0 v7 v8 Aa Ab Ac Ad A6 A7 A8 A9) (qcm v0 v7 v8 Aa Ab Ac Ad A6 A7 A8 A9) K = qv v0 v7 v8 Aa Ab Ac Ad A6 A7 A8 A9 (fun z_v8 z_b0_0 z_b0_1 z_b0_2 z_b0_3 z_b0_4 z_b0_5 z_b0_6 z_b0_7 => K .norm (qcl v0 v7 z_v8 z_b0_0 z_b0_1 z_b0_2 z_b0_3 z_b0_4 z_b0_5 z_b0_6 z_b0_7) (qcm v0 v7 z_v8 z_b0_0 z_b0_1 z_b0_2 z_b0_3 z_b0_4 z_b0_5 z_b0_6 z_b0_7)) (qbp K) (qbq KK) := by kernel_rfl
theorem qg8 {R : Type} (KK : AV → Mem → Option R) (v0 : List AV) (v7 : Int) (K : Ex → Env → Mem → Option R) : ∀ (n : Nat) (v8 : Int) (Aa : Bool) (Ab Ac Ad A6 : Int) (A7 A8 : List UInt8) (A9 : Int), qht (den 1 (qbk [.t 4] KK) (qw KK)) n (qcl v0 v7 v8 Aa Ab Ac Ad A6 A7 A8 A9) (qcm v0 v7 v8 Aa Ab Ac Ad A6 A7 A8 A9) K = qbz v0 v7 (qbp K) (qbq KK) n v8 Aa Ab Ac Ad A6 A7 A8 A9 := by
  rw [qdq]
  intro n
  induction n with
  | zero => intros; rfl
  | succ n ih =>
 intro v8 Aa Ab Ac Ad A6 A7 A8 A9
 exact (qgs KK v0 v7 v8 Aa Ab Ac Ad A6 A7 A8 A9 (itK (den 1 (qbk [.t 4] KK) (qw KK)) n K)).trans (congrArg (fun q => qv v0 v7 v8 Aa Ab Ac Ad A6 A7 A8 A9 q (qbp K) (qbq KK)) (funext fun v8 => funext fun Aa => funext fun Ab => funext fun Ac => funext fun Ad => funext fun A6 => funext fun A7 => funext fun A8 => funext fun A9 => ih v8 Aa Ab Ac Ad A6 A7 A8 A9))
def qdy {R : Type} (KK : AV → Mem → Option R) := subE (R := R) qgr fun t m K => qbn (bxC (m.s 0)) (qbz (gL [t 0] 0) (gI [t 7] 0) (qbp K) (qbq KK) FU (gI [t 8] 0))
theorem qg9 {R : Type} (KK : AV → Mem → Option R) : qc9 Try.prog (TIof Try.prog) 19 1 (qbk [.t 4] KK) (.loop (scOf (qw KK))) (qdy KK) :=
  qjh tabOk follows (qg3 KK) (qbe (by kernel_rfl)) fun t m K => qg8 KK _ _ K FU _ _ _ _ _ _ _ _ _
def qhk : Shp := ⟨[(0, .one (.l (.sl 8))), (1, .one (.fn 94 [(0, 0)]))], [.box true (lk qj)]⟩
def qeb {R : Type} (KK : AV → Mem → Option R) := (fun v4 Aa Ab Ac Ad A6 A7 A8 A9 => KK (.int .i64 v4) (qh [(some (.box true [(.bool Aa), (.int .u64 Ab), (.int .u64 Ac), (.int .i64 Ad), (.int .i64 A6), (.str A7), (.str A8), (.int .i64 A9)]))]))
def qcy {R : Type}  (v0 : List AV) (Aa : Bool) (Ab Ac Ad A6 : Int) (A7 A8 : List UInt8) (A9 : Int) (kr : Int → Bool → Int → Int → Int → Int → (List UInt8) → (List UInt8) → Int → Option R) : Option R :=
  (qbz v0 (v0.length : Int) (fun b0_0q1 b0_1q2 b0_2q3 b0_3q4 b0_4q5 b0_5q6 b0_6q7 b0_7q8 => (kr (-1 : Int) b0_0q1 b0_1q2 b0_2q3 b0_3q4 b0_4q5 b0_5q6 b0_6q7 b0_7q8)) kr FU (0 : Int) Aa Ab Ac Ad A6 A7 A8 A9)
def qbl {R : Type} := hull (qcy (R := R))
theorem qec {R : Type} : qbl (R := R) = qcy := ql _
def qbb {R : Type} (KK : AV → Mem → Option R) : AC R :=
  .seq (.reg [ao 4 (.mv (.c (.int .i64 0)))]) (.seq (.seq (.reg [ao 6 (.mv 0),
 ao 7 (.len false 6),
 ao 8 (.mv (.c (.int .i64 0)))]) (.block 0 (.seq (.view [.sel [0, 1, 7, 8] [0]]) (.sub (.loop (scOf (qw KK))) (qdy KK))))) (.seq (.reg [ao 4 (.mv (.c (.int .i64 (-1))))]) (.seq (.view [.sel [4] [0]]) (.ret))))
theorem qh5 {R : Type} (KK : AV → Mem → Option R) : AC.ok Try.prog (TIof Try.prog) 19 1 (qbk [.t 4] KK) (qbb KK) := qn (zA (qg9 KK) trivial)
theorem qil {R : Type} (KK : AV → Mem → Option R) (v0 : List AV) (Aa : Bool) (Ab Ac Ad A6 : Int) (A7 A8 : List UInt8) (A9 : Int) : den 1 (qbk [.t 4] KK) (qbb KK) (qi [(0, (.sl 8 v0)), (1, (.func 94 [(.ptr 0 0)]))]) (qh [(some (.box true (qba Aa Ab Ac Ad A6 A7 A8 A9)))]) (kend (qbk [.t 4] KK)) = qbl v0 Aa Ab Ac Ad A6 A7 A8 A9 (qeb KK) := by
  rw [qec]; kernel_rfl
theorem qim : cFn (TIof Try.prog) Try.f97 = some ⟨19, [.t 4], scOf (qbb (R := Unit) (fun _ _ => none))⟩ := by kernel_rfl
theorem qin {R : Type} (KK : AV → Mem → Option R) : (qbb KK).er = some (scOf (qbb (R := Unit) (fun _ _ => none))) := by kernel_rfl
def qel {R : Type} : List AV → Mem → (AV → Mem → Option R) → Option R := refE qhk fun xs m KK => qbn (bxC (m.s 0)) (qbl (gL [(qk xs) 0] 0)) (qeb KK)
theorem qio {R : Type} : qit Try.prog 97 (qel (R := R)) :=
  qsl (ac := fun KK => qbb KK) tabOk follows Try.func97 (by kernel_rfl) qim (fun KK => qh5 KK) (fun KK => qin KK) rfl fun xs m KK => qil KK _ _ _ _ _ _ _ _ _
def qgt : Shp := ⟨[(0, .one (.l (.sl 8))), (1, .one (.fn 94 [(0, 0)]))], [.box true (lk qj)]⟩
def qdr {R : Type} (KK : AV → Mem → Option R) := (fun v4 Aa Ab Ac Ad A6 A7 A8 A9 => KK (.bool v4) (qh [(some (.box true [(.bool Aa), (.int .u64 Ab), (.int .u64 Ac), (.int .i64 Ad), (.int .i64 A6), (.str A7), (.str A8), (.int .i64 A9)]))]))
def qco {R : Type}  (v0 : List AV) (Aa : Bool) (Ab Ac Ad A6 : Int) (A7 A8 : List UInt8) (A9 : Int) (kr : Bool → Bool → Int → Int → Int → Int → (List UInt8) → (List UInt8) → Int → Option R) : Option R :=
  (qbl v0 Aa Ab Ac Ad A6 A7 A8 A9 fun v4q1 b0_0q2 b0_1q3 b0_2q4 b0_3q5 b0_4q6 b0_5q7 b0_6q8 b0_7q9 => (kr (decide (v4q1 ≥ (0 : Int))) b0_0q2 b0_1q3 b0_2q4 b0_3q5 b0_4q6 b0_5q7 b0_6q8 b0_7q9))
def qb0 {R : Type} := hull (qco (R := R))
theorem qds {R : Type} : qb0 (R := R) = qco := ql _
def qx {R : Type} (KK : AV → Mem → Option R) : AC R :=
  .seq (.reg [ao 4 (.mv (.c (.bool false)))]) (.seq (.reg [ao 5 (.mv 0),
 ao 6 (.mv 1),
 .st (.sel [5, 6] [0]),
 .callr (po 7 (.call 97 [5, 6])) 97 qel,
 ao 8 (.bin .geq 7 (.c (.int .i64 0))),
 ao 4 (.mv 8)]) (.seq (.view [.sel [4] [0]]) (.ret)))
theorem qg4 {R : Type} (KK : AV → Mem → Option R) : AC.ok Try.prog (TIof Try.prog) 9 1 (qbk [.t 4] KK) (qx KK) := qn (zA qio trivial)
theorem qha {R : Type} (KK : AV → Mem → Option R) (v0 : List AV) (Aa : Bool) (Ab Ac Ad A6 : Int) (A7 A8 : List UInt8) (A9 : Int) : den 1 (qbk [.t 4] KK) (qx KK) (qi [(0, (.sl 8 v0)), (1, (.func 94 [(.ptr 0 0)]))]) (qh [(some (.box true (qba Aa Ab Ac Ad A6 A7 A8 A9)))]) (kend (qbk [.t 4] KK)) = qb0 v0 Aa Ab Ac Ad A6 A7 A8 A9 (qdr KK) := by
  rw [qds]; kernel_rfl
theorem qhb : cFn (TIof Try.prog) Try.f93 = some ⟨9, [.t 4], scOf (qx (R := Unit) (fun _ _ => none))⟩ := by kernel_rfl
theorem qhc {R : Type} (KK : AV → Mem → Option R) : (qx KK).er = some (scOf (qx (R := Unit) (fun _ _ => none))) := by kernel_rfl
def qdz {R : Type} : List AV → Mem → (AV → Mem → Option R) → Option R := refE qgt fun xs m KK => qbn (bxC (m.s 0)) (qb0 (gL [(qk xs) 0] 0)) (qdr KK)
theorem qhd {R : Type} : qit Try.prog 93 (qdz (R := R)) :=
  qsl (ac := fun KK => qx KK) tabOk follows Try.func93 (by kernel_rfl) qhb (fun KK => qg4 KK) (fun KK => qhc KK) rfl fun xs m KK => qha KK _ _ _ _ _ _ _ _ _
def q4b : Shp := ⟨[(0, .one (.l (.sl 8))), (1, .st (lk qj))], []⟩
def qqq (v0 : List AV) (Am : Bool) (An Ao Ap Ba : Int) (Bb Bc : List UInt8) (Bd : Int) : Option Bool :=
  (qb0 v0 Am An Ao Ap Ba Bb Bc Bd fun v4q1 b0_0q2 b0_1q3 b0_2q4 b0_3q5 b0_4q6 b0_5q7 b0_6q8 b0_7q9 => (some v4q1))
def qgp := hull qqq
theorem qvq : qgp = qqq := ql _
def qqr : AC Bool :=
  .seq (.reg [ao 3 (.box 1),
 ao 4 (.mv (.c (.bool false)))]) (.seq (.reg [ao 5 (.mv 0),
 ao 6 (.mkf 94 [3]),
 .st (.sel [5, 6] [0]),
 .callr (po 7 (.call 93 [5, 6])) 93 qdz,
 ao 4 (.mv 7)]) (.ret))
theorem q6n : AC.ok Try.prog (TIof Try.prog) 8 0 (kret [.t 4] decB) qqr := qn (zA qhd trivial)
theorem q7w (v0 : List AV) (Am : Bool) (An Ao Ap Ba : Int) (Bb Bc : List UInt8) (Bd : Int) : den 0 (kret [.t 4] decB) qqr (qi [(0, (.sl 8 v0)), (1, .agg (qba Am An Ao Ap Ba Bb Bc Bd))]) (qh []) (kend (kret [.t 4] decB)) = qgp v0 Am An Ao Ap Ba Bb Bc Bd := by
  rw [qvq]; kernel_rfl
theorem q7x : cFn (TIof Try.prog) Try.f60 = some ⟨8, [.t 4], scOf qqr⟩ := by kernel_rfl
def q7y (xs : List AV) : Option Bool := qbn ((qk xs) 1).cells (qgp (gL [(qk xs) 0] 0))
def qn0 {R : Type} : List AV → (AV → Option R) → Option R := entF q4b q7y AV.bool
theorem qxi {R : Type} : qe Try.prog 60 (qn0 (R := R)) :=
  qb6 tabOk follows Try.func60 (by kernel_rfl) q7x hdeB q6n (qbe (by kernel_rfl)) fun xs => q7w _ _ _ _ _ _ _ _ _
def q2t : Shp := ⟨[(0, .st (lk qj)), (1, .one (.ptr 0 0))], [.box true (lk qc)]⟩
def qum {R : Type} (KK : AV → Mem → Option R) := (fun v3 Aa Ab Ac Ad => KK (.bool v3) (qh [(some (.box true [(.bool Aa), (.int .u64 Ab), (.int .u64 Ac), (.int .i64 Ad)]))]))
def qpj {R : Type}  (Ae : Bool) (Af Ag Ah Ai : Int) (Aj Ak : List UInt8) (Al : Int) (Aa : Bool) (Ab Ac Ad : Int) (kr : Bool → Bool → Int → Int → Int → Option R) : Option R :=
  (oB (ql3 Ae Af Ag Ah Aa Ab Ac Ad) fun r1 => (kr r1 Aa Ab Ac Ad))
def qkn {R : Type} := hull (qpj (R := R))
theorem qun {R : Type} : qkn (R := R) = qpj := ql _
def qgi {R : Type} (KK : AV → Mem → Option R) : AC R :=
  .seq (.reg [ao 2 (.box 0),
 ao 3 (.mv (.c (.bool false)))]) (.seq (.reg [ao 4 (.fa 0 2),
 ao 5 (.load true 4 4),
 ao 6 (.load true 4 1),
 .call (po 7 (.call 83 [5, 6])) 83 qpr,
 ao 3 (.mv 7)]) (.seq (.view [.sel [3] [0]]) (.ret)))
theorem q4c {R : Type} (KK : AV → Mem → Option R) : AC.ok Try.prog (TIof Try.prog) 8 1 (qbk [.t 3] KK) (qgi KK) := qn (zA (qe.ok qyd) trivial)
theorem q6o {R : Type} (KK : AV → Mem → Option R) (Ae : Bool) (Af Ag Ah Ai : Int) (Aj Ak : List UInt8) (Al : Int) (Aa : Bool) (Ab Ac Ad : Int) : den 1 (qbk [.t 3] KK) (qgi KK) (qi [(0, .agg (qba Ae Af Ag Ah Ai Aj Ak Al)), (1, (.ptr 0 0))]) (qh [(some (.box true (qa Aa Ab Ac Ad)))]) (kend (qbk [.t 3] KK)) = qkn Ae Af Ag Ah Ai Aj Ak Al Aa Ab Ac Ad (qum KK) := by
  rw [qun]; kernel_rfl
theorem q6p : cFn (TIof Try.prog) Try.f99 = some ⟨8, [.t 3], scOf (qgi (R := Unit) (fun _ _ => none))⟩ := by kernel_rfl
theorem q6q {R : Type} (KK : AV → Mem → Option R) : (qgi KK).er = some (scOf (qgi (R := Unit) (fun _ _ => none))) := by kernel_rfl
def qvr {R : Type} : List AV → Mem → (AV → Mem → Option R) → Option R := refE q2t fun xs m KK => qb (bxC (m.s 0)) (qbn ((qk xs) 0).cells (qkn)) (qum KK)
theorem q6r {R : Type} : qit Try.prog 99 (qvr (R := R)) :=
  qsl (ac := fun KK => qgi KK) tabOk follows Try.func99 (by kernel_rfl) q6p (fun KK => q4c KK) (fun KK => q6q KK) rfl fun xs m KK => q6o KK _ _ _ _ _ _ _ _ _ _ _ _
def qbr {R : Type}  (K : Ex → Env → Mem → Option R) := (fun z_b0_0 z_b0_1 z_b0_2 z_b0_3 => K (.exit 0) (qi []) (qh [(some (.box true (qa z_b0_0 z_b0_1 z_b0_2 z_b0_3)))]))
def qbu {R : Type} (KK : AV → Mem → Option R) := (fun v4 Aa Ab Ac Ad => KK (.int .i64 v4) (qh [(some (.box true [(.bool Aa), (.int .u64 Ab), (.int .u64 Ac), (.int .i64 Ad)]))]))
def qg5 : Shp := ⟨[(0, .one (.l (.sl 8))), (1, .one (.fn 99 [(0, 0)])), (7, .one (.l (.i .i64))), (8, .one (.l (.i .i64)))], [.box true (lk qc)]⟩
def qcp (v0 : List AV) (v7 v8 : Int) (Aa : Bool) (Ab Ac Ad : Int) : Env := qi [(0, (.sl 8 v0)), (1, (.func 99 [(.ptr 0 0)])), (7, (.int .i64 v7)), (8, (.int .i64 v8))]
def qcq (v0 : List AV) (v7 v8 : Int) (Aa : Bool) (Ab Ac Ad : Int) : Mem := qh [(some (.box true (qa Aa Ab Ac Ad)))]
def qy {R : Type}  (v0 : List AV) (v7 v8 : Int) (Aa : Bool) (Ab Ac Ad : Int) (next : Int → Bool → Int → Int → Int → Option R) (kx0 : Bool → Int → Int → Int → Option R) (kr : Int → Bool → Int → Int → Int → Option R) : Option R :=
  (bif (decide (v8 < v7)) then (oB (ixB v0 v8) fun y1 => (bif fitC qj y1.cells then (qkn (gB y1.cells 0) (gI y1.cells 1) (gI y1.cells 2) (gI y1.cells 3) (gI y1.cells 4) (gS y1.cells 5) (gS y1.cells 6) (gI y1.cells 7) Aa Ab Ac Ad fun v3q2 b0_0q3 b0_1q4 b0_2q5 b0_3q6 => (bif v3q2 then (kr v8 b0_0q3 b0_1q4 b0_2q5 b0_3q6) else (next (IntKind.i64.wrap (v8 + (1 : Int))) b0_0q3 b0_1q4 b0_2q5 b0_3q6))) else none)) else (kx0 Aa Ab Ac Ad))
def qbv {R : Type}  (v0 : List AV) (v7 : Int) (kx0 : Bool → Int → Int → Int → Option R) (kr : Int → Bool → Int → Int → Int → Option R) : Nat → Int → Bool → Int → Int → Int → Option R
  | 0 => (fun _ _ _ _ _ => none)
  | n + 1 => (fun v8 Aa Ab Ac Ad => qy v0 v7 v8 Aa Ab Ac Ad (qbv v0 v7 kx0 kr n) kx0 kr)
def qb3 {R : Type} := hull (qbv (R := R))
theorem qd0 {R : Type} : qb3 (R := R) = qbv := ql _
def qz {R : Type} (KK : AV → Mem → Option R) : AC R :=
  .seq (.reg [ao 9 (.bin .lss 8 7)]) (.seq (.cond 9 (.skip) (.seq (.view [.sel [] [0]]) (.exit 0))) (.seq (.block 1 (.seq (.reg [ao 10 (.mv 8),
 ao 5 (.mv 10)]) (.seq (.reg [ao 11 (.mv 1),
 ao 12 (.mv 0),
 ao 13 (.mv 5),
 ao 14 (.ia 8 12 13),
 .st (.etac 14 qj),
 ao 15 (.load true 8 14),
 .st (.sel [0, 1, 5, 7, 8, 11, 15] [0]),
 .callr (po 16 (.callv 11 [15])) 99 qvr]) (.cond 16 (.seq (.reg [ao 17 (.mv 5),
 ao 4 (.mv 17)]) (.seq (.view [.sel [4] [0]]) (.ret))) (.skip))))) (.seq (.reg [ao 18 (.bin .add 8 (.c (.int .i64 1))),
 ao 8 (.mv 18)]) (.view [.sel [0, 1, 7, 8] [0]]))))
theorem qhe {R : Type} (KK : AV → Mem → Option R) : AC.ok Try.prog (TIof Try.prog) 19 1 (qbk [.t 4] KK) (qz KK) := qn (zA q6r trivial)
theorem qg6 {R : Type} (KK : AV → Mem → Option R) (v0 : List AV) (v7 v8 : Int) (Aa : Bool) (Ab Ac Ad : Int) (K : Ex → Env → Mem → Option R) : den 1 (qbk [.t 4] KK) (qz KK) (qcp v0 v7 v8 Aa Ab Ac Ad) (qcq v0 v7 v8 Aa Ab Ac Ad) K = qy v0 v7 v8 Aa Ab Ac Ad (fun z_v8 z_b0_0 z_b0_1 z_b0_2 z_b0_3 => K .norm (qcp v0 v7 z_v8 z_b0_0 z_b0_1 z_b0_2 z_b0_3) (qcq v0 v7 z_v8 z_b0_0 z_b0_1 z_b0_2 z_b0_3)) (qbr K) (qbu KK) := by kernel_rfl
theorem qhl {R : Type} (KK : AV → Mem → Option R) (v0 : List AV) (v7 : Int) (K : Ex → Env → Mem → Option R) : ∀ (n : Nat) (v8 : Int) (Aa : Bool) (Ab Ac Ad : Int), qht (den 1 (qbk [.t 4] KK) (qz KK)) n (qcp v0 v7 v8 Aa Ab Ac Ad) (qcq v0 v7 v8 Aa Ab Ac Ad) K = qb3 v0 v7 (qbr K) (qbu KK) n v8 Aa Ab Ac Ad := by
  rw [qd0]
  intro n
  induction n with
  | zero => intros; rfl
  | succ n ih =>
 intro v8 Aa Ab Ac Ad
 exact (qg6 KK v0 v7 v8 Aa Ab Ac Ad (itK (den 1 (qbk [.t 4] KK) (qz KK)) n K)).trans (congrArg (fun q => qy v0 v7 v8 Aa Ab Ac Ad q (qbr K) (qbu KK)) (funext fun v8 => funext fun Aa => funext fun Ab => funext fun Ac => funext fun Ad => ih v8 Aa Ab Ac Ad))
def qd8 {R : Type} (KK : AV → Mem → Option R) := subE (R := R) qg5 fun t m K => qb (bxC (m.s 0)) (qb3 (gL [t 0] 0) (gI [t 7] 0) (qbr K) (qbu KK) FU (gI [t 8] 0))
theorem qhm {R : Type} (KK : AV → Mem → Option R) : qc9 Try.prog (TIof Try.prog) 19 1 (qbk [.t 4] KK) (.loop (scOf (qz KK))) (qd8 KK) :=
  qjh tabOk follows (qhe KK) (qbe (by kernel_rfl)) fun t m K => qhl KK _ _ K FU _ _ _ _ _
def qh6 : Shp := ⟨[(0, .one (.l (.sl 8))), (1, .one (.fn 99 [(0, 0)]))], [.box true (lk qc)]⟩
def qem {R : Type} (KK : AV → Mem → Option R) := (fun v4 Aa Ab Ac Ad => KK (.int .i64 v4) (qh [(some (.box true [(.bool Aa), (.int .u64 Ab), (.int .u64 Ac), (.int .i64 Ad)]))]))
def qc1 {R : Type}  (v0 : List AV) (Aa : Bool) (Ab Ac Ad : Int) (kr : Int → Bool → Int → Int → Int → Option R) : Option R :=
  (qb3 v0 (v0.length : Int) (fun b0_0q1 b0_1q2 b0_2q3 b0_3q4 => (kr (-1 : Int) b0_0q1 b0_1q2 b0_2q3 b0_3q4)) kr FU (0 : Int) Aa Ab Ac Ad)
def qbm {R : Type} := hull (qc1 (R := R))
theorem qen {R : Type} : qbm (R := R) = qc1 := ql _
def qbh {R : Type} (KK : AV → Mem → Option R) : AC R :=
  .seq (.reg [ao 4 (.mv (.c (.int .i64 0)))]) (.seq (.seq (.reg [ao 6 (.mv 0),
 ao 7 (.len false 6),
 ao 8 (.mv (.c (.int .i64 0)))]) (.block 0 (.seq (.view [.sel [0, 1, 7, 8] [0]]) (.sub (.loop (scOf (qz KK))) (qd8 KK))))) (.seq (.reg [ao 4 (.mv (.c (.int .i64 (-1))))]) (.seq (.view [.sel [4] [0]]) (.ret))))
theorem qip {R : Type} (KK : AV → Mem → Option R) : AC.ok Try.prog (TIof Try.prog) 19 1 (qbk [.t 4] KK) (qbh KK) := qn (zA (qhm KK) trivial)
theorem qi3 {R : Type} (KK : AV → Mem → Option R) (v0 : List AV) (Aa : Bool) (Ab Ac Ad : Int) : den 1 (qbk [.t 4] KK) (qbh KK) (qi [(0, (.sl 8 v0)), (1, (.func 99 [(.ptr 0 0)]))]) (qh [(some (.box true (qa Aa Ab Ac Ad)))]) (kend (qbk [.t 4] KK)) = qbm v0 Aa Ab Ac Ad (qem KK) := by
  rw [qen]; kernel_rfl
theorem qi4 : cFn (TIof Try.prog) Try.f97 = some ⟨19, [.t 4], scOf (qbh (R := Unit) (fun _ _ => none))⟩ := by kernel_rfl
theorem qi5 {R : Type} (KK : AV → Mem → Option R) : (qbh KK).er = some (scOf (qbh (R := Unit) (fun _ _ => none))) := by kernel_rfl
def qeq {R : Type} : List AV → Mem → (AV → Mem → Option R) → Option R := refE qh6 fun xs m KK => qb (bxC (m.s 0)) (qbm (gL [(qk xs) 0] 0)) (qem KK)
theorem qi6 {R : Type} : qit Try.prog 97 (qeq (R := R)) :=
  qsl (ac := fun KK => qbh KK) tabOk follows Try.func97 (by kernel_rfl) qi4 (fun KK => qip KK) (fun KK => qi5 KK) rfl fun xs m KK => qi3 KK _ _ _ _ _
end
end Go.Proofs.Ytmfghgaboaocgaa.Dn
