import Derived.Test.YtmfghgaboaocgaaProg
import Derived.Test.YtmfghgaboaocgaaChLibD
import Derived.Test.YtmfghgaboaocgaaChDn47x1
set_option linter.all false
namespace Go.Proofs.Ytmfghgaboaocgaa.Dn
open Go Go.Pev
set_option linter.unusedVariables false
set_option linter.unusedSimpArgs false
set_option maxRecDepth 100000
set_option maxHeartbeats 4000000
def q04 : Shp := ⟨[(0, .one (.own 0)), (1, .one (.l (.sl 8))), (2, .st (lk qc))], [.arr true 4]⟩
noncomputable section
def qgi (rec : (List AV) → (List AV) → Bool → Int → Int → Int → Option (List AV)) (xs cl : List AV) : Option (List AV) := chk (qbap q04 (qj (.own 0 xs.length :: cl)) (M1 4 xs)) (cond (hdS q04 (qj (.own 0 xs.length :: cl)) (M1 4 xs)) (rec xs (gL [(qj (.own 0 xs.length :: cl)) 1] 0) (gB ((qj (.own 0 xs.length :: cl)) 2).cells 0) (gI ((qj (.own 0 xs.length :: cl)) 2).cells 1) (gI ((qj (.own 0 xs.length :: cl)) 2).cells 2) (gI ((qj (.own 0 xs.length :: cl)) 2).cells 3)) none)
def qod  (a0 : List AV) (Aq : Bool) (Ar As At : Int) (K : Ex → Env → Mem → Option (List AV)) := (fun z_a2 => K (.exit 0) (qi [(0, (.own 0 a0.length)), (5, (.ptr 1 0)), (7, (.own 2 z_a2.length))]) (qh [(some (.arr true 4 a0)), (some (.box true (qa Aq Ar As At))), (some (.arr true 8 z_a2))]))
def qbkd : Shp := ⟨[(0, .one (.own 0)), (5, .one (.ptr 1 0)), (7, .one (.own 2)), (13, .one (.l (.sl 8))), (14, .one (.l (.i .i64))), (15, .one (.l (.i .i64)))], [.arr true 4, .box true (lk qc), .arr true 8]⟩
def qwt (v13 : List AV) (v14 v15 : Int) (a0 : List AV) (Aq : Bool) (Ar As At : Int) (a2 : List AV) : Env := qi [(0, (.own 0 a0.length)), (5, (.ptr 1 0)), (7, (.own 2 a2.length)), (13, (.sl 8 v13)), (14, (.int .i64 v14)), (15, (.int .i64 v15))]
def qwu (v13 : List AV) (v14 v15 : Int) (a0 : List AV) (Aq : Bool) (Ar As At : Int) (a2 : List AV) : Mem := qh [(some (.arr true 4 a0)), (some (.box true (qa Aq Ar As At))), (some (.arr true 8 a2))]
def qko  (rec : (List AV) → (List AV) → Bool → Int → Int → Int → Option (List AV)) (v13 : List AV) (v14 v15 : Int) (a0 : List AV) (Aq : Bool) (Ar As At : Int) (a2 : List AV) (next : Int → (List AV) → Option (List AV)) (kx0 : (List AV) → Option (List AV)) : Option (List AV) :=
  (bif (decide (v15 < v14)) then (oB (ixB v13 v15) fun y1 => (bif fitC qe y1.cells then (oB (qjd Aq Ar As At (gB y1.cells 0) (gI y1.cells 1) (gI y1.cells 2) (gI y1.cells 3)) fun r2 => (bif r2 then (bif hd a0 a0.length then (some a0) else none) else (oB (qp3 (gB y1.cells 0) (gI y1.cells 1) (gI y1.cells 2) (gI y1.cells 3) Aq Ar As At) fun r3 => (bif r3 then (bif hd a2 a2.length then (bif hd ([(.agg [(.bool (gB y1.cells 0)), (.int .u64 (gI y1.cells 1)), (.int .u64 (gI y1.cells 2)), (.int .i64 (gI y1.cells 3)), (.int .i64 (gI y1.cells 4)), (.str (gS y1.cells 5)), (.str (gS y1.cells 6)), (.int .i64 (gI y1.cells 7))])] : List AV) (([(.agg [(.bool (gB y1.cells 0)), (.int .u64 (gI y1.cells 1)), (.int .u64 (gI y1.cells 2)), (.int .i64 (gI y1.cells 3)), (.int .i64 (gI y1.cells 4)), (.str (gS y1.cells 5)), (.str (gS y1.cells 6)), (.int .i64 (gI y1.cells 7))])] : List AV).length) then (bif decide ((a2.length + ([(.agg [(.bool (gB y1.cells 0)), (.int .u64 (gI y1.cells 1)), (.int .u64 (gI y1.cells 2)), (.int .i64 (gI y1.cells 3)), (.int .i64 (gI y1.cells 4)), (.str (gS y1.cells 5)), (.str (gS y1.cells 6)), (.int .i64 (gI y1.cells 7))])] : List AV).length) * 80 ≤ 140737488355328) then (next (IntKind.i64.wrap (v15 + (1 : Int))) (a2 ++ ([(.agg [(.bool (gB y1.cells 0)), (.int .u64 (gI y1.cells 1)), (.int .u64 (gI y1.cells 2)), (.int .i64 (gI y1.cells 3)), (.int .i64 (gI y1.cells 4)), (.str (gS y1.cells 5)), (.str (gS y1.cells 6)), (.int .i64 (gI y1.cells 7))])] : List AV))) else none) else none) else none) else (next (IntKind.i64.wrap (v15 + (1 : Int))) a2))))) else none)) else (kx0 a2))
def qq1  (rec : (List AV) → (List AV) → Bool → Int → Int → Int → Option (List AV)) (v13 : List AV) (v14 : Int) (a0 : List AV) (Aq : Bool) (Ar As At : Int) (kx0 : (List AV) → Option (List AV)) : Nat → Int → (List AV) → Option (List AV)
  | 0 => (fun _ _ => none)
  | n + 1 => (fun v15 a2 => qko rec v13 v14 v15 a0 Aq Ar As At a2 (qq1 rec v13 v14 a0 Aq Ar As At kx0 n) kx0)
def qp5  (rec : (List AV) → (List AV) → Bool → Int → Int → Int → Option (List AV)):= hull (qq1 rec)
theorem q62  (rec : (List AV) → (List AV) → Bool → Int → Int → Int → Option (List AV)): qp5 rec = qq1 rec := qk _
def qkp (rec : (List AV) → (List AV) → Bool → Int → Int → Int → Option (List AV)) : AC (List AV) :=
  .seq (.reg [ao 16 (.bin .lss 15 14)]) (.seq (.cond 16 (.skip) (.seq (.view [.sel [0, 5, 7] [0, 1, 2]]) (.exit 0))) (.seq (.block 1 (.seq (.reg [ao 17 (.ia 8 13 15),
 .st (.etac 17 qe),
 ao 18 (.load true 8 17),
 ao 9 (.alloc [(.bool false), (.int .u64 0), (.int .u64 0), (.int .i64 0), (.int .i64 0), (.str []), (.str []), (.int .i64 0)]),
 an (.store 8 9 18)]) (.seq (.seq (.reg [ao 19 (.load true 4 5),
 ao 20 (.fa 0 9),
 ao 21 (.load true 4 20),
 .call (po 22 (.call 23 [19, 21])) 23 qmb]) (.cond 22 (.seq (.reg [ao 23 (.mv 0),
 ao 6 (.mv 23)]) (.ret)) (.skip))) (.seq (.reg [ao 24 (.fa 0 9),
 ao 25 (.load true 4 24),
 ao 26 (.load true 4 5),
 .call (po 27 (.call 24 [25, 26])) 24 q42]) (.cond 27 (.reg [ao 28 (.mv 7),
 ao 29 (.load true 8 9),
 ao 30 (.bsl 8 [29]),
 ao 31 (.app 8 80 28 30),
 ao 7 (.mv 31)]) (.skip)))))) (.seq (.reg [ao 32 (.bin .add 15 (.c (.int .i64 1))),
 ao 15 (.mv 32)]) (.view [.sel [0, 5, 7, 13, 14, 15] [0, 1, 2]]))))
theorem qbom (rec : (List AV) → (List AV) → Bool → Int → Int → Int → Option (List AV)) (hrec : qx3 Try.prog 84 4 (qgi rec)) : AC.ok Try.prog (TIof Try.prog) 56 1 (qbm [.t 6] (grK 4)) (qkp rec) := qm (zA (qd.ok qt1) (zA (qd.ok qbq7) trivial))
theorem qbke (rec : (List AV) → (List AV) → Bool → Int → Int → Int → Option (List AV)) (v13 : List AV) (v14 v15 : Int) (a0 : List AV) (Aq : Bool) (Ar As At : Int) (a2 : List AV) (K : Ex → Env → Mem → Option (List AV)) : den 1 (qbm [.t 6] (grK 4)) (qkp rec) (qwt v13 v14 v15 a0 Aq Ar As At a2) (qwu v13 v14 v15 a0 Aq Ar As At a2) K = qko rec v13 v14 v15 a0 Aq Ar As At a2 (fun z_v15 z_a2 => K .norm (qwt v13 v14 z_v15 a0 Aq Ar As At z_a2) (qwu v13 v14 z_v15 a0 Aq Ar As At z_a2)) (qod a0 Aq Ar As At K) := by kernel_rfl
theorem qbrb (rec : (List AV) → (List AV) → Bool → Int → Int → Int → Option (List AV)) (v13 : List AV) (v14 : Int) (a0 : List AV) (Aq : Bool) (Ar As At : Int) (K : Ex → Env → Mem → Option (List AV)) : ∀ (n : Nat) (v15 : Int) (a2 : List AV), qe2 (den 1 (qbm [.t 6] (grK 4)) (qkp rec)) n (qwt v13 v14 v15 a0 Aq Ar As At a2) (qwu v13 v14 v15 a0 Aq Ar As At a2) K = qp5 rec v13 v14 a0 Aq Ar As At (qod a0 Aq Ar As At K) n v15 a2 := by
  rw [q62]
  intro n
  induction n with
  | zero => intros; rfl
  | succ n ih =>
 intro v15 a2
 exact (qbke rec v13 v14 v15 a0 Aq Ar As At a2 (itK (den 1 (qbm [.t 6] (grK 4)) (qkp rec)) n K)).trans (congrArg (fun q => qko rec v13 v14 v15 a0 Aq Ar As At a2 q (qod a0 Aq Ar As At K)) (funext fun v15 => funext fun a2 => ih v15 a2))
def q8f (rec : (List AV) → (List AV) → Bool → Int → Int → Int → Option (List AV)) := subE (R := List AV) qbkd fun t m K => qb (bxC (m.s 1)) (qp5 rec (gL [t 13] 0) (gI [t 14] 0) (arL (m.s 0))) (qod (arL (m.s 0)) (gB (bxC (m.s 1)) 0) (gI (bxC (m.s 1)) 1) (gI (bxC (m.s 1)) 2) (gI (bxC (m.s 1)) 3) K) FU (gI [t 15] 0) (arL (m.s 2))
theorem qbrc (rec : (List AV) → (List AV) → Bool → Int → Int → Int → Option (List AV)) (hrec : qx3 Try.prog 84 4 (qgi rec)) : qby Try.prog (TIof Try.prog) 56 1 (qbm [.t 6] (grK 4)) (.loop (scOf (qkp rec))) (q8f rec) :=
  qd9 tabOk follows (qbom rec hrec) (qo (by kernel_rfl)) fun t m K => qbrb rec _ _ _ _ _ _ _ K FU _ _
def qx9 (rec : (List AV) → (List AV) → Bool → Int → Int → Int → Option (List AV)) (a0 v1 : List AV) (Be : Bool) (Bf Bg Bh : Int) : Option (List AV) :=
  (bif (hd a0 (a0.length) && (hd ([] : List AV) (([] : List AV).length) && true)) then (qp5 rec v1 (v1.length : Int) a0 Be Bf Bg Bh (fun a2q1 => (bif ((a2q1.length : Int) == (0 : Int)) then (bif hd a0 a0.length then (bif hd ([(.agg [(.bool Be), (.int .u64 Bf), (.int .u64 Bg), (.int .i64 Bh)])] : List AV) (([(.agg [(.bool Be), (.int .u64 Bf), (.int .u64 Bg), (.int .i64 Bh)])] : List AV).length) then (bif decide ((a0.length + ([(.agg [(.bool Be), (.int .u64 Bf), (.int .u64 Bg), (.int .i64 Bh)])] : List AV).length) * 32 ≤ 140737488355328) then (bif hd (a0 ++ ([(.agg [(.bool Be), (.int .u64 Bf), (.int .u64 Bg), (.int .i64 Bh)])] : List AV)) ((a0 ++ ([(.agg [(.bool Be), (.int .u64 Bf), (.int .u64 Bg), (.int .i64 Bh)])] : List AV)).length) then (some (a0 ++ ([(.agg [(.bool Be), (.int .u64 Bf), (.int .u64 Bg), (.int .i64 Bh)])] : List AV))) else none) else none) else none) else none) else (oB (qhj Be Bf Bg Bh) fun r2 => (bif (!r2.2.2) then (bif hd a0 a0.length then (some a0) else none) else (bif hd a2q1 a2q1.length then (bif hd a0 a0.length then (oB (bif (hd a0 (a0.length) && true) then (rec a0 a2q1 (gB r2.1.cells 0) (gI r2.1.cells 1) (gI r2.1.cells 2) (gI r2.1.cells 3)) else none) fun r3 => (bif hd r3 r3.length then (oB (bif (hd r3 (r3.length) && true) then (rec r3 a2q1 (gB r2.2.1.cells 0) (gI r2.2.1.cells 1) (gI r2.2.1.cells 2) (gI r2.2.1.cells 3)) else none) fun r4 => (bif hd r4 r4.length then (some r4) else none)) else none)) else none) else none))))) FU (0 : Int) ([] : List AV)) else none)
def qfj : Nat → (List AV) → (List AV) → Bool → Int → Int → Int → Option (List AV)
  | 0 => (fun _ _ _ _ _ _ => none)
  | n + 1 => (fun a0 v1 Be Bf Bg Bh => qx9 (qfj n) a0 v1 Be Bf Bg Bh)
def q4a : (List AV) → (List AV) → Bool → Int → Int → Int → Option (List AV) := hull (qfj FU)
theorem qbcb : q4a = qfj FU := qk _
def qr3 (rec : (List AV) → (List AV) → Bool → Int → Int → Int → Option (List AV)) : AC (List AV) :=
  .seq (.reg [ao 5 (.box 2),
 ao 6 (.mv (.c .nils))]) (.seq (.reg [ao 7 (.mv (.c .nils))]) (.seq (.seq (.reg [ao 13 (.mv 1),
 ao 14 (.len false 13),
 ao 15 (.mv (.c (.int .i64 0)))]) (.block 0 (.seq (.view [.own 7 8, .sel [0, 5, 7, 13, 14, 15] [0, 1, 2]]) (.sub (.loop (scOf (qkp rec))) (q8f rec))))) (.seq (.seq (.reg [ao 33 (.mv 7),
 ao 34 (.len false 33),
 ao 35 (.bin .eql 34 (.c (.int .i64 0)))]) (.cond 35 (.seq (.reg [ao 36 (.mv 0),
 ao 37 (.load true 4 5),
 ao 38 (.bsl 4 [37]),
 ao 39 (.app 4 32 36 38),
 ao 6 (.mv 39)]) (.ret)) (.skip))) (.seq (.reg [ao 41 (.load true 4 5),
 .call (po 42 (.call 47 [41])) 47 qws,
 ao 40 (.mv 42),
 ao 43 (.ext 40 0),
 ao 44 (.ext 40 1),
 ao 45 (.ext 40 2),
 ao 10 (.alloc [(.bool false), (.int .u64 0), (.int .u64 0), (.int .i64 0)]),
 ao 11 (.alloc [(.bool false), (.int .u64 0), (.int .u64 0), (.int .i64 0)]),
 an (.store 4 10 43),
 an (.store 4 11 44),
 ao 12 (.mv 45)]) (.seq (.seq (.reg [ao 46 (.mv 12),
 ao 47 (.un .not 46)]) (.cond 47 (.seq (.reg [ao 48 (.mv 0),
 ao 6 (.mv 48)]) (.ret)) (.skip))) (.seq (.seq (.view [.snap 7]) (.draw4 [(po 49 (.mv 0)), (po 50 (.mv 7)), (po 51 (.load true 4 10))] 52 84 4 49 [50, 51] (qgi rec) [(po 53 (.mv 7)), (po 54 (.load true 4 11))] [.callr (po 55 (.call 84 [52, 53, 54])) 84 (qbuz 4 (qgi rec)),
 ao 6 (.mv 55)])) (.ret)))))))
theorem qbvo (rec : (List AV) → (List AV) → Bool → Int → Int → Int → Option (List AV)) (hrec : qx3 Try.prog 84 4 (qgi rec)) : AC.ok Try.prog (TIof Try.prog) 56 1 (qbm [.t 6] (grK 4)) (qr3 rec) := qm (zA (qbrc rec hrec) (zA (qd.ok qbaa) (zA hrec (zA (qbxr hrec) trivial))))
theorem qbyo (rec : (List AV) → (List AV) → Bool → Int → Int → Int → Option (List AV)) (v1 : List AV) (Be : Bool) (Bf Bg Bh : Int) (a0 : List AV) : den 1 (qbm [.t 6] (grK 4)) (qr3 rec) (qi [(0, (.own 0 a0.length)), (1, (.sl 8 v1)), (2, .agg (qa Be Bf Bg Bh))]) (qh [(some (.arr true 4 a0))]) (kend (qbm [.t 6] (grK 4))) = qx9 rec a0 v1 Be Bf Bg Bh := by
  kernel_rfl
theorem qbyp : cFn (TIof Try.prog) Try.f84 = some ⟨56, [.t 6], scOf (qr3 (fun _ _ _ _ _ _ => none))⟩ := by kernel_rfl
theorem qbyq (rec : (List AV) → (List AV) → Bool → Int → Int → Int → Option (List AV)) : (qr3 rec).er = some (scOf (qr3 (fun _ _ _ _ _ _ => none))) := by kernel_rfl
theorem qbcc : ∀ (k : Nat), qx3 Try.prog 84 4 (qgi (qfj k))
  | 0 => fun xs cl zs h => by
   unfold qgi at h
   obtain ⟨h1, h2⟩ := qo9 h
   obtain ⟨h3, h4⟩ := qq h2
   cases h4
  | k + 1 => fun xs cl zs h => by
   unfold qgi at h
   obtain ⟨h1, h2⟩ := qo9 h
   obtain ⟨h3, h4⟩ := qq h2
   exact qb0v tabOk follows Try.func84 (by kernel_rfl) qbyp (qbvo (qfj k) (qbcc k)) (qbyq (qfj k)) q04 (qbm7 h1 h3) ((qbyo (qfj k) (gL [(qj (.own 0 xs.length :: cl)) 1] 0) (gB ((qj (.own 0 xs.length :: cl)) 2).cells 0) (gI ((qj (.own 0 xs.length :: cl)) 2).cells 1) (gI ((qj (.own 0 xs.length :: cl)) 2).cells 2) (gI ((qj (.own 0 xs.length :: cl)) 2).cells 3) (arL ((M1 4 xs).s 0))).trans h4)
theorem qbyr : qx3 Try.prog 84 4 (qgi q4a) := by
  have h := qbcc FU
  rw [← qbcb] at h
  exact h
def qnq  (Aa : Bool) (Ab Ac Ad : Int) (K : Ex → Env → Mem → Option (List AV)) := (fun z_a1 => K (.exit 0) (qi [(3, (.ptr 0 0)), (7, (.own 1 z_a1.length))]) (qh [(some (.box true (qa Aa Ab Ac Ad))), (some (.arr true 8 z_a1))]))
def qbht : Shp := ⟨[(3, .one (.ptr 0 0)), (7, .one (.own 1)), (23, .one (.l (.sl 8))), (24, .one (.l (.i .i64))), (25, .one (.l (.i .i64)))], [.box true (lk qc), .arr true 8]⟩
def qut (v23 : List AV) (v24 v25 : Int) (Aa : Bool) (Ab Ac Ad : Int) (a1 : List AV) : Env := qi [(3, (.ptr 0 0)), (7, (.own 1 a1.length)), (23, (.sl 8 v23)), (24, (.int .i64 v24)), (25, (.int .i64 v25))]
def quu (v23 : List AV) (v24 v25 : Int) (Aa : Bool) (Ab Ac Ad : Int) (a1 : List AV) : Mem := qh [(some (.box true (qa Aa Ab Ac Ad))), (some (.arr true 8 a1))]
def qi0  (v23 : List AV) (v24 v25 : Int) (Aa : Bool) (Ab Ac Ad : Int) (a1 : List AV) (next : Int → (List AV) → Option (List AV)) (kx0 : (List AV) → Option (List AV)) : Option (List AV) :=
  (bif (decide (v25 < v24)) then (oB (ixB v23 v25) fun y1 => (bif fitC qe y1.cells then (oB (qo5 (gB y1.cells 0) (gI y1.cells 1) (gI y1.cells 2) (gI y1.cells 3) Aa Ab Ac Ad) fun r2 => (bif r2 then (bif hd a1 a1.length then (bif hd ([(.agg [(.bool (gB y1.cells 0)), (.int .u64 (gI y1.cells 1)), (.int .u64 (gI y1.cells 2)), (.int .i64 (gI y1.cells 3)), (.int .i64 (gI y1.cells 4)), (.str (gS y1.cells 5)), (.str (gS y1.cells 6)), (.int .i64 (gI y1.cells 7))])] : List AV) (([(.agg [(.bool (gB y1.cells 0)), (.int .u64 (gI y1.cells 1)), (.int .u64 (gI y1.cells 2)), (.int .i64 (gI y1.cells 3)), (.int .i64 (gI y1.cells 4)), (.str (gS y1.cells 5)), (.str (gS y1.cells 6)), (.int .i64 (gI y1.cells 7))])] : List AV).length) then (bif decide ((a1.length + ([(.agg [(.bool (gB y1.cells 0)), (.int .u64 (gI y1.cells 1)), (.int .u64 (gI y1.cells 2)), (.int .i64 (gI y1.cells 3)), (.int .i64 (gI y1.cells 4)), (.str (gS y1.cells 5)), (.str (gS y1.cells 6)), (.int .i64 (gI y1.cells 7))])] : List AV).length) * 80 ≤ 140737488355328) then (next (IntKind.i64.wrap (v25 + (1 : Int))) (a1 ++ ([(.agg [(.bool (gB y1.cells 0)), (.int .u64 (gI y1.cells 1)), (.int .u64 (gI y1.cells 2)), (.int .i64 (gI y1.cells 3)), (.int .i64 (gI y1.cells 4)), (.str (gS y1.cells 5)), (.str (gS y1.cells 6)), (.int .i64 (gI y1.cells 7))])] : List AV))) else none) else none) else none) else (next (IntKind.i64.wrap (v25 + (1 : Int))) a1))) else none)) else (kx0 a1))
def qpl  (v23 : List AV) (v24 : Int) (Aa : Bool) (Ab Ac Ad : Int) (kx0 : (List AV) → Option (List AV)) : Nat → Int → (List AV) → Option (List AV)
  | 0 => (fun _ _ => none)
  | n + 1 => (fun v25 a1 => qi0 v23 v24 v25 Aa Ab Ac Ad a1 (qpl v23 v24 Aa Ab Ac Ad kx0 n) kx0)
def qoe := hull (qpl)
theorem q46 : qoe = qpl := qk _
def qi1 : AC (List AV) :=
  .seq (.reg [ao 26 (.bin .lss 25 24)]) (.seq (.cond 26 (.skip) (.seq (.view [.sel [3, 7] [0, 1]]) (.exit 0))) (.seq (.block 1 (.seq (.reg [ao 27 (.ia 8 23 25),
 .st (.etac 27 qe),
 ao 28 (.load true 8 27),
 ao 9 (.alloc [(.bool false), (.int .u64 0), (.int .u64 0), (.int .i64 0), (.int .i64 0), (.str []), (.str []), (.int .i64 0)]),
 an (.store 8 9 28)]) (.seq (.reg [ao 29 (.fa 0 9),
 ao 30 (.load true 4 29),
 ao 31 (.load true 4 3),
 .call (po 32 (.call 83 [30, 31])) 83 qt4]) (.cond 32 (.reg [ao 33 (.mv 7),
 ao 34 (.load true 8 9),
 ao 35 (.bsl 8 [34]),
 ao 36 (.app 8 80 33 35),
 ao 7 (.mv 36)]) (.skip))))) (.seq (.reg [ao 37 (.bin .add 25 (.c (.int .i64 1))),
 ao 25 (.mv 37)]) (.view [.sel [3, 7, 23, 24, 25] [0, 1]]))))
theorem qbkf : AC.ok Try.prog (TIof Try.prog) 41 0 (kret [.t 4] (decF true 4)) qi1 := qm (zA (qd.ok q57) trivial)
theorem qbhu (v23 : List AV) (v24 v25 : Int) (Aa : Bool) (Ab Ac Ad : Int) (a1 : List AV) (K : Ex → Env → Mem → Option (List AV)) : den 0 (kret [.t 4] (decF true 4)) qi1 (qut v23 v24 v25 Aa Ab Ac Ad a1) (quu v23 v24 v25 Aa Ab Ac Ad a1) K = qi0 v23 v24 v25 Aa Ab Ac Ad a1 (fun z_v25 z_a1 => K .norm (qut v23 v24 z_v25 Aa Ab Ac Ad z_a1) (quu v23 v24 z_v25 Aa Ab Ac Ad z_a1)) (qnq Aa Ab Ac Ad K) := by kernel_rfl
theorem qbon (v23 : List AV) (v24 : Int) (Aa : Bool) (Ab Ac Ad : Int) (K : Ex → Env → Mem → Option (List AV)) : ∀ (n : Nat) (v25 : Int) (a1 : List AV), qe2 (den 0 (kret [.t 4] (decF true 4)) qi1) n (qut v23 v24 v25 Aa Ab Ac Ad a1) (quu v23 v24 v25 Aa Ab Ac Ad a1) K = qoe v23 v24 Aa Ab Ac Ad (qnq Aa Ab Ac Ad K) n v25 a1 := by
  rw [q46]
  intro n
  induction n with
  | zero => intros; rfl
  | succ n ih =>
 intro v25 a1
 exact (qbhu v23 v24 v25 Aa Ab Ac Ad a1 (itK (den 0 (kret [.t 4] (decF true 4)) qi1) n K)).trans (congrArg (fun q => qi0 v23 v24 v25 Aa Ab Ac Ad a1 q (qnq Aa Ab Ac Ad K)) (funext fun v25 => funext fun a1 => ih v25 a1))
def q63 := subE (R := (List AV)) qbht fun t m K => qb (bxC (m.s 0)) (qoe (gL [t 23] 0) (gI [t 24] 0)) (qnq (gB (bxC (m.s 0)) 0) (gI (bxC (m.s 0)) 1) (gI (bxC (m.s 0)) 2) (gI (bxC (m.s 0)) 3) K) FU (gI [t 25] 0) (arL (m.s 1))
theorem qboo : qby Try.prog (TIof Try.prog) 41 0 (kret [.t 4] (decF true 4)) (.loop (scOf qi1)) (q63) :=
  qd9 tabOk follows (qbkf) (qo (by kernel_rfl)) fun t m K => qbon _ _ _ _ _ _ K FU _ _
def qbtd : Shp := ⟨[(0, .one (.l (.sl 8))), (1, .st (lk qc))], []⟩
def q6a (v0 : List AV) (Am : Bool) (An Ao Ap : Int) : Option (List AV) :=
  (oB (qo2 v0 Am An Ao Ap) fun r1 => (bif ((!r1.2) || ((gI r1.1.cells 4) != (1 : Int))) then (bif hd ([] : List AV) (([] : List AV).length) then (some ([] : List AV)) else none) else (bif (hd ([] : List AV) (([] : List AV).length) && true) then (qoe v0 (v0.length : Int) Am An Ao Ap (fun a1q2 => (bif hd a1q2 a1q2.length then (oB (bif (hd ([] : List AV) (([] : List AV).length) && true) then (q4a ([] : List AV) a1q2 Am An Ao Ap) else none) fun r3 => (bif hd r3 r3.length then (some r3) else none)) else none)) FU (0 : Int) ([] : List AV)) else none)))
def qo6 := hull q6a
theorem qbcd : qo6 = q6a := qk _
def q6b : AC (List AV) :=
  .seq (.reg [ao 3 (.box 1),
 ao 4 (.mv (.c .nils))]) (.seq (.seq (.reg [ao 11 (.mv 0),
 ao 12 (.load true 4 3),
 .call (po 13 (.call 25 [11, 12])) 25 qty,
 ao 10 (.mv 13),
 ao 14 (.ext 10 0),
 ao 15 (.ext 10 1),
 ao 5 (.alloc [(.bool false), (.int .u64 0), (.int .u64 0), (.int .i64 0), (.int .i64 0), (.str []), (.str []), (.int .i64 0)]),
 an (.store 8 5 14),
 ao 6 (.mv 15)]) (.seq (.reg [ao 16 (.mv 6),
 ao 17 (.un .not 16),
 ao 18 (.mv 17),
 .grp 18 false [(pg 19 18 false (.fa 4 5)), (pg 20 18 false (.load false 1 19)), (pg 21 18 false (.bin .neq 20 (.c (.int .i64 1))))] 22 21]) (.cond 22 (.seq (.reg [ao 4 (.mv (.c .nils))]) (.seq (.view [.own 4 4]) (.ret))) (.skip)))) (.seq (.reg [ao 7 (.mv (.c .nils))]) (.seq (.seq (.reg [ao 23 (.mv 0),
 ao 24 (.len false 23),
 ao 25 (.mv (.c (.int .i64 0)))]) (.block 0 (.seq (.view [.own 7 8, .sel [3, 7, 23, 24, 25] [0, 2]]) (.sub (.loop (scOf qi1)) q63)))) (.seq (.reg [ao 38 (.mv 7),
 ao 39 (.load true 4 3),
 .st (.snap 38),
 .callr (po 40 (.call 84 [(.c .nils), 38, 39])) 84 (qbuz 4 (qgi q4a)),
 ao 4 (.mv 40)]) (.ret)))))
theorem qbvp : AC.ok Try.prog (TIof Try.prog) 41 0 (kret [.t 4] (decF true 4)) q6b := qm (zA (qd.ok q51) (zA qboo (zA (qbxr qbyr) trivial)))
theorem qbys (v0 : List AV) (Am : Bool) (An Ao Ap : Int) : den 0 (kret [.t 4] (decF true 4)) q6b (qi [(0, (.sl 8 v0)), (1, .agg (qa Am An Ao Ap))]) (qh []) (kend (kret [.t 4] (decF true 4))) = qo6 v0 Am An Ao Ap := by
  rw [qbcd]; kernel_rfl
theorem qbyt : cFn (TIof Try.prog) Try.f46 = some ⟨41, [.t 4], scOf q6b⟩ := by kernel_rfl
def qbyu (xs : List AV) : Option (List AV) := qb ((qj xs) 1).cells (qo6 (gL [(qj xs) 0] 0))
def q05 {R : Type} : List AV → (AV → Option R) → Option R := entF qbtd qbyu (AV.fr true 4)
theorem qbgy {R : Type} : qd Try.prog 46 (q05 (R := R)) :=
  qt tabOk follows Try.func46 (by kernel_rfl) qbyt hdeF qbvp (qo (by kernel_rfl)) fun xs => qbys _ _ _ _ _
def qbce : Shp := ⟨[(0, .one (.l (.i .i64))), (1, .one (.l (.i .i64)))], []⟩
def qsz (v0 v1 : Int) : Option Bool :=
  (some (decide (v0 < v1)))
def qpm := hull qsz
theorem q06 : qpm = qsz := qk _
def qs0 : AC Bool :=
  .seq (.reg [ao 4 (.mv (.c (.bool false)))]) (.seq (.reg [ao 5 (.mv 0),
 ao 6 (.mv 1),
 ao 7 (.bin .lss 5 6),
 ao 4 (.mv 7)]) (.ret))
theorem qbef : AC.ok Try.prog (TIof Try.prog) 8 0 (kret [.t 4] decB) qs0 := qm trivial
theorem qbhv (v0 v1 : Int) : den 0 (kret [.t 4] decB) qs0 (qi [(0, (.int .i64 v0)), (1, (.int .i64 v1))]) (qh []) (kend (kret [.t 4] decB)) = qpm v0 v1 := by
  rw [q06]; kernel_rfl
theorem qbhw : cFn (TIof Try.prog) Try.f44 = some ⟨8, [.t 4], scOf qs0⟩ := by kernel_rfl
def qbhx (xs : List AV) : Option Bool := qpm (gI [(qj xs) 0] 0) (gI [(qj xs) 1] 0)
def qzl {R : Type} : List AV → (AV → Option R) → Option R := entF qbce qbhx AV.bool
theorem qbhy {R : Type} : qd Try.prog 44 (qzl (R := R)) :=
  qt tabOk follows Try.func44 (by kernel_rfl) qbhw hdeB qbef (qo (by kernel_rfl)) fun xs => qbhv _ _
def qv (z : AV) : Option (AV × Bool) := cond (qfn [(.st [.b, (.i .u64), (.i .u64), (.i .i64)]), (.one .b)] z) (some ((gC (tpL z) 0), aB (gC (tpL z) 1))) none
def quv (r : AV × Bool) : AV := .tup [qh4 (.st [.b, (.i .u64), (.i .u64), (.i .i64)]) r.1, .bool r.2]
def qjf  (v1 : Int) (v9 : Bool) (v13 : List AV) (v14 v15 : Int) (Aa : Bool) (Ab Ac Ad : Int) (Aq : Bool) (Ar As At : Int) (A6 : Bool) (A7 A8 A9 : Int) (K : Ex → Env → Mem → Option (AV × Bool)) := (fun z_v34 => K .norm (qi [(1, (.int .i64 v1)), (2, (.func 44 [])), (6, (.ptr 0 0)), (8, (.ptr 1 0)), (9, (.bool v9)), (11, (.ptr 2 0)), (13, (.sl 4 v13)), (14, (.int .i64 v14)), (15, (.int .i64 v15)), (34, (.bool z_v34))]) (qh [(some (.box true (qa Aa Ab Ac Ad))), (some (.box true (qa Aq Ar As At))), (some (.box true (qa A6 A7 A8 A9)))]))
def qq2 : Shp := ⟨[(1, .one (.l (.i .i64))), (2, .one (.fn 44 [])), (6, .one (.ptr 0 0)), (8, .one (.ptr 1 0)), (9, .one (.l .b)), (11, .one (.ptr 2 0)), (13, .one (.l (.sl 4))), (14, .one (.l (.i .i64))), (15, .one (.l (.i .i64)))], [.box true (lk qc), .box true (lk qc), .box true (lk qc)]⟩
def qfw  (v1 : Int) (v9 : Bool) (v13 : List AV) (v14 v15 : Int) (Aa : Bool) (Ab Ac Ad : Int) (Aq : Bool) (Ar As At : Int) (A6 : Bool) (A7 A8 A9 : Int) (kn : Bool → Option (AV × Bool)) : Option (AV × Bool) :=
  (bif (decide (A9 ≤ v1)) then (bif (!v9) then (kn true) else (oB (qpm A9 At) fun r1 => (kn r1))) else (kn false))
def qea := hull (qfw)
theorem qjg : qea = qfw := qk _
def qdq : AC (AV × Bool) :=
  .seq (.reg [ao 19 (.fa 3 11),
 ao 20 (.load false 1 19),
 ao 21 (.mv 1),
 ao 22 (.bin .leq 20 21),
 ao 23 (.mv 22),
 ag 24 23 true (.mv 9),
 ag 25 23 true (.un .not 24),
 ag 26 23 true (.mv 25),
 ag 27 26 false (.mv 2),
 ag 28 26 false (.fa 3 11),
 ag 29 26 false (.load false 1 28),
 ag 30 26 false (.fa 3 8),
 ag 31 26 false (.load false 1 30),
 .call (pg 32 26 false (.callv 27 [29, 31])) 44 qzl,
 ag 33 23 true (.pick 26 (.c (.bool true)) 32),
 ao 34 (.pick 23 33 (.c (.bool false)))]) (.view [.sel [1, 2, 6, 8, 9, 11, 13, 14, 15, 34] [0, 1, 2]])
theorem qr4 : AC.ok Try.prog (TIof Try.prog) 39 0 (kret [(.cell 6 true 4), .t 7] qv) qdq := qm (zA (qd.ok qbhy) trivial)
theorem qs1 (v1 : Int) (v9 : Bool) (v13 : List AV) (v14 v15 : Int) (Aa : Bool) (Ab Ac Ad : Int) (Aq : Bool) (Ar As At : Int) (A6 : Bool) (A7 A8 A9 : Int) (K : Ex → Env → Mem → Option (AV × Bool)) : den 0 (kret [(.cell 6 true 4), .t 7] qv) qdq (qi [(1, (.int .i64 v1)), (2, (.func 44 [])), (6, (.ptr 0 0)), (8, (.ptr 1 0)), (9, (.bool v9)), (11, (.ptr 2 0)), (13, (.sl 4 v13)), (14, (.int .i64 v14)), (15, (.int .i64 v15))]) (qh [(some (.box true (qa Aa Ab Ac Ad))), (some (.box true (qa Aq Ar As At))), (some (.box true (qa A6 A7 A8 A9)))]) K = qea v1 v9 v13 v14 v15 Aa Ab Ac Ad Aq Ar As At A6 A7 A8 A9 (qjf v1 v9 v13 v14 v15 Aa Ab Ac Ad Aq Ar As At A6 A7 A8 A9 K) := by
  rw [qjg]; kernel_rfl
def qj2 := subE (R := AV × Bool) qq2 fun t m K => qb (bxC (m.s 2)) (qb (bxC (m.s 1)) (qb (bxC (m.s 0)) (qea (gI [t 1] 0) (gB [t 9] 0) (gL [t 13] 0) (gI [t 14] 0) (gI [t 15] 0)))) (qjf (gI [t 1] 0) (gB [t 9] 0) (gL [t 13] 0) (gI [t 14] 0) (gI [t 15] 0) (gB (bxC (m.s 0)) 0) (gI (bxC (m.s 0)) 1) (gI (bxC (m.s 0)) 2) (gI (bxC (m.s 0)) 3) (gB (bxC (m.s 1)) 0) (gI (bxC (m.s 1)) 1) (gI (bxC (m.s 1)) 2) (gI (bxC (m.s 1)) 3) (gB (bxC (m.s 2)) 0) (gI (bxC (m.s 2)) 1) (gI (bxC (m.s 2)) 2) (gI (bxC (m.s 2)) 3) K)
theorem qs2 : qby Try.prog (TIof Try.prog) 39 0 (kret [(.cell 6 true 4), .t 7] qv) (scOf qdq) (qj2) :=
  qex tabOk follows (qr4) (qo (by kernel_rfl)) fun t m K => qs1 _ _ _ _ _ _ _ _ _ _ _ _ _ _ _ _ _ K
def qdi  (Aa : Bool) (Ab Ac Ad : Int) (K : Ex → Env → Mem → Option (AV × Bool)) := (fun z_v9 z_b1_0 z_b1_1 z_b1_2 z_b1_3 => K (.exit 0) (qi [(6, (.ptr 0 0)), (8, (.ptr 1 0)), (9, (.bool z_v9))]) (qh [(some (.box true (qa Aa Ab Ac Ad))), (some (.box true (qa z_b1_0 z_b1_1 z_b1_2 z_b1_3)))]))
def qr5 : Shp := ⟨[(1, .one (.l (.i .i64))), (2, .one (.fn 44 [])), (6, .one (.ptr 0 0)), (8, .one (.ptr 1 0)), (9, .one (.l .b)), (13, .one (.l (.sl 4))), (14, .one (.l (.i .i64))), (15, .one (.l (.i .i64)))], [.box true (lk qc), .box true (lk qc)]⟩
def qfx (v1 : Int) (v9 : Bool) (v13 : List AV) (v14 v15 : Int) (Aa : Bool) (Ab Ac Ad : Int) (Aq : Bool) (Ar As At : Int) : Env := qi [(1, (.int .i64 v1)), (2, (.func 44 [])), (6, (.ptr 0 0)), (8, (.ptr 1 0)), (9, (.bool v9)), (13, (.sl 4 v13)), (14, (.int .i64 v14)), (15, (.int .i64 v15))]
def qfy (v1 : Int) (v9 : Bool) (v13 : List AV) (v14 v15 : Int) (Aa : Bool) (Ab Ac Ad : Int) (Aq : Bool) (Ar As At : Int) : Mem := qh [(some (.box true (qa Aa Ab Ac Ad))), (some (.box true (qa Aq Ar As At)))]
def qcg  (v1 : Int) (v9 : Bool) (v13 : List AV) (v14 v15 : Int) (Aa : Bool) (Ab Ac Ad : Int) (Aq : Bool) (Ar As At : Int) (next : Bool → Int → Bool → Int → Int → Int → Option (AV × Bool)) (kx0 : Bool → Bool → Int → Int → Int → Option (AV × Bool)) : Option (AV × Bool) :=
  (bif (decide (v15 < v14)) then (oB (ixB v13 v15) fun y1 => (bif fitC qc y1.cells then (qea v1 v9 v13 v14 v15 Aa Ab Ac Ad Aq Ar As At (gB y1.cells 0) (gI y1.cells 1) (gI y1.cells 2) (gI y1.cells 3) (fun v34q2 => (bif v34q2 then (next true (IntKind.i64.wrap (v15 + (1 : Int))) (gB y1.cells 0) (gI y1.cells 1) (gI y1.cells 2) (gI y1.cells 3)) else (next v9 (IntKind.i64.wrap (v15 + (1 : Int))) Aq Ar As At)))) else none)) else (kx0 v9 Aq Ar As At))
def qdz  (v1 : Int) (v13 : List AV) (v14 : Int) (Aa : Bool) (Ab Ac Ad : Int) (kx0 : Bool → Bool → Int → Int → Int → Option (AV × Bool)) : Nat → Bool → Int → Bool → Int → Int → Int → Option (AV × Bool)
  | 0 => (fun _ _ _ _ _ _ => none)
  | n + 1 => (fun v9 v15 Aq Ar As At => qcg v1 v9 v13 v14 v15 Aa Ab Ac Ad Aq Ar As At (qdz v1 v13 v14 Aa Ab Ac Ad kx0 n) kx0)
def qeo := hull (qdz)
theorem qj3 : qeo = qdz := qk _
def qch : AC (AV × Bool) :=
  .seq (.reg [ao 16 (.bin .lss 15 14)]) (.seq (.cond 16 (.skip) (.seq (.view [.sel [6, 8, 9] [0, 1]]) (.exit 0))) (.seq (.block 1 (.seq (.reg [ao 17 (.ia 4 13 15),
 .st (.etac 17 qc),
 ao 18 (.load true 4 17),
 ao 11 (.alloc [(.bool false), (.int .u64 0), (.int .u64 0), (.int .i64 0)]),
 an (.store 4 11 18)]) (.seq (.seq (.view [.sel [1, 2, 6, 8, 9, 11, 13, 14, 15] [0, 1, 2]]) (.sub (scOf qdq) qj2)) (.cond 34 (.reg [ao 35 (.load true 4 11),
 an (.store 4 8 35),
 ao 9 (.mv (.c (.bool true)))]) (.skip))))) (.seq (.reg [ao 36 (.bin .add 15 (.c (.int .i64 1))),
 ao 15 (.mv 36)]) (.view [.sel [1, 2, 6, 8, 9, 13, 14, 15] [0, 1]]))))
theorem qs3 : AC.ok Try.prog (TIof Try.prog) 39 0 (kret [(.cell 6 true 4), .t 7] qv) qch := qm (zA qs2 trivial)
theorem qr6 (v1 : Int) (v9 : Bool) (v13 : List AV) (v14 v15 : Int) (Aa : Bool) (Ab Ac Ad : Int) (Aq : Bool) (Ar As At : Int) (K : Ex → Env → Mem → Option (AV × Bool)) : den 0 (kret [(.cell 6 true 4), .t 7] qv) qch (qfx v1 v9 v13 v14 v15 Aa Ab Ac Ad Aq Ar As At) (qfy v1 v9 v13 v14 v15 Aa Ab Ac Ad Aq Ar As At) K = qcg v1 v9 v13 v14 v15 Aa Ab Ac Ad Aq Ar As At (fun z_v9 z_v15 z_b1_0 z_b1_1 z_b1_2 z_b1_3 => K .norm (qfx v1 z_v9 v13 v14 z_v15 Aa Ab Ac Ad z_b1_0 z_b1_1 z_b1_2 z_b1_3) (qfy v1 z_v9 v13 v14 z_v15 Aa Ab Ac Ad z_b1_0 z_b1_1 z_b1_2 z_b1_3)) (qdi Aa Ab Ac Ad K) := by kernel_rfl
theorem qt9 (v1 : Int) (v13 : List AV) (v14 : Int) (Aa : Bool) (Ab Ac Ad : Int) (K : Ex → Env → Mem → Option (AV × Bool)) : ∀ (n : Nat) (v9 : Bool) (v15 : Int) (Aq : Bool) (Ar As At : Int), qe2 (den 0 (kret [(.cell 6 true 4), .t 7] qv) qch) n (qfx v1 v9 v13 v14 v15 Aa Ab Ac Ad Aq Ar As At) (qfy v1 v9 v13 v14 v15 Aa Ab Ac Ad Aq Ar As At) K = qeo v1 v13 v14 Aa Ab Ac Ad (qdi Aa Ab Ac Ad K) n v9 v15 Aq Ar As At := by
  rw [qj3]
  intro n
  induction n with
  | zero => intros; rfl
  | succ n ih =>
 intro v9 v15 Aq Ar As At
 exact (qr6 v1 v9 v13 v14 v15 Aa Ab Ac Ad Aq Ar As At (itK (den 0 (kret [(.cell 6 true 4), .t 7] qv) qch) n K)).trans (congrArg (fun q => qcg v1 v9 v13 v14 v15 Aa Ab Ac Ad Aq Ar As At q (qdi Aa Ab Ac Ad K)) (funext fun v9 => funext fun v15 => funext fun Aq => funext fun Ar => funext fun As => funext fun At => ih v9 v15 Aq Ar As At))
def qku := subE (R := AV × Bool) qr5 fun t m K => qb (bxC (m.s 1)) (qb (bxC (m.s 0)) (qeo (gI [t 1] 0) (gL [t 13] 0) (gI [t 14] 0)) (qdi (gB (bxC (m.s 0)) 0) (gI (bxC (m.s 0)) 1) (gI (bxC (m.s 0)) 2) (gI (bxC (m.s 0)) 3) K) FU (gB [t 9] 0) (gI [t 15] 0))
theorem qua : qby Try.prog (TIof Try.prog) 39 0 (kret [(.cell 6 true 4), .t 7] qv) (.loop (scOf qch)) (qku) :=
  qd9 tabOk follows (qs3) (qo (by kernel_rfl)) fun t m K => qt9 _ _ _ _ _ _ _ K FU _ _ _ _ _ _
def quw : Shp := ⟨[(0, .one (.l (.sl 4))), (1, .one (.l (.i .i64))), (2, .one (.fn 44 []))], []⟩
def qg1 (v0 : List AV) (v1 : Int) : Option (AV × Bool) :=
  (qeo v1 v0 (v0.length : Int) false (0 : Int) (0 : Int) (0 : Int) (fun v9q1 b1_0q2 b1_1q3 b1_2q4 b1_3q5 => (some ((.agg [(.bool b1_0q2), (.int .u64 b1_1q3), (.int .u64 b1_2q4), (.int .i64 b1_3q5)]), v9q1))) FU false (0 : Int) false (0 : Int) (0 : Int) (0 : Int))
def qdn := hull qg1
theorem qlu : qdn = qg1 := qk _
def qg2 : AC (AV × Bool) :=
  .seq (.reg [ao 6 (.alloc [(.bool false), (.int .u64 0), (.int .u64 0), (.int .i64 0)]),
 ao 7 (.mv (.c (.bool false)))]) (.seq (.reg [ao 12 (.build [(.bool false), (.int .u64 0), (.int .u64 0), (.int .i64 0)] []),
 ao 8 (.alloc [(.bool false), (.int .u64 0), (.int .u64 0), (.int .i64 0)]),
 an (.store 4 8 12),
 ao 9 (.mv (.c (.bool false)))]) (.seq (.seq (.reg [ao 13 (.mv 0),
 ao 14 (.len false 13),
 ao 15 (.mv (.c (.int .i64 0)))]) (.block 0 (.seq (.view [.sel [1, 2, 6, 8, 9, 13, 14, 15] [0, 1]]) (.sub (.loop (scOf qch)) qku)))) (.seq (.reg [ao 37 (.load true 4 8),
 ao 38 (.mv 9),
 an (.store 4 6 37),
 ao 7 (.mv 38)]) (.ret))))
theorem qvx : AC.ok Try.prog (TIof Try.prog) 39 0 (kret [(.cell 6 true 4), .t 7] qv) qg2 := qm (zA qua trivial)
theorem qwv (v0 : List AV) (v1 : Int) : den 0 (kret [(.cell 6 true 4), .t 7] qv) qg2 (qi [(0, (.sl 4 v0)), (1, (.int .i64 v1)), (2, (.func 44 []))]) (qh []) (kend (kret [(.cell 6 true 4), .t 7] qv)) = qdn v0 v1 := by
  rw [qlu]; kernel_rfl
theorem qww : cFn (TIof Try.prog) Try.f45 = some ⟨39, [(.cell 6 true 4), .t 7], scOf qg2⟩ := by kernel_rfl
def qwx (xs : List AV) : Option (AV × Bool) := qdn (gL [(qj xs) 0] 0) (gI [(qj xs) 1] 0)
def qlh {R : Type} : List AV → (AV → Option R) → Option R := entF quw qwx quv
theorem qwy {R : Type} : qd Try.prog 45 (qlh (R := R)) :=
  qt tabOk follows Try.func45 (by kernel_rfl) qww (fun z r h => by
 obtain ⟨h1, h2⟩ := qq h
 cases h2
 exact (qc9 h1).symm) qvx (qo (by kernel_rfl)) fun xs => qwv _ _
def qbcf : Shp := ⟨[(0, .one (.l (.i .i64))), (1, .one (.l (.i .i64)))], []⟩
def qs4 (v0 v1 : Int) : Option Bool :=
  (some (decide (v0 > v1)))
def qpn := hull qs4
theorem q07 : qpn = qs4 := qk _
def qs5 : AC Bool :=
  .seq (.reg [ao 4 (.mv (.c (.bool false)))]) (.seq (.reg [ao 5 (.mv 0),
 ao 6 (.mv 1),
 ao 7 (.bin .gtr 5 6),
 ao 4 (.mv 7)]) (.ret))
theorem qbeg : AC.ok Try.prog (TIof Try.prog) 8 0 (kret [.t 4] decB) qs5 := qm trivial
theorem qbhz (v0 v1 : Int) : den 0 (kret [.t 4] decB) qs5 (qi [(0, (.int .i64 v0)), (1, (.int .i64 v1))]) (qh []) (kend (kret [.t 4] decB)) = qpn v0 v1 := by
  rw [q07]; kernel_rfl
theorem qbh0 : cFn (TIof Try.prog) Try.f43 = some ⟨8, [.t 4], scOf qs5⟩ := by kernel_rfl
def qbh1 (xs : List AV) : Option Bool := qpn (gI [(qj xs) 0] 0) (gI [(qj xs) 1] 0)
def qzm {R : Type} : List AV → (AV → Option R) → Option R := entF qbcf qbh1 AV.bool
theorem qbh2 {R : Type} : qd Try.prog 43 (qzm (R := R)) :=
  qt tabOk follows Try.func43 (by kernel_rfl) qbh0 hdeB qbeg (qo (by kernel_rfl)) fun xs => qbhz _ _
def qw (z : AV) : Option (AV × Bool) := cond (qfn [(.st [.b, (.i .u64), (.i .u64), (.i .i64)]), (.one .b)] z) (some ((gC (tpL z) 0), aB (gC (tpL z) 1))) none
def qux (r : AV × Bool) : AV := .tup [qh4 (.st [.b, (.i .u64), (.i .u64), (.i .i64)]) r.1, .bool r.2]
def qjh  (v1 : Int) (v9 : Bool) (v13 : List AV) (v14 v15 : Int) (Aa : Bool) (Ab Ac Ad : Int) (Aq : Bool) (Ar As At : Int) (A6 : Bool) (A7 A8 A9 : Int) (K : Ex → Env → Mem → Option (AV × Bool)) := (fun z_v34 => K .norm (qi [(1, (.int .i64 v1)), (2, (.func 43 [])), (6, (.ptr 0 0)), (8, (.ptr 1 0)), (9, (.bool v9)), (11, (.ptr 2 0)), (13, (.sl 4 v13)), (14, (.int .i64 v14)), (15, (.int .i64 v15)), (34, (.bool z_v34))]) (qh [(some (.box true (qa Aa Ab Ac Ad))), (some (.box true (qa Aq Ar As At))), (some (.box true (qa A6 A7 A8 A9)))]))
def qq3 : Shp := ⟨[(1, .one (.l (.i .i64))), (2, .one (.fn 43 [])), (6, .one (.ptr 0 0)), (8, .one (.ptr 1 0)), (9, .one (.l .b)), (11, .one (.ptr 2 0)), (13, .one (.l (.sl 4))), (14, .one (.l (.i .i64))), (15, .one (.l (.i .i64)))], [.box true (lk qc), .box true (lk qc), .box true (lk qc)]⟩
def qfz  (v1 : Int) (v9 : Bool) (v13 : List AV) (v14 v15 : Int) (Aa : Bool) (Ab Ac Ad : Int) (Aq : Bool) (Ar As At : Int) (A6 : Bool) (A7 A8 A9 : Int) (kn : Bool → Option (AV × Bool)) : Option (AV × Bool) :=
  (bif (decide (A9 ≤ v1)) then (bif (!v9) then (kn true) else (oB (qpn A9 At) fun r1 => (kn r1))) else (kn false))
def qeb := hull (qfz)
theorem qji : qeb = qfz := qk _
def qdr : AC (AV × Bool) :=
  .seq (.reg [ao 19 (.fa 3 11),
 ao 20 (.load false 1 19),
 ao 21 (.mv 1),
 ao 22 (.bin .leq 20 21),
 ao 23 (.mv 22),
 ag 24 23 true (.mv 9),
 ag 25 23 true (.un .not 24),
 ag 26 23 true (.mv 25),
 ag 27 26 false (.mv 2),
 ag 28 26 false (.fa 3 11),
 ag 29 26 false (.load false 1 28),
 ag 30 26 false (.fa 3 8),
 ag 31 26 false (.load false 1 30),
 .call (pg 32 26 false (.callv 27 [29, 31])) 43 qzm,
 ag 33 23 true (.pick 26 (.c (.bool true)) 32),
 ao 34 (.pick 23 33 (.c (.bool false)))]) (.view [.sel [1, 2, 6, 8, 9, 11, 13, 14, 15, 34] [0, 1, 2]])
theorem qr7 : AC.ok Try.prog (TIof Try.prog) 39 0 (kret [(.cell 6 true 4), .t 7] qw) qdr := qm (zA (qd.ok qbh2) trivial)
theorem qs6 (v1 : Int) (v9 : Bool) (v13 : List AV) (v14 v15 : Int) (Aa : Bool) (Ab Ac Ad : Int) (Aq : Bool) (Ar As At : Int) (A6 : Bool) (A7 A8 A9 : Int) (K : Ex → Env → Mem → Option (AV × Bool)) : den 0 (kret [(.cell 6 true 4), .t 7] qw) qdr (qi [(1, (.int .i64 v1)), (2, (.func 43 [])), (6, (.ptr 0 0)), (8, (.ptr 1 0)), (9, (.bool v9)), (11, (.ptr 2 0)), (13, (.sl 4 v13)), (14, (.int .i64 v14)), (15, (.int .i64 v15))]) (qh [(some (.box true (qa Aa Ab Ac Ad))), (some (.box true (qa Aq Ar As At))), (some (.box true (qa A6 A7 A8 A9)))]) K = qeb v1 v9 v13 v14 v15 Aa Ab Ac Ad Aq Ar As At A6 A7 A8 A9 (qjh v1 v9 v13 v14 v15 Aa Ab Ac Ad Aq Ar As At A6 A7 A8 A9 K) := by
  rw [qji]; kernel_rfl
def qj4 := subE (R := AV × Bool) qq3 fun t m K => qb (bxC (m.s 2)) (qb (bxC (m.s 1)) (qb (bxC (m.s 0)) (qeb (gI [t 1] 0) (gB [t 9] 0) (gL [t 13] 0) (gI [t 14] 0) (gI [t 15] 0)))) (qjh (gI [t 1] 0) (gB [t 9] 0) (gL [t 13] 0) (gI [t 14] 0) (gI [t 15] 0) (gB (bxC (m.s 0)) 0) (gI (bxC (m.s 0)) 1) (gI (bxC (m.s 0)) 2) (gI (bxC (m.s 0)) 3) (gB (bxC (m.s 1)) 0) (gI (bxC (m.s 1)) 1) (gI (bxC (m.s 1)) 2) (gI (bxC (m.s 1)) 3) (gB (bxC (m.s 2)) 0) (gI (bxC (m.s 2)) 1) (gI (bxC (m.s 2)) 2) (gI (bxC (m.s 2)) 3) K)
theorem qs7 : qby Try.prog (TIof Try.prog) 39 0 (kret [(.cell 6 true 4), .t 7] qw) (scOf qdr) (qj4) :=
  qex tabOk follows (qr7) (qo (by kernel_rfl)) fun t m K => qs6 _ _ _ _ _ _ _ _ _ _ _ _ _ _ _ _ _ K
def qdj  (Aa : Bool) (Ab Ac Ad : Int) (K : Ex → Env → Mem → Option (AV × Bool)) := (fun z_v9 z_b1_0 z_b1_1 z_b1_2 z_b1_3 => K (.exit 0) (qi [(6, (.ptr 0 0)), (8, (.ptr 1 0)), (9, (.bool z_v9))]) (qh [(some (.box true (qa Aa Ab Ac Ad))), (some (.box true (qa z_b1_0 z_b1_1 z_b1_2 z_b1_3)))]))
def qr8 : Shp := ⟨[(1, .one (.l (.i .i64))), (2, .one (.fn 43 [])), (6, .one (.ptr 0 0)), (8, .one (.ptr 1 0)), (9, .one (.l .b)), (13, .one (.l (.sl 4))), (14, .one (.l (.i .i64))), (15, .one (.l (.i .i64)))], [.box true (lk qc), .box true (lk qc)]⟩
def qf0 (v1 : Int) (v9 : Bool) (v13 : List AV) (v14 v15 : Int) (Aa : Bool) (Ab Ac Ad : Int) (Aq : Bool) (Ar As At : Int) : Env := qi [(1, (.int .i64 v1)), (2, (.func 43 [])), (6, (.ptr 0 0)), (8, (.ptr 1 0)), (9, (.bool v9)), (13, (.sl 4 v13)), (14, (.int .i64 v14)), (15, (.int .i64 v15))]
def qf1 (v1 : Int) (v9 : Bool) (v13 : List AV) (v14 v15 : Int) (Aa : Bool) (Ab Ac Ad : Int) (Aq : Bool) (Ar As At : Int) : Mem := qh [(some (.box true (qa Aa Ab Ac Ad))), (some (.box true (qa Aq Ar As At)))]
def qci  (v1 : Int) (v9 : Bool) (v13 : List AV) (v14 v15 : Int) (Aa : Bool) (Ab Ac Ad : Int) (Aq : Bool) (Ar As At : Int) (next : Bool → Int → Bool → Int → Int → Int → Option (AV × Bool)) (kx0 : Bool → Bool → Int → Int → Int → Option (AV × Bool)) : Option (AV × Bool) :=
  (bif (decide (v15 < v14)) then (oB (ixB v13 v15) fun y1 => (bif fitC qc y1.cells then (qeb v1 v9 v13 v14 v15 Aa Ab Ac Ad Aq Ar As At (gB y1.cells 0) (gI y1.cells 1) (gI y1.cells 2) (gI y1.cells 3) (fun v34q2 => (bif v34q2 then (next true (IntKind.i64.wrap (v15 + (1 : Int))) (gB y1.cells 0) (gI y1.cells 1) (gI y1.cells 2) (gI y1.cells 3)) else (next v9 (IntKind.i64.wrap (v15 + (1 : Int))) Aq Ar As At)))) else none)) else (kx0 v9 Aq Ar As At))
def qd0  (v1 : Int) (v13 : List AV) (v14 : Int) (Aa : Bool) (Ab Ac Ad : Int) (kx0 : Bool → Bool → Int → Int → Int → Option (AV × Bool)) : Nat → Bool → Int → Bool → Int → Int → Int → Option (AV × Bool)
  | 0 => (fun _ _ _ _ _ _ => none)
  | n + 1 => (fun v9 v15 Aq Ar As At => qci v1 v9 v13 v14 v15 Aa Ab Ac Ad Aq Ar As At (qd0 v1 v13 v14 Aa Ab Ac Ad kx0 n) kx0)
def qep := hull (qd0)
theorem qj5 : qep = qd0 := qk _
def qcj : AC (AV × Bool) :=
  .seq (.reg [ao 16 (.bin .lss 15 14)]) (.seq (.cond 16 (.skip) (.seq (.view [.sel [6, 8, 9] [0, 1]]) (.exit 0))) (.seq (.block 1 (.seq (.reg [ao 17 (.ia 4 13 15),
 .st (.etac 17 qc),
 ao 18 (.load true 4 17),
 ao 11 (.alloc [(.bool false), (.int .u64 0), (.int .u64 0), (.int .i64 0)]),
 an (.store 4 11 18)]) (.seq (.seq (.view [.sel [1, 2, 6, 8, 9, 11, 13, 14, 15] [0, 1, 2]]) (.sub (scOf qdr) qj4)) (.cond 34 (.reg [ao 35 (.load true 4 11),
 an (.store 4 8 35),
 ao 9 (.mv (.c (.bool true)))]) (.skip))))) (.seq (.reg [ao 36 (.bin .add 15 (.c (.int .i64 1))),
 ao 15 (.mv 36)]) (.view [.sel [1, 2, 6, 8, 9, 13, 14, 15] [0, 1]]))))
theorem qs8 : AC.ok Try.prog (TIof Try.prog) 39 0 (kret [(.cell 6 true 4), .t 7] qw) qcj := qm (zA qs7 trivial)
theorem qr9 (v1 : Int) (v9 : Bool) (v13 : List AV) (v14 v15 : Int) (Aa : Bool) (Ab Ac Ad : Int) (Aq : Bool) (Ar As At : Int) (K : Ex → Env → Mem → Option (AV × Bool)) : den 0 (kret [(.cell 6 true 4), .t 7] qw) qcj (qf0 v1 v9 v13 v14 v15 Aa Ab Ac Ad Aq Ar As At) (qf1 v1 v9 v13 v14 v15 Aa Ab Ac Ad Aq Ar As At) K = qci v1 v9 v13 v14 v15 Aa Ab Ac Ad Aq Ar As At (fun z_v9 z_v15 z_b1_0 z_b1_1 z_b1_2 z_b1_3 => K .norm (qf0 v1 z_v9 v13 v14 z_v15 Aa Ab Ac Ad z_b1_0 z_b1_1 z_b1_2 z_b1_3) (qf1 v1 z_v9 v13 v14 z_v15 Aa Ab Ac Ad z_b1_0 z_b1_1 z_b1_2 z_b1_3)) (qdj Aa Ab Ac Ad K) := by kernel_rfl
theorem qub (v1 : Int) (v13 : List AV) (v14 : Int) (Aa : Bool) (Ab Ac Ad : Int) (K : Ex → Env → Mem → Option (AV × Bool)) : ∀ (n : Nat) (v9 : Bool) (v15 : Int) (Aq : Bool) (Ar As At : Int), qe2 (den 0 (kret [(.cell 6 true 4), .t 7] qw) qcj) n (qf0 v1 v9 v13 v14 v15 Aa Ab Ac Ad Aq Ar As At) (qf1 v1 v9 v13 v14 v15 Aa Ab Ac Ad Aq Ar As At) K = qep v1 v13 v14 Aa Ab Ac Ad (qdj Aa Ab Ac Ad K) n v9 v15 Aq Ar As At := by
  rw [qj5]
  intro n
  induction n with
  | zero => intros; rfl
  | succ n ih =>
 intro v9 v15 Aq Ar As At
 exact (qr9 v1 v9 v13 v14 v15 Aa Ab Ac Ad Aq Ar As At (itK (den 0 (kret [(.cell 6 true 4), .t 7] qw) qcj) n K)).trans (congrArg (fun q => qci v1 v9 v13 v14 v15 Aa Ab Ac Ad Aq Ar As At q (qdj Aa Ab Ac Ad K)) (funext fun v9 => funext fun v15 => funext fun Aq => funext fun Ar => funext fun As => funext fun At => ih v9 v15 Aq Ar As At))
def qkv := subE (R := AV × Bool) qr8 fun t m K => qb (bxC (m.s 1)) (qb (bxC (m.s 0)) (qep (gI [t 1] 0) (gL [t 13] 0) (gI [t 14] 0)) (qdj (gB (bxC (m.s 0)) 0) (gI (bxC (m.s 0)) 1) (gI (bxC (m.s 0)) 2) (gI (bxC (m.s 0)) 3) K) FU (gB [t 9] 0) (gI [t 15] 0))
theorem quc : qby Try.prog (TIof Try.prog) 39 0 (kret [(.cell 6 true 4), .t 7] qw) (.loop (scOf qcj)) (qkv) :=
  qd9 tabOk follows (qs8) (qo (by kernel_rfl)) fun t m K => qub _ _ _ _ _ _ _ K FU _ _ _ _ _ _
def quy : Shp := ⟨[(0, .one (.l (.sl 4))), (1, .one (.l (.i .i64))), (2, .one (.fn 43 []))], []⟩
def qg3 (v0 : List AV) (v1 : Int) : Option (AV × Bool) :=
  (qep v1 v0 (v0.length : Int) false (0 : Int) (0 : Int) (0 : Int) (fun v9q1 b1_0q2 b1_1q3 b1_2q4 b1_3q5 => (some ((.agg [(.bool b1_0q2), (.int .u64 b1_1q3), (.int .u64 b1_2q4), (.int .i64 b1_3q5)]), v9q1))) FU false (0 : Int) false (0 : Int) (0 : Int) (0 : Int))
def qdo := hull qg3
theorem qlv : qdo = qg3 := qk _
def qg4 : AC (AV × Bool) :=
  .seq (.reg [ao 6 (.alloc [(.bool false), (.int .u64 0), (.int .u64 0), (.int .i64 0)]),
 ao 7 (.mv (.c (.bool false)))]) (.seq (.reg [ao 12 (.build [(.bool false), (.int .u64 0), (.int .u64 0), (.int .i64 0)] []),
 ao 8 (.alloc [(.bool false), (.int .u64 0), (.int .u64 0), (.int .i64 0)]),
 an (.store 4 8 12),
 ao 9 (.mv (.c (.bool false)))]) (.seq (.seq (.reg [ao 13 (.mv 0),
 ao 14 (.len false 13),
 ao 15 (.mv (.c (.int .i64 0)))]) (.block 0 (.seq (.view [.sel [1, 2, 6, 8, 9, 13, 14, 15] [0, 1]]) (.sub (.loop (scOf qcj)) qkv)))) (.seq (.reg [ao 37 (.load true 4 8),
 ao 38 (.mv 9),
 an (.store 4 6 37),
 ao 7 (.mv 38)]) (.ret))))
theorem qvy : AC.ok Try.prog (TIof Try.prog) 39 0 (kret [(.cell 6 true 4), .t 7] qw) qg4 := qm (zA quc trivial)
theorem qwz (v0 : List AV) (v1 : Int) : den 0 (kret [(.cell 6 true 4), .t 7] qw) qg4 (qi [(0, (.sl 4 v0)), (1, (.int .i64 v1)), (2, (.func 43 []))]) (qh []) (kend (kret [(.cell 6 true 4), .t 7] qw)) = qdo v0 v1 := by
  rw [qlv]; kernel_rfl
theorem qw0 : cFn (TIof Try.prog) Try.f45 = some ⟨39, [(.cell 6 true 4), .t 7], scOf qg4⟩ := by kernel_rfl
def qw1 (xs : List AV) : Option (AV × Bool) := qdo (gL [(qj xs) 0] 0) (gI [(qj xs) 1] 0)
def qli {R : Type} : List AV → (AV → Option R) → Option R := entF quy qw1 qux
theorem qw2 {R : Type} : qd Try.prog 45 (qli (R := R)) :=
  qt tabOk follows Try.func45 (by kernel_rfl) qw0 (fun z r h => by
 obtain ⟨h1, h2⟩ := qq h
 cases h2
 exact (qc9 h1).symm) qvy (qo (by kernel_rfl)) fun xs => qwz _ _
def qbcg : Shp := ⟨[(0, .one (.l (.i .i64))), (1, .one (.l (.i .i64)))], []⟩
def qs9 (v0 v1 : Int) : Option Bool :=
  (some false)
def qpo := hull qs9
theorem q08 : qpo = qs9 := qk _
def qta : AC Bool :=
  .seq (.reg [ao 4 (.mv (.c (.bool false)))]) (.seq (.reg [ao 4 (.mv (.c (.bool false)))]) (.ret))
theorem qbeh : AC.ok Try.prog (TIof Try.prog) 5 0 (kret [.t 4] decB) qta := qm trivial
theorem qbh3 (v0 v1 : Int) : den 0 (kret [.t 4] decB) qta (qi [(0, (.int .i64 v0)), (1, (.int .i64 v1))]) (qh []) (kend (kret [.t 4] decB)) = qpo v0 v1 := by
  rw [q08]; kernel_rfl
theorem qbh4 : cFn (TIof Try.prog) Try.f42 = some ⟨5, [.t 4], scOf qta⟩ := by kernel_rfl
def qbh5 (xs : List AV) : Option Bool := qpo (gI [(qj xs) 0] 0) (gI [(qj xs) 1] 0)
def qzn {R : Type} : List AV → (AV → Option R) → Option R := entF qbcg qbh5 AV.bool
theorem qbh6 {R : Type} : qd Try.prog 42 (qzn (R := R)) :=
  qt tabOk follows Try.func42 (by kernel_rfl) qbh4 hdeB qbeh (qo (by kernel_rfl)) fun xs => qbh3 _ _
def qx (z : AV) : Option (AV × Bool) := cond (qfn [(.st [.b, (.i .u64), (.i .u64), (.i .i64)]), (.one .b)] z) (some ((gC (tpL z) 0), aB (gC (tpL z) 1))) none
def quz (r : AV × Bool) : AV := .tup [qh4 (.st [.b, (.i .u64), (.i .u64), (.i .i64)]) r.1, .bool r.2]
def qjj  (v1 : Int) (v9 : Bool) (v13 : List AV) (v14 v15 : Int) (Aa : Bool) (Ab Ac Ad : Int) (Aq : Bool) (Ar As At : Int) (A6 : Bool) (A7 A8 A9 : Int) (K : Ex → Env → Mem → Option (AV × Bool)) := (fun z_v34 => K .norm (qi [(1, (.int .i64 v1)), (2, (.func 42 [])), (6, (.ptr 0 0)), (8, (.ptr 1 0)), (9, (.bool v9)), (11, (.ptr 2 0)), (13, (.sl 4 v13)), (14, (.int .i64 v14)), (15, (.int .i64 v15)), (34, (.bool z_v34))]) (qh [(some (.box true (qa Aa Ab Ac Ad))), (some (.box true (qa Aq Ar As At))), (some (.box true (qa A6 A7 A8 A9)))]))
def qq4 : Shp := ⟨[(1, .one (.l (.i .i64))), (2, .one (.fn 42 [])), (6, .one (.ptr 0 0)), (8, .one (.ptr 1 0)), (9, .one (.l .b)), (11, .one (.ptr 2 0)), (13, .one (.l (.sl 4))), (14, .one (.l (.i .i64))), (15, .one (.l (.i .i64)))], [.box true (lk qc), .box true (lk qc), .box true (lk qc)]⟩
def qf2  (v1 : Int) (v9 : Bool) (v13 : List AV) (v14 v15 : Int) (Aa : Bool) (Ab Ac Ad : Int) (Aq : Bool) (Ar As At : Int) (A6 : Bool) (A7 A8 A9 : Int) (kn : Bool → Option (AV × Bool)) : Option (AV × Bool) :=
  (bif (decide (A9 ≤ v1)) then (bif (!v9) then (kn true) else (oB (qpo A9 At) fun r1 => (kn r1))) else (kn false))
def qec := hull (qf2)
theorem qjk : qec = qf2 := qk _
def qds : AC (AV × Bool) :=
  .seq (.reg [ao 19 (.fa 3 11),
 ao 20 (.load false 1 19),
 ao 21 (.mv 1),
 ao 22 (.bin .leq 20 21),
 ao 23 (.mv 22),
 ag 24 23 true (.mv 9),
 ag 25 23 true (.un .not 24),
 ag 26 23 true (.mv 25),
 ag 27 26 false (.mv 2),
 ag 28 26 false (.fa 3 11),
 ag 29 26 false (.load false 1 28),
 ag 30 26 false (.fa 3 8),
 ag 31 26 false (.load false 1 30),
 .call (pg 32 26 false (.callv 27 [29, 31])) 42 qzn,
 ag 33 23 true (.pick 26 (.c (.bool true)) 32),
 ao 34 (.pick 23 33 (.c (.bool false)))]) (.view [.sel [1, 2, 6, 8, 9, 11, 13, 14, 15, 34] [0, 1, 2]])
theorem qsa : AC.ok Try.prog (TIof Try.prog) 39 0 (kret [(.cell 6 true 4), .t 7] qx) qds := qm (zA (qd.ok qbh6) trivial)
theorem qtb (v1 : Int) (v9 : Bool) (v13 : List AV) (v14 v15 : Int) (Aa : Bool) (Ab Ac Ad : Int) (Aq : Bool) (Ar As At : Int) (A6 : Bool) (A7 A8 A9 : Int) (K : Ex → Env → Mem → Option (AV × Bool)) : den 0 (kret [(.cell 6 true 4), .t 7] qx) qds (qi [(1, (.int .i64 v1)), (2, (.func 42 [])), (6, (.ptr 0 0)), (8, (.ptr 1 0)), (9, (.bool v9)), (11, (.ptr 2 0)), (13, (.sl 4 v13)), (14, (.int .i64 v14)), (15, (.int .i64 v15))]) (qh [(some (.box true (qa Aa Ab Ac Ad))), (some (.box true (qa Aq Ar As At))), (some (.box true (qa A6 A7 A8 A9)))]) K = qec v1 v9 v13 v14 v15 Aa Ab Ac Ad Aq Ar As At A6 A7 A8 A9 (qjj v1 v9 v13 v14 v15 Aa Ab Ac Ad Aq Ar As At A6 A7 A8 A9 K) := by
  rw [qjk]; kernel_rfl
def qj6 := subE (R := AV × Bool) qq4 fun t m K => qb (bxC (m.s 2)) (qb (bxC (m.s 1)) (qb (bxC (m.s 0)) (qec (gI [t 1] 0) (gB [t 9] 0) (gL [t 13] 0) (gI [t 14] 0) (gI [t 15] 0)))) (qjj (gI [t 1] 0) (gB [t 9] 0) (gL [t 13] 0) (gI [t 14] 0) (gI [t 15] 0) (gB (bxC (m.s 0)) 0) (gI (bxC (m.s 0)) 1) (gI (bxC (m.s 0)) 2) (gI (bxC (m.s 0)) 3) (gB (bxC (m.s 1)) 0) (gI (bxC (m.s 1)) 1) (gI (bxC (m.s 1)) 2) (gI (bxC (m.s 1)) 3) (gB (bxC (m.s 2)) 0) (gI (bxC (m.s 2)) 1) (gI (bxC (m.s 2)) 2) (gI (bxC (m.s 2)) 3) K)
theorem qtc : qby Try.prog (TIof Try.prog) 39 0 (kret [(.cell 6 true 4), .t 7] qx) (scOf qds) (qj6) :=
  qex tabOk follows (qsa) (qo (by kernel_rfl)) fun t m K => qtb _ _ _ _ _ _ _ _ _ _ _ _ _ _ _ _ _ K
def qdk  (Aa : Bool) (Ab Ac Ad : Int) (K : Ex → Env → Mem → Option (AV × Bool)) := (fun z_v9 z_b1_0 z_b1_1 z_b1_2 z_b1_3 => K (.exit 0) (qi [(6, (.ptr 0 0)), (8, (.ptr 1 0)), (9, (.bool z_v9))]) (qh [(some (.box true (qa Aa Ab Ac Ad))), (some (.box true (qa z_b1_0 z_b1_1 z_b1_2 z_b1_3)))]))
def qsb : Shp := ⟨[(1, .one (.l (.i .i64))), (2, .one (.fn 42 [])), (6, .one (.ptr 0 0)), (8, .one (.ptr 1 0)), (9, .one (.l .b)), (13, .one (.l (.sl 4))), (14, .one (.l (.i .i64))), (15, .one (.l (.i .i64)))], [.box true (lk qc), .box true (lk qc)]⟩
def qf3 (v1 : Int) (v9 : Bool) (v13 : List AV) (v14 v15 : Int) (Aa : Bool) (Ab Ac Ad : Int) (Aq : Bool) (Ar As At : Int) : Env := qi [(1, (.int .i64 v1)), (2, (.func 42 [])), (6, (.ptr 0 0)), (8, (.ptr 1 0)), (9, (.bool v9)), (13, (.sl 4 v13)), (14, (.int .i64 v14)), (15, (.int .i64 v15))]
def qf4 (v1 : Int) (v9 : Bool) (v13 : List AV) (v14 v15 : Int) (Aa : Bool) (Ab Ac Ad : Int) (Aq : Bool) (Ar As At : Int) : Mem := qh [(some (.box true (qa Aa Ab Ac Ad))), (some (.box true (qa Aq Ar As At)))]
def qck  (v1 : Int) (v9 : Bool) (v13 : List AV) (v14 v15 : Int) (Aa : Bool) (Ab Ac Ad : Int) (Aq : Bool) (Ar As At : Int) (next : Bool → Int → Bool → Int → Int → Int → Option (AV × Bool)) (kx0 : Bool → Bool → Int → Int → Int → Option (AV × Bool)) : Option (AV × Bool) :=
  (bif (decide (v15 < v14)) then (oB (ixB v13 v15) fun y1 => (bif fitC qc y1.cells then (qec v1 v9 v13 v14 v15 Aa Ab Ac Ad Aq Ar As At (gB y1.cells 0) (gI y1.cells 1) (gI y1.cells 2) (gI y1.cells 3) (fun v34q2 => (bif v34q2 then (next true (IntKind.i64.wrap (v15 + (1 : Int))) (gB y1.cells 0) (gI y1.cells 1) (gI y1.cells 2) (gI y1.cells 3)) else (next v9 (IntKind.i64.wrap (v15 + (1 : Int))) Aq Ar As At)))) else none)) else (kx0 v9 Aq Ar As At))
def qd1  (v1 : Int) (v13 : List AV) (v14 : Int) (Aa : Bool) (Ab Ac Ad : Int) (kx0 : Bool → Bool → Int → Int → Int → Option (AV × Bool)) : Nat → Bool → Int → Bool → Int → Int → Int → Option (AV × Bool)
  | 0 => (fun _ _ _ _ _ _ => none)
  | n + 1 => (fun v9 v15 Aq Ar As At => qck v1 v9 v13 v14 v15 Aa Ab Ac Ad Aq Ar As At (qd1 v1 v13 v14 Aa Ab Ac Ad kx0 n) kx0)
def qeq := hull (qd1)
theorem qj7 : qeq = qd1 := qk _
def qcl : AC (AV × Bool) :=
  .seq (.reg [ao 16 (.bin .lss 15 14)]) (.seq (.cond 16 (.skip) (.seq (.view [.sel [6, 8, 9] [0, 1]]) (.exit 0))) (.seq (.block 1 (.seq (.reg [ao 17 (.ia 4 13 15),
 .st (.etac 17 qc),
 ao 18 (.load true 4 17),
 ao 11 (.alloc [(.bool false), (.int .u64 0), (.int .u64 0), (.int .i64 0)]),
 an (.store 4 11 18)]) (.seq (.seq (.view [.sel [1, 2, 6, 8, 9, 11, 13, 14, 15] [0, 1, 2]]) (.sub (scOf qds) qj6)) (.cond 34 (.reg [ao 35 (.load true 4 11),
 an (.store 4 8 35),
 ao 9 (.mv (.c (.bool true)))]) (.skip))))) (.seq (.reg [ao 36 (.bin .add 15 (.c (.int .i64 1))),
 ao 15 (.mv 36)]) (.view [.sel [1, 2, 6, 8, 9, 13, 14, 15] [0, 1]]))))
theorem qtd : AC.ok Try.prog (TIof Try.prog) 39 0 (kret [(.cell 6 true 4), .t 7] qx) qcl := qm (zA qtc trivial)
theorem qsc (v1 : Int) (v9 : Bool) (v13 : List AV) (v14 v15 : Int) (Aa : Bool) (Ab Ac Ad : Int) (Aq : Bool) (Ar As At : Int) (K : Ex → Env → Mem → Option (AV × Bool)) : den 0 (kret [(.cell 6 true 4), .t 7] qx) qcl (qf3 v1 v9 v13 v14 v15 Aa Ab Ac Ad Aq Ar As At) (qf4 v1 v9 v13 v14 v15 Aa Ab Ac Ad Aq Ar As At) K = qck v1 v9 v13 v14 v15 Aa Ab Ac Ad Aq Ar As At (fun z_v9 z_v15 z_b1_0 z_b1_1 z_b1_2 z_b1_3 => K .norm (qf3 v1 z_v9 v13 v14 z_v15 Aa Ab Ac Ad z_b1_0 z_b1_1 z_b1_2 z_b1_3) (qf4 v1 z_v9 v13 v14 z_v15 Aa Ab Ac Ad z_b1_0 z_b1_1 z_b1_2 z_b1_3)) (qdk Aa Ab Ac Ad K) := by kernel_rfl
theorem qud (v1 : Int) (v13 : List AV) (v14 : Int) (Aa : Bool) (Ab Ac Ad : Int) (K : Ex → Env → Mem → Option (AV × Bool)) : ∀ (n : Nat) (v9 : Bool) (v15 : Int) (Aq : Bool) (Ar As At : Int), qe2 (den 0 (kret [(.cell 6 true 4), .t 7] qx) qcl) n (qf3 v1 v9 v13 v14 v15 Aa Ab Ac Ad Aq Ar As At) (qf4 v1 v9 v13 v14 v15 Aa Ab Ac Ad Aq Ar As At) K = qeq v1 v13 v14 Aa Ab Ac Ad (qdk Aa Ab Ac Ad K) n v9 v15 Aq Ar As At := by
  rw [qj7]
  intro n
  induction n with
  | zero => intros; rfl
  | succ n ih =>
 intro v9 v15 Aq Ar As At
 exact (qsc v1 v9 v13 v14 v15 Aa Ab Ac Ad Aq Ar As At (itK (den 0 (kret [(.cell 6 true 4), .t 7] qx) qcl) n K)).trans (congrArg (fun q => qck v1 v9 v13 v14 v15 Aa Ab Ac Ad Aq Ar As At q (qdk Aa Ab Ac Ad K)) (funext fun v9 => funext fun v15 => funext fun Aq => funext fun Ar => funext fun As => funext fun At => ih v9 v15 Aq Ar As At))
def qkw := subE (R := AV × Bool) qsb fun t m K => qb (bxC (m.s 1)) (qb (bxC (m.s 0)) (qeq (gI [t 1] 0) (gL [t 13] 0) (gI [t 14] 0)) (qdk (gB (bxC (m.s 0)) 0) (gI (bxC (m.s 0)) 1) (gI (bxC (m.s 0)) 2) (gI (bxC (m.s 0)) 3) K) FU (gB [t 9] 0) (gI [t 15] 0))
theorem que : qby Try.prog (TIof Try.prog) 39 0 (kret [(.cell 6 true 4), .t 7] qx) (.loop (scOf qcl)) (qkw) :=
  qd9 tabOk follows (qtd) (qo (by kernel_rfl)) fun t m K => qud _ _ _ _ _ _ _ K FU _ _ _ _ _ _
def qu0 : Shp := ⟨[(0, .one (.l (.sl 4))), (1, .one (.l (.i .i64))), (2, .one (.fn 42 []))], []⟩
def qg5 (v0 : List AV) (v1 : Int) : Option (AV × Bool) :=
  (qeq v1 v0 (v0.length : Int) false (0 : Int) (0 : Int) (0 : Int) (fun v9q1 b1_0q2 b1_1q3 b1_2q4 b1_3q5 => (some ((.agg [(.bool b1_0q2), (.int .u64 b1_1q3), (.int .u64 b1_2q4), (.int .i64 b1_3q5)]), v9q1))) FU false (0 : Int) false (0 : Int) (0 : Int) (0 : Int))
def qdp := hull qg5
theorem qlw : qdp = qg5 := qk _
def qg6 : AC (AV × Bool) :=
  .seq (.reg [ao 6 (.alloc [(.bool false), (.int .u64 0), (.int .u64 0), (.int .i64 0)]),
 ao 7 (.mv (.c (.bool false)))]) (.seq (.reg [ao 12 (.build [(.bool false), (.int .u64 0), (.int .u64 0), (.int .i64 0)] []),
 ao 8 (.alloc [(.bool false), (.int .u64 0), (.int .u64 0), (.int .i64 0)]),
 an (.store 4 8 12),
 ao 9 (.mv (.c (.bool false)))]) (.seq (.seq (.reg [ao 13 (.mv 0),
 ao 14 (.len false 13),
 ao 15 (.mv (.c (.int .i64 0)))]) (.block 0 (.seq (.view [.sel [1, 2, 6, 8, 9, 13, 14, 15] [0, 1]]) (.sub (.loop (scOf qcl)) qkw)))) (.seq (.reg [ao 37 (.load true 4 8),
 ao 38 (.mv 9),
 an (.store 4 6 37),
 ao 7 (.mv 38)]) (.ret))))
theorem qvz : AC.ok Try.prog (TIof Try.prog) 39 0 (kret [(.cell 6 true 4), .t 7] qx) qg6 := qm (zA que trivial)
theorem qw3 (v0 : List AV) (v1 : Int) : den 0 (kret [(.cell 6 true 4), .t 7] qx) qg6 (qi [(0, (.sl 4 v0)), (1, (.int .i64 v1)), (2, (.func 42 []))]) (qh []) (kend (kret [(.cell 6 true 4), .t 7] qx)) = qdp v0 v1 := by
  rw [qlw]; kernel_rfl
theorem qw4 : cFn (TIof Try.prog) Try.f45 = some ⟨39, [(.cell 6 true 4), .t 7], scOf qg6⟩ := by kernel_rfl
def qw5 (xs : List AV) : Option (AV × Bool) := qdp (gL [(qj xs) 0] 0) (gI [(qj xs) 1] 0)
def qlj {R : Type} : List AV → (AV → Option R) → Option R := entF qu0 qw5 quz
theorem qw6 {R : Type} : qd Try.prog 45 (qlj (R := R)) :=
  qt tabOk follows Try.func45 (by kernel_rfl) qw4 (fun z r h => by
 obtain ⟨h1, h2⟩ := qq h
 cases h2
 exact (qc9 h1).symm) qvz (qo (by kernel_rfl)) fun xs => qw3 _ _
def qwd {R : Type} : List AV → (AV → Option R) → Option R := (fun xs K => bif fnAt xs 2 44 then qlh xs K else (fun xs K => bif fnAt xs 2 43 then qli xs K else qlj xs K) xs K)
theorem qbch {R : Type} : qd Try.prog 45 (qwd (R := R)) := (qb2j (fun xs => fnAt xs 2 44) qwy (qb2j (fun xs => fnAt xs 2 43) qw2 qw6))
def qte (z : AV) : Option (AV × Int) := cond (qfn [(.st [.b, (.i .u64), (.i .u64), (.i .i64)]), (.one (.i .i64))] z) (some ((gC (tpL z) 0), aI (gC (tpL z) 1))) none
def qbh7 (r : AV × Int) : AV := .tup [qh4 (.st [.b, (.i .u64), (.i .u64), (.i .i64)]) r.1, .int .i64 r.2]
def qbh8 : Shp := ⟨[(0, .one (.l (.sl 8))), (1, .st (lk qc)), (2, .one (.l (.i .i64))), (3, .one (.l (.i .i64)))], []⟩
def qw7 (v0 : List AV) (Am : Bool) (An Ao Ap v2 v3 : Int) : Option (AV × Int) :=
  (oB (qo2 v0 Am An Ao Ap) fun r1 => (bif (!r1.2) then (some ((.agg [(.bool false), (.int .u64 (0 : Int)), (.int .u64 (0 : Int)), (.int .i64 (0 : Int))]), (11 : Int))) else (bif ((gI r1.1.cells 4) != (1 : Int)) then (some ((.agg [(.bool false), (.int .u64 (0 : Int)), (.int .u64 (0 : Int)), (.int .i64 (0 : Int))]), (21 : Int))) else (bif (decide (v2 < Ap)) then (some ((.agg [(.bool false), (.int .u64 (0 : Int)), (.int .u64 (0 : Int)), (.int .i64 (0 : Int))]), (1 : Int))) else (oB (qob Am An Ao Ap) fun r2 => (bif (((decide (v2 > r2)) || (decide (v3 < (1 : Int)))) || (decide (v3 > (3 : Int)))) then (some ((.agg [(.bool false), (.int .u64 (0 : Int)), (.int .u64 (0 : Int)), (.int .i64 (0 : Int))]), (1 : Int))) else (oB (qo6 v0 Am An Ao Ap) fun r6 => (bif ((v3 == (1 : Int)) && true) then (oB (qdp r6 v2) fun r9 => (bif (!r9.2) then (some ((.agg [(.bool false), (.int .u64 (0 : Int)), (.int .u64 (0 : Int)), (.int .i64 (0 : Int))]), (22 : Int))) else (bif ((v3 == (3 : Int)) && (decide ((gI r9.1.cells 3) < v2))) then (oB (qhj (gB r9.1.cells 0) (gI r9.1.cells 1) (gI r9.1.cells 2) (gI r9.1.cells 3)) fun r16 => (oB (qem (gB r16.2.1.cells 0) (gI r16.2.1.cells 1) (gI r16.2.1.cells 2) (gI r16.2.1.cells 3) v2 (0 : Int)) fun r17 => (some ((.agg [(.bool (gB r17.1.cells 0)), (.int .u64 (gI r17.1.cells 1)), (.int .u64 (gI r17.1.cells 2)), (.int .i64 (gI r17.1.cells 3))]), (0 : Int))))) else (oB (qem (gB r9.1.cells 0) (gI r9.1.cells 1) (gI r9.1.cells 2) (gI r9.1.cells 3) v2 (0 : Int)) fun r18 => (some ((.agg [(.bool (gB r18.1.cells 0)), (.int .u64 (gI r18.1.cells 1)), (.int .u64 (gI r18.1.cells 2)), (.int .i64 (gI r18.1.cells 3))]), (0 : Int))))))) else (bif ((v3 == (2 : Int)) && true) then (oB (qdo r6 v2) fun r8 => (bif (!r8.2) then (some ((.agg [(.bool false), (.int .u64 (0 : Int)), (.int .u64 (0 : Int)), (.int .i64 (0 : Int))]), (22 : Int))) else (bif ((v3 == (3 : Int)) && (decide ((gI r8.1.cells 3) < v2))) then (oB (qhj (gB r8.1.cells 0) (gI r8.1.cells 1) (gI r8.1.cells 2) (gI r8.1.cells 3)) fun r13 => (oB (qem (gB r13.2.1.cells 0) (gI r13.2.1.cells 1) (gI r13.2.1.cells 2) (gI r13.2.1.cells 3) v2 (0 : Int)) fun r14 => (some ((.agg [(.bool (gB r14.1.cells 0)), (.int .u64 (gI r14.1.cells 1)), (.int .u64 (gI r14.1.cells 2)), (.int .i64 (gI r14.1.cells 3))]), (0 : Int))))) else (oB (qem (gB r8.1.cells 0) (gI r8.1.cells 1) (gI r8.1.cells 2) (gI r8.1.cells 3) v2 (0 : Int)) fun r15 => (some ((.agg [(.bool (gB r15.1.cells 0)), (.int .u64 (gI r15.1.cells 1)), (.int .u64 (gI r15.1.cells 2)), (.int .i64 (gI r15.1.cells 3))]), (0 : Int))))))) else (bif ((v3 == (3 : Int)) && true) then (oB (qdn r6 v2) fun r7 => (bif (!r7.2) then (some ((.agg [(.bool false), (.int .u64 (0 : Int)), (.int .u64 (0 : Int)), (.int .i64 (0 : Int))]), (22 : Int))) else (bif ((v3 == (3 : Int)) && (decide ((gI r7.1.cells 3) < v2))) then (oB (qhj (gB r7.1.cells 0) (gI r7.1.cells 1) (gI r7.1.cells 2) (gI r7.1.cells 3)) fun r10 => (oB (qem (gB r10.2.1.cells 0) (gI r10.2.1.cells 1) (gI r10.2.1.cells 2) (gI r10.2.1.cells 3) v2 (0 : Int)) fun r11 => (some ((.agg [(.bool (gB r11.1.cells 0)), (.int .u64 (gI r11.1.cells 1)), (.int .u64 (gI r11.1.cells 2)), (.int .i64 (gI r11.1.cells 3))]), (0 : Int))))) else (oB (qem (gB r7.1.cells 0) (gI r7.1.cells 1) (gI r7.1.cells 2) (gI r7.1.cells 3) v2 (0 : Int)) fun r12 => (some ((.agg [(.bool (gB r12.1.cells 0)), (.int .u64 (gI r12.1.cells 1)), (.int .u64 (gI r12.1.cells 2)), (.int .i64 (gI r12.1.cells 3))]), (0 : Int))))))) else none))))))))))
def qik := hull qw7
theorem q47 : qik = qw7 := qk _
def qw8 : AC (AV × Int) :=
  .seq (.reg [ao 5 (.box 1),
 ao 8 (.alloc [(.bool false), (.int .u64 0), (.int .u64 0), (.int .i64 0)]),
 ao 9 (.mv (.c (.int .i64 0)))]) (.seq (.reg [ao 15 (.mv 0),
 ao 16 (.load true 4 5),
 .call (po 17 (.call 25 [15, 16])) 25 qty,
 ao 14 (.mv 17),
 ao 18 (.ext 14 0),
 ao 19 (.ext 14 1),
 ao 10 (.alloc [(.bool false), (.int .u64 0), (.int .u64 0), (.int .i64 0), (.int .i64 0), (.str []), (.str []), (.int .i64 0)]),
 an (.store 8 10 18),
 ao 11 (.mv 19)]) (.seq (.block 0 (.seq (.reg [ao 21 (.mv 11),
 ao 22 (.un .not 21),
 ao 20 (.mv 22)]) (.cond 20 (.seq (.reg [ao 23 (.build [(.bool false), (.int .u64 0), (.int .u64 0), (.int .i64 0)] []),
 an (.store 4 8 23),
 ao 9 (.mv (.c (.int .i64 11)))]) (.ret)) (.seq (.reg [ao 25 (.fa 4 10),
 ao 26 (.load false 1 25),
 ao 27 (.bin .neq 26 (.c (.int .i64 1))),
 ao 24 (.mv 27)]) (.cond 24 (.seq (.reg [ao 28 (.build [(.bool false), (.int .u64 0), (.int .u64 0), (.int .i64 0)] []),
 an (.store 4 8 28),
 ao 9 (.mv (.c (.int .i64 21)))]) (.ret)) (.seq (.reg [ao 30 (.mv 2),
 ao 31 (.fa 3 5),
 ao 32 (.load false 1 31),
 ao 33 (.bin .lss 30 32),
 ao 34 (.mv 33),
 ag 35 34 false (.mv 2),
 ag 36 34 false (.load true 4 5),
 .call (pg 37 34 false (.call 41 [36])) 41 q2l,
 ag 38 34 false (.bin .gtr 35 37),
 ao 39 (.pick 34 (.c (.bool true)) 38),
 ao 40 (.mv 39),
 .grp 40 false [(pg 41 40 false (.mv 3)), (pg 42 40 false (.bin .lss 41 (.c (.int .i64 1))))] 43 42,
 ao 44 (.mv 43),
 .grp 44 false [(pg 45 44 false (.mv 3)), (pg 46 44 false (.bin .gtr 45 (.c (.int .i64 3))))] 47 46,
 ao 29 (.mv 47)]) (.cond 29 (.seq (.reg [ao 48 (.build [(.bool false), (.int .u64 0), (.int .u64 0), (.int .i64 0)] []),
 an (.store 4 8 48),
 ao 9 (.mv (.c (.int .i64 1)))]) (.ret)) (.skip)))))))) (.seq (.reg [ao 49 .mkmap,
 an (.mput (.mk false [(.i .i64)]) 49 (.c (.int .i64 1)) (.c (.func 42 []))),
 an (.mput (.mk false [(.i .i64)]) 49 (.c (.int .i64 2)) (.c (.func 43 []))),
 an (.mput (.mk false [(.i .i64)]) 49 (.c (.int .i64 3)) (.c (.func 44 []))),
 ao 50 (.mv 49),
 ao 12 (.mv 50)]) (.seq (.draw [] [ao 52 (.mv 0),
 ao 53 (.load true 4 5),
 .call (po 54 (.call 46 [52, 53])) 46 q05,
 ao 55 (.mv 2),
 ao 56 (.mv 12),
 ao 57 (.mv 3),
 ao 58 (.mget (.mk false [(.i .i64)]) .nilf false 56 57),
 .call (po 59 (.call 45 [54, 55, 58])) 45 qwd,
 ao 51 (.mv 59),
 ao 60 (.ext 51 0),
 ao 61 (.ext 51 1),
 an (.held [51] [])] [ao 13 (.alloc [(.bool false), (.int .u64 0), (.int .u64 0), (.int .i64 0)]),
 an (.store 4 13 60),
 ao 11 (.mv 61)]) (.seq (.seq (.reg [ao 62 (.mv 11),
 ao 63 (.un .not 62)]) (.cond 63 (.seq (.reg [ao 64 (.build [(.bool false), (.int .u64 0), (.int .u64 0), (.int .i64 0)] []),
 an (.store 4 8 64),
 ao 9 (.mv (.c (.int .i64 22)))]) (.ret)) (.skip))) (.seq (.seq (.reg [ao 65 (.mv 3),
 ao 66 (.bin .eql 65 (.c (.int .i64 3))),
 ao 67 (.mv 66),
 .grp 67 true [(pg 68 67 true (.fa 3 13)), (pg 69 67 true (.load false 1 68)), (pg 70 67 true (.mv 2)), (pg 71 67 true (.bin .lss 69 70))] 72 71]) (.cond 72 (.reg [ao 74 (.load true 4 13),
 .call (po 75 (.call 47 [74])) 47 qws,
 ao 73 (.mv 75),
 ao 76 (.ext 73 0),
 ao 77 (.ext 73 1),
 ao 78 (.ext 73 2),
 an (.store 4 13 77)]) (.skip))) (.seq (.reg [ao 80 (.load true 4 13),
 ao 81 (.mv 2),
 .call (po 82 (.call 48 [80, 81, (.c (.int .u64 0))])) 48 qt6,
 ao 79 (.mv 82),
 ao 83 (.ext 79 0),
 ao 84 (.ext 79 1),
 an (.store 4 13 83)]) (.seq (.reg [ao 85 (.load true 4 13),
 an (.store 4 8 85),
 ao 9 (.mv (.c (.int .i64 0)))]) (.ret)))))))))
theorem qbkg : AC.ok Try.prog (TIof Try.prog) 86 0 (kret [(.cell 8 true 4), .t 9] qte) qw8 := qm (zA (qd.ok q51) (zA (qd.ok qbod) (zA (qd.ok qbgy) (zA (qd.ok qbch) (zA rfl (zA (qd.ok qbaa) (zA (qd.ok q59) trivial)))))))
theorem qbop (v0 : List AV) (Am : Bool) (An Ao Ap v2 v3 : Int) : den 0 (kret [(.cell 8 true 4), .t 9] qte) qw8 (qi [(0, (.sl 8 v0)), (1, .agg (qa Am An Ao Ap)), (2, (.int .i64 v2)), (3, (.int .i64 v3))]) (qh []) (kend (kret [(.cell 8 true 4), .t 9] qte)) = qik v0 Am An Ao Ap v2 v3 := by
  rw [q47]; kernel_rfl
theorem qboq : cFn (TIof Try.prog) Try.f15 = some ⟨86, [(.cell 8 true 4), .t 9], scOf qw8⟩ := by kernel_rfl
def qbor (xs : List AV) : Option (AV × Int) := qb ((qj xs) 1).cells (qik (gL [(qj xs) 0] 0)) (gI [(qj xs) 2] 0) (gI [(qj xs) 3] 0)
def qnr {R : Type} : List AV → (AV → Option R) → Option R := entF qbh8 qbor qbh7
theorem qw9 {R : Type} : qd Try.prog 15 (qnr (R := R)) :=
  qt tabOk follows Try.func15 (by kernel_rfl) qboq (fun z r h => by
 obtain ⟨h1, h2⟩ := qq h
 cases h2
 exact (qc9 h1).symm) qbkg (qo (by kernel_rfl)) fun xs => qbop _ _ _ _ _ _ _
def qbbb : Shp := ⟨[(0, .one (.l (.i .i64))), (1, .one (.l (.i .i64)))], []⟩
def qq5 (v0 v1 : Int) : Option Bool :=
  (some (decide (v0 < v1)))
def qof := hull qq5
theorem qzo : qof = qq5 := qk _
def qq6 : AC Bool :=
  .seq (.reg [ao 4 (.mv (.c (.bool false)))]) (.seq (.reg [ao 5 (.mv 0),
 ao 6 (.mv 1),
 ao 7 (.bin .lss 5 6),
 ao 4 (.mv 7)]) (.ret))
theorem qbci : AC.ok Try.prog (TIof Try.prog) 8 0 (kret [.t 4] decB) qq6 := qm trivial
theorem qbei (v0 v1 : Int) : den 0 (kret [.t 4] decB) qq6 (qi [(0, (.int .i64 v0)), (1, (.int .i64 v1))]) (qh []) (kend (kret [.t 4] decB)) = qof v0 v1 := by
  rw [qzo]; kernel_rfl
theorem qbej : cFn (TIof Try.prog) Try.f54 = some ⟨8, [.t 4], scOf qq6⟩ := by kernel_rfl
def qbek (xs : List AV) : Option Bool := qof (gI [(qj xs) 0] 0) (gI [(qj xs) 1] 0)
def qxp {R : Type} : List AV → (AV → Option R) → Option R := entF qbbb qbek AV.bool
theorem qbel {R : Type} : qd Try.prog 54 (qxp (R := R)) :=
  qt tabOk follows Try.func54 (by kernel_rfl) qbej hdeB qbci (qo (by kernel_rfl)) fun xs => qbei _ _
def qu (z : AV) : Option (AV × Bool) := cond (qfn [(.st [.b, (.i .u64), (.i .u64), (.i .i64)]), (.one .b)] z) (some ((gC (tpL z) 0), aB (gC (tpL z) 1))) none
def quf (r : AV × Bool) : AV := .tup [qh4 (.st [.b, (.i .u64), (.i .u64), (.i .i64)]) r.1, .bool r.2]
def qil  (v1 : Int) (v9 : Bool) (v13 : List AV) (v14 v15 : Int) (Aa : Bool) (Ab Ac Ad : Int) (Aq : Bool) (Ar As At : Int) (A6 : Bool) (A7 A8 A9 : Int) (K : Ex → Env → Mem → Option (AV × Bool)) := (fun z_v34 => K .norm (qi [(1, (.int .i64 v1)), (2, (.func 54 [])), (6, (.ptr 0 0)), (8, (.ptr 1 0)), (9, (.bool v9)), (11, (.ptr 2 0)), (13, (.sl 4 v13)), (14, (.int .i64 v14)), (15, (.int .i64 v15)), (34, (.bool z_v34))]) (qh [(some (.box true (qa Aa Ab Ac Ad))), (some (.box true (qa Aq Ar As At))), (some (.box true (qa A6 A7 A8 A9)))]))
def qqm : Shp := ⟨[(1, .one (.l (.i .i64))), (2, .one (.fn 54 [])), (6, .one (.ptr 0 0)), (8, .one (.ptr 1 0)), (9, .one (.l .b)), (11, .one (.ptr 2 0)), (13, .one (.l (.sl 4))), (14, .one (.l (.i .i64))), (15, .one (.l (.i .i64)))], [.box true (lk qc), .box true (lk qc), .box true (lk qc)]⟩
def qfk  (v1 : Int) (v9 : Bool) (v13 : List AV) (v14 v15 : Int) (Aa : Bool) (Ab Ac Ad : Int) (Aq : Bool) (Ar As At : Int) (A6 : Bool) (A7 A8 A9 : Int) (kn : Bool → Option (AV × Bool)) : Option (AV × Bool) :=
  (bif (decide (A9 ≤ v1)) then (bif (!v9) then (kn true) else (oB (qof A9 At) fun r1 => (kn r1))) else (kn false))
def qd2 := hull (qfk)
theorem qim : qd2 = qfk := qk _
def qdl : AC (AV × Bool) :=
  .seq (.reg [ao 19 (.fa 3 11),
 ao 20 (.load false 1 19),
 ao 21 (.mv 1),
 ao 22 (.bin .leq 20 21),
 ao 23 (.mv 22),
 ag 24 23 true (.mv 9),
 ag 25 23 true (.un .not 24),
 ag 26 23 true (.mv 25),
 ag 27 26 false (.mv 2),
 ag 28 26 false (.fa 3 11),
 ag 29 26 false (.load false 1 28),
 ag 30 26 false (.fa 3 8),
 ag 31 26 false (.load false 1 30),
 .call (pg 32 26 false (.callv 27 [29, 31])) 54 qxp,
 ag 33 23 true (.pick 26 (.c (.bool true)) 32),
 ao 34 (.pick 23 33 (.c (.bool false)))]) (.view [.sel [1, 2, 6, 8, 9, 11, 13, 14, 15, 34] [0, 1, 2]])
theorem qq7 : AC.ok Try.prog (TIof Try.prog) 39 0 (kret [(.cell 6 true 4), .t 7] qu) qdl := qm (zA (qd.ok qbel) trivial)
theorem qsd (v1 : Int) (v9 : Bool) (v13 : List AV) (v14 v15 : Int) (Aa : Bool) (Ab Ac Ad : Int) (Aq : Bool) (Ar As At : Int) (A6 : Bool) (A7 A8 A9 : Int) (K : Ex → Env → Mem → Option (AV × Bool)) : den 0 (kret [(.cell 6 true 4), .t 7] qu) qdl (qi [(1, (.int .i64 v1)), (2, (.func 54 [])), (6, (.ptr 0 0)), (8, (.ptr 1 0)), (9, (.bool v9)), (11, (.ptr 2 0)), (13, (.sl 4 v13)), (14, (.int .i64 v14)), (15, (.int .i64 v15))]) (qh [(some (.box true (qa Aa Ab Ac Ad))), (some (.box true (qa Aq Ar As At))), (some (.box true (qa A6 A7 A8 A9)))]) K = qd2 v1 v9 v13 v14 v15 Aa Ab Ac Ad Aq Ar As At A6 A7 A8 A9 (qil v1 v9 v13 v14 v15 Aa Ab Ac Ad Aq Ar As At A6 A7 A8 A9 K) := by
  rw [qim]; kernel_rfl
def qjl := subE (R := AV × Bool) qqm fun t m K => qb (bxC (m.s 2)) (qb (bxC (m.s 1)) (qb (bxC (m.s 0)) (qd2 (gI [t 1] 0) (gB [t 9] 0) (gL [t 13] 0) (gI [t 14] 0) (gI [t 15] 0)))) (qil (gI [t 1] 0) (gB [t 9] 0) (gL [t 13] 0) (gI [t 14] 0) (gI [t 15] 0) (gB (bxC (m.s 0)) 0) (gI (bxC (m.s 0)) 1) (gI (bxC (m.s 0)) 2) (gI (bxC (m.s 0)) 3) (gB (bxC (m.s 1)) 0) (gI (bxC (m.s 1)) 1) (gI (bxC (m.s 1)) 2) (gI (bxC (m.s 1)) 3) (gB (bxC (m.s 2)) 0) (gI (bxC (m.s 2)) 1) (gI (bxC (m.s 2)) 2) (gI (bxC (m.s 2)) 3) K)
theorem qse : qby Try.prog (TIof Try.prog) 39 0 (kret [(.cell 6 true 4), .t 7] qu) (scOf qdl) (qjl) :=
  qex tabOk follows (qq7) (qo (by kernel_rfl)) fun t m K => qsd _ _ _ _ _ _ _ _ _ _ _ _ _ _ _ _ _ K
def qde  (Aa : Bool) (Ab Ac Ad : Int) (K : Ex → Env → Mem → Option (AV × Bool)) := (fun z_v9 z_b1_0 z_b1_1 z_b1_2 z_b1_3 => K (.exit 0) (qi [(6, (.ptr 0 0)), (8, (.ptr 1 0)), (9, (.bool z_v9))]) (qh [(some (.box true (qa Aa Ab Ac Ad))), (some (.box true (qa z_b1_0 z_b1_1 z_b1_2 z_b1_3)))]))
def qq8 : Shp := ⟨[(1, .one (.l (.i .i64))), (2, .one (.fn 54 [])), (6, .one (.ptr 0 0)), (8, .one (.ptr 1 0)), (9, .one (.l .b)), (13, .one (.l (.sl 4))), (14, .one (.l (.i .i64))), (15, .one (.l (.i .i64)))], [.box true (lk qc), .box true (lk qc)]⟩
def qfl (v1 : Int) (v9 : Bool) (v13 : List AV) (v14 v15 : Int) (Aa : Bool) (Ab Ac Ad : Int) (Aq : Bool) (Ar As At : Int) : Env := qi [(1, (.int .i64 v1)), (2, (.func 54 [])), (6, (.ptr 0 0)), (8, (.ptr 1 0)), (9, (.bool v9)), (13, (.sl 4 v13)), (14, (.int .i64 v14)), (15, (.int .i64 v15))]
def qfm (v1 : Int) (v9 : Bool) (v13 : List AV) (v14 v15 : Int) (Aa : Bool) (Ab Ac Ad : Int) (Aq : Bool) (Ar As At : Int) : Mem := qh [(some (.box true (qa Aa Ab Ac Ad))), (some (.box true (qa Aq Ar As At)))]
def qcd  (v1 : Int) (v9 : Bool) (v13 : List AV) (v14 v15 : Int) (Aa : Bool) (Ab Ac Ad : Int) (Aq : Bool) (Ar As At : Int) (next : Bool → Int → Bool → Int → Int → Int → Option (AV × Bool)) (kx0 : Bool → Bool → Int → Int → Int → Option (AV × Bool)) : Option (AV × Bool) :=
  (bif (decide (v15 < v14)) then (oB (ixB v13 v15) fun y1 => (bif fitC qc y1.cells then (qd2 v1 v9 v13 v14 v15 Aa Ab Ac Ad Aq Ar As At (gB y1.cells 0) (gI y1.cells 1) (gI y1.cells 2) (gI y1.cells 3) (fun v34q2 => (bif v34q2 then (next true (IntKind.i64.wrap (v15 + (1 : Int))) (gB y1.cells 0) (gI y1.cells 1) (gI y1.cells 2) (gI y1.cells 3)) else (next v9 (IntKind.i64.wrap (v15 + (1 : Int))) Aq Ar As At)))) else none)) else (kx0 v9 Aq Ar As At))
def qdt  (v1 : Int) (v13 : List AV) (v14 : Int) (Aa : Bool) (Ab Ac Ad : Int) (kx0 : Bool → Bool → Int → Int → Int → Option (AV × Bool)) : Nat → Bool → Int → Bool → Int → Int → Int → Option (AV × Bool)
  | 0 => (fun _ _ _ _ _ _ => none)
  | n + 1 => (fun v9 v15 Aq Ar As At => qcd v1 v9 v13 v14 v15 Aa Ab Ac Ad Aq Ar As At (qdt v1 v13 v14 Aa Ab Ac Ad kx0 n) kx0)
def qed := hull (qdt)
theorem qjm : qed = qdt := qk _
def qce : AC (AV × Bool) :=
  .seq (.reg [ao 16 (.bin .lss 15 14)]) (.seq (.cond 16 (.skip) (.seq (.view [.sel [6, 8, 9] [0, 1]]) (.exit 0))) (.seq (.block 1 (.seq (.reg [ao 17 (.ia 4 13 15),
 .st (.etac 17 qc),
 ao 18 (.load true 4 17),
 ao 11 (.alloc [(.bool false), (.int .u64 0), (.int .u64 0), (.int .i64 0)]),
 an (.store 4 11 18)]) (.seq (.seq (.view [.sel [1, 2, 6, 8, 9, 11, 13, 14, 15] [0, 1, 2]]) (.sub (scOf qdl) qjl)) (.cond 34 (.reg [ao 35 (.load true 4 11),
 an (.store 4 8 35),
 ao 9 (.mv (.c (.bool true)))]) (.skip))))) (.seq (.reg [ao 36 (.bin .add 15 (.c (.int .i64 1))),
 ao 15 (.mv 36)]) (.view [.sel [1, 2, 6, 8, 9, 13, 14, 15] [0, 1]]))))
theorem qsf : AC.ok Try.prog (TIof Try.prog) 39 0 (kret [(.cell 6 true 4), .t 7] qu) qce := qm (zA qse trivial)
theorem qq9 (v1 : Int) (v9 : Bool) (v13 : List AV) (v14 v15 : Int) (Aa : Bool) (Ab Ac Ad : Int) (Aq : Bool) (Ar As At : Int) (K : Ex → Env → Mem → Option (AV × Bool)) : den 0 (kret [(.cell 6 true 4), .t 7] qu) qce (qfl v1 v9 v13 v14 v15 Aa Ab Ac Ad Aq Ar As At) (qfm v1 v9 v13 v14 v15 Aa Ab Ac Ad Aq Ar As At) K = qcd v1 v9 v13 v14 v15 Aa Ab Ac Ad Aq Ar As At (fun z_v9 z_v15 z_b1_0 z_b1_1 z_b1_2 z_b1_3 => K .norm (qfl v1 z_v9 v13 v14 z_v15 Aa Ab Ac Ad z_b1_0 z_b1_1 z_b1_2 z_b1_3) (qfm v1 z_v9 v13 v14 z_v15 Aa Ab Ac Ad z_b1_0 z_b1_1 z_b1_2 z_b1_3)) (qde Aa Ab Ac Ad K) := by kernel_rfl
theorem qtf (v1 : Int) (v13 : List AV) (v14 : Int) (Aa : Bool) (Ab Ac Ad : Int) (K : Ex → Env → Mem → Option (AV × Bool)) : ∀ (n : Nat) (v9 : Bool) (v15 : Int) (Aq : Bool) (Ar As At : Int), qe2 (den 0 (kret [(.cell 6 true 4), .t 7] qu) qce) n (qfl v1 v9 v13 v14 v15 Aa Ab Ac Ad Aq Ar As At) (qfm v1 v9 v13 v14 v15 Aa Ab Ac Ad Aq Ar As At) K = qed v1 v13 v14 Aa Ab Ac Ad (qde Aa Ab Ac Ad K) n v9 v15 Aq Ar As At := by
  rw [qjm]
  intro n
  induction n with
  | zero => intros; rfl
  | succ n ih =>
 intro v9 v15 Aq Ar As At
 exact (qq9 v1 v9 v13 v14 v15 Aa Ab Ac Ad Aq Ar As At (itK (den 0 (kret [(.cell 6 true 4), .t 7] qu) qce) n K)).trans (congrArg (fun q => qcd v1 v9 v13 v14 v15 Aa Ab Ac Ad Aq Ar As At q (qde Aa Ab Ac Ad K)) (funext fun v9 => funext fun v15 => funext fun Aq => funext fun Ar => funext fun As => funext fun At => ih v9 v15 Aq Ar As At))
def qj8 := subE (R := AV × Bool) qq8 fun t m K => qb (bxC (m.s 1)) (qb (bxC (m.s 0)) (qed (gI [t 1] 0) (gL [t 13] 0) (gI [t 14] 0)) (qde (gB (bxC (m.s 0)) 0) (gI (bxC (m.s 0)) 1) (gI (bxC (m.s 0)) 2) (gI (bxC (m.s 0)) 3) K) FU (gB [t 9] 0) (gI [t 15] 0))
theorem qtg : qby Try.prog (TIof Try.prog) 39 0 (kret [(.cell 6 true 4), .t 7] qu) (.loop (scOf qce)) (qj8) :=
  qd9 tabOk follows (qsf) (qo (by kernel_rfl)) fun t m K => qtf _ _ _ _ _ _ _ K FU _ _ _ _ _ _
def qug : Shp := ⟨[(0, .one (.l (.sl 4))), (1, .one (.l (.i .i64))), (2, .one (.fn 54 []))], []⟩
def qgq (v0 : List AV) (v1 : Int) : Option (AV × Bool) :=
  (qed v1 v0 (v0.length : Int) false (0 : Int) (0 : Int) (0 : Int) (fun v9q1 b1_0q2 b1_1q3 b1_2q4 b1_3q5 => (some ((.agg [(.bool b1_0q2), (.int .u64 b1_1q3), (.int .u64 b1_2q4), (.int .i64 b1_3q5)]), v9q1))) FU false (0 : Int) false (0 : Int) (0 : Int) (0 : Int))
def qc2 := hull qgq
theorem qlk : qc2 = qgq := qk _
def qgr : AC (AV × Bool) :=
  .seq (.reg [ao 6 (.alloc [(.bool false), (.int .u64 0), (.int .u64 0), (.int .i64 0)]),
 ao 7 (.mv (.c (.bool false)))]) (.seq (.reg [ao 12 (.build [(.bool false), (.int .u64 0), (.int .u64 0), (.int .i64 0)] []),
 ao 8 (.alloc [(.bool false), (.int .u64 0), (.int .u64 0), (.int .i64 0)]),
 an (.store 4 8 12),
 ao 9 (.mv (.c (.bool false)))]) (.seq (.seq (.reg [ao 13 (.mv 0),
 ao 14 (.len false 13),
 ao 15 (.mv (.c (.int .i64 0)))]) (.block 0 (.seq (.view [.sel [1, 2, 6, 8, 9, 13, 14, 15] [0, 1]]) (.sub (.loop (scOf qce)) qj8)))) (.seq (.reg [ao 37 (.load true 4 8),
 ao 38 (.mv 9),
 an (.store 4 6 37),
 ao 7 (.mv 38)]) (.ret))))
theorem qu1 : AC.ok Try.prog (TIof Try.prog) 39 0 (kret [(.cell 6 true 4), .t 7] qu) qgr := qm (zA qtg trivial)
theorem qv0 (v0 : List AV) (v1 : Int) : den 0 (kret [(.cell 6 true 4), .t 7] qu) qgr (qi [(0, (.sl 4 v0)), (1, (.int .i64 v1)), (2, (.func 54 []))]) (qh []) (kend (kret [(.cell 6 true 4), .t 7] qu)) = qc2 v0 v1 := by
  rw [qlk]; kernel_rfl
theorem qv1 : cFn (TIof Try.prog) Try.f45 = some ⟨39, [(.cell 6 true 4), .t 7], scOf qgr⟩ := by kernel_rfl
def qv2 (xs : List AV) : Option (AV × Bool) := qc2 (gL [(qj xs) 0] 0) (gI [(qj xs) 1] 0)
def qkx {R : Type} : List AV → (AV → Option R) → Option R := entF qug qv2 quf
theorem qv3 {R : Type} : qd Try.prog 45 (qkx (R := R)) :=
  qt tabOk follows Try.func45 (by kernel_rfl) qv1 (fun z r h => by
 obtain ⟨h1, h2⟩ := qq h
 cases h2
 exact (qc9 h1).symm) qu1 (qo (by kernel_rfl)) fun xs => qv0 _ _
def qbbc : Shp := ⟨[(0, .one (.l (.sl 8))), (1, .st (lk qc))], []⟩
def qra (v0 : List AV) (Am : Bool) (An Ao Ap : Int) : Option Bool :=
  (oB (qo2 v0 Am An Ao Ap) fun r1 => (some (r1.2 && ((gI r1.1.cells 4) == (1 : Int)))))
def qog := hull qra
theorem qzp : qog = qra := qk _
def qrb : AC Bool :=
  .seq (.reg [ao 3 (.box 1),
 ao 4 (.mv (.c (.bool false)))]) (.seq (.reg [ao 8 (.mv 0),
 ao 9 (.load true 4 3),
 .call (po 10 (.call 25 [8, 9])) 25 qty,
 ao 7 (.mv 10),
 ao 11 (.ext 7 0),
 ao 12 (.ext 7 1),
 ao 5 (.alloc [(.bool false), (.int .u64 0), (.int .u64 0), (.int .i64 0), (.int .i64 0), (.str []), (.str []), (.int .i64 0)]),
 an (.store 8 5 11),
 ao 6 (.mv 12)]) (.seq (.reg [ao 13 (.mv 6),
 ao 14 (.mv 13),
 .grp 14 true [(pg 15 14 true (.fa 4 5)), (pg 16 14 true (.load false 1 15)), (pg 17 14 true (.bin .eql 16 (.c (.int .i64 1))))] 18 17,
 ao 4 (.mv 18)]) (.ret)))
theorem qbcj : AC.ok Try.prog (TIof Try.prog) 19 0 (kret [.t 4] decB) qrb := qm (zA (qd.ok q51) trivial)
theorem qbem (v0 : List AV) (Am : Bool) (An Ao Ap : Int) : den 0 (kret [.t 4] decB) qrb (qi [(0, (.sl 8 v0)), (1, .agg (qa Am An Ao Ap))]) (qh []) (kend (kret [.t 4] decB)) = qog v0 Am An Ao Ap := by
  rw [qzp]; kernel_rfl
theorem qben : cFn (TIof Try.prog) Try.f55 = some ⟨19, [.t 4], scOf qrb⟩ := by kernel_rfl
def qbeo (xs : List AV) : Option Bool := qb ((qj xs) 1).cells (qog (gL [(qj xs) 0] 0))
def qxq {R : Type} : List AV → (AV → Option R) → Option R := entF qbbc qbeo AV.bool
theorem qbep {R : Type} : qd Try.prog 55 (qxq (R := R)) :=
  qt tabOk follows Try.func55 (by kernel_rfl) qben hdeB qbcj (qo (by kernel_rfl)) fun xs => qbem _ _ _ _ _
def qrc (z : AV) : Option (Int × Bool) := cond (qfn [(.one (.i .i64)), (.one .b)] z) (some (aI (gC (tpL z) 0), aB (gC (tpL z) 1))) none
def qbeq (r : Int × Bool) : AV := .tup [.int .i64 r.1, .bool r.2]
def qber : Shp := ⟨[(0, .one (.l (.sl 8))), (1, .st (lk qc))], []⟩
def qu2 (v0 : List AV) (Am : Bool) (An Ao Ap : Int) : Option (Int × Bool) :=
  (oB (qo6 v0 Am An Ao Ap) fun r1 => (oB (qc2 r1 (128 : Int)) fun r2 => (bif (!r2.2) then (some ((0 : Int), false)) else (oB (qog v0 Am An Ao Ap) fun r3 => (bif (!r3) then (some ((0 : Int), false)) else (some ((gI r2.1.cells 3), true)))))))
def qkq := hull qu2
theorem q2o : qkq = qu2 := qk _
def qu3 : AC (Int × Bool) :=
  .seq (.reg [ao 3 (.box 1),
 ao 4 (.mv (.c (.int .i64 0))),
 ao 5 (.mv (.c (.bool false)))]) (.seq (.reg [ao 9 (.mv 0),
 ao 10 (.load true 4 3),
 .callc (po 11 (.call 46 [9, 10])) 46 q05,
 .call (po 12 (.call 45 [11, (.c (.int .i64 128)), (.c (.func 54 []))])) 45 qkx,
 ao 8 (.mv 12),
 ao 13 (.ext 8 0),
 ao 14 (.ext 8 1),
 ao 6 (.alloc [(.bool false), (.int .u64 0), (.int .u64 0), (.int .i64 0)]),
 an (.store 4 6 13),
 ao 7 (.mv 14)]) (.seq (.seq (.reg [ao 15 (.mv 7),
 ao 16 (.un .not 15),
 ao 17 (.mv 16),
 ag 18 17 false (.mv 0),
 ag 19 17 false (.load true 4 3),
 .call (pg 20 17 false (.call 55 [18, 19])) 55 qxq,
 ag 21 17 false (.un .not 20),
 ao 22 (.pick 17 (.c (.bool true)) 21)]) (.cond 22 (.seq (.reg [ao 4 (.mv (.c (.int .i64 0))),
 ao 5 (.mv (.c (.bool false)))]) (.ret)) (.skip))) (.seq (.reg [ao 23 (.fa 3 6),
 ao 24 (.load false 1 23),
 ao 4 (.mv 24),
 ao 5 (.mv (.c (.bool true)))]) (.ret))))
theorem qbh9 : AC.ok Try.prog (TIof Try.prog) 25 0 (kret [.t 4, .t 5] qrc) qu3 := qm (zA (qd.ok qbgy) (zA (qd.ok qv3) (zA (qd.ok qbep) trivial)))
theorem qbkh (v0 : List AV) (Am : Bool) (An Ao Ap : Int) : den 0 (kret [.t 4, .t 5] qrc) qu3 (qi [(0, (.sl 8 v0)), (1, .agg (qa Am An Ao Ap))]) (qh []) (kend (kret [.t 4, .t 5] qrc)) = qkq v0 Am An Ao Ap := by
  rw [q2o]; kernel_rfl
theorem qbki : cFn (TIof Try.prog) Try.f17 = some ⟨25, [.t 4, .t 5], scOf qu3⟩ := by kernel_rfl
def qbkj (xs : List AV) : Option (Int × Bool) := qb ((qj xs) 1).cells (qkq (gL [(qj xs) 0] 0))
def qrd {R : Type} : List AV → (AV → Option R) → Option R := entF qber qbkj qbeq
theorem q48 {R : Type} : qd Try.prog 17 (qrd (R := R)) :=
  qt tabOk follows Try.func17 (by kernel_rfl) qbki (fun z r h => by
 obtain ⟨h1, h2⟩ := qq h
 cases h2
 exact (qc9 h1).symm) qbh9 (qo (by kernel_rfl)) fun xs => qbkh _ _ _ _ _
def qbkk : Shp := ⟨[], []⟩
def qyz : Option Bool :=
  (oB (qlp) fun r1 => (oB (qhk) fun r2 => (oB (qik r1 (gB r2.cells 0) (gI r2.cells 1) (gI r2.cells 2) (gI r2.cells 3) (28 : Int) (3 : Int)) fun r3 => (oB (qlp) fun r4 => (oB (qhk) fun r5 => (oB (qkq r4 (gB r5.cells 0) (gI r5.cells 1) (gI r5.cells 2) (gI r5.cells 3)) fun r6 => (some ((((((gI r3.1.cells 2) == (448 : Int)) && ((gI r3.1.cells 3) == (28 : Int))) && (r3.2 == (0 : Int))) && (r6.1 == (25 : Int))) && r6.2))))))))
def qp6 := hull qyz
theorem q64 : qp6 = qyz := qk _
def qy0 : AC Bool :=
  .seq (.reg [ao 0 (.mv (.c (.bool false)))]) (.seq (.reg [.callc (po 6 (.call 10 [])) 10 qsq,
 .call (po 7 (.call 28 [])) 28 qmk,
 .call (po 8 (.call 15 [6, 7, (.c (.int .i64 28)), (.c (.int .i64 3))])) 15 qnr,
 ao 5 (.mv 8),
 ao 9 (.ext 5 0),
 ao 10 (.ext 5 1),
 ao 1 (.alloc [(.bool false), (.int .u64 0), (.int .u64 0), (.int .i64 0)]),
 an (.store 4 1 9),
 ao 2 (.mv 10)]) (.seq (.reg [.callc (po 12 (.call 10 [])) 10 qsq,
 .call (po 13 (.call 28 [])) 28 qmk,
 .call (po 14 (.call 17 [12, 13])) 17 qrd,
 ao 11 (.mv 14),
 ao 15 (.ext 11 0),
 ao 16 (.ext 11 1),
 ao 3 (.mv 15),
 ao 4 (.mv 16)]) (.seq (.reg [ao 17 (.fa 0 1),
 ao 18 (.fa 2 17),
 ao 19 (.load false 1 18),
 ao 20 (.bin .eql 19 (.c (.int .u64 448))),
 ao 21 (.mv 20),
 .grp 21 true [(pg 22 21 true (.fa 3 1)), (pg 23 21 true (.load false 1 22)), (pg 24 21 true (.bin .eql 23 (.c (.int .i64 28))))] 25 24,
 ao 26 (.mv 25),
 .grp 26 true [(pg 27 26 true (.mv 2)), (pg 28 26 true (.bin .eql 27 (.c (.int .i64 0))))] 29 28,
 ao 30 (.mv 29),
 .grp 30 true [(pg 31 30 true (.mv 3)), (pg 32 30 true (.bin .eql 31 (.c (.int .i64 25))))] 33 32,
 ao 34 (.mv 33),
 .grp 34 true [(pg 35 34 true (.mv 4))] 36 35,
 ao 0 (.mv 36)]) (.ret))))
theorem qbos : AC.ok Try.prog (TIof Try.prog) 37 0 (kret [.t 0] decB) qy0 := qm (zA (qd.ok q6k) (zA (qd.ok quj) (zA (qd.ok qw9) (zA (qd.ok q6k) (zA (qd.ok quj) (zA (qd.ok q48) trivial))))))
theorem qbrd : den 0 (kret [.t 0] decB) qy0 (qi []) (qh []) (kend (kret [.t 0] decB)) = qp6 := by
  rw [q64]; kernel_rfl
theorem qbre : cFn (TIof Try.prog) Try.f14 = some ⟨37, [.t 0], scOf qy0⟩ := by kernel_rfl
def qbrf (xs : List AV) : Option Bool := qp6
def q49 {R : Type} : List AV → (AV → Option R) → Option R := entF qbkk qbrf AV.bool
theorem qbrg {R : Type} : qd Try.prog 14 (q49 (R := R)) :=
  qt tabOk follows Try.func14 (by kernel_rfl) qbre hdeB qbos (qo (by kernel_rfl)) fun xs => qbrd
def qbia : Shp := ⟨[(0, .st (lk qc))], []⟩
def qxa (Ae : Bool) (Af Ag Ah : Int) : Option Int :=
  (bif Ae then (some (128 : Int)) else (some (32 : Int)))
def qoh := hull qxa
theorem q5a : qoh = qxa := qk _
def qxb : AC Int :=
  .seq (.reg [ao 1 (.box 0),
 ao 2 (.mv (.c (.int .i64 0)))]) (.seq (.seq (.reg [ao 3 (.fa 0 1),
 ao 4 (.fa 0 3),
 ao 5 (.load false 1 4)]) (.cond 5 (.seq (.reg [ao 2 (.mv (.c (.int .i64 128)))]) (.ret)) (.skip))) (.seq (.reg [ao 2 (.mv (.c (.int .i64 32)))]) (.ret)))
theorem qbkl : AC.ok Try.prog (TIof Try.prog) 6 0 (kret [.t 2] (decI .i64)) qxb := qm trivial
theorem qbot (Ae : Bool) (Af Ag Ah : Int) : den 0 (kret [.t 2] (decI .i64)) qxb (qi [(0, .agg (qa Ae Af Ag Ah))]) (qh []) (kend (kret [.t 2] (decI .i64))) = qoh Ae Af Ag Ah := by
  rw [q5a]; kernel_rfl
theorem qbou : cFn (TIof Try.prog) Try.f86 = some ⟨6, [.t 2], scOf qxb⟩ := by kernel_rfl
def qbov (xs : List AV) : Option Int := qb ((qj xs) 0).cells (qoh)
def q2p {R : Type} : List AV → (AV → Option R) → Option R := entF qbia qbov (AV.int .i64)
theorem qbow {R : Type} : qd Try.prog 86 (q2p (R := R)) :=
  qt tabOk follows Try.func86 (by kernel_rfl) qbou hdeI qbkl (qo (by kernel_rfl)) fun xs => qbot _ _ _ _
def qbbd : Shp := ⟨[(0, .st (lk qc)), (1, .one (.l (.i .i64)))], []⟩
def qre (Ae : Bool) (Af Ag Ah v1 : Int) : Option Bool :=
  (bif (decide (v1 ≥ Ah)) then (oB (qoh Ae Af Ag Ah) fun r1 => (some (decide (v1 ≤ r1)))) else (some false))
def qoi := hull qre
theorem qzq : qoi = qre := qk _
def qrf : AC Bool :=
  .seq (.reg [ao 2 (.box 0),
 ao 4 (.mv (.c (.bool false)))]) (.seq (.reg [ao 5 (.mv 1),
 ao 6 (.fa 3 2),
 ao 7 (.load false 1 6),
 ao 8 (.bin .geq 5 7),
 ao 9 (.mv 8),
 ag 10 9 true (.mv 1),
 ag 11 9 true (.load true 4 2),
 .call (pg 12 9 true (.call 86 [11])) 86 q2p,
 ag 13 9 true (.bin .leq 10 12),
 ao 14 (.pick 9 13 (.c (.bool false))),
 ao 4 (.mv 14)]) (.ret))
theorem qbck : AC.ok Try.prog (TIof Try.prog) 15 0 (kret [.t 4] decB) qrf := qm (zA (qd.ok qbow) trivial)
theorem qbes (Ae : Bool) (Af Ag Ah v1 : Int) : den 0 (kret [.t 4] decB) qrf (qi [(0, .agg (qa Ae Af Ag Ah)), (1, (.int .i64 v1))]) (qh []) (kend (kret [.t 4] decB)) = qoi Ae Af Ag Ah v1 := by
  rw [qzq]; kernel_rfl
theorem qbet : cFn (TIof Try.prog) Try.f49 = some ⟨15, [.t 4], scOf qrf⟩ := by kernel_rfl
def qbeu (xs : List AV) : Option Bool := qb ((qj xs) 0).cells (qoi) (gI [(qj xs) 1] 0)
def qxr {R : Type} : List AV → (AV → Option R) → Option R := entF qbbd qbeu AV.bool
theorem qbev {R : Type} : qd Try.prog 49 (qxr (R := R)) :=
  qt tabOk follows Try.func49 (by kernel_rfl) qbet hdeB qbck (qo (by kernel_rfl)) fun xs => qbes _ _ _ _ _
def qh2  (v0 : List AV) (v6 : Int) (Aa : Bool) (Ab Ac Ad : Int) (a1 : List AV) (K : Ex → Env → Mem → Option (List AV)) := (fun z_v7 => K (.exit 2) (qi [(0, (.sl 8 v0)), (3, (.ptr 0 0)), (5, (.own 1 a1.length)), (6, (.int .i64 v6)), (7, (.bool z_v7))]) (qh [(some (.box true (qa Aa Ab Ac Ad))), (some (.arr true 8 a1))]))
def q7k : Shp := ⟨[(0, .one (.l (.sl 8))), (3, .one (.ptr 0 0)), (5, .one (.own 1)), (6, .one (.l (.i .i64))), (7, .one (.l .b)), (8, .one (.l (.i .i64)))], [.box true (lk qc), .arr true 8]⟩
def qnf (v0 : List AV) (v6 : Int) (v7 : Bool) (v8 : Int) (Aa : Bool) (Ab Ac Ad : Int) (a1 : List AV) : Env := qi [(0, (.sl 8 v0)), (3, (.ptr 0 0)), (5, (.own 1 a1.length)), (6, (.int .i64 v6)), (7, (.bool v7)), (8, (.int .i64 v8))]
def qng (v0 : List AV) (v6 : Int) (v7 : Bool) (v8 : Int) (Aa : Bool) (Ab Ac Ad : Int) (a1 : List AV) : Mem := qh [(some (.box true (qa Aa Ab Ac Ad))), (some (.arr true 8 a1))]
def qfh  (v0 : List AV) (v6 : Int) (v7 : Bool) (v8 : Int) (Aa : Bool) (Ab Ac Ad : Int) (a1 : List AV) (next : Bool → Int → Option (List AV)) (kx2 : Bool → Option (List AV)) : Option (List AV) :=
  (bif (decide (v8 < (v0.length : Int))) then (oB (ixB v0 v8) fun y1 => (bif fitC qe y1.cells then (oB (qk1 (gB y1.cells 0) (gI y1.cells 1) (gI y1.cells 2) (gI y1.cells 3) Aa Ab Ac Ad) fun r2 => (bif r2 then (oB (ixB v0 v6) fun y3 => (bif fitC qe y3.cells then (oB (ixB v0 v8) fun y4 => (bif fitC qe y4.cells then (oB (qk1 (gB y3.cells 0) (gI y3.cells 1) (gI y3.cells 2) (gI y3.cells 3) (gB y4.cells 0) (gI y4.cells 1) (gI y4.cells 2) (gI y4.cells 3)) fun r5 => (bif r5 then (next false (IntKind.i64.wrap (v8 + (1 : Int)))) else (next v7 (IntKind.i64.wrap (v8 + (1 : Int)))))) else none)) else none)) else (next v7 (IntKind.i64.wrap (v8 + (1 : Int)))))) else none)) else (kx2 v7))
def qjx  (v0 : List AV) (v6 : Int) (Aa : Bool) (Ab Ac Ad : Int) (a1 : List AV) (kx2 : Bool → Option (List AV)) : Nat → Bool → Int → Option (List AV)
  | 0 => (fun _ _ => none)
  | n + 1 => (fun v7 v8 => qfh v0 v6 v7 v8 Aa Ab Ac Ad a1 (qjx v0 v6 Aa Ab Ac Ad a1 kx2 n) kx2)
def qhr := hull (qjx)
theorem qu4 : qhr = qjx := qk _
def qfi : AC (List AV) :=
  .seq (.seq (.reg [ao 23 (.mv 8),
 ao 24 (.mv 0),
 ao 25 (.len false 24),
 ao 26 (.bin .lss 23 25)]) (.cond 26 (.skip) (.seq (.view [.sel [0, 3, 5, 6, 7] [0, 1]]) (.exit 2)))) (.seq (.block 3 (.seq (.draw [] [ao 29 (.mv 0),
 ao 30 (.mv 8),
 ao 31 (.ia 8 29 30),
 .et 31 qe,
 ao 32 (.fa 0 31),
 ao 33 (.load true 4 32),
 ao 34 (.load true 4 3),
 .call (po 35 (.call 80 [33, 34])) 80 qlt,
 ao 36 (.mv 35),
 ag 37 36 true (.mv 0),
 ag 38 36 true (.mv 6),
 ag 39 36 true (.ia 8 37 38),
 .et 39 qe,
 ag 40 36 true (.fa 0 39),
 ag 41 36 true (.load true 4 40),
 ag 42 36 true (.mv 0),
 ag 43 36 true (.mv 8),
 ag 44 36 true (.ia 8 42 43),
 .et 44 qe,
 ag 45 36 true (.fa 0 44),
 ag 46 36 true (.load true 4 45)] [.call (pg 47 36 true (.call 80 [41, 46])) 80 qlt,
 ao 48 (.pick 36 47 (.c (.bool false)))]) (.cond 48 (.reg [ao 7 (.mv (.c (.bool false)))]) (.skip)))) (.seq (.reg [ao 27 (.mv 8),
 ao 28 (.bin .add 27 (.c (.int .i64 1))),
 ao 8 (.mv 28)]) (.view [.sel [0, 3, 5, 6, 7, 8] [0, 1]])))
theorem q8g : AC.ok Try.prog (TIof Try.prog) 58 0 (kret [.t 4] (decF true 8)) qfi := qm (zA (qd.ok qr2) (zA (qd.ok qr2) (zA rfl trivial)))
theorem q7l (v0 : List AV) (v6 : Int) (v7 : Bool) (v8 : Int) (Aa : Bool) (Ab Ac Ad : Int) (a1 : List AV) (K : Ex → Env → Mem → Option (List AV)) : den 0 (kret [.t 4] (decF true 8)) qfi (qnf v0 v6 v7 v8 Aa Ab Ac Ad a1) (qng v0 v6 v7 v8 Aa Ab Ac Ad a1) K = qfh v0 v6 v7 v8 Aa Ab Ac Ad a1 (fun z_v7 z_v8 => K .norm (qnf v0 v6 z_v7 z_v8 Aa Ab Ac Ad a1) (qng v0 v6 z_v7 z_v8 Aa Ab Ac Ad a1)) (qh2 v0 v6 Aa Ab Ac Ad a1 K) := by kernel_rfl
theorem q9v (v0 : List AV) (v6 : Int) (Aa : Bool) (Ab Ac Ad : Int) (a1 : List AV) (K : Ex → Env → Mem → Option (List AV)) : ∀ (n : Nat) (v7 : Bool) (v8 : Int), qe2 (den 0 (kret [.t 4] (decF true 8)) qfi) n (qnf v0 v6 v7 v8 Aa Ab Ac Ad a1) (qng v0 v6 v7 v8 Aa Ab Ac Ad a1) K = qhr v0 v6 Aa Ab Ac Ad a1 (qh2 v0 v6 Aa Ab Ac Ad a1 K) n v7 v8 := by
  rw [qu4]
  intro n
  induction n with
  | zero => intros; rfl
  | succ n ih =>
 intro v7 v8
 exact (q7l v0 v6 v7 v8 Aa Ab Ac Ad a1 (itK (den 0 (kret [.t 4] (decF true 8)) qfi) n K)).trans (congrArg (fun q => qfh v0 v6 v7 v8 Aa Ab Ac Ad a1 q (qh2 v0 v6 Aa Ab Ac Ad a1 K)) (funext fun v7 => funext fun v8 => ih v7 v8))
def qwe := subE (R := (List AV)) q7k fun t m K => qb (bxC (m.s 0)) (qhr (gL [t 0] 0) (gI [t 6] 0)) (arL (m.s 1)) (qh2 (gL [t 0] 0) (gI [t 6] 0) (gB (bxC (m.s 0)) 0) (gI (bxC (m.s 0)) 1) (gI (bxC (m.s 0)) 2) (gI (bxC (m.s 0)) 3) (arL (m.s 1)) K) FU (gB [t 7] 0) (gI [t 8] 0)
theorem q9w : qby Try.prog (TIof Try.prog) 58 0 (kret [.t 4] (decF true 8)) (.loop (scOf qfi)) (qwe) :=
  qd9 tabOk follows (q8g) (qo (by kernel_rfl)) fun t m K => q9v _ _ _ _ _ _ _ K FU _ _
def qin  (K : Ex → Env → Mem → Option (List AV)) := (fun z_a0 => K (.exit 0) (qi [(5, (.own 0 z_a0.length))]) (qh [(some (.arr true 8 z_a0))]))
def q8h : Shp := ⟨[(0, .one (.l (.sl 8))), (3, .one (.ptr 0 0)), (5, .one (.own 1)), (6, .one (.l (.i .i64)))], [.box true (lk qc), .arr true 8]⟩
def qnz (v0 : List AV) (v6 : Int) (Aa : Bool) (Ab Ac Ad : Int) (a1 : List AV) : Env := qi [(0, (.sl 8 v0)), (3, (.ptr 0 0)), (5, (.own 1 a1.length)), (6, (.int .i64 v6))]
def qn0 (v0 : List AV) (v6 : Int) (Aa : Bool) (Ab Ac Ad : Int) (a1 : List AV) : Mem := qh [(some (.box true (qa Aa Ab Ac Ad))), (some (.arr true 8 a1))]
def qfr  (v0 : List AV) (v6 : Int) (Aa : Bool) (Ab Ac Ad : Int) (a1 : List AV) (next : Int → (List AV) → Option (List AV)) (kx0 : (List AV) → Option (List AV)) : Option (List AV) :=
  (bif (decide (v6 < (v0.length : Int))) then (oB (ixB v0 v6) fun y1 => (bif fitC qe y1.cells then (oB (qk1 (gB y1.cells 0) (gI y1.cells 1) (gI y1.cells 2) (gI y1.cells 3) Aa Ab Ac Ad) fun r2 => (bif (!r2) then (next (IntKind.i64.wrap (v6 + (1 : Int))) a1) else (bif (hd a1 (a1.length) && true) then (qhr v0 v6 Aa Ab Ac Ad a1 (fun v7q3 => (bif v7q3 then (oB (ixB v0 v6) fun y4 => (bif fitC qe y4.cells then (bif hd a1 a1.length then (bif hd ([(.agg [(.bool (gB y4.cells 0)), (.int .u64 (gI y4.cells 1)), (.int .u64 (gI y4.cells 2)), (.int .i64 (gI y4.cells 3)), (.int .i64 (gI y4.cells 4)), (.str (gS y4.cells 5)), (.str (gS y4.cells 6)), (.int .i64 (gI y4.cells 7))])] : List AV) (([(.agg [(.bool (gB y4.cells 0)), (.int .u64 (gI y4.cells 1)), (.int .u64 (gI y4.cells 2)), (.int .i64 (gI y4.cells 3)), (.int .i64 (gI y4.cells 4)), (.str (gS y4.cells 5)), (.str (gS y4.cells 6)), (.int .i64 (gI y4.cells 7))])] : List AV).length) then (bif decide ((a1.length + ([(.agg [(.bool (gB y4.cells 0)), (.int .u64 (gI y4.cells 1)), (.int .u64 (gI y4.cells 2)), (.int .i64 (gI y4.cells 3)), (.int .i64 (gI y4.cells 4)), (.str (gS y4.cells 5)), (.str (gS y4.cells 6)), (.int .i64 (gI y4.cells 7))])] : List AV).length) * 80 ≤ 140737488355328) then (next (IntKind.i64.wrap (v6 + (1 : Int))) (a1 ++ ([(.agg [(.bool (gB y4.cells 0)), (.int .u64 (gI y4.cells 1)), (.int .u64 (gI y4.cells 2)), (.int .i64 (gI y4.cells 3)), (.int .i64 (gI y4.cells 4)), (.str (gS y4.cells 5)), (.str (gS y4.cells 6)), (.int .i64 (gI y4.cells 7))])] : List AV))) else none) else none) else none) else none)) else (next (IntKind.i64.wrap (v6 + (1 : Int))) a1))) FU true (0 : Int)) else none))) else none)) else (kx0 a1))
def qk4  (v0 : List AV) (Aa : Bool) (Ab Ac Ad : Int) (kx0 : (List AV) → Option (List AV)) : Nat → Int → (List AV) → Option (List AV)
  | 0 => (fun _ _ => none)
  | n + 1 => (fun v6 a1 => qfr v0 v6 Aa Ab Ac Ad a1 (qk4 v0 Aa Ab Ac Ad kx0 n) kx0)
def qmt := hull (qk4)
theorem qwf : qmt = qk4 := qk _
def qfs : AC (List AV) :=
  .seq (.seq (.reg [ao 9 (.mv 6),
 ao 10 (.mv 0),
 ao 11 (.len false 10),
 ao 12 (.bin .lss 9 11)]) (.cond 12 (.skip) (.seq (.view [.sel [5] [1]]) (.exit 0)))) (.seq (.block 1 (.seq (.seq (.draw [] [ao 15 (.mv 0),
 ao 16 (.mv 6),
 ao 17 (.ia 8 15 16),
 .et 17 qe,
 ao 18 (.fa 0 17),
 ao 19 (.load true 4 18),
 ao 20 (.load true 4 3)] [.call (po 21 (.call 80 [19, 20])) 80 qlt,
 ao 22 (.un .not 21)]) (.cond 22 (.exit 1) (.skip))) (.seq (.reg [ao 7 (.mv (.c (.bool true)))]) (.seq (.seq (.reg [ao 8 (.mv (.c (.int .i64 0)))]) (.block 2 (.seq (.view [.sel [0, 3, 5, 6, 7, 8] [0, 1]]) (.sub (.loop (scOf qfi)) qwe)))) (.seq (.reg [ao 49 (.mv 7)]) (.cond 49 (.reg [ao 50 (.mv 5),
 ao 51 (.mv 0),
 ao 52 (.mv 6),
 ao 53 (.ia 8 51 52),
 .st (.etac 53 qe),
 ao 54 (.load true 8 53),
 ao 55 (.bsl 8 [54]),
 ao 56 (.app 8 80 50 55),
 ao 5 (.mv 56)]) (.skip))))))) (.seq (.reg [ao 13 (.mv 6),
 ao 14 (.bin .add 13 (.c (.int .i64 1))),
 ao 6 (.mv 14)]) (.view [.sel [0, 3, 5, 6] [0, 1]])))
theorem q9x : AC.ok Try.prog (TIof Try.prog) 58 0 (kret [.t 4] (decF true 8)) qfs := qm (zA (qd.ok qr2) (zA rfl (zA q9w trivial)))
theorem q8i (v0 : List AV) (v6 : Int) (Aa : Bool) (Ab Ac Ad : Int) (a1 : List AV) (K : Ex → Env → Mem → Option (List AV)) : den 0 (kret [.t 4] (decF true 8)) qfs (qnz v0 v6 Aa Ab Ac Ad a1) (qn0 v0 v6 Aa Ab Ac Ad a1) K = qfr v0 v6 Aa Ab Ac Ad a1 (fun z_v6 z_a1 => K .norm (qnz v0 z_v6 Aa Ab Ac Ad z_a1) (qn0 v0 z_v6 Aa Ab Ac Ad z_a1)) (qin K) := by kernel_rfl
theorem qbbe (v0 : List AV) (Aa : Bool) (Ab Ac Ad : Int) (K : Ex → Env → Mem → Option (List AV)) : ∀ (n : Nat) (v6 : Int) (a1 : List AV), qe2 (den 0 (kret [.t 4] (decF true 8)) qfs) n (qnz v0 v6 Aa Ab Ac Ad a1) (qn0 v0 v6 Aa Ab Ac Ad a1) K = qmt v0 Aa Ab Ac Ad (qin K) n v6 a1 := by
  rw [qwf]
  intro n
  induction n with
  | zero => intros; rfl
  | succ n ih =>
 intro v6 a1
 exact (q8i v0 v6 Aa Ab Ac Ad a1 (itK (den 0 (kret [.t 4] (decF true 8)) qfs) n K)).trans (congrArg (fun q => qfr v0 v6 Aa Ab Ac Ad a1 q (qin K)) (funext fun v6 => funext fun a1 => ih v6 a1))
def qxs := subE (R := (List AV)) q8h fun t m K => qb (bxC (m.s 0)) (qmt (gL [t 0] 0)) (qin K) FU (gI [t 6] 0) (arL (m.s 1))
theorem qbbf : qby Try.prog (TIof Try.prog) 58 0 (kret [.t 4] (decF true 8)) (.loop (scOf qfs)) (qxs) :=
  qd9 tabOk follows (q9x) (qo (by kernel_rfl)) fun t m K => qbbe _ _ _ _ _ K FU _ _
def qbcl : Shp := ⟨[(0, .one (.l (.sl 8))), (1, .st (lk qc))], []⟩
def qth (v0 : List AV) (Am : Bool) (An Ao Ap : Int) : Option (List AV) :=
  (bif (hd ([] : List AV) (([] : List AV).length) && true) then (qmt v0 Am An Ao Ap (fun a0q1 => (bif hd a0q1 a0q1.length then (some a0q1) else none)) FU (0 : Int) ([] : List AV)) else none)
def qme := hull qth
theorem q09 : qme = qth := qk _
def qti : AC (List AV) :=
  .seq (.reg [ao 3 (.box 1),
 ao 4 (.mv (.c .nils))]) (.seq (.reg [ao 5 (.mv (.c .nils))]) (.seq (.seq (.reg [ao 6 (.mv (.c (.int .i64 0)))]) (.block 0 (.seq (.view [.own 5 8, .sel [0, 3, 5, 6] [0, 1]]) (.sub (.loop (scOf qfs)) qxs)))) (.seq (.reg [ao 57 (.mv 5),
 ao 4 (.mv 57)]) (.ret))))
theorem qbew : AC.ok Try.prog (TIof Try.prog) 58 0 (kret [.t 4] (decF true 8)) qti := qm (zA qbbf trivial)
theorem qbib (v0 : List AV) (Am : Bool) (An Ao Ap : Int) : den 0 (kret [.t 4] (decF true 8)) qti (qi [(0, (.sl 8 v0)), (1, .agg (qa Am An Ao Ap))]) (qh []) (kend (kret [.t 4] (decF true 8))) = qme v0 Am An Ao Ap := by
  rw [q09]; kernel_rfl
theorem qbic : cFn (TIof Try.prog) Try.f88 = some ⟨58, [.t 4], scOf qti⟩ := by kernel_rfl
def qbid (xs : List AV) : Option (List AV) := qb ((qj xs) 1).cells (qme (gL [(qj xs) 0] 0))
def qzr {R : Type} : List AV → (AV → Option R) → Option R := entF qbcl qbid (AV.fr true 8)
theorem qbie {R : Type} : qd Try.prog 88 (qzr (R := R)) :=
  qt tabOk follows Try.func88 (by kernel_rfl) qbic hdeF qbew (qo (by kernel_rfl)) fun xs => qbib _ _ _ _ _
def qbex : Shp := ⟨[(0, .st (lk qc)), (1, .st (lk qc))], []⟩
def qu5 (Ae : Bool) (Af Ag Ah : Int) (Am : Bool) (An Ao Ap : Int) : Option Bool :=
  (oB (qg8 Ae Af Ag Ah Am An Ao Ap) fun r1 => (bif r1 then (some true) else (oB (qg8 Am An Ao Ap Ae Af Ag Ah) fun r2 => (some r2))))
def qnh := hull qu5
theorem q2q : qnh = qu5 := qk _
def qu6 : AC Bool :=
  .seq (.reg [ao 2 (.box 0),
 ao 3 (.box 1),
 ao 4 (.mv (.c (.bool false)))]) (.seq (.reg [ao 5 (.load true 4 2),
 ao 6 (.load true 4 3),
 .call (po 7 (.call 81 [5, 6])) 81 qj1,
 ao 8 (.mv 7),
 ag 9 8 false (.load true 4 3),
 ag 10 8 false (.load true 4 2),
 .call (pg 11 8 false (.call 81 [9, 10])) 81 qj1,
 ao 12 (.pick 8 (.c (.bool true)) 11),
 ao 4 (.mv 12)]) (.ret))
theorem qbif : AC.ok Try.prog (TIof Try.prog) 13 0 (kret [.t 4] decB) qu6 := qm (zA (qd.ok qpg) (zA (qd.ok qpg) trivial))
theorem qbkm (Ae : Bool) (Af Ag Ah : Int) (Am : Bool) (An Ao Ap : Int) : den 0 (kret [.t 4] decB) qu6 (qi [(0, .agg (qa Ae Af Ag Ah)), (1, .agg (qa Am An Ao Ap))]) (qh []) (kend (kret [.t 4] decB)) = qnh Ae Af Ag Ah Am An Ao Ap := by
  rw [q2q]; kernel_rfl
theorem qbkn : cFn (TIof Try.prog) Try.f107 = some ⟨13, [.t 4], scOf qu6⟩ := by kernel_rfl
def qbko (xs : List AV) : Option Bool := qb ((qj xs) 1).cells (qb ((qj xs) 0).cells (qnh))
def q1a {R : Type} : List AV → (AV → Option R) → Option R := entF qbex qbko AV.bool
theorem qbkp {R : Type} : qd Try.prog 107 (q1a (R := R)) :=
  qt tabOk follows Try.func107 (by kernel_rfl) qbkn hdeB qbif (qo (by kernel_rfl)) fun xs => qbkm _ _ _ _ _ _ _ _
def qdb (z : AV) : Option (AV × Bool) := cond (qfn [(.st [.b, (.i .u64), (.i .u64), (.i .i64)]), (.one .b)] z) (some ((gC (tpL z) 0), aB (gC (tpL z) 1))) none
def qbox (r : AV × Bool) : AV := .tup [qh4 (.st [.b, (.i .u64), (.i .u64), (.i .i64)]) r.1, .bool r.2]
def q2r  (v1 v2 : Int) (Aa : Bool) (Ab Ac Ad : Int) (Aq : Bool) (Ar As At : Int) (K : Ex → Env → Mem → Option (AV × Bool)) := (fun z_v30 => K .norm (qi [(1, (.int .i64 v1)), (2, (.int .u64 v2)), (3, (.ptr 0 0)), (6, (.ptr 1 0)), (30, (.bool z_v30))]) (qh [(some (.box true (qa Aa Ab Ac Ad))), (some (.box true (qa Aq Ar As At)))]))
def qbey : Shp := ⟨[(1, .one (.l (.i .i64))), (2, .one (.l (.i .u64))), (3, .one (.ptr 0 0)), (6, .one (.ptr 1 0))], [.box true (lk qc), .box true (lk qc)]⟩
def qu7  (v1 v2 : Int) (Aa : Bool) (Ab Ac Ad : Int) (Aq : Bool) (Ar As At : Int) (kn : Bool → Option (AV × Bool)) : Option (AV × Bool) :=
  (oB (qfq Aa Ab Ac Ad) fun r1 => (bif ((!r1) || (decide (v1 < Ad))) then (kn true) else (oB (qgh Aa) fun r2 => (kn (decide (v1 > r2))))))
def qni := hull (qu7)
theorem q2s : qni = qu7 := qk _
def qoj : AC (AV × Bool) :=
  .seq (.reg [ao 14 (.load true 4 3),
 .call (po 15 (.call 33 [14])) 33 qga,
 ao 16 (.un .not 15),
 ao 17 (.mv 16),
 .grp 17 false [(pg 18 17 false (.mv 1)), (pg 19 17 false (.fa 3 3)), (pg 20 17 false (.load false 1 19)), (pg 21 17 false (.bin .lss 18 20))] 22 21,
 ao 23 (.mv 22),
 ag 24 23 false (.mv 1),
 ag 25 23 false (.fa 0 3),
 ag 26 23 false (.fa 0 25),
 ag 27 23 false (.load false 1 26),
 .call (pg 28 23 false (.call 75 [27])) 75 qg0,
 ag 29 23 false (.bin .gtr 24 28),
 ao 30 (.pick 23 (.c (.bool true)) 29)]) (.view [.sel [1, 2, 3, 6, 30] [0, 1]])
theorem qbig : AC.ok Try.prog (TIof Try.prog) 78 0 (kret [(.cell 6 true 4), .t 7] qdb) qoj := qm (zA (qd.ok qkm) (zA (qd.ok qlq) trivial))
theorem qbkq (v1 v2 : Int) (Aa : Bool) (Ab Ac Ad : Int) (Aq : Bool) (Ar As At : Int) (K : Ex → Env → Mem → Option (AV × Bool)) : den 0 (kret [(.cell 6 true 4), .t 7] qdb) qoj (qi [(1, (.int .i64 v1)), (2, (.int .u64 v2)), (3, (.ptr 0 0)), (6, (.ptr 1 0))]) (qh [(some (.box true (qa Aa Ab Ac Ad))), (some (.box true (qa Aq Ar As At)))]) K = qni v1 v2 Aa Ab Ac Ad Aq Ar As At (q2r v1 v2 Aa Ab Ac Ad Aq Ar As At K) := by
  rw [q2s]; kernel_rfl
def q5b := subE (R := AV × Bool) qbey fun t m K => qb (bxC (m.s 1)) (qb (bxC (m.s 0)) (qni (gI [t 1] 0) (gI [t 2] 0))) (q2r (gI [t 1] 0) (gI [t 2] 0) (gB (bxC (m.s 0)) 0) (gI (bxC (m.s 0)) 1) (gI (bxC (m.s 0)) 2) (gI (bxC (m.s 0)) 3) (gB (bxC (m.s 1)) 0) (gI (bxC (m.s 1)) 1) (gI (bxC (m.s 1)) 2) (gI (bxC (m.s 1)) 3) K)
theorem qbkr : qby Try.prog (TIof Try.prog) 78 0 (kret [(.cell 6 true 4), .t 7] qdb) (scOf qoj) (q5b) :=
  qex tabOk follows (qbig) (qo (by kernel_rfl)) fun t m K => qbkq _ _ _ _ _ _ _ _ _ _ K
def qlx  (v1 : Int) (Aa : Bool) (Ab Ac Ad : Int) (Aq : Bool) (Ar As At : Int) (K : Ex → Env → Mem → Option (AV × Bool)) := (fun z_v10 z_v11 => K (.exit 0) (qi [(1, (.int .i64 v1)), (3, (.ptr 0 0)), (6, (.ptr 1 0)), (10, (.int .u64 z_v10)), (11, (.int .u64 z_v11))]) (qh [(some (.box true (qa Aa Ab Ac Ad))), (some (.box true (qa Aq Ar As At)))]))
def qbcm : Shp := ⟨[(1, .one (.l (.i .i64))), (3, .one (.ptr 0 0)), (6, .one (.ptr 1 0)), (10, .one (.l (.i .u64))), (11, .one (.l (.i .u64))), (12, .one (.l (.i .i64)))], [.box true (lk qc), .box true (lk qc)]⟩
def qrg (v1 v10 v11 v12 : Int) (Aa : Bool) (Ab Ac Ad : Int) (Aq : Bool) (Ar As At : Int) : Env := qi [(1, (.int .i64 v1)), (3, (.ptr 0 0)), (6, (.ptr 1 0)), (10, (.int .u64 v10)), (11, (.int .u64 v11)), (12, (.int .i64 v12))]
def qrh (v1 v10 v11 v12 : Int) (Aa : Bool) (Ab Ac Ad : Int) (Aq : Bool) (Ar As At : Int) : Mem := qh [(some (.box true (qa Aa Ab Ac Ad))), (some (.box true (qa Aq Ar As At)))]
def qj9  (v1 v10 v11 v12 : Int) (Aa : Bool) (Ab Ac Ad : Int) (Aq : Bool) (Ar As At : Int) (next : Int → Int → Int → Option (AV × Bool)) (kx0 : Int → Int → Option (AV × Bool)) : Option (AV × Bool) :=
  (oB (qgh Aa) fun r1 => (bif (decide (v12 < r1)) then (next (IntKind.u64.wrap ((IntKind.u64.wrap (v10 * (2 : Int))) + (IntKind.u64.wrap (v11.tdiv (9223372036854775808 : Int))))) (IntKind.u64.wrap (v11 * (2 : Int))) (IntKind.i64.wrap (v12 + (1 : Int)))) else (kx0 v10 v11)))
def qhc  (v1 : Int) (Aa : Bool) (Ab Ac Ad : Int) (Aq : Bool) (Ar As At : Int) (kx0 : Int → Int → Option (AV × Bool)) : Nat → Int → Int → Int → Option (AV × Bool)
  | 0 => (fun _ _ _ => none)
  | n + 1 => (fun v10 v11 v12 => qj9 v1 v10 v11 v12 Aa Ab Ac Ad Aq Ar As At (qhc v1 Aa Ab Ac Ad Aq Ar As At kx0 n) kx0)
def qpp := hull (qhc)
theorem q1b : qpp = qhc := qk _
def qhd : AC (AV × Bool) :=
  .seq (.seq (.reg [ao 46 (.mv 12),
 ao 47 (.fa 0 3),
 ao 48 (.fa 0 47),
 ao 49 (.load false 1 48),
 .call (po 50 (.call 75 [49])) 75 qg0,
 ao 51 (.bin .lss 46 50)]) (.cond 51 (.skip) (.seq (.view [.sel [1, 3, 6, 10, 11] [0, 1]]) (.exit 0)))) (.seq (.block 1 (.seq (.reg [ao 54 (.mv 10),
 ao 55 (.bin .mul 54 (.c (.int .u64 2))),
 ao 56 (.mv 11),
 ao 57 (.bin .quo 56 (.c (.int .u64 9223372036854775808))),
 ao 58 (.bin .add 55 57),
 ao 10 (.mv 58)]) (.reg [ao 59 (.mv 11),
 ao 60 (.bin .mul 59 (.c (.int .u64 2))),
 ao 11 (.mv 60)]))) (.seq (.reg [ao 52 (.mv 12),
 ao 53 (.bin .add 52 (.c (.int .i64 1))),
 ao 12 (.mv 53)]) (.view [.sel [1, 3, 6, 10, 11, 12] [0, 1]])))
theorem qbez : AC.ok Try.prog (TIof Try.prog) 78 0 (kret [(.cell 6 true 4), .t 7] qdb) qhd := qm (zA (qd.ok qlq) trivial)
theorem qbcn (v1 v10 v11 v12 : Int) (Aa : Bool) (Ab Ac Ad : Int) (Aq : Bool) (Ar As At : Int) (K : Ex → Env → Mem → Option (AV × Bool)) : den 0 (kret [(.cell 6 true 4), .t 7] qdb) qhd (qrg v1 v10 v11 v12 Aa Ab Ac Ad Aq Ar As At) (qrh v1 v10 v11 v12 Aa Ab Ac Ad Aq Ar As At) K = qj9 v1 v10 v11 v12 Aa Ab Ac Ad Aq Ar As At (fun z_v10 z_v11 z_v12 => K .norm (qrg v1 z_v10 z_v11 z_v12 Aa Ab Ac Ad Aq Ar As At) (qrh v1 z_v10 z_v11 z_v12 Aa Ab Ac Ad Aq Ar As At)) (qlx v1 Aa Ab Ac Ad Aq Ar As At K) := by kernel_rfl
theorem qbih (v1 : Int) (Aa : Bool) (Ab Ac Ad : Int) (Aq : Bool) (Ar As At : Int) (K : Ex → Env → Mem → Option (AV × Bool)) : ∀ (n : Nat) (v10 v11 v12 : Int), qe2 (den 0 (kret [(.cell 6 true 4), .t 7] qdb) qhd) n (qrg v1 v10 v11 v12 Aa Ab Ac Ad Aq Ar As At) (qrh v1 v10 v11 v12 Aa Ab Ac Ad Aq Ar As At) K = qpp v1 Aa Ab Ac Ad Aq Ar As At (qlx v1 Aa Ab Ac Ad Aq Ar As At K) n v10 v11 v12 := by
  rw [q1b]
  intro n
  induction n with
  | zero => intros; rfl
  | succ n ih =>
 intro v10 v11 v12
 exact (qbcn v1 v10 v11 v12 Aa Ab Ac Ad Aq Ar As At (itK (den 0 (kret [(.cell 6 true 4), .t 7] qdb) qhd) n K)).trans (congrArg (fun q => qj9 v1 v10 v11 v12 Aa Ab Ac Ad Aq Ar As At q (qlx v1 Aa Ab Ac Ad Aq Ar As At K)) (funext fun v10 => funext fun v11 => funext fun v12 => ih v10 v11 v12))
def q2t := subE (R := AV × Bool) qbcm fun t m K => qb (bxC (m.s 1)) (qb (bxC (m.s 0)) (qpp (gI [t 1] 0))) (qlx (gI [t 1] 0) (gB (bxC (m.s 0)) 0) (gI (bxC (m.s 0)) 1) (gI (bxC (m.s 0)) 2) (gI (bxC (m.s 0)) 3) (gB (bxC (m.s 1)) 0) (gI (bxC (m.s 1)) 1) (gI (bxC (m.s 1)) 2) (gI (bxC (m.s 1)) 3) K) FU (gI [t 10] 0) (gI [t 11] 0) (gI [t 12] 0)
theorem qbii : qby Try.prog (TIof Try.prog) 78 0 (kret [(.cell 6 true 4), .t 7] qdb) (.loop (scOf qhd)) (q2t) :=
  qd9 tabOk follows (qbez) (qo (by kernel_rfl)) fun t m K => qbih _ _ _ _ _ _ _ _ _ K FU _ _ _
def qboy : Shp := ⟨[(0, .st (lk qc)), (1, .one (.l (.i .i64))), (2, .one (.l (.i .u64)))], []⟩
def q1c (Ae : Bool) (Af Ag Ah v1 v2 : Int) : Option (AV × Bool) :=
  (qni v1 v2 Ae Af Ag Ah false (0 : Int) (0 : Int) (0 : Int) (fun v30q1 => (bif v30q1 then (some ((.agg [(.bool false), (.int .u64 (0 : Int)), (.int .u64 (0 : Int)), (.int .i64 (0 : Int))]), false)) else (oB (ql6 (IntKind.i64.wrap (v1 - Ah))) fun r2 => (bif (decide (v2 > r2.2)) then (some ((.agg [(.bool false), (.int .u64 (0 : Int)), (.int .u64 (0 : Int)), (.int .i64 (0 : Int))]), false)) else (qpp v1 Ae Af Ag Ah false (0 : Int) (0 : Int) (0 : Int) (fun v10q3 v11q4 => (some ((.agg [(.bool Ae), (.int .u64 (IntKind.u64.wrap (Af + v10q3))), (.int .u64 (IntKind.u64.wrap (Ag + v11q4))), (.int .i64 v1)]), true))) FU (0 : Int) v2 v1))))))
def qgj := hull q1c
theorem q8j : qgj = q1c := qk _
def q1d : AC (AV × Bool) :=
  .seq (.reg [ao 3 (.box 0),
 ao 6 (.alloc [(.bool false), (.int .u64 0), (.int .u64 0), (.int .i64 0)]),
 ao 7 (.mv (.c (.bool false)))]) (.seq (.seq (.seq (.view [.sel [1, 2, 3, 6] [0, 1]]) (.sub (scOf qoj) q5b)) (.cond 30 (.seq (.reg [ao 31 (.build [(.bool false), (.int .u64 0), (.int .u64 0), (.int .i64 0)] []),
 an (.store 4 6 31),
 ao 7 (.mv (.c (.bool false)))]) (.ret)) (.skip))) (.seq (.reg [ao 33 (.mv 1),
 ao 34 (.fa 3 3),
 ao 35 (.load false 1 34),
 ao 36 (.bin .sub 33 35),
 .call (po 37 (.call 76 [36])) 76 qpd,
 ao 32 (.mv 37),
 ao 38 (.ext 32 0),
 ao 39 (.ext 32 1),
 ao 8 (.mv 38),
 ao 9 (.mv 39)]) (.seq (.seq (.reg [ao 40 (.mv 2),
 ao 41 (.mv 9),
 ao 42 (.bin .gtr 40 41)]) (.cond 42 (.seq (.reg [ao 43 (.build [(.bool false), (.int .u64 0), (.int .u64 0), (.int .i64 0)] []),
 an (.store 4 6 43),
 ao 7 (.mv (.c (.bool false)))]) (.ret)) (.skip))) (.seq (.reg [ao 44 (.mv 2),
 ao 10 (.mv (.c (.int .u64 0))),
 ao 11 (.mv 44)]) (.seq (.seq (.reg [ao 45 (.mv 1),
 ao 12 (.mv 45)]) (.block 0 (.seq (.view [.sel [1, 3, 6, 10, 11, 12] [0, 1]]) (.sub (.loop (scOf qhd)) q2t)))) (.seq (.reg [ao 61 (.fa 0 3),
 ao 62 (.fa 0 61),
 ao 63 (.load false 1 62),
 ao 64 (.fa 0 3),
 ao 65 (.fa 1 64),
 ao 66 (.load false 1 65),
 ao 67 (.mv 10),
 ao 68 (.bin .add 66 67),
 ao 69 (.fa 0 3),
 ao 70 (.fa 2 69),
 ao 71 (.load false 1 70),
 ao 72 (.mv 11),
 ao 73 (.bin .add 71 72),
 ao 74 (.build [(.bool false), (.int .u64 0), (.int .u64 0)] [(0, (1, 63)), (1, (1, 68)), (2, (1, 73))]),
 ao 13 (.alloc [(.bool false), (.int .u64 0), (.int .u64 0)]),
 an (.store 3 13 74)]) (.seq (.reg [ao 75 (.load true 3 13),
 ao 76 (.mv 1),
 ao 77 (.build [(.bool false), (.int .u64 0), (.int .u64 0), (.int .i64 0)] [(0, (3, 75)), (3, (1, 76))]),
 an (.store 4 6 77),
 ao 7 (.mv (.c (.bool true)))]) (.ret))))))))
theorem qbrh : AC.ok Try.prog (TIof Try.prog) 78 0 (kret [(.cell 6 true 4), .t 7] qdb) q1d := qm (zA qbkr (zA (qd.ok q0q) (zA qbii trivial)))
theorem qbte (Ae : Bool) (Af Ag Ah v1 v2 : Int) : den 0 (kret [(.cell 6 true 4), .t 7] qdb) q1d (qi [(0, .agg (qa Ae Af Ag Ah)), (1, (.int .i64 v1)), (2, (.int .u64 v2))]) (qh []) (kend (kret [(.cell 6 true 4), .t 7] qdb)) = qgj Ae Af Ag Ah v1 v2 := by
  rw [q8j]; kernel_rfl
theorem qbtf : cFn (TIof Try.prog) Try.f53 = some ⟨78, [(.cell 6 true 4), .t 7], scOf q1d⟩ := by kernel_rfl
def qbtg (xs : List AV) : Option (AV × Bool) := qb ((qj xs) 0).cells (qgj) (gI [(qj xs) 1] 0) (gI [(qj xs) 2] 0)
def qpq {R : Type} : List AV → (AV → Option R) → Option R := entF qboy qbtg qbox
theorem q1e {R : Type} : qd Try.prog 53 (qpq (R := R)) :=
  qt tabOk follows Try.func53 (by kernel_rfl) qbtf (fun z r h => by
 obtain ⟨h1, h2⟩ := qq h
 cases h2
 exact (qc9 h1).symm) qbrh (qo (by kernel_rfl)) fun xs => qbte _ _ _ _ _ _
def qtj (z : AV) : Option (AV × AV × Bool) := cond (qfn [(.st [.b, (.i .u64), (.i .u64), (.i .i64)]), (.st [.b, (.i .u64), (.i .u64), (.i .i64)]), (.one .b)] z) (some ((gC (tpL z) 0), (gC (tpL z) 1), aB (gC (tpL z) 2))) none
def qbij (r : AV × AV × Bool) : AV := .tup [qh4 (.st [.b, (.i .u64), (.i .u64), (.i .i64)]) r.1, qh4 (.st [.b, (.i .u64), (.i .u64), (.i .i64)]) r.2.1, .bool r.2.2]
def qbik : Shp := ⟨[(0, .st (lk qc))], []⟩
def qxc (Ae : Bool) (Af Ag Ah : Int) : Option (AV × AV × Bool) :=
  (oB (qgj Ae Af Ag Ah (IntKind.i64.wrap (Ah + (1 : Int))) (0 : Int)) fun r1 => (oB (qgj Ae Af Ag Ah (IntKind.i64.wrap (Ah + (1 : Int))) (1 : Int)) fun r2 => (bif (!r2.2) then (some ((.agg [(.bool false), (.int .u64 (0 : Int)), (.int .u64 (0 : Int)), (.int .i64 (0 : Int))]), (.agg [(.bool false), (.int .u64 (0 : Int)), (.int .u64 (0 : Int)), (.int .i64 (0 : Int))]), false)) else (some ((.agg [(.bool (gB r1.1.cells 0)), (.int .u64 (gI r1.1.cells 1)), (.int .u64 (gI r1.1.cells 2)), (.int .i64 (gI r1.1.cells 3))]), (.agg [(.bool (gB r2.1.cells 0)), (.int .u64 (gI r2.1.cells 1)), (.int .u64 (gI r2.1.cells 2)), (.int .i64 (gI r2.1.cells 3))]), true)))))
def qly := hull qxc
theorem q5c : qly = qxc := qk _
def qxd : AC (AV × AV × Bool) :=
  .seq (.reg [ao 1 (.box 0),
 ao 2 (.alloc [(.bool false), (.int .u64 0), (.int .u64 0), (.int .i64 0)]),
 ao 3 (.alloc [(.bool false), (.int .u64 0), (.int .u64 0), (.int .i64 0)]),
 ao 4 (.mv (.c (.bool false)))]) (.seq (.reg [ao 10 (.load true 4 1),
 ao 11 (.fa 3 1),
 ao 12 (.load false 1 11),
 ao 13 (.bin .add 12 (.c (.int .i64 1))),
 .call (po 14 (.call 53 [10, 13, (.c (.int .u64 0))])) 53 qpq,
 ao 9 (.mv 14),
 ao 15 (.ext 9 0),
 ao 16 (.ext 9 1),
 ao 5 (.alloc [(.bool false), (.int .u64 0), (.int .u64 0), (.int .i64 0)]),
 an (.store 4 5 15),
 ao 6 (.mv 16)]) (.seq (.reg [ao 18 (.load true 4 1),
 ao 19 (.fa 3 1),
 ao 20 (.load false 1 19),
 ao 21 (.bin .add 20 (.c (.int .i64 1))),
 .call (po 22 (.call 53 [18, 21, (.c (.int .u64 1))])) 53 qpq,
 ao 17 (.mv 22),
 ao 23 (.ext 17 0),
 ao 24 (.ext 17 1),
 ao 7 (.alloc [(.bool false), (.int .u64 0), (.int .u64 0), (.int .i64 0)]),
 an (.store 4 7 23),
 ao 8 (.mv 24)]) (.seq (.seq (.reg [ao 25 (.mv 8),
 ao 26 (.un .not 25)]) (.cond 26 (.seq (.reg [ao 27 (.build [(.bool false), (.int .u64 0), (.int .u64 0), (.int .i64 0)] []),
 ao 28 (.build [(.bool false), (.int .u64 0), (.int .u64 0), (.int .i64 0)] []),
 an (.store 4 2 27),
 an (.store 4 3 28),
 ao 4 (.mv (.c (.bool false)))]) (.ret)) (.skip))) (.seq (.draw [] [ao 29 (.load true 4 5),
 ao 30 (.load true 4 7),
 an (.held [] [((.c (.bool true)), 7), (2, 7), (3, 7)])] [an (.store 4 2 29),
 an (.store 4 3 30),
 ao 4 (.mv (.c (.bool true)))]) (.ret)))))
theorem qbks : AC.ok Try.prog (TIof Try.prog) 31 0 (kret [(.cell 2 true 4), (.cell 3 true 4), .t 4] qtj) qxd := qm (zA (qd.ok q1e) (zA (qd.ok q1e) (zA rfl trivial)))
theorem qboz (Ae : Bool) (Af Ag Ah : Int) : den 0 (kret [(.cell 2 true 4), (.cell 3 true 4), .t 4] qtj) qxd (qi [(0, .agg (qa Ae Af Ag Ah))]) (qh []) (kend (kret [(.cell 2 true 4), (.cell 3 true 4), .t 4] qtj)) = qly Ae Af Ag Ah := by
  rw [q5c]; kernel_rfl
theorem qbo0 : cFn (TIof Try.prog) Try.f52 = some ⟨31, [(.cell 2 true 4), (.cell 3 true 4), .t 4], scOf qxd⟩ := by kernel_rfl
def qbo1 (xs : List AV) : Option (AV × AV × Bool) := qb ((qj xs) 0).cells (qly)
def qtk {R : Type} : List AV → (AV → Option R) → Option R := entF qbik qbo1 qbij
theorem q65 {R : Type} : qd Try.prog 52 (qtk (R := R)) :=
  qt tabOk follows Try.func52 (by kernel_rfl) qbo0 (fun z r h => by
 obtain ⟨h1, h2⟩ := qq h
 cases h2
 exact (qc9 h1).symm) qbks (qo (by kernel_rfl)) fun xs => qboz _ _ _ _
def q66 : Shp := ⟨[(0, .one (.l (.sl 8))), (1, .st (lk qc))], []⟩
def qee {R : Type} (rec : (List AV) → Bool → Int → Int → Int → Option (List AV)) (xs : List AV) (K : AV → Option R) : Option R := chk (fitS q66 (qj xs) Mem.none) (oB (rec (gL [(qj xs) 0] 0) (gB ((qj xs) 1).cells 0) (gI ((qj xs) 1).cells 1) (gI ((qj xs) 1).cells 2) (gI ((qj xs) 1).cells 3)) fun r => K ((AV.fr true 4) r))
def qmu  (v0 : List AV) (Aa : Bool) (Ab Ac Ad : Int) (K : Ex → Env → Mem → Option (List AV)) := (fun z_v5 => K (.exit 0) (qi [(0, (.sl 8 v0)), (3, (.ptr 0 0)), (5, (.bool z_v5))]) (qh [(some (.box true (qa Aa Ab Ac Ad)))]))
def qbe0 : Shp := ⟨[(0, .one (.l (.sl 8))), (3, .one (.ptr 0 0)), (5, .one (.l .b)), (6, .one (.l (.i .i64)))], [.box true (lk qc)]⟩
def qtl (v0 : List AV) (v5 : Bool) (v6 : Int) (Aa : Bool) (Ab Ac Ad : Int) : Env := qi [(0, (.sl 8 v0)), (3, (.ptr 0 0)), (5, (.bool v5)), (6, (.int .i64 v6))]
def qtm (v0 : List AV) (v5 : Bool) (v6 : Int) (Aa : Bool) (Ab Ac Ad : Int) : Mem := qh [(some (.box true (qa Aa Ab Ac Ad)))]
def qhs  (rec : (List AV) → Bool → Int → Int → Int → Option (List AV)) (v0 : List AV) (v5 : Bool) (v6 : Int) (Aa : Bool) (Ab Ac Ad : Int) (next : Bool → Int → Option (List AV)) (kx0 : Bool → Option (List AV)) : Option (List AV) :=
  (bif (decide (v6 < (v0.length : Int))) then (oB (ixB v0 v6) fun y1 => (bif fitC qe y1.cells then (oB (qg8 Aa Ab Ac Ad (gB y1.cells 0) (gI y1.cells 1) (gI y1.cells 2) (gI y1.cells 3)) fun r2 => (bif r2 then (bif hd ([] : List AV) (([] : List AV).length) then (some ([] : List AV)) else none) else (oB (ixB v0 v6) fun y3 => (bif fitC qe y3.cells then (oB (qnh Aa Ab Ac Ad (gB y3.cells 0) (gI y3.cells 1) (gI y3.cells 2) (gI y3.cells 3)) fun r4 => (bif r4 then (next true (IntKind.i64.wrap (v6 + (1 : Int)))) else (next v5 (IntKind.i64.wrap (v6 + (1 : Int)))))) else none)))) else none)) else (kx0 v5))
def qok  (rec : (List AV) → Bool → Int → Int → Int → Option (List AV)) (v0 : List AV) (Aa : Bool) (Ab Ac Ad : Int) (kx0 : Bool → Option (List AV)) : Nat → Bool → Int → Option (List AV)
  | 0 => (fun _ _ => none)
  | n + 1 => (fun v5 v6 => qhs rec v0 v5 v6 Aa Ab Ac Ad (qok rec v0 Aa Ab Ac Ad kx0 n) kx0)
def qnj  (rec : (List AV) → Bool → Int → Int → Int → Option (List AV)):= hull (qok rec)
theorem q2u  (rec : (List AV) → Bool → Int → Int → Int → Option (List AV)): qnj rec = qok rec := qk _
def qht (rec : (List AV) → Bool → Int → Int → Int → Option (List AV)) : AC (List AV) :=
  .seq (.seq (.reg [ao 11 (.mv 6),
 ao 12 (.mv 0),
 ao 13 (.len false 12),
 ao 14 (.bin .lss 11 13)]) (.cond 14 (.skip) (.seq (.view [.sel [0, 3, 5] [0]]) (.exit 0)))) (.seq (.block 1 (.seq (.seq (.draw [] [ao 17 (.load true 4 3),
 ao 18 (.mv 0),
 ao 19 (.mv 6),
 ao 20 (.ia 8 18 19),
 .et 20 qe,
 ao 21 (.fa 0 20),
 ao 22 (.load true 4 21)] [.call (po 23 (.call 81 [17, 22])) 81 qj1]) (.cond 23 (.seq (.reg [ao 4 (.mv (.c .nils))]) (.seq (.view [.own 4 4]) (.ret))) (.skip))) (.seq (.draw [] [ao 24 (.load true 4 3),
 ao 25 (.mv 0),
 ao 26 (.mv 6),
 ao 27 (.ia 8 25 26),
 .et 27 qe,
 ao 28 (.fa 0 27),
 ao 29 (.load true 4 28)] [.call (po 30 (.call 107 [24, 29])) 107 q1a]) (.cond 30 (.reg [ao 5 (.mv (.c (.bool true)))]) (.skip))))) (.seq (.reg [ao 15 (.mv 6),
 ao 16 (.bin .add 15 (.c (.int .i64 1))),
 ao 6 (.mv 16)]) (.view [.sel [0, 3, 5, 6] [0]])))
theorem qbil (rec : (List AV) → Bool → Int → Int → Int → Option (List AV)) (hrec : qd Try.prog 87 (qee (R := (List AV)) rec)) : AC.ok Try.prog (TIof Try.prog) 53 0 (kret [.t 4] (decF true 4)) (qht rec) := qm (zA (qd.ok qpg) (zA rfl (zA (qd.ok qbkp) (zA rfl trivial))))
theorem qbe1 (rec : (List AV) → Bool → Int → Int → Int → Option (List AV)) (v0 : List AV) (v5 : Bool) (v6 : Int) (Aa : Bool) (Ab Ac Ad : Int) (K : Ex → Env → Mem → Option (List AV)) : den 0 (kret [.t 4] (decF true 4)) (qht rec) (qtl v0 v5 v6 Aa Ab Ac Ad) (qtm v0 v5 v6 Aa Ab Ac Ad) K = qhs rec v0 v5 v6 Aa Ab Ac Ad (fun z_v5 z_v6 => K .norm (qtl v0 z_v5 z_v6 Aa Ab Ac Ad) (qtm v0 z_v5 z_v6 Aa Ab Ac Ad)) (qmu v0 Aa Ab Ac Ad K) := by kernel_rfl
theorem qbkt (rec : (List AV) → Bool → Int → Int → Int → Option (List AV)) (v0 : List AV) (Aa : Bool) (Ab Ac Ad : Int) (K : Ex → Env → Mem → Option (List AV)) : ∀ (n : Nat) (v5 : Bool) (v6 : Int), qe2 (den 0 (kret [.t 4] (decF true 4)) (qht rec)) n (qtl v0 v5 v6 Aa Ab Ac Ad) (qtm v0 v5 v6 Aa Ab Ac Ad) K = qnj rec v0 Aa Ab Ac Ad (qmu v0 Aa Ab Ac Ad K) n v5 v6 := by
  rw [q2u]
  intro n
  induction n with
  | zero => intros; rfl
  | succ n ih =>
 intro v5 v6
 exact (qbe1 rec v0 v5 v6 Aa Ab Ac Ad (itK (den 0 (kret [.t 4] (decF true 4)) (qht rec)) n K)).trans (congrArg (fun q => qhs rec v0 v5 v6 Aa Ab Ac Ad q (qmu v0 Aa Ab Ac Ad K)) (funext fun v5 => funext fun v6 => ih v5 v6))
def q5d (rec : (List AV) → Bool → Int → Int → Int → Option (List AV)) := subE (R := (List AV)) qbe0 fun t m K => qb (bxC (m.s 0)) (qnj rec (gL [t 0] 0)) (qmu (gL [t 0] 0) (gB (bxC (m.s 0)) 0) (gI (bxC (m.s 0)) 1) (gI (bxC (m.s 0)) 2) (gI (bxC (m.s 0)) 3) K) FU (gB [t 5] 0) (gI [t 6] 0)
theorem qbku (rec : (List AV) → Bool → Int → Int → Int → Option (List AV)) (hrec : qd Try.prog 87 (qee (R := (List AV)) rec)) : qby Try.prog (TIof Try.prog) 53 0 (kret [.t 4] (decF true 4)) (.loop (scOf (qht rec))) (q5d rec) :=
  qd9 tabOk follows (qbil rec hrec) (qo (by kernel_rfl)) fun t m K => qbkt rec _ _ _ _ _ K FU _ _
def qol (rec : (List AV) → Bool → Int → Int → Int → Option (List AV)) (v0 : List AV) (Am : Bool) (An Ao Ap : Int) : Option (List AV) :=
  (qnj rec v0 Am An Ao Ap (fun v5q1 => (bif (!v5q1) then (bif hd ([(.agg [(.bool Am), (.int .u64 An), (.int .u64 Ao), (.int .i64 Ap)])] : List AV) (([(.agg [(.bool Am), (.int .u64 An), (.int .u64 Ao), (.int .i64 Ap)])] : List AV).length) then (some ([(.agg [(.bool Am), (.int .u64 An), (.int .u64 Ao), (.int .i64 Ap)])] : List AV)) else none) else (oB (qly Am An Ao Ap) fun r2 => (bif (!r2.2.2) then (bif hd ([] : List AV) (([] : List AV).length) then (some ([] : List AV)) else none) else (oB (rec v0 (gB r2.1.cells 0) (gI r2.1.cells 1) (gI r2.1.cells 2) (gI r2.1.cells 3)) fun r3 => (bif decide ((([] : List AV).length + r3.length) * 32 ≤ 140737488355328) then (oB (rec v0 (gB r2.2.1.cells 0) (gI r2.2.1.cells 1) (gI r2.2.1.cells 2) (gI r2.2.1.cells 3)) fun r4 => (bif hd r3 r3.length then (bif decide ((r3.length + r4.length) * 32 ≤ 140737488355328) then (bif hd (r3 ++ r4) ((r3 ++ r4).length) then (some (r3 ++ r4)) else none) else none) else none)) else none)))))) FU false (0 : Int))
def qdm : Nat → (List AV) → Bool → Int → Int → Int → Option (List AV)
  | 0 => (fun _ _ _ _ _ => none)
  | n + 1 => (fun v0 Am An Ao Ap => qol (qdm n) v0 Am An Ao Ap)
def q6c : (List AV) → Bool → Int → Int → Int → Option (List AV) := hull (qdm FU)
theorem q8k : q6c = qdm FU := qk _
def qom (rec : (List AV) → Bool → Int → Int → Int → Option (List AV)) : AC (List AV) :=
  .seq (.reg [ao 3 (.box 1),
 ao 4 (.mv (.c .nils))]) (.seq (.reg [ao 5 (.mv (.c (.bool false)))]) (.seq (.seq (.reg [ao 6 (.mv (.c (.int .i64 0)))]) (.block 0 (.seq (.view [.sel [0, 3, 5, 6] [0]]) (.sub (.loop (scOf (qht rec))) (q5d rec))))) (.seq (.seq (.reg [ao 31 (.mv 5),
 ao 32 (.un .not 31)]) (.cond 32 (.seq (.reg [ao 33 (.load true 4 3),
 ao 34 (.bsl 4 [33]),
 ao 4 (.mv 34)]) (.ret)) (.skip))) (.seq (.reg [ao 36 (.load true 4 3),
 .call (po 37 (.call 52 [36])) 52 qtk,
 ao 35 (.mv 37),
 ao 38 (.ext 35 0),
 ao 39 (.ext 35 1),
 ao 40 (.ext 35 2),
 ao 7 (.alloc [(.bool false), (.int .u64 0), (.int .u64 0), (.int .i64 0)]),
 ao 8 (.alloc [(.bool false), (.int .u64 0), (.int .u64 0), (.int .i64 0)]),
 an (.store 4 7 38),
 an (.store 4 8 39),
 ao 9 (.mv 40)]) (.seq (.seq (.reg [ao 41 (.mv 9),
 ao 42 (.un .not 41)]) (.cond 42 (.seq (.reg [ao 4 (.mv (.c .nils))]) (.seq (.view [.own 4 4]) (.ret))) (.skip))) (.seq (.reg [ao 10 (.mv (.c .nils))]) (.seq (.reg [ao 43 (.mv 10),
 ao 44 (.mv 0),
 ao 45 (.load true 4 7),
 .callc (po 46 (.call 87 [44, 45])) 87 (qee rec),
 ao 47 (.app 4 32 43 46),
 ao 10 (.mv 47)]) (.seq (.reg [ao 48 (.mv 10),
 ao 49 (.mv 0),
 ao 50 (.load true 4 8),
 .callc (po 51 (.call 87 [49, 50])) 87 (qee rec),
 ao 52 (.app 4 32 48 51),
 ao 4 (.mv 52)]) (.ret)))))))))
theorem qbri (rec : (List AV) → Bool → Int → Int → Int → Option (List AV)) (hrec : qd Try.prog 87 (qee (R := (List AV)) rec)) : AC.ok Try.prog (TIof Try.prog) 53 0 (kret [.t 4] (decF true 4)) (qom rec) := qm (zA (qbku rec hrec) (zA (qd.ok q65) (zA (qd.ok hrec) (zA (qd.ok hrec) trivial))))
theorem qbth (rec : (List AV) → Bool → Int → Int → Int → Option (List AV)) (v0 : List AV) (Am : Bool) (An Ao Ap : Int) : den 0 (kret [.t 4] (decF true 4)) (qom rec) (qi [(0, (.sl 8 v0)), (1, .agg (qa Am An Ao Ap))]) (qh []) (kend (kret [.t 4] (decF true 4))) = qol rec v0 Am An Ao Ap := by
  kernel_rfl
theorem qbti : cFn (TIof Try.prog) Try.f87 = some ⟨53, [.t 4], scOf (qom (fun _ _ _ _ _ => none))⟩ := by kernel_rfl
theorem qbtj (rec : (List AV) → Bool → Int → Int → Int → Option (List AV)) : (qom rec).er = some (scOf (qom (fun _ _ _ _ _ => none))) := by kernel_rfl
theorem q8l : ∀ (k : Nat) {R : Type}, qd Try.prog 87 (qee (R := R) (qdm k))
  | 0 => fun xs K r h => by
   unfold qee at h
   obtain ⟨_, h2, _⟩ := qft (qo9 h).2
   cases h2
  | k + 1 => qb4h (F := fun xs => qol (qdm k) (gL [(qj xs) 0] 0) (gB ((qj xs) 1).cells 0) (gI ((qj xs) 1).cells 1) (gI ((qj xs) 1).cells 2) (gI ((qj xs) 1).cells 3)) (enc := (AV.fr true 4)) tabOk follows Try.func87 (by kernel_rfl) qbti (hdeF) (qbri (qdm k) (q8l k)) (qbtj (qdm k)) q66 (fun xs => qbth (qdm k) (gL [(qj xs) 0] 0) (gB ((qj xs) 1).cells 0) (gI ((qj xs) 1).cells 1) (gI ((qj xs) 1).cells 2) (gI ((qj xs) 1).cells 3)) (fun xs K r h => by
 unfold qee at h
 exact ⟨(qo9 h).1, qft (qo9 h).2⟩)
def q67 {R : Type} (xs : List AV) (K : AV → Option R) : Option R := qee q6c xs K
theorem qbtk {R : Type} : qd Try.prog 87 (q67 (R := R)) := by
  have h := q8l FU (R := R)
  rw [← q8k] at h
  exact h
def qi2 (z : AV) : Option (List AV) := cond (qbaq (.one (.sl 4)) z) (some (aL z)) none
def qbo2 (r : (List AV)) : AV := .sl 4 r
def q2v  (v0 : List AV) (Aa : Bool) (Ab Ac Ad : Int) (K : Ex → Env → Mem → Option (List AV)) := (fun z_v24 => K .norm (qi [(0, (.sl 8 v0)), (3, (.ptr 0 0)), (24, (.bool z_v24))]) (qh [(some (.box true (qa Aa Ab Ac Ad)))]))
def qbe2 : Shp := ⟨[(0, .one (.l (.sl 8))), (3, .one (.ptr 0 0)), (5, .one (.ptr 1 0)), (6, .one (.l .b))], [.box true (lk qc), .box true (lk qe)]⟩
def qon  (v0 : List AV) (v6 Aa : Bool) (Ab Ac Ad : Int) (Aq : Bool) (Ar As At A2 : Int) (A3 A4 : List UInt8) (A5 : Int) (kn : Bool → Option (List AV)) : Option (List AV) :=
  (bif ((!v6) || (A2 != (1 : Int))) then (kn true) else (oB (qfq Aa Ab Ac Ad) fun r1 => (kn (!r1))))
def qri := hull (qon)
theorem qtn : qri = qon := qk _
def qoo : AC (List AV) :=
  .seq (.reg [ao 13 (.mv 6),
 ao 14 (.un .not 13),
 ao 15 (.mv 14),
 .grp 15 false [(pg 16 15 false (.fa 4 5)), (pg 17 15 false (.load false 1 16)), (pg 18 15 false (.bin .neq 17 (.c (.int .i64 1))))] 19 18,
 ao 20 (.mv 19),
 ag 21 20 false (.load true 4 3),
 .call (pg 22 20 false (.call 33 [21])) 33 qga,
 ag 23 20 false (.un .not 22),
 ao 24 (.pick 20 (.c (.bool true)) 23)]) (.view [.sel [0, 3, 24] [0]])
theorem qbim : AC.ok Try.prog (TIof Try.prog) 30 0 (kret [.t 4] qi2) qoo := qm (zA (qd.ok qkm) trivial)
theorem qbkv (v0 : List AV) (v6 Aa : Bool) (Ab Ac Ad : Int) (Aq : Bool) (Ar As At A2 : Int) (A3 A4 : List UInt8) (A5 : Int) (K : Ex → Env → Mem → Option (List AV)) : den 0 (kret [.t 4] qi2) qoo (qi [(0, (.sl 8 v0)), (3, (.ptr 0 0)), (5, (.ptr 1 0)), (6, (.bool v6))]) (qh [(some (.box true (qa Aa Ab Ac Ad))), (some (.box true (qp Aq Ar As At A2 A3 A4 A5)))]) K = qri v0 v6 Aa Ab Ac Ad Aq Ar As At A2 A3 A4 A5 (q2v v0 Aa Ab Ac Ad K) := by
  rw [qtn]; kernel_rfl
def q5e := subE (R := (List AV)) qbe2 fun t m K => qr (bxC (m.s 1)) (qb (bxC (m.s 0)) (qri (gL [t 0] 0) (gB [t 6] 0))) (q2v (gL [t 0] 0) (gB (bxC (m.s 0)) 0) (gI (bxC (m.s 0)) 1) (gI (bxC (m.s 0)) 2) (gI (bxC (m.s 0)) 3) K)
theorem qbkw : qby Try.prog (TIof Try.prog) 30 0 (kret [.t 4] qi2) (scOf qoo) (q5e) :=
  qex tabOk follows (qbim) (qo (by kernel_rfl)) fun t m K => qbkv _ _ _ _ _ _ _ _ _ _ _ _ _ _ K
def qbo3 : Shp := ⟨[(0, .one (.l (.sl 8))), (1, .st (lk qc))], []⟩
def q1f (v0 : List AV) (Am : Bool) (An Ao Ap : Int) : Option (List AV) :=
  (oB (qje v0 Am An Ao Ap) fun r1 => (qri v0 r1.2 Am An Ao Ap (gB r1.1.cells 0) (gI r1.1.cells 1) (gI r1.1.cells 2) (gI r1.1.cells 3) (gI r1.1.cells 4) (gS r1.1.cells 5) (gS r1.1.cells 6) (gI r1.1.cells 7) (fun v24q2 => (bif v24q2 then (some ([] : List AV)) else (oB (qme v0 Am An Ao Ap) fun r3 => (oB (q6c r3 Am An Ao Ap) fun r4 => (some r4)))))))
def ql7 := hull q1f
theorem q8m : ql7 = q1f := qk _
def q1g : AC (List AV) :=
  .seq (.reg [ao 3 (.box 1),
 ao 4 (.mv (.c .nils))]) (.seq (.reg [ao 8 (.mv 0),
 ao 9 (.load true 4 3),
 .call (po 10 (.call 37 [8, 9])) 37 qmd,
 ao 7 (.mv 10),
 ao 11 (.ext 7 0),
 ao 12 (.ext 7 1),
 ao 5 (.alloc [(.bool false), (.int .u64 0), (.int .u64 0), (.int .i64 0), (.int .i64 0), (.str []), (.str []), (.int .i64 0)]),
 an (.store 8 5 11),
 ao 6 (.mv 12)]) (.seq (.seq (.seq (.view [.sel [0, 3, 5, 6] [0, 1]]) (.sub (scOf qoo) q5e)) (.cond 24 (.seq (.reg [ao 4 (.mv (.c .nils))]) (.seq (.view [.eta 4 (.one (.sl 4))]) (.ret))) (.skip))) (.seq (.draw [] [ao 25 (.mv 0),
 ao 26 (.load true 4 3),
 .call (po 27 (.call 88 [25, 26])) 88 qzr,
 ao 28 (.load true 4 3)] [.callc (po 29 (.call 87 [27, 28])) 87 q67,
 ao 4 (.mv 29)]) (.ret))))
theorem qbrj : AC.ok Try.prog (TIof Try.prog) 30 0 (kret [.t 4] qi2) q1g := qm (zA (qd.ok qt3) (zA qbkw (zA (qd.ok qbie) (zA (qd.ok qbtk) (zA rfl trivial)))))
theorem qbtl (v0 : List AV) (Am : Bool) (An Ao Ap : Int) : den 0 (kret [.t 4] qi2) q1g (qi [(0, (.sl 8 v0)), (1, .agg (qa Am An Ao Ap))]) (qh []) (kend (kret [.t 4] qi2)) = ql7 v0 Am An Ao Ap := by
  rw [q8m]; kernel_rfl
theorem qbtm : cFn (TIof Try.prog) Try.f51 = some ⟨30, [.t 4], scOf q1g⟩ := by kernel_rfl
def qbtn (xs : List AV) : Option (List AV) := qb ((qj xs) 1).cells (ql7 (gL [(qj xs) 0] 0))
def qxe {R : Type} : List AV → (AV → Option R) → Option R := entF qbo3 qbtn qbo2
theorem qbab {R : Type} : qd Try.prog 51 (qxe (R := R)) :=
  qt tabOk follows Try.func51 (by kernel_rfl) qbtm (fun z r h => by
 obtain ⟨h1, h2⟩ := qq h
 cases h2
 exact (q36 h1).symm) qbrj (qo (by kernel_rfl)) fun xs => qbtl _ _ _ _ _
def qc8 (z : AV) : Option (AV × Bool) := cond (qfn [(.st [.b, (.i .u64), (.i .u64), (.i .i64)]), (.one .b)] z) (some ((gC (tpL z) 0), aB (gC (tpL z) 1))) none
def qbkx (r : AV × Bool) : AV := .tup [qh4 (.st [.b, (.i .u64), (.i .u64), (.i .i64)]) r.1, .bool r.2]
def qzs  (v0 : List AV) (v1 v2 : Int) (v8 : Bool) (v10 : Int) (Aa : Bool) (Ab Ac Ad : Int) (Aq : Bool) (Ar As At : Int) (K : Ex → Env → Mem → Option (AV × Bool)) := (fun z_v41 => K .norm (qi [(0, (.sl 4 v0)), (1, (.int .i64 v1)), (2, (.int .i64 v2)), (6, (.ptr 0 0)), (8, (.bool v8)), (9, (.ptr 1 0)), (10, (.int .i64 v10)), (41, (.bool z_v41))]) (qh [(some (.box true (qa Aa Ab Ac Ad))), (some (.box true (qa Aq Ar As At)))]))
def qbbg : Shp := ⟨[(0, .one (.l (.sl 4))), (1, .one (.l (.i .i64))), (2, .one (.l (.i .i64))), (6, .one (.ptr 0 0)), (8, .one (.l .b)), (9, .one (.ptr 1 0)), (10, .one (.l (.i .i64)))], [.box true (lk qc), .box true (lk qc)]⟩
def qrj  (v0 : List AV) (v1 v2 : Int) (v8 : Bool) (v10 : Int) (Aa : Bool) (Ab Ac Ad : Int) (Aq : Bool) (Ar As At : Int) (kn : Bool → Option (AV × Bool)) : Option (AV × Bool) :=
  (oB (ixB v0 v10) fun y1 => (bif fitC qc y1.cells then (bif (decide ((gI y1.cells 3) ≤ v1)) then (bif (!v8) then (kn true) else (oB (ixB v0 v10) fun y2 => (bif fitC qc y2.cells then (kn (decide ((IntKind.i64.wrap ((IntKind.i64.wrap ((gI y2.cells 3) - At)) * v2)) > (0 : Int)))) else none))) else (kn false)) else none))
def qop := hull (qrj)
theorem qzt : qop = qrj := qk _
def qmv : AC (AV × Bool) :=
  .seq (.draw [] [ao 18 (.mv 0),
 ao 19 (.mv 10),
 ao 20 (.ia 4 18 19),
 .et 20 qc,
 ao 21 (.fa 3 20),
 ao 22 (.load false 1 21),
 ao 23 (.mv 1),
 ao 24 (.bin .leq 22 23),
 ao 25 (.mv 24),
 ag 26 25 true (.mv 8),
 ag 27 25 true (.un .not 26),
 ag 28 25 true (.mv 27),
 ag 29 28 false (.mv 0),
 ag 30 28 false (.mv 10),
 ag 31 28 false (.ia 4 29 30),
 .et 31 qc,
 ag 32 28 false (.fa 3 31),
 ag 33 28 false (.load false 1 32),
 ag 34 28 false (.fa 3 9),
 ag 35 28 false (.load false 1 34),
 ag 36 28 false (.bin .sub 33 35),
 ag 37 28 false (.mv 2)] [ag 38 28 false (.bin .mul 36 37),
 ag 39 28 false (.bin .gtr 38 (.c (.int .i64 0))),
 ag 40 25 true (.pick 28 (.c (.bool true)) 39),
 ao 41 (.pick 25 40 (.c (.bool false)))]) (.view [.sel [0, 1, 2, 6, 8, 9, 10, 41] [0, 1]])
theorem qbco : AC.ok Try.prog (TIof Try.prog) 48 0 (kret [(.cell 6 true 4), .t 7] qc8) qmv := qm (zA rfl trivial)
theorem qbe3 (v0 : List AV) (v1 v2 : Int) (v8 : Bool) (v10 : Int) (Aa : Bool) (Ab Ac Ad : Int) (Aq : Bool) (Ar As At : Int) (K : Ex → Env → Mem → Option (AV × Bool)) : den 0 (kret [(.cell 6 true 4), .t 7] qc8) qmv (qi [(0, (.sl 4 v0)), (1, (.int .i64 v1)), (2, (.int .i64 v2)), (6, (.ptr 0 0)), (8, (.bool v8)), (9, (.ptr 1 0)), (10, (.int .i64 v10))]) (qh [(some (.box true (qa Aa Ab Ac Ad))), (some (.box true (qa Aq Ar As At)))]) K = qop v0 v1 v2 v8 v10 Aa Ab Ac Ad Aq Ar As At (qzs v0 v1 v2 v8 v10 Aa Ab Ac Ad Aq Ar As At K) := by
  rw [qzt]; kernel_rfl
def q1h := subE (R := AV × Bool) qbbg fun t m K => qb (bxC (m.s 1)) (qb (bxC (m.s 0)) (qop (gL [t 0] 0) (gI [t 1] 0) (gI [t 2] 0) (gB [t 8] 0) (gI [t 10] 0))) (qzs (gL [t 0] 0) (gI [t 1] 0) (gI [t 2] 0) (gB [t 8] 0) (gI [t 10] 0) (gB (bxC (m.s 0)) 0) (gI (bxC (m.s 0)) 1) (gI (bxC (m.s 0)) 2) (gI (bxC (m.s 0)) 3) (gB (bxC (m.s 1)) 0) (gI (bxC (m.s 1)) 1) (gI (bxC (m.s 1)) 2) (gI (bxC (m.s 1)) 3) K)
theorem qbe4 : qby Try.prog (TIof Try.prog) 48 0 (kret [(.cell 6 true 4), .t 7] qc8) (scOf qmv) (q1h) :=
  qex tabOk follows (qbco) (qo (by kernel_rfl)) fun t m K => qbe3 _ _ _ _ _ _ _ _ _ _ _ _ _ K
def qk5  (Aa : Bool) (Ab Ac Ad : Int) (K : Ex → Env → Mem → Option (AV × Bool)) := (fun z_v8 z_b1_0 z_b1_1 z_b1_2 z_b1_3 => K (.exit 0) (qi [(6, (.ptr 0 0)), (8, (.bool z_v8)), (9, (.ptr 1 0))]) (qh [(some (.box true (qa Aa Ab Ac Ad))), (some (.box true (qa z_b1_0 z_b1_1 z_b1_2 z_b1_3)))]))
def qbbh : Shp := ⟨[(0, .one (.l (.sl 4))), (1, .one (.l (.i .i64))), (2, .one (.l (.i .i64))), (6, .one (.ptr 0 0)), (8, .one (.l .b)), (9, .one (.ptr 1 0)), (10, .one (.l (.i .i64)))], [.box true (lk qc), .box true (lk qc)]⟩
def qp7 (v0 : List AV) (v1 v2 : Int) (v8 : Bool) (v10 : Int) (Aa : Bool) (Ab Ac Ad : Int) (Aq : Bool) (Ar As At : Int) : Env := qi [(0, (.sl 4 v0)), (1, (.int .i64 v1)), (2, (.int .i64 v2)), (6, (.ptr 0 0)), (8, (.bool v8)), (9, (.ptr 1 0)), (10, (.int .i64 v10))]
def qp8 (v0 : List AV) (v1 v2 : Int) (v8 : Bool) (v10 : Int) (Aa : Bool) (Ab Ac Ad : Int) (Aq : Bool) (Ar As At : Int) : Mem := qh [(some (.box true (qa Aa Ab Ac Ad))), (some (.box true (qa Aq Ar As At)))]
def qgs  (v0 : List AV) (v1 v2 : Int) (v8 : Bool) (v10 : Int) (Aa : Bool) (Ab Ac Ad : Int) (Aq : Bool) (Ar As At : Int) (next : Bool → Int → Bool → Int → Int → Int → Option (AV × Bool)) (kx0 : Bool → Bool → Int → Int → Int → Option (AV × Bool)) : Option (AV × Bool) :=
  (bif (decide (v10 < (v0.length : Int))) then (qop v0 v1 v2 v8 v10 Aa Ab Ac Ad Aq Ar As At (fun v41q1 => (bif v41q1 then (oB (ixB v0 v10) fun y2 => (bif fitC qc y2.cells then (next true (IntKind.i64.wrap (v10 + (1 : Int))) (gB y2.cells 0) (gI y2.cells 1) (gI y2.cells 2) (gI y2.cells 3)) else none)) else (next v8 (IntKind.i64.wrap (v10 + (1 : Int))) Aq Ar As At)))) else (kx0 v8 Aq Ar As At))
def qmw  (v0 : List AV) (v1 v2 : Int) (Aa : Bool) (Ab Ac Ad : Int) (kx0 : Bool → Bool → Int → Int → Int → Option (AV × Bool)) : Nat → Bool → Int → Bool → Int → Int → Int → Option (AV × Bool)
  | 0 => (fun _ _ _ _ _ _ => none)
  | n + 1 => (fun v8 v10 Aq Ar As At => qgs v0 v1 v2 v8 v10 Aa Ab Ac Ad Aq Ar As At (qmw v0 v1 v2 Aa Ab Ac Ad kx0 n) kx0)
def qoq := hull (qmw)
theorem qzu : qoq = qmw := qk _
def qgt : AC (AV × Bool) :=
  .seq (.seq (.reg [ao 12 (.mv 10),
 ao 13 (.mv 0),
 ao 14 (.len false 13),
 ao 15 (.bin .lss 12 14)]) (.cond 15 (.skip) (.seq (.view [.sel [6, 8, 9] [0, 1]]) (.exit 0)))) (.seq (.block 1 (.seq (.seq (.view [.sel [0, 1, 2, 6, 8, 9, 10] [0, 1]]) (.sub (scOf qmv) q1h)) (.cond 41 (.seq (.reg [ao 42 (.mv 0),
 ao 43 (.mv 10),
 ao 44 (.ia 4 42 43),
 .st (.etac 44 qc),
 ao 45 (.load true 4 44),
 an (.store 4 9 45)]) (.reg [ao 8 (.mv (.c (.bool true)))])) (.skip)))) (.seq (.reg [ao 16 (.mv 10),
 ao 17 (.bin .add 16 (.c (.int .i64 1))),
 ao 10 (.mv 17)]) (.view [.sel [0, 1, 2, 6, 8, 9, 10] [0, 1]])))
theorem qbcp : AC.ok Try.prog (TIof Try.prog) 48 0 (kret [(.cell 6 true 4), .t 7] qc8) qgt := qm (zA qbe4 trivial)
theorem qbbi (v0 : List AV) (v1 v2 : Int) (v8 : Bool) (v10 : Int) (Aa : Bool) (Ab Ac Ad : Int) (Aq : Bool) (Ar As At : Int) (K : Ex → Env → Mem → Option (AV × Bool)) : den 0 (kret [(.cell 6 true 4), .t 7] qc8) qgt (qp7 v0 v1 v2 v8 v10 Aa Ab Ac Ad Aq Ar As At) (qp8 v0 v1 v2 v8 v10 Aa Ab Ac Ad Aq Ar As At) K = qgs v0 v1 v2 v8 v10 Aa Ab Ac Ad Aq Ar As At (fun z_v8 z_v10 z_b1_0 z_b1_1 z_b1_2 z_b1_3 => K .norm (qp7 v0 v1 v2 z_v8 z_v10 Aa Ab Ac Ad z_b1_0 z_b1_1 z_b1_2 z_b1_3) (qp8 v0 v1 v2 z_v8 z_v10 Aa Ab Ac Ad z_b1_0 z_b1_1 z_b1_2 z_b1_3)) (qk5 Aa Ab Ac Ad K) := by kernel_rfl
theorem qbe5 (v0 : List AV) (v1 v2 : Int) (Aa : Bool) (Ab Ac Ad : Int) (K : Ex → Env → Mem → Option (AV × Bool)) : ∀ (n : Nat) (v8 : Bool) (v10 : Int) (Aq : Bool) (Ar As At : Int), qe2 (den 0 (kret [(.cell 6 true 4), .t 7] qc8) qgt) n (qp7 v0 v1 v2 v8 v10 Aa Ab Ac Ad Aq Ar As At) (qp8 v0 v1 v2 v8 v10 Aa Ab Ac Ad Aq Ar As At) K = qoq v0 v1 v2 Aa Ab Ac Ad (qk5 Aa Ab Ac Ad K) n v8 v10 Aq Ar As At := by
  rw [qzu]
  intro n
  induction n with
  | zero => intros; rfl
  | succ n ih =>
 intro v8 v10 Aq Ar As At
 exact (qbbi v0 v1 v2 v8 v10 Aa Ab Ac Ad Aq Ar As At (itK (den 0 (kret [(.cell 6 true 4), .t 7] qc8) qgt) n K)).trans (congrArg (fun q => qgs v0 v1 v2 v8 v10 Aa Ab Ac Ad Aq Ar As At q (qk5 Aa Ab Ac Ad K)) (funext fun v8 => funext fun v10 => funext fun Aq => funext fun Ar => funext fun As => funext fun At => ih v8 v10 Aq Ar As At))
def q1i := subE (R := AV × Bool) qbbh fun t m K => qb (bxC (m.s 1)) (qb (bxC (m.s 0)) (qoq (gL [t 0] 0) (gI [t 1] 0) (gI [t 2] 0)) (qk5 (gB (bxC (m.s 0)) 0) (gI (bxC (m.s 0)) 1) (gI (bxC (m.s 0)) 2) (gI (bxC (m.s 0)) 3) K) FU (gB [t 8] 0) (gI [t 10] 0))
theorem qbe6 : qby Try.prog (TIof Try.prog) 48 0 (kret [(.cell 6 true 4), .t 7] qc8) (.loop (scOf qgt)) (q1i) :=
  qd9 tabOk follows (qbcp) (qo (by kernel_rfl)) fun t m K => qbe5 _ _ _ _ _ _ _ K FU _ _ _ _ _ _
def qbky : Shp := ⟨[(0, .one (.l (.sl 4))), (1, .one (.l (.i .i64))), (2, .one (.l (.i .i64)))], []⟩
def qy1 (v0 : List AV) (v1 v2 : Int) : Option (AV × Bool) :=
  (qoq v0 v1 v2 false (0 : Int) (0 : Int) (0 : Int) (fun v8q1 b1_0q2 b1_1q3 b1_2q4 b1_3q5 => (some ((.agg [(.bool b1_0q2), (.int .u64 b1_1q3), (.int .u64 b1_2q4), (.int .i64 b1_3q5)]), v8q1))) FU false (0 : Int) false (0 : Int) (0 : Int) (0 : Int))
def qgu := hull qy1
theorem q68 : qgu = qy1 := qk _
def qy2 : AC (AV × Bool) :=
  .seq (.reg [ao 6 (.alloc [(.bool false), (.int .u64 0), (.int .u64 0), (.int .i64 0)]),
 ao 7 (.mv (.c (.bool false)))]) (.seq (.reg [ao 8 (.mv (.c (.bool false)))]) (.seq (.reg [ao 11 (.build [(.bool false), (.int .u64 0), (.int .u64 0), (.int .i64 0)] []),
 ao 9 (.alloc [(.bool false), (.int .u64 0), (.int .u64 0), (.int .i64 0)]),
 an (.store 4 9 11)]) (.seq (.seq (.reg [ao 10 (.mv (.c (.int .i64 0)))]) (.block 0 (.seq (.view [.sel [0, 1, 2, 6, 8, 9, 10] [0, 1]]) (.sub (.loop (scOf qgt)) q1i)))) (.seq (.reg [ao 46 (.load true 4 9),
 ao 47 (.mv 8),
 an (.store 4 6 46),
 ao 7 (.mv 47)]) (.ret)))))
theorem qbo4 : AC.ok Try.prog (TIof Try.prog) 48 0 (kret [(.cell 6 true 4), .t 7] qc8) qy2 := qm (zA qbe6 trivial)
theorem qbrk (v0 : List AV) (v1 v2 : Int) : den 0 (kret [(.cell 6 true 4), .t 7] qc8) qy2 (qi [(0, (.sl 4 v0)), (1, (.int .i64 v1)), (2, (.int .i64 v2))]) (qh []) (kend (kret [(.cell 6 true 4), .t 7] qc8)) = qgu v0 v1 v2 := by
  rw [q68]; kernel_rfl
theorem qbrl : cFn (TIof Try.prog) Try.f50 = some ⟨48, [(.cell 6 true 4), .t 7], scOf qy2⟩ := by kernel_rfl
def qbrm (xs : List AV) : Option (AV × Bool) := qgu (gL [(qj xs) 0] 0) (gI [(qj xs) 1] 0) (gI [(qj xs) 2] 0)
def qu8 {R : Type} : List AV → (AV → Option R) → Option R := entF qbky qbrm qbkx
theorem q8n {R : Type} : qd Try.prog 50 (qu8 (R := R)) :=
  qt tabOk follows Try.func50 (by kernel_rfl) qbrl (fun z r h => by
 obtain ⟨h1, h2⟩ := qq h
 cases h2
 exact (qc9 h1).symm) qbo4 (qo (by kernel_rfl)) fun xs => qbrk _ _ _
def qco (z : AV) : Option (AV × Int) := cond (qfn [(.st [.b, (.i .u64), (.i .u64), (.i .i64)]), (.one (.i .i64))] z) (some ((gC (tpL z) 0), aI (gC (tpL z) 1))) none
def qbin (r : AV × Int) : AV := .tup [qh4 (.st [.b, (.i .u64), (.i .u64), (.i .i64)]) r.1, .int .i64 r.2]
def qxt  (v0 : List AV) (v2 v3 : Int) (Aa : Bool) (Ab Ac Ad : Int) (Aq : Bool) (Ar As At : Int) (K : Ex → Env → Mem → Option (AV × Int)) := (fun z_v12 => K .norm (qi [(0, (.sl 8 v0)), (2, (.int .i64 v2)), (3, (.int .i64 v3)), (5, (.ptr 0 0)), (8, (.ptr 1 0)), (12, (.int .i64 z_v12))]) (qh [(some (.box true (qa Aa Ab Ac Ad))), (some (.box true (qa Aq Ar As At)))]))
def q9y : Shp := ⟨[(0, .one (.l (.sl 8))), (2, .one (.l (.i .i64))), (3, .one (.l (.i .i64))), (5, .one (.ptr 0 0)), (8, .one (.ptr 1 0)), (12, .one (.l (.i .i64)))], [.box true (lk qc), .box true (lk qc)]⟩
def qp9  (v0 : List AV) (v2 v3 v12 : Int) (Aa : Bool) (Ab Ac Ad : Int) (Aq : Bool) (Ar As At : Int) (kn : Int → Option (AV × Int)) : Option (AV × Int) :=
  (bif (v3 == (2 : Int)) then (kn (1 : Int)) else (kn v12))
def qns := hull (qp9)
theorem qxu : qns = qp9 := qk _
def qlz : AC (AV × Int) :=
  .seq (.reg [ao 42 (.mv 3),
 ao 43 (.bin .eql 42 (.c (.int .i64 2)))]) (.cond 43 (.seq (.reg [ao 12 (.mv (.c (.int .i64 1)))]) (.view [.sel [0, 2, 3, 5, 8, 12] [0, 1]])) (.seq (.skip) (.view [.sel [0, 2, 3, 5, 8, 12] [0, 1]])))
theorem qbbj : AC.ok Try.prog (TIof Try.prog) 79 0 (kret [(.cell 8 true 4), .t 9] qco) qlz := qm trivial
theorem qbcq (v0 : List AV) (v2 v3 v12 : Int) (Aa : Bool) (Ab Ac Ad : Int) (Aq : Bool) (Ar As At : Int) (K : Ex → Env → Mem → Option (AV × Int)) : den 0 (kret [(.cell 8 true 4), .t 9] qco) qlz (qi [(0, (.sl 8 v0)), (2, (.int .i64 v2)), (3, (.int .i64 v3)), (5, (.ptr 0 0)), (8, (.ptr 1 0)), (12, (.int .i64 v12))]) (qh [(some (.box true (qa Aa Ab Ac Ad))), (some (.box true (qa Aq Ar As At)))]) K = qns v0 v2 v3 v12 Aa Ab Ac Ad Aq Ar As At (qxt v0 v2 v3 Aa Ab Ac Ad Aq Ar As At K) := by
  rw [qxu]; kernel_rfl
def qzv := subE (R := AV × Int) q9y fun t m K => qb (bxC (m.s 1)) (qb (bxC (m.s 0)) (qns (gL [t 0] 0) (gI [t 2] 0) (gI [t 3] 0) (gI [t 12] 0))) (qxt (gL [t 0] 0) (gI [t 2] 0) (gI [t 3] 0) (gB (bxC (m.s 0)) 0) (gI (bxC (m.s 0)) 1) (gI (bxC (m.s 0)) 2) (gI (bxC (m.s 0)) 3) (gB (bxC (m.s 1)) 0) (gI (bxC (m.s 1)) 1) (gI (bxC (m.s 1)) 2) (gI (bxC (m.s 1)) 3) K)
theorem qbcr : qby Try.prog (TIof Try.prog) 79 0 (kret [(.cell 8 true 4), .t 9] qco) (scOf qlz) (qzv) :=
  qex tabOk follows (qbbj) (qo (by kernel_rfl)) fun t m K => qbcq _ _ _ _ _ _ _ _ _ _ _ _ K
def qxv  (v0 : List AV) (v2 v3 : Int) (Aa : Bool) (Ab Ac Ad : Int) (Aq : Bool) (Ar As At : Int) (K : Ex → Env → Mem → Option (AV × Int)) := (fun z_v12 => K .norm (qi [(0, (.sl 8 v0)), (2, (.int .i64 v2)), (3, (.int .i64 v3)), (5, (.ptr 0 0)), (8, (.ptr 1 0)), (12, (.int .i64 z_v12))]) (qh [(some (.box true (qa Aa Ab Ac Ad))), (some (.box true (qa Aq Ar As At)))]))
def q9z : Shp := ⟨[(0, .one (.l (.sl 8))), (2, .one (.l (.i .i64))), (3, .one (.l (.i .i64))), (5, .one (.ptr 0 0)), (8, .one (.ptr 1 0)), (12, .one (.l (.i .i64)))], [.box true (lk qc), .box true (lk qc)]⟩
def qqa  (v0 : List AV) (v2 v3 v12 : Int) (Aa : Bool) (Ab Ac Ad : Int) (Aq : Bool) (Ar As At : Int) (kn : Int → Option (AV × Int)) : Option (AV × Int) :=
  (bif (v3 == (3 : Int)) then (kn (-1 : Int)) else (kn v12))
def qnt := hull (qqa)
theorem qxw : qnt = qqa := qk _
def ql0 : AC (AV × Int) :=
  .seq (.reg [ao 44 (.mv 3),
 ao 45 (.bin .eql 44 (.c (.int .i64 3)))]) (.cond 45 (.seq (.reg [ao 12 (.mv (.c (.int .i64 (-1))))]) (.view [.sel [0, 2, 3, 5, 8, 12] [0, 1]])) (.seq (.skip) (.view [.sel [0, 2, 3, 5, 8, 12] [0, 1]])))
theorem qbbk : AC.ok Try.prog (TIof Try.prog) 79 0 (kret [(.cell 8 true 4), .t 9] qco) ql0 := qm trivial
theorem qbcs (v0 : List AV) (v2 v3 v12 : Int) (Aa : Bool) (Ab Ac Ad : Int) (Aq : Bool) (Ar As At : Int) (K : Ex → Env → Mem → Option (AV × Int)) : den 0 (kret [(.cell 8 true 4), .t 9] qco) ql0 (qi [(0, (.sl 8 v0)), (2, (.int .i64 v2)), (3, (.int .i64 v3)), (5, (.ptr 0 0)), (8, (.ptr 1 0)), (12, (.int .i64 v12))]) (qh [(some (.box true (qa Aa Ab Ac Ad))), (some (.box true (qa Aq Ar As At)))]) K = qnt v0 v2 v3 v12 Aa Ab Ac Ad Aq Ar As At (qxv v0 v2 v3 Aa Ab Ac Ad Aq Ar As At K) := by
  rw [qxw]; kernel_rfl
def qzw := subE (R := AV × Int) q9z fun t m K => qb (bxC (m.s 1)) (qb (bxC (m.s 0)) (qnt (gL [t 0] 0) (gI [t 2] 0) (gI [t 3] 0) (gI [t 12] 0))) (qxv (gL [t 0] 0) (gI [t 2] 0) (gI [t 3] 0) (gB (bxC (m.s 0)) 0) (gI (bxC (m.s 0)) 1) (gI (bxC (m.s 0)) 2) (gI (bxC (m.s 0)) 3) (gB (bxC (m.s 1)) 0) (gI (bxC (m.s 1)) 1) (gI (bxC (m.s 1)) 2) (gI (bxC (m.s 1)) 3) K)
theorem qbct : qby Try.prog (TIof Try.prog) 79 0 (kret [(.cell 8 true 4), .t 9] qco) (scOf ql0) (qzw) :=
  qex tabOk follows (qbbk) (qo (by kernel_rfl)) fun t m K => qbcs _ _ _ _ _ _ _ _ _ _ _ _ K
def qxx  (v2 : Int) (Aa : Bool) (Ab Ac Ad : Int) (K : Ex → Env → Mem → Option (AV × Int)) := (fun z_b1_0 z_b1_1 z_b1_2 z_b1_3 => K .norm (qi [(2, (.int .i64 v2)), (8, (.ptr 0 0)), (13, (.ptr 1 0))]) (qh [(some (.box true (qa Aa Ab Ac Ad))), (some (.box true (qa z_b1_0 z_b1_1 z_b1_2 z_b1_3)))]))
def q90 : Shp := ⟨[(2, .one (.l (.i .i64))), (3, .one (.l (.i .i64))), (8, .one (.ptr 0 0)), (13, .one (.ptr 1 0))], [.box true (lk qc), .box true (lk qc)]⟩
def qqb  (v2 v3 : Int) (Aa : Bool) (Ab Ac Ad : Int) (Aq : Bool) (Ar As At : Int) (kn : Bool → Int → Int → Int → Option (AV × Int)) : Option (AV × Int) :=
  (bif ((v3 == (3 : Int)) && (decide (At < v2))) then (oB (qly Aq Ar As At) fun r1 => (kn (gB r1.2.1.cells 0) (gI r1.2.1.cells 1) (gI r1.2.1.cells 2) (gI r1.2.1.cells 3))) else (kn Aq Ar As At))
def qhe := hull (qqb)
theorem qxy : qhe = qqb := qk _
def ql1 : AC (AV × Int) :=
  .seq (.reg [ao 58 (.mv 3),
 ao 59 (.bin .eql 58 (.c (.int .i64 3))),
 ao 60 (.mv 59),
 .grp 60 true [(pg 61 60 true (.fa 3 13)), (pg 62 60 true (.load false 1 61)), (pg 63 60 true (.mv 2)), (pg 64 60 true (.bin .lss 62 63))] 65 64]) (.cond 65 (.seq (.reg [ao 67 (.load true 4 13),
 .call (po 68 (.call 52 [67])) 52 qtk,
 ao 66 (.mv 68),
 ao 69 (.ext 66 0),
 ao 70 (.ext 66 1),
 ao 71 (.ext 66 2),
 an (.store 4 13 70)]) (.view [.sel [2, 8, 13] [0, 1]])) (.seq (.skip) (.view [.sel [2, 8, 13] [0, 1]])))
theorem qbbl : AC.ok Try.prog (TIof Try.prog) 79 0 (kret [(.cell 8 true 4), .t 9] qco) ql1 := qm (zA (qd.ok q65) trivial)
theorem qbcu (v2 v3 : Int) (Aa : Bool) (Ab Ac Ad : Int) (Aq : Bool) (Ar As At : Int) (K : Ex → Env → Mem → Option (AV × Int)) : den 0 (kret [(.cell 8 true 4), .t 9] qco) ql1 (qi [(2, (.int .i64 v2)), (3, (.int .i64 v3)), (8, (.ptr 0 0)), (13, (.ptr 1 0))]) (qh [(some (.box true (qa Aa Ab Ac Ad))), (some (.box true (qa Aq Ar As At)))]) K = qhe v2 v3 Aa Ab Ac Ad Aq Ar As At (qxx v2 Aa Ab Ac Ad K) := by
  rw [qxy]; kernel_rfl
def qzx := subE (R := AV × Int) q90 fun t m K => qb (bxC (m.s 1)) (qb (bxC (m.s 0)) (qhe (gI [t 2] 0) (gI [t 3] 0))) (qxx (gI [t 2] 0) (gB (bxC (m.s 0)) 0) (gI (bxC (m.s 0)) 1) (gI (bxC (m.s 0)) 2) (gI (bxC (m.s 0)) 3) K)
theorem qbcv : qby Try.prog (TIof Try.prog) 79 0 (kret [(.cell 8 true 4), .t 9] qco) (scOf ql1) (qzx) :=
  qex tabOk follows (qbbl) (qo (by kernel_rfl)) fun t m K => qbcu _ _ _ _ _ _ _ _ _ _ K
def qbio : Shp := ⟨[(0, .one (.l (.sl 8))), (1, .st (lk qc)), (2, .one (.l (.i .i64))), (3, .one (.l (.i .i64)))], []⟩
def qxf (v0 : List AV) (Am : Bool) (An Ao Ap v2 v3 : Int) : Option (AV × Int) :=
  (oB (qje v0 Am An Ao Ap) fun r1 => (bif (!r1.2) then (some ((.agg [(.bool false), (.int .u64 (0 : Int)), (.int .u64 (0 : Int)), (.int .i64 (0 : Int))]), (11 : Int))) else (bif ((gI r1.1.cells 4) != (1 : Int)) then (some ((.agg [(.bool false), (.int .u64 (0 : Int)), (.int .u64 (0 : Int)), (.int .i64 (0 : Int))]), (21 : Int))) else (oB (qoi Am An Ao Ap v2) fun r2 => (bif (((!r2) || (decide (v3 < (1 : Int)))) || (decide (v3 > (3 : Int)))) then (some ((.agg [(.bool false), (.int .u64 (0 : Int)), (.int .u64 (0 : Int)), (.int .i64 (0 : Int))]), (1 : Int))) else (qns v0 v2 v3 (0 : Int) Am An Ao Ap false (0 : Int) (0 : Int) (0 : Int) (fun v12q3 => (qnt v0 v2 v3 v12q3 Am An Ao Ap false (0 : Int) (0 : Int) (0 : Int) (fun v12q4 => (oB (ql7 v0 Am An Ao Ap) fun r5 => (oB (qgu r5 v2 v12q4) fun r6 => (bif (!r6.2) then (some ((.agg [(.bool false), (.int .u64 (0 : Int)), (.int .u64 (0 : Int)), (.int .i64 (0 : Int))]), (22 : Int))) else (qhe v2 v3 false (0 : Int) (0 : Int) (0 : Int) (gB r6.1.cells 0) (gI r6.1.cells 1) (gI r6.1.cells 2) (gI r6.1.cells 3) (fun b1_0q7 b1_1q8 b1_2q9 b1_3q10 => (oB (qgj b1_0q7 b1_1q8 b1_2q9 b1_3q10 v2 (0 : Int)) fun r11 => (some ((.agg [(.bool (gB r11.1.cells 0)), (.int .u64 (gI r11.1.cells 1)), (.int .u64 (gI r11.1.cells 2)), (.int .i64 (gI r11.1.cells 3))]), (0 : Int))))))))))))))))))
def ql2 := hull qxf
theorem q5f : ql2 = qxf := qk _
def qxg : AC (AV × Int) :=
  .seq (.reg [ao 5 (.box 1),
 ao 8 (.alloc [(.bool false), (.int .u64 0), (.int .u64 0), (.int .i64 0)]),
 ao 9 (.mv (.c (.int .i64 0)))]) (.seq (.reg [ao 17 (.mv 0),
 ao 18 (.load true 4 5),
 .call (po 19 (.call 37 [17, 18])) 37 qmd,
 ao 16 (.mv 19),
 ao 20 (.ext 16 0),
 ao 21 (.ext 16 1),
 ao 10 (.alloc [(.bool false), (.int .u64 0), (.int .u64 0), (.int .i64 0), (.int .i64 0), (.str []), (.str []), (.int .i64 0)]),
 an (.store 8 10 20),
 ao 11 (.mv 21)]) (.seq (.seq (.reg [ao 22 (.mv 11),
 ao 23 (.un .not 22)]) (.cond 23 (.seq (.reg [ao 24 (.build [(.bool false), (.int .u64 0), (.int .u64 0), (.int .i64 0)] []),
 an (.store 4 8 24),
 ao 9 (.mv (.c (.int .i64 11)))]) (.ret)) (.skip))) (.seq (.seq (.reg [ao 25 (.fa 4 10),
 ao 26 (.load false 1 25),
 ao 27 (.bin .neq 26 (.c (.int .i64 1)))]) (.cond 27 (.seq (.reg [ao 28 (.build [(.bool false), (.int .u64 0), (.int .u64 0), (.int .i64 0)] []),
 an (.store 4 8 28),
 ao 9 (.mv (.c (.int .i64 21)))]) (.ret)) (.skip))) (.seq (.seq (.reg [ao 29 (.load true 4 5),
 ao 30 (.mv 2),
 .call (po 31 (.call 49 [29, 30])) 49 qxr,
 ao 32 (.un .not 31),
 ao 33 (.mv 32),
 .grp 33 false [(pg 34 33 false (.mv 3)), (pg 35 33 false (.bin .lss 34 (.c (.int .i64 1))))] 36 35,
 ao 37 (.mv 36),
 .grp 37 false [(pg 38 37 false (.mv 3)), (pg 39 37 false (.bin .gtr 38 (.c (.int .i64 3))))] 40 39]) (.cond 40 (.seq (.reg [ao 41 (.build [(.bool false), (.int .u64 0), (.int .u64 0), (.int .i64 0)] []),
 an (.store 4 8 41),
 ao 9 (.mv (.c (.int .i64 1)))]) (.ret)) (.skip))) (.seq (.reg [ao 12 (.mv (.c (.int .i64 0)))]) (.seq (.seq (.view [.sel [0, 2, 3, 5, 8, 12] [0, 1]]) (.sub (scOf qlz) qzv)) (.seq (.seq (.view [.sel [0, 2, 3, 5, 8, 12] [0, 1]]) (.sub (scOf ql0) qzw)) (.seq (.reg [ao 47 (.mv 0),
 ao 48 (.load true 4 5),
 .callc (po 49 (.call 51 [47, 48])) 51 qxe,
 ao 50 (.mv 2),
 ao 51 (.mv 12),
 .call (po 52 (.call 50 [49, 50, 51])) 50 qu8,
 ao 46 (.mv 52),
 ao 53 (.ext 46 0),
 ao 54 (.ext 46 1),
 ao 13 (.alloc [(.bool false), (.int .u64 0), (.int .u64 0), (.int .i64 0)]),
 an (.store 4 13 53),
 ao 11 (.mv 54)]) (.seq (.seq (.reg [ao 55 (.mv 11),
 ao 56 (.un .not 55)]) (.cond 56 (.seq (.reg [ao 57 (.build [(.bool false), (.int .u64 0), (.int .u64 0), (.int .i64 0)] []),
 an (.store 4 8 57),
 ao 9 (.mv (.c (.int .i64 22)))]) (.ret)) (.skip))) (.seq (.seq (.view [.sel [2, 3, 8, 13] [1, 2]]) (.sub (scOf ql1) qzx)) (.seq (.reg [ao 73 (.load true 4 13),
 ao 74 (.mv 2),
 .call (po 75 (.call 53 [73, 74, (.c (.int .u64 0))])) 53 qpq,
 ao 72 (.mv 75),
 ao 76 (.ext 72 0),
 ao 77 (.ext 72 1),
 ao 14 (.alloc [(.bool false), (.int .u64 0), (.int .u64 0), (.int .i64 0)]),
 an (.store 4 14 76),
 ao 15 (.mv 77)]) (.seq (.reg [ao 78 (.load true 4 14),
 an (.store 4 8 78),
 ao 9 (.mv (.c (.int .i64 0)))]) (.ret)))))))))))))
theorem qbkz : AC.ok Try.prog (TIof Try.prog) 79 0 (kret [(.cell 8 true 4), .t 9] qco) qxg := qm (zA (qd.ok qt3) (zA (qd.ok qbev) (zA qbcr (zA qbct (zA (qd.ok qbab) (zA (qd.ok q8n) (zA qbcv (zA (qd.ok q1e) trivial))))))))
theorem qbo5 (v0 : List AV) (Am : Bool) (An Ao Ap v2 v3 : Int) : den 0 (kret [(.cell 8 true 4), .t 9] qco) qxg (qi [(0, (.sl 8 v0)), (1, .agg (qa Am An Ao Ap)), (2, (.int .i64 v2)), (3, (.int .i64 v3))]) (qh []) (kend (kret [(.cell 8 true 4), .t 9] qco)) = ql2 v0 Am An Ao Ap v2 v3 := by
  rw [q5f]; kernel_rfl
theorem qbo6 : cFn (TIof Try.prog) Try.f16 = some ⟨79, [(.cell 8 true 4), .t 9], scOf qxg⟩ := by kernel_rfl
def qbo7 (xs : List AV) : Option (AV × Int) := qb ((qj xs) 1).cells (ql2 (gL [(qj xs) 0] 0)) (gI [(qj xs) 2] 0) (gI [(qj xs) 3] 0)
def qto {R : Type} : List AV → (AV → Option R) → Option R := entF qbio qbo7 qbin
theorem q69 {R : Type} : qd Try.prog 16 (qto (R := R)) :=
  qt tabOk follows Try.func16 (by kernel_rfl) qbo6 (fun z r h => by
 obtain ⟨h1, h2⟩ := qq h
 cases h2
 exact (qc9 h1).symm) qbkz (qo (by kernel_rfl)) fun xs => qbo5 _ _ _ _ _ _ _
def qbbm : Shp := ⟨[(0, .one (.l (.sl 8))), (1, .st (lk qc))], []⟩
def qrk (v0 : List AV) (Am : Bool) (An Ao Ap : Int) : Option Bool :=
  (oB (qje v0 Am An Ao Ap) fun r1 => (some (r1.2 && ((gI r1.1.cells 4) == (1 : Int)))))
def qor := hull qrk
theorem qzy : qor = qrk := qk _
def qrl : AC Bool :=
  .seq (.reg [ao 3 (.box 1),
 ao 4 (.mv (.c (.bool false)))]) (.seq (.reg [ao 8 (.mv 0),
 ao 9 (.load true 4 3),
 .call (po 10 (.call 37 [8, 9])) 37 qmd,
 ao 7 (.mv 10),
 ao 11 (.ext 7 0),
 ao 12 (.ext 7 1),
 ao 5 (.alloc [(.bool false), (.int .u64 0), (.int .u64 0), (.int .i64 0), (.int .i64 0), (.str []), (.str []), (.int .i64 0)]),
 an (.store 8 5 11),
 ao 6 (.mv 12)]) (.seq (.reg [ao 13 (.mv 6),
 ao 14 (.mv 13),
 .grp 14 true [(pg 15 14 true (.fa 4 5)), (pg 16 14 true (.load false 1 15)), (pg 17 14 true (.bin .eql 16 (.c (.int .i64 1))))] 18 17,
 ao 4 (.mv 18)]) (.ret)))
theorem qbcw : AC.ok Try.prog (TIof Try.prog) 19 0 (kret [.t 4] decB) qrl := qm (zA (qd.ok qt3) trivial)
theorem qbe7 (v0 : List AV) (Am : Bool) (An Ao Ap : Int) : den 0 (kret [.t 4] decB) qrl (qi [(0, (.sl 8 v0)), (1, .agg (qa Am An Ao Ap))]) (qh []) (kend (kret [.t 4] decB)) = qor v0 Am An Ao Ap := by
  rw [qzy]; kernel_rfl
theorem qbe8 : cFn (TIof Try.prog) Try.f56 = some ⟨19, [.t 4], scOf qrl⟩ := by kernel_rfl
def qbe9 (xs : List AV) : Option Bool := qb ((qj xs) 1).cells (qor (gL [(qj xs) 0] 0))
def qxz {R : Type} : List AV → (AV → Option R) → Option R := entF qbbm qbe9 AV.bool
theorem qbfa {R : Type} : qd Try.prog 56 (qxz (R := R)) :=
  qt tabOk follows Try.func56 (by kernel_rfl) qbe8 hdeB qbcw (qo (by kernel_rfl)) fun xs => qbe7 _ _ _ _ _
def qrm (z : AV) : Option (Int × Bool) := cond (qfn [(.one (.i .i64)), (.one .b)] z) (some (aI (gC (tpL z) 0), aB (gC (tpL z) 1))) none
def qbfb (r : Int × Bool) : AV := .tup [.int .i64 r.1, .bool r.2]
def qbfc : Shp := ⟨[(0, .one (.l (.sl 8))), (1, .st (lk qc))], []⟩
def qu9 (v0 : List AV) (Am : Bool) (An Ao Ap : Int) : Option (Int × Bool) :=
  (oB (qor v0 Am An Ao Ap) fun r1 => (bif (!r1) then (some ((0 : Int), false)) else (oB (ql7 v0 Am An Ao Ap) fun r2 => (oB (qgu r2 (128 : Int) (-1 : Int)) fun r3 => (some ((gI r3.1.cells 3), r3.2))))))
def qnk := hull qu9
theorem q2w : qnk = qu9 := qk _
def qva : AC (Int × Bool) :=
  .seq (.reg [ao 3 (.box 1),
 ao 4 (.mv (.c (.int .i64 0))),
 ao 5 (.mv (.c (.bool false)))]) (.seq (.seq (.reg [ao 8 (.mv 0),
 ao 9 (.load true 4 3),
 .call (po 10 (.call 56 [8, 9])) 56 qxz,
 ao 11 (.un .not 10)]) (.cond 11 (.seq (.reg [ao 4 (.mv (.c (.int .i64 0))),
 ao 5 (.mv (.c (.bool false)))]) (.ret)) (.skip))) (.seq (.reg [ao 13 (.mv 0),
 ao 14 (.load true 4 3),
 .callc (po 15 (.call 51 [13, 14])) 51 qxe,
 .call (po 16 (.call 50 [15, (.c (.int .i64 128)), (.c (.int .i64 (-1)))])) 50 qu8,
 ao 12 (.mv 16),
 ao 17 (.ext 12 0),
 ao 18 (.ext 12 1),
 ao 6 (.alloc [(.bool false), (.int .u64 0), (.int .u64 0), (.int .i64 0)]),
 an (.store 4 6 17),
 ao 7 (.mv 18)]) (.seq (.reg [ao 19 (.fa 3 6),
 ao 20 (.load false 1 19),
 ao 21 (.mv 7),
 ao 4 (.mv 20),
 ao 5 (.mv 21)]) (.ret))))
theorem qbip : AC.ok Try.prog (TIof Try.prog) 22 0 (kret [.t 4, .t 5] qrm) qva := qm (zA (qd.ok qbfa) (zA (qd.ok qbab) (zA (qd.ok q8n) trivial)))
theorem qbk0 (v0 : List AV) (Am : Bool) (An Ao Ap : Int) : den 0 (kret [.t 4, .t 5] qrm) qva (qi [(0, (.sl 8 v0)), (1, .agg (qa Am An Ao Ap))]) (qh []) (kend (kret [.t 4, .t 5] qrm)) = qnk v0 Am An Ao Ap := by
  rw [q2w]; kernel_rfl
theorem qbk1 : cFn (TIof Try.prog) Try.f18 = some ⟨22, [.t 4, .t 5], scOf qva⟩ := by kernel_rfl
def qbk2 (xs : List AV) : Option (Int × Bool) := qb ((qj xs) 1).cells (qnk (gL [(qj xs) 0] 0))
def q1j {R : Type} : List AV → (AV → Option R) → Option R := entF qbfc qbk2 qbfb
theorem qbk3 {R : Type} : qd Try.prog 18 (q1j (R := R)) :=
  qt tabOk follows Try.func18 (by kernel_rfl) qbk1 (fun z r h => by
 obtain ⟨h1, h2⟩ := qq h
 cases h2
 exact (qc9 h1).symm) qbip (qo (by kernel_rfl)) fun xs => qbk0 _ _ _ _ _
def qbrn : Shp := ⟨[(0, .st (lk qc))], []⟩
def q3n (Ae : Bool) (Af Ag Ah : Int) : Option Int :=
  (bif Ae then (some (128 : Int)) else (some (32 : Int)))
def qvb := hull q3n
theorem qbac : qvb = q3n := qk _
def q3o : AC Int :=
  .seq (.reg [ao 1 (.box 0),
 ao 2 (.mv (.c (.int .i64 0)))]) (.seq (.seq (.reg [ao 3 (.fa 0 1),
 ao 4 (.fa 0 3),
 ao 5 (.load false 1 4)]) (.cond 5 (.seq (.reg [ao 2 (.mv (.c (.int .i64 128)))]) (.ret)) (.skip))) (.seq (.reg [ao 2 (.mv (.c (.int .i64 32)))]) (.ret)))
theorem qbto : AC.ok Try.prog (TIof Try.prog) 6 0 (kret [.t 2] (decI .i64)) q3o := qm trivial
theorem qbvq (Ae : Bool) (Af Ag Ah : Int) : den 0 (kret [.t 2] (decI .i64)) q3o (qi [(0, .agg (qa Ae Af Ag Ah))]) (qh []) (kend (kret [.t 2] (decI .i64))) = qvb Ae Af Ag Ah := by
  rw [qbac]; kernel_rfl
theorem qbvr : cFn (TIof Try.prog) Try.f91 = some ⟨6, [.t 2], scOf q3o⟩ := by kernel_rfl
def qbvs (xs : List AV) : Option Int := qb ((qj xs) 0).cells (qvb)
def q8o {R : Type} : List AV → (AV → Option R) → Option R := entF qbrn qbvs (AV.int .i64)
theorem qbvt {R : Type} : qd Try.prog 91 (q8o (R := R)) :=
  qt tabOk follows Try.func91 (by kernel_rfl) qbvr hdeI qbto (qo (by kernel_rfl)) fun xs => qbvq _ _ _ _
def qk6  (K : Ex → Env → Mem → Option Bool) := (fun (_ : Unit) => K (.exit 0) (qi []) (qh []))
def qbbn : Shp := ⟨[(0, .one (.l .s)), (19, .one (.l (.i .i64))), (20, .one (.l (.i .i64)))], []⟩
def qqc (v0 : List UInt8) (v19 v20 : Int) : Env := qi [(0, (.str v0)), (19, (.int .i64 v19)), (20, (.int .i64 v20))]
def qqd (v0 : List UInt8) (v19 v20 : Int) : Mem := qh []
def qgv  (v0 : List UInt8) (v19 v20 : Int) (next : Int → Option Bool) (kx0 : Unit → Option Bool) : Option Bool :=
  (bif (decide (v20 < v19)) then (oB (ixB v0 v20) fun c1 => (bif (decide ((c1.toNat : Int) < (33 : Int))) then (some false) else (oB (ixB v0 v20) fun c2 => (bif (decide ((c2.toNat : Int) > (126 : Int))) then (some false) else (next (IntKind.i64.wrap (v20 + (1 : Int)))))))) else (kx0 ()))
def qmx  (v0 : List UInt8) (v19 : Int) (kx0 : Unit → Option Bool) : Nat → Int → Option Bool
  | 0 => (fun _ => none)
  | n + 1 => (fun v20 => qgv v0 v19 v20 (qmx v0 v19 kx0 n) kx0)
def qll := hull (qmx)
theorem qzz : qll = qmx := qk _
def qgw : AC Bool :=
  .seq (.reg [ao 21 (.bin .lss 20 19)]) (.seq (.cond 21 (.skip) (.seq (.view [.sel [] []]) (.exit 0))) (.seq (.block 1 (.seq (.reg [ao 22 (.mv 20),
 ao 7 (.mv 22)]) (.seq (.reg [ao 23 (.mv 0),
 ao 24 (.mv 7),
 ao 25 (.ixs 23 24),
 ao 26 (.bin .lss 25 (.c (.int .u8 33))),
 ao 27 (.mv 26),
 ag 28 27 false (.mv 0),
 ag 29 27 false (.mv 7),
 ag 30 27 false (.ixs 28 29),
 ag 31 27 false (.bin .gtr 30 (.c (.int .u8 126))),
 ao 32 (.pick 27 (.c (.bool true)) 31)]) (.cond 32 (.seq (.reg [ao 6 (.mv (.c (.bool false)))]) (.ret)) (.skip))))) (.seq (.reg [ao 33 (.bin .add 20 (.c (.int .i64 1))),
 ao 20 (.mv 33)]) (.view [.sel [0, 19, 20] []]))))
theorem qbcx : AC.ok Try.prog (TIof Try.prog) 34 0 (kret [.t 6] decB) qgw := qm trivial
theorem qbbo (v0 : List UInt8) (v19 v20 : Int) (K : Ex → Env → Mem → Option Bool) : den 0 (kret [.t 6] decB) qgw (qqc v0 v19 v20) (qqd v0 v19 v20) K = qgv v0 v19 v20 (fun z_v20 => K .norm (qqc v0 v19 z_v20) (qqd v0 v19 z_v20)) (qk6 K) := by kernel_rfl
theorem qbfd (v0 : List UInt8) (v19 : Int) (K : Ex → Env → Mem → Option Bool) : ∀ (n : Nat) (v20 : Int), qe2 (den 0 (kret [.t 6] decB) qgw) n (qqc v0 v19 v20) (qqd v0 v19 v20) K = qll v0 v19 (qk6 K) n v20 := by
  rw [qzz]
  intro n
  induction n with
  | zero => intros; rfl
  | succ n ih =>
 intro v20
 exact (qbbo v0 v19 v20 (itK (den 0 (kret [.t 6] decB) qgw) n K)).trans (congrArg (fun q => qgv v0 v19 v20 q (qk6 K)) (funext fun v20 => ih v20))
def q1k := subE (R := Bool) qbbn fun t m K => qll (gS [t 0] 0) (gI [t 19] 0) (qk6 K) FU (gI [t 20] 0)
theorem qbfe : qby Try.prog (TIof Try.prog) 34 0 (kret [.t 6] decB) (.loop (scOf qgw)) (q1k) :=
  qd9 tabOk follows (qbcx) (qo (by kernel_rfl)) fun t m K => qbfd _ _ K FU _
def qbk4 : Shp := ⟨[(0, .one (.l .s)), (1, .one (.l (.i .i64))), (2, .one (.l (.i .i64)))], []⟩
def qy3 (v0 : List UInt8) (v1 v2 : Int) : Option Bool :=
  (bif ((decide ((v0.length : Int) < v1)) || (decide ((v0.length : Int) > v2))) then (some false) else (qll v0 (v0.length : Int) (fun (_ : Unit) => (some true)) FU (0 : Int)))
def qm5 := hull qy3
theorem q7a : qm5 = qy3 := qk _
def qy4 : AC Bool :=
  .seq (.reg [ao 6 (.mv (.c (.bool false)))]) (.seq (.seq (.reg [ao 8 (.mv 0),
 ao 9 (.len true 8),
 ao 10 (.mv 1),
 ao 11 (.bin .lss 9 10),
 ao 12 (.mv 11),
 .grp 12 false [(pg 13 12 false (.mv 0)), (pg 14 12 false (.len true 13)), (pg 15 12 false (.mv 2)), (pg 16 12 false (.bin .gtr 14 15))] 17 16]) (.cond 17 (.seq (.reg [ao 6 (.mv (.c (.bool false)))]) (.ret)) (.skip))) (.seq (.seq (.reg [ao 18 (.mv 0),
 ao 19 (.len true 18),
 ao 20 (.mv (.c (.int .i64 0)))]) (.block 0 (.seq (.view [.sel [0, 19, 20] []]) (.sub (.loop (scOf qgw)) q1k)))) (.seq (.reg [ao 6 (.mv (.c (.bool true)))]) (.ret))))
theorem qbo8 : AC.ok Try.prog (TIof Try.prog) 34 0 (kret [.t 6] decB) qy4 := qm (zA qbfe trivial)
theorem qbro (v0 : List UInt8) (v1 v2 : Int) : den 0 (kret [.t 6] decB) qy4 (qi [(0, (.str v0)), (1, (.int .i64 v1)), (2, (.int .i64 v2))]) (qh []) (kend (kret [.t 6] decB)) = qm5 v0 v1 v2 := by
  rw [q7a]; kernel_rfl
theorem qbrp : cFn (TIof Try.prog) Try.f92 = some ⟨34, [.t 6], scOf qy4⟩ := by kernel_rfl
def qbrq (xs : List AV) : Option Bool := qm5 (gS [(qj xs) 0] 0) (gI [(qj xs) 1] 0) (gI [(qj xs) 2] 0)
def qvc {R : Type} : List AV → (AV → Option R) → Option R := entF qbk4 qbrq AV.bool
theorem q8p {R : Type} : qd Try.prog 92 (qvc (R := R)) :=
  qt tabOk follows Try.func92 (by kernel_rfl) qbrp hdeB qbo8 (qo (by kernel_rfl)) fun xs => qbro _ _ _
def q2x  (Aa : Bool) (Ab Ac Ad Au : Int) (Av Aw : List UInt8) (Ax : Int) (K : Ex → Env → Mem → Option Int) := (fun z_v28 => K .norm (qi [(1, (.ptr 0 0)), (28, (.bool z_v28))]) (qh [(some (.box true (qp Aa Ab Ac Ad Au Av Aw Ax)))]))
def qbff : Shp := ⟨[(1, .one (.ptr 0 0))], [.box true (lk qe)]⟩
def qvd  (Aa : Bool) (Ab Ac Ad Au : Int) (Av Aw : List UInt8) (Ax : Int) (kn : Bool → Option Int) : Option Int :=
  (bif (decide (Au < (1 : Int))) then (kn true) else (bif (decide (Au > (3 : Int))) then (kn true) else (bif (Au == (3 : Int)) then (oB (qvb Aa Ab Ac Ad) fun r1 => (kn (Ad != r1))) else (kn false))))
def qrn := hull (qvd)
theorem q2y : qrn = qvd := qk _
def qos : AC Int :=
  .seq (.draw [] [ao 7 (.fa 4 1),
 ao 8 (.load false 1 7),
 ao 9 (.bin .lss 8 (.c (.int .i64 1))),
 ao 10 (.mv 9),
 ag 11 10 false (.fa 4 1),
 ag 12 10 false (.load false 1 11),
 ag 13 10 false (.bin .gtr 12 (.c (.int .i64 3))),
 ao 14 (.pick 10 (.c (.bool true)) 13),
 ao 15 (.mv 14),
 ag 16 15 false (.fa 4 1),
 ag 17 15 false (.load false 1 16),
 ag 18 15 false (.bin .eql 17 (.c (.int .i64 3))),
 ag 19 15 false (.mv 18),
 ag 20 19 true (.fa 0 1),
 ag 21 19 true (.fa 3 20),
 ag 22 19 true (.load false 1 21),
 ag 23 19 true (.fa 0 1),
 ag 24 19 true (.load true 4 23),
 .call (pg 25 19 true (.call 91 [24])) 91 q8o] [ag 26 19 true (.bin .neq 22 25),
 ag 27 15 false (.pick 19 26 (.c (.bool false))),
 ao 28 (.pick 15 (.c (.bool true)) 27)]) (.view [.sel [1, 28] [0]])
theorem qbiq : AC.ok Try.prog (TIof Try.prog) 49 0 (kret [.t 2] (decI .i64)) qos := qm (zA (qd.ok qbvt) (zA rfl trivial))
theorem qbk5 (Aa : Bool) (Ab Ac Ad Au : Int) (Av Aw : List UInt8) (Ax : Int) (K : Ex → Env → Mem → Option Int) : den 0 (kret [.t 2] (decI .i64)) qos (qi [(1, (.ptr 0 0))]) (qh [(some (.box true (qp Aa Ab Ac Ad Au Av Aw Ax)))]) K = qrn Aa Ab Ac Ad Au Av Aw Ax (q2x Aa Ab Ac Ad Au Av Aw Ax K) := by
  rw [q2y]; kernel_rfl
def q5g := subE (R := Int) qbff fun t m K => qr (bxC (m.s 0)) (qrn) (q2x (gB (bxC (m.s 0)) 0) (gI (bxC (m.s 0)) 1) (gI (bxC (m.s 0)) 2) (gI (bxC (m.s 0)) 3) (gI (bxC (m.s 0)) 4) (gS (bxC (m.s 0)) 5) (gS (bxC (m.s 0)) 6) (gI (bxC (m.s 0)) 7) K)
theorem qbk6 : qby Try.prog (TIof Try.prog) 49 0 (kret [.t 2] (decI .i64)) (scOf qos) (q5g) :=
  qex tabOk follows (qbiq) (qo (by kernel_rfl)) fun t m K => qbk5 _ _ _ _ _ _ _ _ K
def qbrr : Shp := ⟨[(0, .st (lk qe))], []⟩
def q3p (Ae : Bool) (Af Ag Ah Ai : Int) (Aj Ak : List UInt8) (Al : Int) : Option Int :=
  (oB (qhh Ae Af Ag Ah) fun r1 => (bif (!r1) then (some (3 : Int)) else (qrn Ae Af Ag Ah Ai Aj Ak Al (fun v28q2 => (bif v28q2 then (some (1 : Int)) else (oB (qm5 Aj (1 : Int) (63 : Int)) fun r3 => (bif (!r3) then (some (1 : Int)) else (oB (qm5 Ak (0 : Int) (32 : Int)) fun r4 => (bif (((!r4) || (decide (Al < (0 : Int)))) || (decide (Al > (4294967295 : Int)))) then (some (1 : Int)) else (some (0 : Int)))))))))))
def qqe := hull q3p
theorem qbad : qqe = q3p := qk _
def q3q : AC Int :=
  .seq (.reg [ao 1 (.box 0),
 ao 2 (.mv (.c (.int .i64 0)))]) (.seq (.seq (.reg [ao 3 (.fa 0 1),
 ao 4 (.load true 4 3),
 .call (po 5 (.call 61 [4])) 61 qhl,
 ao 6 (.un .not 5)]) (.cond 6 (.seq (.reg [ao 2 (.mv (.c (.int .i64 3)))]) (.ret)) (.skip))) (.seq (.seq (.seq (.view [.sel [1] [0]]) (.sub (scOf qos) q5g)) (.cond 28 (.seq (.reg [ao 2 (.mv (.c (.int .i64 1)))]) (.ret)) (.skip))) (.seq (.seq (.reg [ao 29 (.fa 5 1),
 ao 30 (.load false 1 29),
 .call (po 31 (.call 92 [30, (.c (.int .i64 1)), (.c (.int .i64 63))])) 92 qvc,
 ao 32 (.un .not 31),
 ao 33 (.mv 32),
 ag 34 33 false (.fa 6 1),
 ag 35 33 false (.load false 1 34),
 .call (pg 36 33 false (.call 92 [35, (.c (.int .i64 0)), (.c (.int .i64 32))])) 92 qvc,
 ag 37 33 false (.un .not 36),
 ao 38 (.pick 33 (.c (.bool true)) 37),
 ao 39 (.mv 38),
 .grp 39 false [(pg 40 39 false (.fa 7 1)), (pg 41 39 false (.load false 1 40)), (pg 42 39 false (.bin .lss 41 (.c (.int .i64 0))))] 43 42,
 ao 44 (.mv 43),
 .grp 44 false [(pg 45 44 false (.fa 7 1)), (pg 46 44 false (.load false 1 45)), (pg 47 44 false (.bin .gtr 46 (.c (.int .i64 4294967295))))] 48 47]) (.cond 48 (.seq (.reg [ao 2 (.mv (.c (.int .i64 1)))]) (.ret)) (.skip))) (.seq (.reg [ao 2 (.mv (.c (.int .i64 0)))]) (.ret)))))
theorem qbtp : AC.ok Try.prog (TIof Try.prog) 49 0 (kret [.t 2] (decI .i64)) q3q := qm (zA (qd.ok qm4) (zA qbk6 (zA (qd.ok q8p) (zA (qd.ok q8p) trivial))))
theorem qbvu (Ae : Bool) (Af Ag Ah Ai : Int) (Aj Ak : List UInt8) (Al : Int) : den 0 (kret [.t 2] (decI .i64)) q3q (qi [(0, .agg (qp Ae Af Ag Ah Ai Aj Ak Al))]) (qh []) (kend (kret [.t 2] (decI .i64))) = qqe Ae Af Ag Ah Ai Aj Ak Al := by
  rw [qbad]; kernel_rfl
theorem qbvv : cFn (TIof Try.prog) Try.f59 = some ⟨49, [.t 2], scOf q3q⟩ := by kernel_rfl
def qbvw (xs : List AV) : Option Int := qr ((qj xs) 0).cells (qqe)
def q8q {R : Type} : List AV → (AV → Option R) → Option R := entF qbrr qbvw (AV.int .i64)
theorem qbvx {R : Type} : qd Try.prog 59 (q8q (R := R)) :=
  qt tabOk follows Try.func59 (by kernel_rfl) qbvv hdeI qbtp (qo (by kernel_rfl)) fun xs => qbvu _ _ _ _ _ _ _ _
def qbo9 : Shp := ⟨[(0, .st (lk qe)), (1, .st (lk qe))], []⟩
def q1l (Ae : Bool) (Af Ag Ah Ai : Int) (Aj Ak : List UInt8) (Al : Int) (Am : Bool) (An Ao Ap Ay : Int) (Az A0 : List UInt8) (A1 : Int) : Option Bool :=
  (bif (Ai == (1 : Int)) then (some true) else (bif (Ai == (2 : Int)) then (some (Ay == (3 : Int))) else (some false)))
def qsg := hull q1l
theorem q8r : qsg = q1l := qk _
def q1m : AC Bool :=
  .seq (.reg [ao 2 (.box 0),
 ao 3 (.box 1),
 ao 4 (.mv (.c (.bool false)))]) (.seq (.reg [ao 5 (.fa 4 2),
 ao 6 (.load false 1 5),
 ao 7 (.bin .eql 6 (.c (.int .i64 1))),
 ao 8 (.mv 7),
 ag 9 8 false (.fa 4 2),
 ag 10 8 false (.load false 1 9),
 ag 11 8 false (.bin .eql 10 (.c (.int .i64 2))),
 ag 12 8 false (.mv 11),
 ag 13 12 true (.fa 4 3),
 ag 14 12 true (.load false 1 13),
 ag 15 12 true (.bin .eql 14 (.c (.int .i64 3))),
 ag 16 8 false (.pick 12 15 (.c (.bool false))),
 ao 17 (.pick 8 (.c (.bool true)) 16),
 ao 4 (.mv 17)]) (.ret))
theorem qbrs : AC.ok Try.prog (TIof Try.prog) 18 0 (kret [.t 4] decB) q1m := qm trivial
theorem qbtq (Ae : Bool) (Af Ag Ah Ai : Int) (Aj Ak : List UInt8) (Al : Int) (Am : Bool) (An Ao Ap Ay : Int) (Az A0 : List UInt8) (A1 : Int) : den 0 (kret [.t 4] decB) q1m (qi [(0, .agg (qp Ae Af Ag Ah Ai Aj Ak Al)), (1, .agg (qp Am An Ao Ap Ay Az A0 A1))]) (qh []) (kend (kret [.t 4] decB)) = qsg Ae Af Ag Ah Ai Aj Ak Al Am An Ao Ap Ay Az A0 A1 := by
  rw [q8r]; kernel_rfl
theorem qbtr : cFn (TIof Try.prog) Try.f95 = some ⟨18, [.t 4], scOf q1m⟩ := by kernel_rfl
def qbts (xs : List AV) : Option Bool := qr ((qj xs) 1).cells (qr ((qj xs) 0).cells (qsg))
def q7b {R : Type} : List AV → (AV → Option R) → Option R := entF qbo9 qbts AV.bool
theorem qbtt {R : Type} : qd Try.prog 95 (q7b (R := R)) :=
  qt tabOk follows Try.func95 (by kernel_rfl) qbtr hdeB qbrs (qo (by kernel_rfl)) fun xs => qbtq _ _ _ _ _ _ _ _ _ _ _ _ _ _ _ _
def qbbp : Shp := ⟨[(0, .st (lk qe)), (1, .one (.ptr 0 0))], [.box true (lk qe)]⟩
def qz0 {R : Type} (KK : AV → Mem → Option R) := (fun v3 Aa Ab Ac Ad Au Av Aw Ax => KK (.bool v3) (qh [(some (.box true [(.bool Aa), (.int .u64 Ab), (.int .u64 Ac), (.int .i64 Ad), (.int .i64 Au), (.str Av), (.str Aw), (.int .i64 Ax)]))]))
def qro {R : Type}  (Ae : Bool) (Af Ag Ah Ai : Int) (Aj Ak : List UInt8) (Al : Int) (Aa : Bool) (Ab Ac Ad Au : Int) (Av Aw : List UInt8) (Ax : Int) (kr : Bool → Bool → Int → Int → Int → Int → (List UInt8) → (List UInt8) → Int → Option R) : Option R :=
  (oB (qo5 Aa Ab Ac Ad Ae Af Ag Ah) fun r1 => (bif r1 then (oB (qsg Ae Af Ag Ah Ai Aj Ak Al Aa Ab Ac Ad Au Av Aw Ax) fun r2 => (kr (!r2) Aa Ab Ac Ad Au Av Aw Ax)) else (kr false Aa Ab Ac Ad Au Av Aw Ax)))
def qlm {R : Type} := hull (qro (R := R))
theorem qz1 {R : Type} : qlm (R := R) = qro := qk _
def qgx {R : Type} (KK : AV → Mem → Option R) : AC R :=
  .seq (.reg [ao 2 (.box 0),
 ao 3 (.mv (.c (.bool false)))]) (.seq (.reg [ao 4 (.fa 0 1),
 ao 5 (.load true 4 4),
 ao 6 (.fa 0 2),
 ao 7 (.load true 4 6),
 .call (po 8 (.call 83 [5, 7])) 83 qt4,
 ao 9 (.mv 8),
 ag 10 9 true (.load true 8 2),
 ag 11 9 true (.load true 8 1),
 .call (pg 12 9 true (.call 95 [10, 11])) 95 q7b,
 ag 13 9 true (.un .not 12),
 ao 14 (.pick 9 13 (.c (.bool false))),
 ao 3 (.mv 14)]) (.seq (.view [.sel [3] [0]]) (.ret)))
theorem qbcy {R : Type} (KK : AV → Mem → Option R) : AC.ok Try.prog (TIof Try.prog) 15 1 (qbm [.t 3] KK) (qgx KK) := qm (zA (qd.ok q57) (zA (qd.ok qbtt) trivial))
theorem qbfg {R : Type} (KK : AV → Mem → Option R) (Ae : Bool) (Af Ag Ah Ai : Int) (Aj Ak : List UInt8) (Al : Int) (Aa : Bool) (Ab Ac Ad Au : Int) (Av Aw : List UInt8) (Ax : Int) : den 1 (qbm [.t 3] KK) (qgx KK) (qi [(0, .agg (qp Ae Af Ag Ah Ai Aj Ak Al)), (1, (.ptr 0 0))]) (qh [(some (.box true (qp Aa Ab Ac Ad Au Av Aw Ax)))]) (kend (qbm [.t 3] KK)) = qlm Ae Af Ag Ah Ai Aj Ak Al Aa Ab Ac Ad Au Av Aw Ax (qz0 KK) := by
  rw [qz1]; kernel_rfl
theorem qbfh : cFn (TIof Try.prog) Try.f94 = some ⟨15, [.t 3], scOf (qgx (R := Unit) (fun _ _ => none))⟩ := by kernel_rfl
theorem qbfi {R : Type} (KK : AV → Mem → Option R) : (qgx KK).er = some (scOf (qgx (R := Unit) (fun _ _ => none))) := by kernel_rfl
def q1n {R : Type} : List AV → Mem → (AV → Mem → Option R) → Option R := refE qbbp fun xs m KK => qr (bxC (m.s 0)) (qr ((qj xs) 0).cells (qlm)) (qz0 KK)
theorem qbfj {R : Type} : qm3 Try.prog 94 (q1n (R := R)) :=
  qx4 (ac := fun KK => qgx KK) tabOk follows Try.func94 (by kernel_rfl) qbfh (fun KK => qbcy KK) (fun KK => qbfi KK) rfl fun xs m KK => qbfg KK _ _ _ _ _ _ _ _ _ _ _ _ _ _ _ _
def qbq {R : Type}  (K : Ex → Env → Mem → Option R) := (fun z_b0_0 z_b0_1 z_b0_2 z_b0_3 z_b0_4 z_b0_5 z_b0_6 z_b0_7 => K (.exit 0) (qi []) (qh [(some (.box true (qp z_b0_0 z_b0_1 z_b0_2 z_b0_3 z_b0_4 z_b0_5 z_b0_6 z_b0_7)))]))
def qbr {R : Type} (KK : AV → Mem → Option R) := (fun v4 Aa Ab Ac Ad Au Av Aw Ax => KK (.int .i64 v4) (qh [(some (.box true [(.bool Aa), (.int .u64 Ab), (.int .u64 Ac), (.int .i64 Ad), (.int .i64 Au), (.str Av), (.str Aw), (.int .i64 Ax)]))]))
def qhu : Shp := ⟨[(0, .one (.l (.sl 8))), (1, .one (.fn 94 [(0, 0)])), (7, .one (.l (.i .i64))), (8, .one (.l (.i .i64)))], [.box true (lk qe)]⟩
def qcm (v0 : List AV) (v7 v8 : Int) (Aa : Bool) (Ab Ac Ad Au : Int) (Av Aw : List UInt8) (Ax : Int) : Env := qi [(0, (.sl 8 v0)), (1, (.func 94 [(.ptr 0 0)])), (7, (.int .i64 v7)), (8, (.int .i64 v8))]
def qcn (v0 : List AV) (v7 v8 : Int) (Aa : Bool) (Ab Ac Ad Au : Int) (Av Aw : List UInt8) (Ax : Int) : Mem := qh [(some (.box true (qp Aa Ab Ac Ad Au Av Aw Ax)))]
def qz {R : Type}  (v0 : List AV) (v7 v8 : Int) (Aa : Bool) (Ab Ac Ad Au : Int) (Av Aw : List UInt8) (Ax : Int) (next : Int → Bool → Int → Int → Int → Int → (List UInt8) → (List UInt8) → Int → Option R) (kx0 : Bool → Int → Int → Int → Int → (List UInt8) → (List UInt8) → Int → Option R) (kr : Int → Bool → Int → Int → Int → Int → (List UInt8) → (List UInt8) → Int → Option R) : Option R :=
  (bif (decide (v8 < v7)) then (oB (ixB v0 v8) fun y1 => (bif fitC qe y1.cells then (qlm (gB y1.cells 0) (gI y1.cells 1) (gI y1.cells 2) (gI y1.cells 3) (gI y1.cells 4) (gS y1.cells 5) (gS y1.cells 6) (gI y1.cells 7) Aa Ab Ac Ad Au Av Aw Ax fun v3q2 b0_0q3 b0_1q4 b0_2q5 b0_3q6 b0_4q7 b0_5q8 b0_6q9 b0_7q10 => (bif v3q2 then (kr v8 b0_0q3 b0_1q4 b0_2q5 b0_3q6 b0_4q7 b0_5q8 b0_6q9 b0_7q10) else (next (IntKind.i64.wrap (v8 + (1 : Int))) b0_0q3 b0_1q4 b0_2q5 b0_3q6 b0_4q7 b0_5q8 b0_6q9 b0_7q10))) else none)) else (kx0 Aa Ab Ac Ad Au Av Aw Ax))
def qbt {R : Type}  (v0 : List AV) (v7 : Int) (kx0 : Bool → Int → Int → Int → Int → (List UInt8) → (List UInt8) → Int → Option R) (kr : Int → Bool → Int → Int → Int → Int → (List UInt8) → (List UInt8) → Int → Option R) : Nat → Int → Bool → Int → Int → Int → Int → (List UInt8) → (List UInt8) → Int → Option R
  | 0 => (fun _ _ _ _ _ _ _ _ _ => none)
  | n + 1 => (fun v8 Aa Ab Ac Ad Au Av Aw Ax => qz v0 v7 v8 Aa Ab Ac Ad Au Av Aw Ax (qbt v0 v7 kx0 kr n) kx0 kr)
def qb0 {R : Type} := hull (qbt (R := R))
theorem qdu {R : Type} : qb0 (R := R) = qbt := qk _
def q8 {R : Type} (KK : AV → Mem → Option R) : AC R :=
  .seq (.reg [ao 9 (.bin .lss 8 7)]) (.seq (.cond 9 (.skip) (.seq (.view [.sel [] [0]]) (.exit 0))) (.seq (.block 1 (.seq (.reg [ao 10 (.mv 8),
 ao 5 (.mv 10)]) (.seq (.reg [ao 11 (.mv 1),
 ao 12 (.mv 0),
 ao 13 (.mv 5),
 ao 14 (.ia 8 12 13),
 .st (.etac 14 qe),
 ao 15 (.load true 8 14),
 .st (.sel [0, 1, 5, 7, 8, 11, 15] [0]),
 .callr (po 16 (.callv 11 [15])) 94 q1n]) (.cond 16 (.seq (.reg [ao 17 (.mv 5),
 ao 4 (.mv 17)]) (.seq (.view [.sel [4] [0]]) (.ret))) (.skip))))) (.seq (.reg [ao 18 (.bin .add 8 (.c (.int .i64 1))),
 ao 8 (.mv 18)]) (.view [.sel [0, 1, 7, 8] [0]]))))
theorem qh5 {R : Type} (KK : AV → Mem → Option R) : AC.ok Try.prog (TIof Try.prog) 19 1 (qbm [.t 4] KK) (q8 KK) := qm (zA qbfj trivial)
theorem qhv {R : Type} (KK : AV → Mem → Option R) (v0 : List AV) (v7 v8 : Int) (Aa : Bool) (Ab Ac Ad Au : Int) (Av Aw : List UInt8) (Ax : Int) (K : Ex → Env → Mem → Option R) : den 1 (qbm [.t 4] KK) (q8 KK) (qcm v0 v7 v8 Aa Ab Ac Ad Au Av Aw Ax) (qcn v0 v7 v8 Aa Ab Ac Ad Au Av Aw Ax) K = qz v0 v7 v8 Aa Ab Ac Ad Au Av Aw Ax (fun z_v8 z_b0_0 z_b0_1 z_b0_2 z_b0_3 z_b0_4 z_b0_5 z_b0_6 z_b0_7 => K .norm (qcm v0 v7 z_v8 z_b0_0 z_b0_1 z_b0_2 z_b0_3 z_b0_4 z_b0_5 z_b0_6 z_b0_7) (qcn v0 v7 z_v8 z_b0_0 z_b0_1 z_b0_2 z_b0_3 z_b0_4 z_b0_5 z_b0_6 z_b0_7)) (qbq K) (qbr KK) := by kernel_rfl
theorem qia {R : Type} (KK : AV → Mem → Option R) (v0 : List AV) (v7 : Int) (K : Ex → Env → Mem → Option R) : ∀ (n : Nat) (v8 : Int) (Aa : Bool) (Ab Ac Ad Au : Int) (Av Aw : List UInt8) (Ax : Int), qe2 (den 1 (qbm [.t 4] KK) (q8 KK)) n (qcm v0 v7 v8 Aa Ab Ac Ad Au Av Aw Ax) (qcn v0 v7 v8 Aa Ab Ac Ad Au Av Aw Ax) K = qb0 v0 v7 (qbq K) (qbr KK) n v8 Aa Ab Ac Ad Au Av Aw Ax := by
  rw [qdu]
  intro n
  induction n with
  | zero => intros; rfl
  | succ n ih =>
 intro v8 Aa Ab Ac Ad Au Av Aw Ax
 exact (qhv KK v0 v7 v8 Aa Ab Ac Ad Au Av Aw Ax (itK (den 1 (qbm [.t 4] KK) (q8 KK)) n K)).trans (congrArg (fun q => qz v0 v7 v8 Aa Ab Ac Ad Au Av Aw Ax q (qbq K) (qbr KK)) (funext fun v8 => funext fun Aa => funext fun Ab => funext fun Ac => funext fun Ad => funext fun Au => funext fun Av => funext fun Aw => funext fun Ax => ih v8 Aa Ab Ac Ad Au Av Aw Ax))
def qd3 {R : Type} (KK : AV → Mem → Option R) := subE (R := R) qhu fun t m K => qr (bxC (m.s 0)) (qb0 (gL [t 0] 0) (gI [t 7] 0) (qbq K) (qbr KK) FU (gI [t 8] 0))
theorem qib {R : Type} (KK : AV → Mem → Option R) : qby Try.prog (TIof Try.prog) 19 1 (qbm [.t 4] KK) (.loop (scOf (q8 KK))) (qd3 KK) :=
  qd9 tabOk follows (qh5 KK) (qo (by kernel_rfl)) fun t m K => qia KK _ _ K FU _ _ _ _ _ _ _ _ _
def qio : Shp := ⟨[(0, .one (.l (.sl 8))), (1, .one (.fn 94 [(0, 0)]))], [.box true (lk qe)]⟩
def qej {R : Type} (KK : AV → Mem → Option R) := (fun v4 Aa Ab Ac Ad Au Av Aw Ax => KK (.int .i64 v4) (qh [(some (.box true [(.bool Aa), (.int .u64 Ab), (.int .u64 Ac), (.int .i64 Ad), (.int .i64 Au), (.str Av), (.str Aw), (.int .i64 Ax)]))]))
def qc1 {R : Type}  (v0 : List AV) (Aa : Bool) (Ab Ac Ad Au : Int) (Av Aw : List UInt8) (Ax : Int) (kr : Int → Bool → Int → Int → Int → Int → (List UInt8) → (List UInt8) → Int → Option R) : Option R :=
  (qb0 v0 (v0.length : Int) (fun b0_0q1 b0_1q2 b0_2q3 b0_3q4 b0_4q5 b0_5q6 b0_6q7 b0_7q8 => (kr (-1 : Int) b0_0q1 b0_1q2 b0_2q3 b0_3q4 b0_4q5 b0_5q6 b0_6q7 b0_7q8)) kr FU (0 : Int) Aa Ab Ac Ad Au Av Aw Ax)
def qbn {R : Type} := hull (qc1 (R := R))
theorem qek {R : Type} : qbn (R := R) = qc1 := qk _
def qbe {R : Type} (KK : AV → Mem → Option R) : AC R :=
  .seq (.reg [ao 4 (.mv (.c (.int .i64 0)))]) (.seq (.seq (.reg [ao 6 (.mv 0),
 ao 7 (.len false 6),
 ao 8 (.mv (.c (.int .i64 0)))]) (.block 0 (.seq (.view [.sel [0, 1, 7, 8] [0]]) (.sub (.loop (scOf (q8 KK))) (qd3 KK))))) (.seq (.reg [ao 4 (.mv (.c (.int .i64 (-1))))]) (.seq (.view [.sel [4] [0]]) (.ret))))
theorem qi9 {R : Type} (KK : AV → Mem → Option R) : AC.ok Try.prog (TIof Try.prog) 19 1 (qbm [.t 4] KK) (qbe KK) := qm (zA (qib KK) trivial)
theorem qjp {R : Type} (KK : AV → Mem → Option R) (v0 : List AV) (Aa : Bool) (Ab Ac Ad Au : Int) (Av Aw : List UInt8) (Ax : Int) : den 1 (qbm [.t 4] KK) (qbe KK) (qi [(0, (.sl 8 v0)), (1, (.func 94 [(.ptr 0 0)]))]) (qh [(some (.box true (qp Aa Ab Ac Ad Au Av Aw Ax)))]) (kend (qbm [.t 4] KK)) = qbn v0 Aa Ab Ac Ad Au Av Aw Ax (qej KK) := by
  rw [qek]; kernel_rfl
theorem qjq : cFn (TIof Try.prog) Try.f97 = some ⟨19, [.t 4], scOf (qbe (R := Unit) (fun _ _ => none))⟩ := by kernel_rfl
theorem qjr {R : Type} (KK : AV → Mem → Option R) : (qbe KK).er = some (scOf (qbe (R := Unit) (fun _ _ => none))) := by kernel_rfl
def qet {R : Type} : List AV → Mem → (AV → Mem → Option R) → Option R := refE qio fun xs m KK => qr (bxC (m.s 0)) (qbn (gL [(qj xs) 0] 0)) (qej KK)
theorem qjs {R : Type} : qm3 Try.prog 97 (qet (R := R)) :=
  qx4 (ac := fun KK => qbe KK) tabOk follows Try.func97 (by kernel_rfl) qjq (fun KK => qi9 KK) (fun KK => qjr KK) rfl fun xs m KK => qjp KK _ _ _ _ _ _ _ _ _
def qhw : Shp := ⟨[(0, .one (.l (.sl 8))), (1, .one (.fn 94 [(0, 0)]))], [.box true (lk qe)]⟩
def qdv {R : Type} (KK : AV → Mem → Option R) := (fun v4 Aa Ab Ac Ad Au Av Aw Ax => KK (.bool v4) (qh [(some (.box true [(.bool Aa), (.int .u64 Ab), (.int .u64 Ac), (.int .i64 Ad), (.int .i64 Au), (.str Av), (.str Aw), (.int .i64 Ax)]))]))
def qcq {R : Type}  (v0 : List AV) (Aa : Bool) (Ab Ac Ad Au : Int) (Av Aw : List UInt8) (Ax : Int) (kr : Bool → Bool → Int → Int → Int → Int → (List UInt8) → (List UInt8) → Int → Option R) : Option R :=
  (qbn v0 Aa Ab Ac Ad Au Av Aw Ax fun v4q1 b0_0q2 b0_1q3 b0_2q4 b0_3q5 b0_4q6 b0_5q7 b0_6q8 b0_7q9 => (kr (decide (v4q1 ≥ (0 : Int))) b0_0q2 b0_1q3 b0_2q4 b0_3q5 b0_4q6 b0_5q7 b0_6q8 b0_7q9))
def qb1 {R : Type} := hull (qcq (R := R))
theorem qdw {R : Type} : qb1 (R := R) = qcq := qk _
def q9 {R : Type} (KK : AV → Mem → Option R) : AC R :=
  .seq (.reg [ao 4 (.mv (.c (.bool false)))]) (.seq (.reg [ao 5 (.mv 0),
 ao 6 (.mv 1),
 .st (.sel [5, 6] [0]),
 .callr (po 7 (.call 97 [5, 6])) 97 qet,
 ao 8 (.bin .geq 7 (.c (.int .i64 0))),
 ao 4 (.mv 8)]) (.seq (.view [.sel [4] [0]]) (.ret)))
theorem qh6 {R : Type} (KK : AV → Mem → Option R) : AC.ok Try.prog (TIof Try.prog) 9 1 (qbm [.t 4] KK) (q9 KK) := qm (zA qjs trivial)
theorem qic {R : Type} (KK : AV → Mem → Option R) (v0 : List AV) (Aa : Bool) (Ab Ac Ad Au : Int) (Av Aw : List UInt8) (Ax : Int) : den 1 (qbm [.t 4] KK) (q9 KK) (qi [(0, (.sl 8 v0)), (1, (.func 94 [(.ptr 0 0)]))]) (qh [(some (.box true (qp Aa Ab Ac Ad Au Av Aw Ax)))]) (kend (qbm [.t 4] KK)) = qb1 v0 Aa Ab Ac Ad Au Av Aw Ax (qdv KK) := by
  rw [qdw]; kernel_rfl
theorem qid : cFn (TIof Try.prog) Try.f93 = some ⟨9, [.t 4], scOf (q9 (R := Unit) (fun _ _ => none))⟩ := by kernel_rfl
theorem qie {R : Type} (KK : AV → Mem → Option R) : (q9 KK).er = some (scOf (q9 (R := Unit) (fun _ _ => none))) := by kernel_rfl
def qd4 {R : Type} : List AV → Mem → (AV → Mem → Option R) → Option R := refE qhw fun xs m KK => qr (bxC (m.s 0)) (qb1 (gL [(qj xs) 0] 0)) (qdv KK)
theorem qif {R : Type} : qm3 Try.prog 93 (qd4 (R := R)) :=
  qx4 (ac := fun KK => q9 KK) tabOk follows Try.func93 (by kernel_rfl) qid (fun KK => qh6 KK) (fun KK => qie KK) rfl fun xs m KK => qic KK _ _ _ _ _ _ _ _ _
def qbfk : Shp := ⟨[(0, .one (.l (.sl 8))), (1, .st (lk qe))], []⟩
def qve (v0 : List AV) (Am : Bool) (An Ao Ap Ay : Int) (Az A0 : List UInt8) (A1 : Int) : Option Bool :=
  (qb1 v0 Am An Ao Ap Ay Az A0 A1 fun v4q1 b0_0q2 b0_1q3 b0_2q4 b0_3q5 b0_4q6 b0_5q7 b0_6q8 b0_7q9 => (some v4q1))
def qkr := hull qve
theorem q2z : qkr = qve := qk _
def qvf : AC Bool :=
  .seq (.reg [ao 3 (.box 1),
 ao 4 (.mv (.c (.bool false)))]) (.seq (.reg [ao 5 (.mv 0),
 ao 6 (.mkf 94 [3]),
 .st (.sel [5, 6] [0]),
 .callr (po 7 (.call 93 [5, 6])) 93 qd4,
 ao 4 (.mv 7)]) (.ret))
theorem qbir : AC.ok Try.prog (TIof Try.prog) 8 0 (kret [.t 4] decB) qvf := qm (zA qif trivial)
theorem qbk7 (v0 : List AV) (Am : Bool) (An Ao Ap Ay : Int) (Az A0 : List UInt8) (A1 : Int) : den 0 (kret [.t 4] decB) qvf (qi [(0, (.sl 8 v0)), (1, .agg (qp Am An Ao Ap Ay Az A0 A1))]) (qh []) (kend (kret [.t 4] decB)) = qkr v0 Am An Ao Ap Ay Az A0 A1 := by
  rw [q2z]; kernel_rfl
theorem qbk8 : cFn (TIof Try.prog) Try.f60 = some ⟨8, [.t 4], scOf qvf⟩ := by kernel_rfl
def qbk9 (xs : List AV) : Option Bool := qr ((qj xs) 1).cells (qkr (gL [(qj xs) 0] 0))
def q1o {R : Type} : List AV → (AV → Option R) → Option R := entF qbfk qbk9 AV.bool
theorem qbla {R : Type} : qd Try.prog 60 (q1o (R := R)) :=
  qt tabOk follows Try.func60 (by kernel_rfl) qbk8 hdeB qbir (qo (by kernel_rfl)) fun xs => qbk7 _ _ _ _ _ _ _ _ _
def qbcz : Shp := ⟨[(0, .st (lk qe)), (1, .one (.ptr 0 0))], [.box true (lk qc)]⟩
def q1p {R : Type} (KK : AV → Mem → Option R) := (fun v3 Aa Ab Ac Ad => KK (.bool v3) (qh [(some (.box true [(.bool Aa), (.int .u64 Ab), (.int .u64 Ac), (.int .i64 Ad)]))]))
def qtp {R : Type}  (Ae : Bool) (Af Ag Ah Ai : Int) (Aj Ak : List UInt8) (Al : Int) (Aa : Bool) (Ab Ac Ad : Int) (kr : Bool → Bool → Int → Int → Int → Option R) : Option R :=
  (oB (qo5 Ae Af Ag Ah Aa Ab Ac Ad) fun r1 => (kr r1 Aa Ab Ac Ad))
def qmf {R : Type} := hull (qtp (R := R))
theorem q1q {R : Type} : qmf (R := R) = qtp := qk _
def qhf {R : Type} (KK : AV → Mem → Option R) : AC R :=
  .seq (.reg [ao 2 (.box 0),
 ao 3 (.mv (.c (.bool false)))]) (.seq (.reg [ao 4 (.fa 0 2),
 ao 5 (.load true 4 4),
 ao 6 (.load true 4 1),
 .call (po 7 (.call 83 [5, 6])) 83 qt4,
 ao 3 (.mv 7)]) (.seq (.view [.sel [3] [0]]) (.ret)))
theorem qbfl {R : Type} (KK : AV → Mem → Option R) : AC.ok Try.prog (TIof Try.prog) 8 1 (qbm [.t 3] KK) (qhf KK) := qm (zA (qd.ok q57) trivial)
theorem qbis {R : Type} (KK : AV → Mem → Option R) (Ae : Bool) (Af Ag Ah Ai : Int) (Aj Ak : List UInt8) (Al : Int) (Aa : Bool) (Ab Ac Ad : Int) : den 1 (qbm [.t 3] KK) (qhf KK) (qi [(0, .agg (qp Ae Af Ag Ah Ai Aj Ak Al)), (1, (.ptr 0 0))]) (qh [(some (.box true (qa Aa Ab Ac Ad)))]) (kend (qbm [.t 3] KK)) = qmf Ae Af Ag Ah Ai Aj Ak Al Aa Ab Ac Ad (q1p KK) := by
  rw [q1q]; kernel_rfl
theorem qbit : cFn (TIof Try.prog) Try.f99 = some ⟨8, [.t 3], scOf (qhf (R := Unit) (fun _ _ => none))⟩ := by kernel_rfl
theorem qbiu {R : Type} (KK : AV → Mem → Option R) : (qhf KK).er = some (scOf (qhf (R := Unit) (fun _ _ => none))) := by kernel_rfl
def q20 {R : Type} : List AV → Mem → (AV → Mem → Option R) → Option R := refE qbcz fun xs m KK => qb (bxC (m.s 0)) (qr ((qj xs) 0).cells (qmf)) (q1p KK)
theorem qbiv {R : Type} : qm3 Try.prog 99 (q20 (R := R)) :=
  qx4 (ac := fun KK => qhf KK) tabOk follows Try.func99 (by kernel_rfl) qbit (fun KK => qbfl KK) (fun KK => qbiu KK) rfl fun xs m KK => qbis KK _ _ _ _ _ _ _ _ _ _ _ _
def qbs {R : Type}  (K : Ex → Env → Mem → Option R) := (fun z_b0_0 z_b0_1 z_b0_2 z_b0_3 => K (.exit 0) (qi []) (qh [(some (.box true (qa z_b0_0 z_b0_1 z_b0_2 z_b0_3)))]))
def qbu {R : Type} (KK : AV → Mem → Option R) := (fun v4 Aa Ab Ac Ad => KK (.int .i64 v4) (qh [(some (.box true [(.bool Aa), (.int .u64 Ab), (.int .u64 Ac), (.int .i64 Ad)]))]))
def qh7 : Shp := ⟨[(0, .one (.l (.sl 8))), (1, .one (.fn 99 [(0, 0)])), (7, .one (.l (.i .i64))), (8, .one (.l (.i .i64)))], [.box true (lk qc)]⟩
def qcr (v0 : List AV) (v7 v8 : Int) (Aa : Bool) (Ab Ac Ad : Int) : Env := qi [(0, (.sl 8 v0)), (1, (.func 99 [(.ptr 0 0)])), (7, (.int .i64 v7)), (8, (.int .i64 v8))]
def qcs (v0 : List AV) (v7 v8 : Int) (Aa : Bool) (Ab Ac Ad : Int) : Mem := qh [(some (.box true (qa Aa Ab Ac Ad)))]
def qba {R : Type}  (v0 : List AV) (v7 v8 : Int) (Aa : Bool) (Ab Ac Ad : Int) (next : Int → Bool → Int → Int → Int → Option R) (kx0 : Bool → Int → Int → Int → Option R) (kr : Int → Bool → Int → Int → Int → Option R) : Option R :=
  (bif (decide (v8 < v7)) then (oB (ixB v0 v8) fun y1 => (bif fitC qe y1.cells then (qmf (gB y1.cells 0) (gI y1.cells 1) (gI y1.cells 2) (gI y1.cells 3) (gI y1.cells 4) (gS y1.cells 5) (gS y1.cells 6) (gI y1.cells 7) Aa Ab Ac Ad fun v3q2 b0_0q3 b0_1q4 b0_2q5 b0_3q6 => (bif v3q2 then (kr v8 b0_0q3 b0_1q4 b0_2q5 b0_3q6) else (next (IntKind.i64.wrap (v8 + (1 : Int))) b0_0q3 b0_1q4 b0_2q5 b0_3q6))) else none)) else (kx0 Aa Ab Ac Ad))
def qbv {R : Type}  (v0 : List AV) (v7 : Int) (kx0 : Bool → Int → Int → Int → Option R) (kr : Int → Bool → Int → Int → Int → Option R) : Nat → Int → Bool → Int → Int → Int → Option R
  | 0 => (fun _ _ _ _ _ => none)
  | n + 1 => (fun v8 Aa Ab Ac Ad => qba v0 v7 v8 Aa Ab Ac Ad (qbv v0 v7 kx0 kr n) kx0 kr)
def qb4 {R : Type} := hull (qbv (R := R))
theorem qd5 {R : Type} : qb4 (R := R) = qbv := qk _
def qbb {R : Type} (KK : AV → Mem → Option R) : AC R :=
  .seq (.reg [ao 9 (.bin .lss 8 7)]) (.seq (.cond 9 (.skip) (.seq (.view [.sel [] [0]]) (.exit 0))) (.seq (.block 1 (.seq (.reg [ao 10 (.mv 8),
 ao 5 (.mv 10)]) (.seq (.reg [ao 11 (.mv 1),
 ao 12 (.mv 0),
 ao 13 (.mv 5),
 ao 14 (.ia 8 12 13),
 .st (.etac 14 qe),
 ao 15 (.load true 8 14),
 .st (.sel [0, 1, 5, 7, 8, 11, 15] [0]),
 .callr (po 16 (.callv 11 [15])) 99 q20]) (.cond 16 (.seq (.reg [ao 17 (.mv 5),
 ao 4 (.mv 17)]) (.seq (.view [.sel [4] [0]]) (.ret))) (.skip))))) (.seq (.reg [ao 18 (.bin .add 8 (.c (.int .i64 1))),
 ao 8 (.mv 18)]) (.view [.sel [0, 1, 7, 8] [0]]))))
theorem qig {R : Type} (KK : AV → Mem → Option R) : AC.ok Try.prog (TIof Try.prog) 19 1 (qbm [.t 4] KK) (qbb KK) := qm (zA qbiv trivial)
theorem qh8 {R : Type} (KK : AV → Mem → Option R) (v0 : List AV) (v7 v8 : Int) (Aa : Bool) (Ab Ac Ad : Int) (K : Ex → Env → Mem → Option R) : den 1 (qbm [.t 4] KK) (qbb KK) (qcr v0 v7 v8 Aa Ab Ac Ad) (qcs v0 v7 v8 Aa Ab Ac Ad) K = qba v0 v7 v8 Aa Ab Ac Ad (fun z_v8 z_b0_0 z_b0_1 z_b0_2 z_b0_3 => K .norm (qcr v0 v7 z_v8 z_b0_0 z_b0_1 z_b0_2 z_b0_3) (qcs v0 v7 z_v8 z_b0_0 z_b0_1 z_b0_2 z_b0_3)) (qbs K) (qbu KK) := by kernel_rfl
theorem qip {R : Type} (KK : AV → Mem → Option R) (v0 : List AV) (v7 : Int) (K : Ex → Env → Mem → Option R) : ∀ (n : Nat) (v8 : Int) (Aa : Bool) (Ab Ac Ad : Int), qe2 (den 1 (qbm [.t 4] KK) (qbb KK)) n (qcr v0 v7 v8 Aa Ab Ac Ad) (qcs v0 v7 v8 Aa Ab Ac Ad) K = qb4 v0 v7 (qbs K) (qbu KK) n v8 Aa Ab Ac Ad := by
  rw [qd5]
  intro n
  induction n with
  | zero => intros; rfl
  | succ n ih =>
 intro v8 Aa Ab Ac Ad
 exact (qh8 KK v0 v7 v8 Aa Ab Ac Ad (itK (den 1 (qbm [.t 4] KK) (qbb KK)) n K)).trans (congrArg (fun q => qba v0 v7 v8 Aa Ab Ac Ad q (qbs K) (qbu KK)) (funext fun v8 => funext fun Aa => funext fun Ab => funext fun Ac => funext fun Ad => ih v8 Aa Ab Ac Ad))
def qef {R : Type} (KK : AV → Mem → Option R) := subE (R := R) qh7 fun t m K => qb (bxC (m.s 0)) (qb4 (gL [t 0] 0) (gI [t 7] 0) (qbs K) (qbu KK) FU (gI [t 8] 0))
theorem qiq {R : Type} (KK : AV → Mem → Option R) : qby Try.prog (TIof Try.prog) 19 1 (qbm [.t 4] KK) (.loop (scOf (qbb KK))) (qef KK) :=
  qd9 tabOk follows (qig KK) (qo (by kernel_rfl)) fun t m K => qip KK _ _ K FU _ _ _ _ _
def qja : Shp := ⟨[(0, .one (.l (.sl 8))), (1, .one (.fn 99 [(0, 0)]))], [.box true (lk qc)]⟩
def qeu {R : Type} (KK : AV → Mem → Option R) := (fun v4 Aa Ab Ac Ad => KK (.int .i64 v4) (qh [(some (.box true [(.bool Aa), (.int .u64 Ab), (.int .u64 Ac), (.int .i64 Ad)]))]))
def qc4 {R : Type}  (v0 : List AV) (Aa : Bool) (Ab Ac Ad : Int) (kr : Int → Bool → Int → Int → Int → Option R) : Option R :=
  (qb4 v0 (v0.length : Int) (fun b0_0q1 b0_1q2 b0_2q3 b0_3q4 => (kr (-1 : Int) b0_0q1 b0_1q2 b0_2q3 b0_3q4)) kr FU (0 : Int) Aa Ab Ac Ad)
def qbo {R : Type} := hull (qc4 (R := R))
theorem qev {R : Type} : qbo (R := R) = qc4 := qk _
def qbj {R : Type} (KK : AV → Mem → Option R) : AC R :=
  .seq (.reg [ao 4 (.mv (.c (.int .i64 0)))]) (.seq (.seq (.reg [ao 6 (.mv 0),
 ao 7 (.len false 6),
 ao 8 (.mv (.c (.int .i64 0)))]) (.block 0 (.seq (.view [.sel [0, 1, 7, 8] [0]]) (.sub (.loop (scOf (qbb KK))) (qef KK))))) (.seq (.reg [ao 4 (.mv (.c (.int .i64 (-1))))]) (.seq (.view [.sel [4] [0]]) (.ret))))
theorem qjt {R : Type} (KK : AV → Mem → Option R) : AC.ok Try.prog (TIof Try.prog) 19 1 (qbm [.t 4] KK) (qbj KK) := qm (zA (qiq KK) trivial)
theorem qka {R : Type} (KK : AV → Mem → Option R) (v0 : List AV) (Aa : Bool) (Ab Ac Ad : Int) : den 1 (qbm [.t 4] KK) (qbj KK) (qi [(0, (.sl 8 v0)), (1, (.func 99 [(.ptr 0 0)]))]) (qh [(some (.box true (qa Aa Ab Ac Ad)))]) (kend (qbm [.t 4] KK)) = qbo v0 Aa Ab Ac Ad (qeu KK) := by
  rw [qev]; kernel_rfl
theorem qkb : cFn (TIof Try.prog) Try.f97 = some ⟨19, [.t 4], scOf (qbj (R := Unit) (fun _ _ => none))⟩ := by kernel_rfl
theorem qkc {R : Type} (KK : AV → Mem → Option R) : (qbj KK).er = some (scOf (qbj (R := Unit) (fun _ _ => none))) := by kernel_rfl
def qe0 {R : Type} : List AV → Mem → (AV → Mem → Option R) → Option R := refE qja fun xs m KK => qb (bxC (m.s 0)) (qbo (gL [(qj xs) 0] 0)) (qeu KK)
theorem qkd {R : Type} : qm3 Try.prog 97 (qe0 (R := R)) :=
  qx4 (ac := fun KK => qbj KK) tabOk follows Try.func97 (by kernel_rfl) qkb (fun KK => qjt KK) (fun KK => qkc KK) rfl fun xs m KK => qka KK _ _ _ _ _
end
end Go.Proofs.Ytmfghgaboaocgaa.Dn
