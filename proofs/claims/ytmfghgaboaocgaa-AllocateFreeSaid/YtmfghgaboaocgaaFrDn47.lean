import Derived.Test.YtmfghgaboaocgaaProg
import Derived.Test.YtmfghgaboaocgaaFrLibD
import Derived.Test.YtmfghgaboaocgaaFrDn47x2
set_option linter.all false
namespace Go.Proofs.Ytmfghgaboaocgaa.Dn
open Go Go.Pev
set_option linter.unusedVariables false
set_option linter.unusedSimpArgs false
set_option maxRecDepth 100000
set_option maxHeartbeats 4000000
def qg7 : Shp := ⟨[(0, .one (.l (.sl 8))), (1, .one (.fn 99 [(0, 0)]))], [.box true (lk qc)]⟩
def qd1 {R : Type} (KK : AV → Mem → Option R) := (fun v4 Aa Ab Ac Ad => KK (.bool v4) (qh [(some (.box true [(.bool Aa), (.int .u64 Ab), (.int .u64 Ac), (.int .i64 Ad)]))]))
noncomputable section
def qcr {R : Type}  (v0 : List AV) (Aa : Bool) (Ab Ac Ad : Int) (kr : Bool → Bool → Int → Int → Int → Option R) : Option R :=
  (qbm v0 Aa Ab Ac Ad fun v4q1 b0_0q2 b0_1q3 b0_2q4 b0_3q5 => (kr (decide (v4q1 ≥ (0 : Int))) b0_0q2 b0_1q3 b0_2q4 b0_3q5))
def qb4 {R : Type} := hull (qcr (R := R))
theorem qd2 {R : Type} : qb4 (R := R) = qcr := ql _
def q8 {R : Type} (KK : AV → Mem → Option R) : AC R :=
  .seq (.reg [ao 4 (.mv (.c (.bool false)))]) (.seq (.reg [ao 5 (.mv 0),
 ao 6 (.mv 1),
 .st (.sel [5, 6] [0]),
 .callr (po 7 (.call 97 [5, 6])) 97 qeq,
 ao 8 (.bin .geq 7 (.c (.int .i64 0))),
 ao 4 (.mv 8)]) (.seq (.view [.sel [4] [0]]) (.ret)))
theorem qhf {R : Type} (KK : AV → Mem → Option R) : AC.ok Try.prog (TIof Try.prog) 9 1 (qbk [.t 4] KK) (q8 KK) := qn (zA qi6 trivial)
theorem qhn {R : Type} (KK : AV → Mem → Option R) (v0 : List AV) (Aa : Bool) (Ab Ac Ad : Int) : den 1 (qbk [.t 4] KK) (q8 KK) (qi [(0, (.sl 8 v0)), (1, (.func 99 [(.ptr 0 0)]))]) (qh [(some (.box true (qa Aa Ab Ac Ad)))]) (kend (qbk [.t 4] KK)) = qb4 v0 Aa Ab Ac Ad (qd1 KK) := by
  rw [qd2]; kernel_rfl
theorem qho : cFn (TIof Try.prog) Try.f93 = some ⟨9, [.t 4], scOf (q8 (R := Unit) (fun _ _ => none))⟩ := by kernel_rfl
theorem qhp {R : Type} (KK : AV → Mem → Option R) : (q8 KK).er = some (scOf (q8 (R := Unit) (fun _ _ => none))) := by kernel_rfl
def qd9 {R : Type} : List AV → Mem → (AV → Mem → Option R) → Option R := refE qg7 fun xs m KK => qb (bxC (m.s 0)) (qb4 (gL [(qk xs) 0] 0)) (qd1 KK)
theorem qhq {R : Type} : qit Try.prog 93 (qd9 (R := R)) :=
  qsl (ac := fun KK => q8 KK) tabOk follows Try.func93 (by kernel_rfl) qho (fun KK => qhf KK) (fun KK => qhp KK) rfl fun xs m KK => qhn KK _ _ _ _ _
def q6s : Shp := ⟨[(0, .one (.l (.sl 8))), (1, .st (lk qc))], []⟩
def qr9 (v0 : List AV) (Am : Bool) (An Ao Ap : Int) : Option Bool :=
  (qb4 v0 Am An Ao Ap fun v4q1 b0_0q2 b0_1q3 b0_2q4 b0_3q5 => (some v4q1))
def qkf := hull qr9
theorem qxj : qkf = qr9 := ql _
def qsa : AC Bool :=
  .seq (.reg [ao 3 (.box 1),
 ao 4 (.mv (.c (.bool false)))]) (.seq (.reg [ao 5 (.mv 0),
 ao 6 (.mkf 99 [3]),
 .st (.sel [5, 6] [0]),
 .callr (po 7 (.call 93 [5, 6])) 93 qd9,
 ao 4 (.mv 7)]) (.ret))
theorem q7z : AC.ok Try.prog (TIof Try.prog) 8 0 (kret [.t 4] decB) qsa := qn (zA qhq trivial)
theorem qbar (v0 : List AV) (Am : Bool) (An Ao Ap : Int) : den 0 (kret [.t 4] decB) qsa (qi [(0, (.sl 8 v0)), (1, .agg (qa Am An Ao Ap))]) (qh []) (kend (kret [.t 4] decB)) = qkf v0 Am An Ao Ap := by
  rw [qxj]; kernel_rfl
theorem qbas : cFn (TIof Try.prog) Try.f64 = some ⟨8, [.t 4], scOf qsa⟩ := by kernel_rfl
def qbat (xs : List AV) : Option Bool := qb ((qk xs) 1).cells (qkf (gL [(qk xs) 0] 0))
def qpk {R : Type} : List AV → (AV → Option R) → Option R := entF q6s qbat AV.bool
theorem qy0 {R : Type} : qe Try.prog 64 (qpk (R := R)) :=
  qb6 tabOk follows Try.func64 (by kernel_rfl) qbas hdeB q7z (qbe (by kernel_rfl)) fun xs => qbar _ _ _ _ _
def qbd2 : Shp := ⟨[(0, .one (.l (.i .u64))), (1, .one (.l (.i .u64)))], []⟩
def qyi (v0 v1 : Int) : Option Int :=
  (bif (decide (v0 < v1)) then (some (-1 : Int)) else (bif (decide (v0 > v1)) then (some (1 : Int)) else (some (0 : Int))))
def qsh := hull qyi
theorem q2u : qsh = qyi := ql _
def qyj : AC Int :=
  .seq (.reg [ao 4 (.mv (.c (.int .i64 0)))]) (.seq (.block 0 (.seq (.reg [ao 6 (.mv 0),
 ao 7 (.mv 1),
 ao 8 (.bin .lss 6 7),
 ao 5 (.mv 8)]) (.cond 5 (.seq (.reg [ao 4 (.mv (.c (.int .i64 (-1))))]) (.ret)) (.seq (.reg [ao 10 (.mv 0),
 ao 11 (.mv 1),
 ao 12 (.bin .gtr 10 11),
 ao 9 (.mv 12)]) (.cond 9 (.seq (.reg [ao 4 (.mv (.c (.int .i64 1)))]) (.ret)) (.skip)))))) (.seq (.reg [ao 4 (.mv (.c (.int .i64 0)))]) (.ret)))
theorem qbf7 : AC.ok Try.prog (TIof Try.prog) 13 0 (kret [.t 4] (decI .i64)) qyj := qn trivial
theorem qbip (v0 v1 : Int) : den 0 (kret [.t 4] (decI .i64)) qyj (qi [(0, (.int .u64 v0)), (1, (.int .u64 v1))]) (qh []) (kend (kret [.t 4] (decI .i64))) = qsh v0 v1 := by
  rw [q2u]; kernel_rfl
theorem qbiq : cFn (TIof Try.prog) Try.f105 = some ⟨13, [.t 4], scOf qyj⟩ := by kernel_rfl
def qbir (xs : List AV) : Option Int := qsh (gI [(qk xs) 0] 0) (gI [(qk xs) 1] 0)
def qup {R : Type} : List AV → (AV → Option R) → Option R := entF qbd2 qbir (AV.int .i64)
theorem q5n {R : Type} : qe Try.prog 105 (qup (R := R)) :=
  qb6 tabOk follows Try.func105 (by kernel_rfl) qbiq hdeI qbf7 (qbe (by kernel_rfl)) fun xs => qbip _ _
def qbck : Shp := ⟨[(0, .st (lk qnj)), (1, .st (lk qnj))], []⟩
def qwb (Ae : Bool) (Af Ag : Int) (Am : Bool) (An Ao : Int) : Option Int :=
  (bif ((!((Ae == Am) && true)) && Am) then (some (-1 : Int)) else (bif (!((Ae == Am) && true)) then (some (1 : Int)) else (bif (Af != An) then (oB (qsh Af An) fun r1 => (some r1)) else (oB (qsh Ag Ao) fun r2 => (some r2)))))
def qqs := hull qwb
theorem q1a : qqs = qwb := ql _
def qwc : AC Int :=
  .seq (.reg [ao 2 (.box 0),
 ao 3 (.box 1),
 ao 4 (.mv (.c (.int .i64 0)))]) (.seq (.block 0 (.seq (.reg [ao 6 (.fa 0 2),
 ao 7 (.load false 1 6),
 ao 8 (.fa 0 3),
 ao 9 (.load false 1 8),
 ao 10 (.eq true false [.b] 7 9),
 ao 11 (.mv 10),
 .grp 11 true [(pg 12 11 true (.fa 0 3)), (pg 13 11 true (.load false 1 12))] 14 13,
 ao 5 (.mv 14)]) (.cond 5 (.seq (.reg [ao 4 (.mv (.c (.int .i64 (-1))))]) (.ret)) (.seq (.reg [ao 16 (.fa 0 2),
 ao 17 (.load false 1 16),
 ao 18 (.fa 0 3),
 ao 19 (.load false 1 18),
 ao 20 (.eq true false [.b] 17 19),
 ao 15 (.mv 20)]) (.cond 15 (.seq (.reg [ao 4 (.mv (.c (.int .i64 1)))]) (.ret)) (.seq (.reg [ao 22 (.fa 1 2),
 ao 23 (.load false 1 22),
 ao 24 (.fa 1 3),
 ao 25 (.load false 1 24),
 ao 26 (.bin .neq 23 25),
 ao 21 (.mv 26)]) (.cond 21 (.seq (.reg [ao 27 (.fa 1 2),
 ao 28 (.load false 1 27),
 ao 29 (.fa 1 3),
 ao 30 (.load false 1 29),
 .call (po 31 (.call 105 [28, 30])) 105 qup,
 ao 4 (.mv 31)]) (.ret)) (.skip)))))))) (.seq (.reg [ao 32 (.fa 2 2),
 ao 33 (.load false 1 32),
 ao 34 (.fa 2 3),
 ao 35 (.load false 1 34),
 .call (po 36 (.call 105 [33, 35])) 105 qup,
 ao 4 (.mv 36)]) (.ret)))
theorem qbd3 : AC.ok Try.prog (TIof Try.prog) 37 0 (kret [.t 4] (decI .i64)) qwc := qn (zA (qe.ok q5n) (zA (qe.ok q5n) trivial))
theorem qbf8 (Ae : Bool) (Af Ag : Int) (Am : Bool) (An Ao : Int) : den 0 (kret [.t 4] (decI .i64)) qwc (qi [(0, .agg (qh8 Ae Af Ag)), (1, .agg (qh8 Am An Ao))]) (qh []) (kend (kret [.t 4] (decI .i64))) = qqs Ae Af Ag Am An Ao := by
  rw [q1a]; kernel_rfl
theorem qbf9 : cFn (TIof Try.prog) Try.f70 = some ⟨37, [.t 4], scOf qwc⟩ := by kernel_rfl
def qbga (xs : List AV) : Option Int := qkk ((qk xs) 1).cells (qkk ((qk xs) 0).cells (qqs))
def qzy {R : Type} : List AV → (AV → Option R) → Option R := entF qbck qbga (AV.int .i64)
theorem qbgb {R : Type} : qe Try.prog 70 (qzy (R := R)) :=
  qb6 tabOk follows Try.func70 (by kernel_rfl) qbf9 hdeI qbd3 (qbe (by kernel_rfl)) fun xs => qbf8 _ _ _ _ _ _
def q70 : Shp := ⟨[(0, .st (lk qc)), (1, .st (lk qc))], []⟩
def qta (Ae : Bool) (Af Ag Ah : Int) (Am : Bool) (An Ao Ap : Int) : Option Int :=
  (oB (qqs Ae Af Ag Am An Ao) fun r1 => (bif (r1 != (0 : Int)) then (some r1) else (bif (decide (Ah < Ap)) then (some (-1 : Int)) else (bif (decide (Ah > Ap)) then (some (1 : Int)) else (some (0 : Int))))))
def qk2 := hull qta
theorem qy1 : qk2 = qta := ql _
def qtb : AC Int :=
  .seq (.reg [ao 2 (.box 0),
 ao 3 (.box 1),
 ao 4 (.mv (.c (.int .i64 0)))]) (.seq (.seq (.reg [ao 6 (.fa 0 2),
 ao 7 (.load true 3 6),
 ao 8 (.fa 0 3),
 ao 9 (.load true 3 8),
 .call (po 10 (.call 70 [7, 9])) 70 qzy,
 ao 5 (.mv 10)]) (.seq (.reg [ao 11 (.mv 5),
 ao 12 (.bin .neq 11 (.c (.int .i64 0)))]) (.cond 12 (.seq (.reg [ao 13 (.mv 5),
 ao 4 (.mv 13)]) (.ret)) (.skip)))) (.seq (.block 0 (.seq (.reg [ao 15 (.fa 3 2),
 ao 16 (.load false 1 15),
 ao 17 (.fa 3 3),
 ao 18 (.load false 1 17),
 ao 19 (.bin .lss 16 18),
 ao 14 (.mv 19)]) (.cond 14 (.seq (.reg [ao 4 (.mv (.c (.int .i64 (-1))))]) (.ret)) (.seq (.reg [ao 21 (.fa 3 2),
 ao 22 (.load false 1 21),
 ao 23 (.fa 3 3),
 ao 24 (.load false 1 23),
 ao 25 (.bin .gtr 22 24),
 ao 20 (.mv 25)]) (.cond 20 (.seq (.reg [ao 4 (.mv (.c (.int .i64 1)))]) (.ret)) (.skip)))))) (.seq (.reg [ao 4 (.mv (.c (.int .i64 0)))]) (.ret))))
theorem qbau : AC.ok Try.prog (TIof Try.prog) 26 0 (kret [.t 4] (decI .i64)) qtb := qn (zA (qe.ok qbgb) trivial)
theorem qbcl (Ae : Bool) (Af Ag Ah : Int) (Am : Bool) (An Ao Ap : Int) : den 0 (kret [.t 4] (decI .i64)) qtb (qi [(0, .agg (qa Ae Af Ag Ah)), (1, .agg (qa Am An Ao Ap))]) (qh []) (kend (kret [.t 4] (decI .i64))) = qk2 Ae Af Ag Ah Am An Ao Ap := by
  rw [qy1]; kernel_rfl
theorem qbcm : cFn (TIof Try.prog) Try.f30 = some ⟨26, [.t 4], scOf qtb⟩ := by kernel_rfl
def qbcn (xs : List AV) : Option Int := qb ((qk xs) 1).cells (qb ((qk xs) 0).cells (qk2))
def qqt {R : Type} : List AV → (AV → Option R) → Option R := entF q70 qbcn (AV.int .i64)
theorem qzz {R : Type} : qe Try.prog 30 (qqt (R := R)) :=
  qb6 tabOk follows Try.func30 (by kernel_rfl) qbcm hdeI qbau (qbe (by kernel_rfl)) fun xs => qbcl _ _ _ _ _ _ _ _
def q6t : Shp := ⟨[(0, .st (lk qj)), (1, .one (.ptr 0 0))], [.box true (lk qj)]⟩
def qxk {R : Type} (KK : AV → Mem → Option R) := (fun v3 Aa Ab Ac Ad A6 A7 A8 A9 => KK (.bool v3) (qh [(some (.box true [(.bool Aa), (.int .u64 Ab), (.int .u64 Ac), (.int .i64 Ad), (.int .i64 A6), (.str A7), (.str A8), (.int .i64 A9)]))]))
def qsb {R : Type}  (Ae : Bool) (Af Ag Ah Ai : Int) (Aj Ak : List UInt8) (Al : Int) (Aa : Bool) (Ab Ac Ad A6 : Int) (A7 A8 : List UInt8) (A9 : Int) (kr : Bool → Bool → Int → Int → Int → Int → (List UInt8) → (List UInt8) → Int → Option R) : Option R :=
  (oB (qk2 Ae Af Ag Ah Aa Ab Ac Ad) fun r1 => (kr (decide (r1 > (0 : Int))) Aa Ab Ac Ad A6 A7 A8 A9))
def qlw {R : Type} := hull (qsb (R := R))
theorem qxl {R : Type} : qlw (R := R) = qsb := ql _
def qhz {R : Type} (KK : AV → Mem → Option R) : AC R :=
  .seq (.reg [ao 2 (.box 0),
 ao 3 (.mv (.c (.bool false)))]) (.seq (.reg [ao 4 (.fa 0 2),
 ao 5 (.load true 4 4),
 ao 6 (.fa 0 1),
 ao 7 (.load true 4 6),
 .call (po 8 (.call 30 [5, 7])) 30 qqt,
 ao 9 (.bin .gtr 8 (.c (.int .i64 0))),
 ao 3 (.mv 9)]) (.seq (.view [.sel [3] [0]]) (.ret)))
theorem q71 {R : Type} (KK : AV → Mem → Option R) : AC.ok Try.prog (TIof Try.prog) 10 1 (qbk [.t 3] KK) (qhz KK) := qn (zA (qe.ok qzz) trivial)
theorem qbav {R : Type} (KK : AV → Mem → Option R) (Ae : Bool) (Af Ag Ah Ai : Int) (Aj Ak : List UInt8) (Al : Int) (Aa : Bool) (Ab Ac Ad A6 : Int) (A7 A8 : List UInt8) (A9 : Int) : den 1 (qbk [.t 3] KK) (qhz KK) (qi [(0, .agg (qba Ae Af Ag Ah Ai Aj Ak Al)), (1, (.ptr 0 0))]) (qh [(some (.box true (qba Aa Ab Ac Ad A6 A7 A8 A9)))]) (kend (qbk [.t 3] KK)) = qlw Ae Af Ag Ah Ai Aj Ak Al Aa Ab Ac Ad A6 A7 A8 A9 (qxk KK) := by
  rw [qxl]; kernel_rfl
theorem qbaw : cFn (TIof Try.prog) Try.f108 = some ⟨10, [.t 3], scOf (qhz (R := Unit) (fun _ _ => none))⟩ := by kernel_rfl
theorem qbax {R : Type} (KK : AV → Mem → Option R) : (qhz KK).er = some (scOf (qhz (R := Unit) (fun _ _ => none))) := by kernel_rfl
def qy2 {R : Type} : List AV → Mem → (AV → Mem → Option R) → Option R := refE q6t fun xs m KK => qbn (bxC (m.s 0)) (qbn ((qk xs) 0).cells (qlw)) (qxk KK)
theorem qbay {R : Type} : qit Try.prog 108 (qy2 (R := R)) :=
  qsl (ac := fun KK => qhz KK) tabOk follows Try.func108 (by kernel_rfl) qbaw (fun KK => q71 KK) (fun KK => qbax KK) rfl fun xs m KK => qbav KK _ _ _ _ _ _ _ _ _ _ _ _ _ _ _ _
def qbw {R : Type}  (K : Ex → Env → Mem → Option R) := (fun z_b0_0 z_b0_1 z_b0_2 z_b0_3 z_b0_4 z_b0_5 z_b0_6 z_b0_7 => K (.exit 0) (qi []) (qh [(some (.box true (qba z_b0_0 z_b0_1 z_b0_2 z_b0_3 z_b0_4 z_b0_5 z_b0_6 z_b0_7)))]))
def qb1 {R : Type} (KK : AV → Mem → Option R) := (fun v4 Aa Ab Ac Ad A6 A7 A8 A9 => KK (.int .i64 v4) (qh [(some (.box true [(.bool Aa), (.int .u64 Ab), (.int .u64 Ac), (.int .i64 Ad), (.int .i64 A6), (.str A7), (.str A8), (.int .i64 A9)]))]))
def qhr : Shp := ⟨[(0, .one (.l (.sl 8))), (1, .one (.fn 108 [(0, 0)])), (7, .one (.l (.i .i64))), (8, .one (.l (.i .i64)))], [.box true (lk qj)]⟩
def qcu (v0 : List AV) (v7 v8 : Int) (Aa : Bool) (Ab Ac Ad A6 : Int) (A7 A8 : List UInt8) (A9 : Int) : Env := qi [(0, (.sl 8 v0)), (1, (.func 108 [(.ptr 0 0)])), (7, (.int .i64 v7)), (8, (.int .i64 v8))]
def qcv (v0 : List AV) (v7 v8 : Int) (Aa : Bool) (Ab Ac Ad A6 : Int) (A7 A8 : List UInt8) (A9 : Int) : Mem := qh [(some (.box true (qba Aa Ab Ac Ad A6 A7 A8 A9)))]
def qbc {R : Type}  (v0 : List AV) (v7 v8 : Int) (Aa : Bool) (Ab Ac Ad A6 : Int) (A7 A8 : List UInt8) (A9 : Int) (next : Int → Bool → Int → Int → Int → Int → (List UInt8) → (List UInt8) → Int → Option R) (kx0 : Bool → Int → Int → Int → Int → (List UInt8) → (List UInt8) → Int → Option R) (kr : Int → Bool → Int → Int → Int → Int → (List UInt8) → (List UInt8) → Int → Option R) : Option R :=
  (bif (decide (v8 < v7)) then (oB (ixB v0 v8) fun y1 => (bif fitC qj y1.cells then (qlw (gB y1.cells 0) (gI y1.cells 1) (gI y1.cells 2) (gI y1.cells 3) (gI y1.cells 4) (gS y1.cells 5) (gS y1.cells 6) (gI y1.cells 7) Aa Ab Ac Ad A6 A7 A8 A9 fun v3q2 b0_0q3 b0_1q4 b0_2q5 b0_3q6 b0_4q7 b0_5q8 b0_6q9 b0_7q10 => (bif v3q2 then (kr v8 b0_0q3 b0_1q4 b0_2q5 b0_3q6 b0_4q7 b0_5q8 b0_6q9 b0_7q10) else (next (IntKind.i64.wrap (v8 + (1 : Int))) b0_0q3 b0_1q4 b0_2q5 b0_3q6 b0_4q7 b0_5q8 b0_6q9 b0_7q10))) else none)) else (kx0 Aa Ab Ac Ad A6 A7 A8 A9))
def qb5 {R : Type}  (v0 : List AV) (v7 : Int) (kx0 : Bool → Int → Int → Int → Int → (List UInt8) → (List UInt8) → Int → Option R) (kr : Int → Bool → Int → Int → Int → Int → (List UInt8) → (List UInt8) → Int → Option R) : Nat → Int → Bool → Int → Int → Int → Int → (List UInt8) → (List UInt8) → Int → Option R
  | 0 => (fun _ _ _ _ _ _ _ _ _ => none)
  | n + 1 => (fun v8 Aa Ab Ac Ad A6 A7 A8 A9 => qbc v0 v7 v8 Aa Ab Ac Ad A6 A7 A8 A9 (qb5 v0 v7 kx0 kr n) kx0 kr)
def qb8 {R : Type} := hull (qb5 (R := R))
theorem qed {R : Type} : qb8 (R := R) = qb5 := ql _
def qbd {R : Type} (KK : AV → Mem → Option R) : AC R :=
  .seq (.reg [ao 9 (.bin .lss 8 7)]) (.seq (.cond 9 (.skip) (.seq (.view [.sel [] [0]]) (.exit 0))) (.seq (.block 1 (.seq (.reg [ao 10 (.mv 8),
 ao 5 (.mv 10)]) (.seq (.reg [ao 11 (.mv 1),
 ao 12 (.mv 0),
 ao 13 (.mv 5),
 ao 14 (.ia 8 12 13),
 .st (.etac 14 qj),
 ao 15 (.load true 8 14),
 .st (.sel [0, 1, 5, 7, 8, 11, 15] [0]),
 .callr (po 16 (.callv 11 [15])) 108 qy2]) (.cond 16 (.seq (.reg [ao 17 (.mv 5),
 ao 4 (.mv 17)]) (.seq (.view [.sel [4] [0]]) (.ret))) (.skip))))) (.seq (.reg [ao 18 (.bin .add 8 (.c (.int .i64 1))),
 ao 8 (.mv 18)]) (.view [.sel [0, 1, 7, 8] [0]]))))
theorem qh7 {R : Type} (KK : AV → Mem → Option R) : AC.ok Try.prog (TIof Try.prog) 19 1 (qbk [.t 4] KK) (qbd KK) := qn (zA qbay trivial)
theorem qhs {R : Type} (KK : AV → Mem → Option R) (v0 : List AV) (v7 v8 : Int) (Aa : Bool) (Ab Ac Ad A6 : Int) (A7 A8 : List UInt8) (A9 : Int) (K : Ex → Env → Mem → Option R) : den 1 (qbk [.t 4] KK) (qbd KK) (qcu v0 v7 v8 Aa Ab Ac Ad A6 A7 A8 A9) (qcv v0 v7 v8 Aa Ab Ac Ad A6 A7 A8 A9) K = qbc v0 v7 v8 Aa Ab Ac Ad A6 A7 A8 A9 (fun z_v8 z_b0_0 z_b0_1 z_b0_2 z_b0_3 z_b0_4 z_b0_5 z_b0_6 z_b0_7 => K .norm (qcu v0 v7 z_v8 z_b0_0 z_b0_1 z_b0_2 z_b0_3 z_b0_4 z_b0_5 z_b0_6 z_b0_7) (qcv v0 v7 z_v8 z_b0_0 z_b0_1 z_b0_2 z_b0_3 z_b0_4 z_b0_5 z_b0_6 z_b0_7)) (qbw K) (qb1 KK) := by kernel_rfl
theorem qiq {R : Type} (KK : AV → Mem → Option R) (v0 : List AV) (v7 : Int) (K : Ex → Env → Mem → Option R) : ∀ (n : Nat) (v8 : Int) (Aa : Bool) (Ab Ac Ad A6 : Int) (A7 A8 : List UInt8) (A9 : Int), qht (den 1 (qbk [.t 4] KK) (qbd KK)) n (qcu v0 v7 v8 Aa Ab Ac Ad A6 A7 A8 A9) (qcv v0 v7 v8 Aa Ab Ac Ad A6 A7 A8 A9) K = qb8 v0 v7 (qbw K) (qb1 KK) n v8 Aa Ab Ac Ad A6 A7 A8 A9 := by
  rw [qed]
  intro n
  induction n with
  | zero => intros; rfl
  | succ n ih =>
 intro v8 Aa Ab Ac Ad A6 A7 A8 A9
 exact (qhs KK v0 v7 v8 Aa Ab Ac Ad A6 A7 A8 A9 (itK (den 1 (qbk [.t 4] KK) (qbd KK)) n K)).trans (congrArg (fun q => qbc v0 v7 v8 Aa Ab Ac Ad A6 A7 A8 A9 q (qbw K) (qb1 KK)) (funext fun v8 => funext fun Aa => funext fun Ab => funext fun Ac => funext fun Ad => funext fun A6 => funext fun A7 => funext fun A8 => funext fun A9 => ih v8 Aa Ab Ac Ad A6 A7 A8 A9))
def qeo {R : Type} (KK : AV → Mem → Option R) := subE (R := R) qhr fun t m K => qbn (bxC (m.s 0)) (qb8 (gL [t 0] 0) (gI [t 7] 0) (qbw K) (qb1 KK) FU (gI [t 8] 0))
theorem qir {R : Type} (KK : AV → Mem → Option R) : qc9 Try.prog (TIof Try.prog) 19 1 (qbk [.t 4] KK) (.loop (scOf (qbd KK))) (qeo KK) :=
  qjh tabOk follows (qh7 KK) (qbe (by kernel_rfl)) fun t m K => qiq KK _ _ K FU _ _ _ _ _ _ _ _ _
def qi7 : Shp := ⟨[(0, .one (.l (.sl 8))), (1, .one (.fn 108 [(0, 0)]))], [.box true (lk qj)]⟩
def qes {R : Type} (KK : AV → Mem → Option R) := (fun v4 Aa Ab Ac Ad A6 A7 A8 A9 => KK (.int .i64 v4) (qh [(some (.box true [(.bool Aa), (.int .u64 Ab), (.int .u64 Ac), (.int .i64 Ad), (.int .i64 A6), (.str A7), (.str A8), (.int .i64 A9)]))]))
def qc3 {R : Type}  (v0 : List AV) (Aa : Bool) (Ab Ac Ad A6 : Int) (A7 A8 : List UInt8) (A9 : Int) (kr : Int → Bool → Int → Int → Int → Int → (List UInt8) → (List UInt8) → Int → Option R) : Option R :=
  (qb8 v0 (v0.length : Int) (fun b0_0q1 b0_1q2 b0_2q3 b0_3q4 b0_4q5 b0_5q6 b0_6q7 b0_7q8 => (kr (-1 : Int) b0_0q1 b0_1q2 b0_2q3 b0_3q4 b0_4q5 b0_5q6 b0_6q7 b0_7q8)) kr FU (0 : Int) Aa Ab Ac Ad A6 A7 A8 A9)
def qbo {R : Type} := hull (qc3 (R := R))
theorem qet {R : Type} : qbo (R := R) = qc3 := ql _
def qbi {R : Type} (KK : AV → Mem → Option R) : AC R :=
  .seq (.reg [ao 4 (.mv (.c (.int .i64 0)))]) (.seq (.seq (.reg [ao 6 (.mv 0),
 ao 7 (.len false 6),
 ao 8 (.mv (.c (.int .i64 0)))]) (.block 0 (.seq (.view [.sel [0, 1, 7, 8] [0]]) (.sub (.loop (scOf (qbd KK))) (qeo KK))))) (.seq (.reg [ao 4 (.mv (.c (.int .i64 (-1))))]) (.seq (.view [.sel [4] [0]]) (.ret))))
theorem qjd {R : Type} (KK : AV → Mem → Option R) : AC.ok Try.prog (TIof Try.prog) 19 1 (qbk [.t 4] KK) (qbi KK) := qn (zA (qir KK) trivial)
theorem qjp {R : Type} (KK : AV → Mem → Option R) (v0 : List AV) (Aa : Bool) (Ab Ac Ad A6 : Int) (A7 A8 : List UInt8) (A9 : Int) : den 1 (qbk [.t 4] KK) (qbi KK) (qi [(0, (.sl 8 v0)), (1, (.func 108 [(.ptr 0 0)]))]) (qh [(some (.box true (qba Aa Ab Ac Ad A6 A7 A8 A9)))]) (kend (qbk [.t 4] KK)) = qbo v0 Aa Ab Ac Ad A6 A7 A8 A9 (qes KK) := by
  rw [qet]; kernel_rfl
theorem qjq : cFn (TIof Try.prog) Try.f97 = some ⟨19, [.t 4], scOf (qbi (R := Unit) (fun _ _ => none))⟩ := by kernel_rfl
theorem qjr {R : Type} (KK : AV → Mem → Option R) : (qbi KK).er = some (scOf (qbi (R := Unit) (fun _ _ => none))) := by kernel_rfl
def qey {R : Type} : List AV → Mem → (AV → Mem → Option R) → Option R := refE qi7 fun xs m KK => qbn (bxC (m.s 0)) (qbo (gL [(qk xs) 0] 0)) (qes KK)
theorem qjs {R : Type} : qit Try.prog 97 (qey (R := R)) :=
  qsl (ac := fun KK => qbi KK) tabOk follows Try.func97 (by kernel_rfl) qjq (fun KK => qjd KK) (fun KK => qjr KK) rfl fun xs m KK => qjp KK _ _ _ _ _ _ _ _ _
def qbs (l : List AV) : Option (List AV) := q86 80 l
def qfe {R : Type} (xs : List AV) (K : AV → Option R) : Option R := q48 8 80 xs K
theorem qj4 {R : Type} : qe Try.prog 101 (qfe (R := R)) := qbqu (ρ := qbc2 101 4 22 34) tabOk (qboc follows "slices.Clone[[]ddi/api.Block,ddi/api.Block]" (by kernel_rfl) (by kernel_rfl) (by kernel_rfl) (by kernel_rfl) (by kernel_rfl) (by kernel_rfl) (by kernel_rfl) (by kernel_rfl)) (by kernel_rfl) (by decide) (by decide)
def q5o {R : Type} (vs : List AV) (m : Mem) (K : AV → Mem → Option R) : Option R := q1o 8 80 vs m K
theorem qbis {R : Type} : qit Try.prog 109 (q5o (R := R)) := qboe (ρ := q88 109 113 114 0 3 4 22 34) tabOk (qbm9 follows "slices.Insert[[]ddi/api.Block,ddi/api.Block]" (by kernel_rfl) (by kernel_rfl) Try.func113 (by kernel_rfl) (by kernel_rfl) (by kernel_rfl) (by kernel_rfl) (by kernel_rfl) (by kernel_rfl) (by kernel_rfl) (by kernel_rfl) (by kernel_rfl) (by kernel_rfl) (by kernel_rfl) (by kernel_rfl) (by kernel_rfl) (by kernel_rfl) (by kernel_rfl) (by kernel_rfl) (by kernel_rfl)) (by kernel_rfl) (by kernel_rfl) (by decide) (by decide)
def qvs  (v0 : List AV) (Aa : Bool) (Ab Ac Ad A6 : Int) (A7 A8 : List UInt8) (A9 : Int) (K : Ex → Env → Mem → Option (List AV)) := (fun z_v5 => K .norm (qi [(0, (.sl 8 v0)), (3, (.ptr 0 0)), (5, (.int .i64 z_v5))]) (qh [(some (.box true (qba Aa Ab Ac Ad A6 A7 A8 A9)))]))
def q4d : Shp := ⟨[(0, .one (.l (.sl 8))), (3, .one (.ptr 0 0)), (5, .one (.l (.i .i64)))], [.box true (lk qj)]⟩
def qqu  (v0 : List AV) (v5 : Int) (Aa : Bool) (Ab Ac Ad A6 : Int) (A7 A8 : List UInt8) (A9 : Int) (kn : Int → Option (List AV)) : Option (List AV) :=
  (bif (decide (v5 < (0 : Int))) then (kn (v0.length : Int)) else (kn v5))
def qn1 := hull (qqu)
theorem qvt : qn1 = qqu := ql _
def qlx : AC (List AV) :=
  .seq (.reg [ao 9 (.mv 5),
 ao 10 (.bin .lss 9 (.c (.int .i64 0)))]) (.cond 10 (.seq (.reg [ao 11 (.mv 0),
 ao 12 (.len false 11),
 ao 5 (.mv 12)]) (.view [.sel [0, 3, 5] [0]])) (.seq (.skip) (.view [.sel [0, 3, 5] [0]])))
theorem q6u : AC.ok Try.prog (TIof Try.prog) 19 0 (kret [.t 4] (decF true 8)) qlx := qn trivial
theorem q72 (v0 : List AV) (v5 : Int) (Aa : Bool) (Ab Ac Ad A6 : Int) (A7 A8 : List UInt8) (A9 : Int) (K : Ex → Env → Mem → Option (List AV)) : den 0 (kret [.t 4] (decF true 8)) qlx (qi [(0, (.sl 8 v0)), (3, (.ptr 0 0)), (5, (.int .i64 v5))]) (qh [(some (.box true (qba Aa Ab Ac Ad A6 A7 A8 A9)))]) K = qn1 v0 v5 Aa Ab Ac Ad A6 A7 A8 A9 (qvs v0 Aa Ab Ac Ad A6 A7 A8 A9 K) := by
  rw [qvt]; kernel_rfl
def qxm := subE (R := (List AV)) q4d fun t m K => qbn (bxC (m.s 0)) (qn1 (gL [t 0] 0) (gI [t 5] 0)) (qvs (gL [t 0] 0) (gB (bxC (m.s 0)) 0) (gI (bxC (m.s 0)) 1) (gI (bxC (m.s 0)) 2) (gI (bxC (m.s 0)) 3) (gI (bxC (m.s 0)) 4) (gS (bxC (m.s 0)) 5) (gS (bxC (m.s 0)) 6) (gI (bxC (m.s 0)) 7) K)
theorem q73 : qc9 Try.prog (TIof Try.prog) 19 0 (kret [.t 4] (decF true 8)) (scOf qlx) (qxm) :=
  qi8 tabOk follows (q6u) (qbe (by kernel_rfl)) fun t m K => q72 _ _ _ _ _ _ _ _ _ _ K
def qbaz : Shp := ⟨[(0, .one (.l (.sl 8))), (1, .st (lk qj))], []⟩
def quq (v0 : List AV) (Am : Bool) (An Ao Ap Ba : Int) (Bb Bc : List UInt8) (Bd : Int) : Option (List AV) :=
  (qbo v0 Am An Ao Ap Ba Bb Bc Bd fun v4q1 b0_0q2 b0_1q3 b0_2q4 b0_3q5 b0_4q6 b0_5q7 b0_6q8 b0_7q9 => (qn1 v0 v4q1 b0_0q2 b0_1q3 b0_2q4 b0_3q5 b0_4q6 b0_5q7 b0_6q8 b0_7q9 (fun v5q10 => (oB (qbs v0) fun r11 => (bif hd r11 r11.length then (bif hd ([(.agg [(.bool b0_0q2), (.int .u64 b0_1q3), (.int .u64 b0_2q4), (.int .i64 b0_3q5), (.int .i64 b0_4q6), (.str b0_5q7), (.str b0_6q8), (.int .i64 b0_7q9)])] : List AV) (([(.agg [(.bool b0_0q2), (.int .u64 b0_1q3), (.int .u64 b0_2q4), (.int .i64 b0_3q5), (.int .i64 b0_4q6), (.str b0_5q7), (.str b0_6q8), (.int .i64 b0_7q9)])] : List AV).length) then (oB (qws 80 r11 v5q10 ([(.agg [(.bool b0_0q2), (.int .u64 b0_1q3), (.int .u64 b0_2q4), (.int .i64 b0_3q5), (.int .i64 b0_4q6), (.str b0_5q7), (.str b0_6q8), (.int .i64 b0_7q9)])] : List AV)) fun r12 => (bif hd r12 r12.length then (some r12) else none)) else none) else none)))))
def qor := hull quq
theorem qz0 : qor = quq := ql _
def qur : AC (List AV) :=
  .seq (.reg [ao 3 (.box 1),
 ao 4 (.mv (.c .nils))]) (.seq (.reg [ao 6 (.mv 0),
 ao 7 (.mkf 108 [3]),
 .st (.sel [0, 3, 6, 7] [0]),
 .callr (po 8 (.call 97 [6, 7])) 97 qey,
 ao 5 (.mv 8)]) (.seq (.seq (.view [.sel [0, 3, 5] [0]]) (.sub (scOf qlx) qxm)) (.seq (.draw3 [] [14, 17] [ao 13 (.mv 0),
 .call (po 14 (.call 101 [13])) 101 qfe,
 ao 15 (.mv 5),
 ao 16 (.load true 8 3),
 ao 17 (.bsl 8 [16])] [.callr (po 18 (.call 109 [14, 15, 17])) 109 q5o,
 ao 4 (.mv 18)]) (.ret))))
theorem qbco : AC.ok Try.prog (TIof Try.prog) 19 0 (kret [.t 4] (decF true 8)) qur := qn (zA qjs (zA q73 (zA (qe.ok qj4) (zA qbis (zA rfl trivial)))))
theorem qbd4 (v0 : List AV) (Am : Bool) (An Ao Ap Ba : Int) (Bb Bc : List UInt8) (Bd : Int) : den 0 (kret [.t 4] (decF true 8)) qur (qi [(0, (.sl 8 v0)), (1, .agg (qba Am An Ao Ap Ba Bb Bc Bd))]) (qh []) (kend (kret [.t 4] (decF true 8))) = qor v0 Am An Ao Ap Ba Bb Bc Bd := by
  rw [qz0]; kernel_rfl
theorem qbd5 : cFn (TIof Try.prog) Try.f89 = some ⟨19, [.t 4], scOf qur⟩ := by kernel_rfl
def qbd6 (xs : List AV) : Option (List AV) := qbn ((qk xs) 1).cells (qor (gL [(qk xs) 0] 0))
def qy3 {R : Type} : List AV → (AV → Option R) → Option R := entF qbaz qbd6 (AV.fr true 8)
theorem qbd7 {R : Type} : qe Try.prog 89 (qy3 (R := R)) :=
  qb6 tabOk follows Try.func89 (by kernel_rfl) qbd5 hdeF qbco (qbe (by kernel_rfl)) fun xs => qbd4 _ _ _ _ _ _ _ _ _
def qk3 (z : AV) : Option ((List AV) × Int) := cond (qkp [(.one (.sl 8)), (.one (.i .i64))] z) (some (aL (gC (tpL z) 0), aI (gC (tpL z) 1))) none
def qbgc (r : (List AV) × Int) : AV := .tup [.sl 8 r.1, .int .i64 r.2]
def qy4  (v0 : List AV) (Aa : Bool) (Ab Ac Ad A6 : Int) (A7 A8 : List UInt8) (A9 : Int) (K : Ex → Env → Mem → Option ((List AV) × Int)) := (fun z_v25 => K .norm (qi [(0, (.sl 8 v0)), (3, (.ptr 0 0)), (25, (.bool z_v25))]) (qh [(some (.box true (qba Aa Ab Ac Ad A6 A7 A8 A9)))]))
def q74 : Shp := ⟨[(0, .one (.l (.sl 8))), (3, .one (.ptr 0 0))], [.box true (lk qj)]⟩
def qtc  (v0 : List AV) (Aa : Bool) (Ab Ac Ad A6 : Int) (A7 A8 : List UInt8) (A9 : Int) (kn : Bool → Option ((List AV) × Int)) : Option ((List AV) × Int) :=
  (oB (qgp v0 Aa Ab Ac Ad A6 A7 A8 A9) fun r1 => (bif r1 then (kn true) else (oB (qkf v0 Aa Ab Ac Ad) fun r2 => (kn r2))))
def qrc := hull (qtc)
theorem qy5 : qrc = qtc := ql _
def qn2 : AC ((List AV) × Int) :=
  .seq (.reg [ao 17 (.mv 0),
 ao 18 (.load true 8 3),
 .call (po 19 (.call 60 [17, 18])) 60 qn0,
 ao 20 (.mv 19),
 ag 21 20 false (.mv 0),
 ag 22 20 false (.fa 0 3),
 ag 23 20 false (.load true 4 22),
 .call (pg 24 20 false (.call 64 [21, 23])) 64 qpk,
 ao 25 (.pick 20 (.c (.bool true)) 24)]) (.view [.sel [0, 3, 25] [0]])
theorem qba0 : AC.ok Try.prog (TIof Try.prog) 32 0 (kret [.t 4, .t 5] qk3) qn2 := qn (zA (qe.ok qxi) (zA (qe.ok qy0) trivial))
theorem qbcp (v0 : List AV) (Aa : Bool) (Ab Ac Ad A6 : Int) (A7 A8 : List UInt8) (A9 : Int) (K : Ex → Env → Mem → Option ((List AV) × Int)) : den 0 (kret [.t 4, .t 5] qk3) qn2 (qi [(0, (.sl 8 v0)), (3, (.ptr 0 0))]) (qh [(some (.box true (qba Aa Ab Ac Ad A6 A7 A8 A9)))]) K = qrc v0 Aa Ab Ac Ad A6 A7 A8 A9 (qy4 v0 Aa Ab Ac Ad A6 A7 A8 A9 K) := by
  rw [qy5]; kernel_rfl
def qz1 := subE (R := (List AV) × Int) q74 fun t m K => qbn (bxC (m.s 0)) (qrc (gL [t 0] 0)) (qy4 (gL [t 0] 0) (gB (bxC (m.s 0)) 0) (gI (bxC (m.s 0)) 1) (gI (bxC (m.s 0)) 2) (gI (bxC (m.s 0)) 3) (gI (bxC (m.s 0)) 4) (gS (bxC (m.s 0)) 5) (gS (bxC (m.s 0)) 6) (gI (bxC (m.s 0)) 7) K)
theorem qbcq : qc9 Try.prog (TIof Try.prog) 32 0 (kret [.t 4, .t 5] qk3) (scOf qn2) (qz1) :=
  qi8 tabOk follows (qba0) (qbe (by kernel_rfl)) fun t m K => qbcp _ _ _ _ _ _ _ _ _ K
def qbgd : Shp := ⟨[(0, .one (.l (.sl 8))), (1, .st (lk qj))], []⟩
def qz2 (v0 : List AV) (Am : Bool) (An Ao Ap Ba : Int) (Bb Bc : List UInt8) (Bd : Int) : Option ((List AV) × Int) :=
  (oB (qla Am An Ao Ap Ba Bb Bc Bd) fun r1 => (bif (r1 != (0 : Int)) then (some (([] : List AV), r1)) else (oB (qk8 v0 Am An Ao Ap) fun r2 => (bif (decide (r2 ≥ (0 : Int))) then (some (([] : List AV), (12 : Int))) else (qrc v0 Am An Ao Ap Ba Bb Bc Bd (fun v25q3 => (bif v25q3 then (some (([] : List AV), (24 : Int))) else (bif (decide ((v0.length : Int) ≥ (512 : Int))) then (some (([] : List AV), (9 : Int))) else (oB (qor v0 Am An Ao Ap Ba Bb Bc Bd) fun r4 => (some (r4, (0 : Int))))))))))))
def qus := hull qz2
theorem q5p : qus = qz2 := ql _
def qz3 : AC ((List AV) × Int) :=
  .seq (.reg [ao 3 (.box 1),
 ao 4 (.mv (.c .nils)),
 ao 5 (.mv (.c (.int .i64 0)))]) (.seq (.seq (.reg [ao 7 (.load true 8 3),
 .call (po 8 (.call 59 [7])) 59 qs9,
 ao 6 (.mv 8)]) (.seq (.reg [ao 9 (.mv 6),
 ao 10 (.bin .neq 9 (.c (.int .i64 0)))]) (.cond 10 (.seq (.reg [ao 11 (.mv 6),
 ao 4 (.mv (.c .nils)),
 ao 5 (.mv 11)]) (.seq (.view [.eta 4 (.one (.sl 8))]) (.ret))) (.skip)))) (.seq (.seq (.reg [ao 12 (.mv 0),
 ao 13 (.fa 0 3),
 ao 14 (.load true 4 13),
 .call (po 15 (.call 63 [12, 14])) 63 qni,
 ao 16 (.bin .geq 15 (.c (.int .i64 0)))]) (.cond 16 (.seq (.reg [ao 4 (.mv (.c .nils)),
 ao 5 (.mv (.c (.int .i64 12)))]) (.seq (.view [.eta 4 (.one (.sl 8))]) (.ret))) (.skip))) (.seq (.seq (.seq (.view [.sel [0, 3] [0]]) (.sub (scOf qn2) qz1)) (.cond 25 (.seq (.reg [ao 4 (.mv (.c .nils)),
 ao 5 (.mv (.c (.int .i64 24)))]) (.seq (.view [.eta 4 (.one (.sl 8))]) (.ret))) (.skip))) (.seq (.seq (.reg [ao 26 (.mv 0),
 ao 27 (.len false 26),
 ao 28 (.bin .geq 27 (.c (.int .i64 512)))]) (.cond 28 (.seq (.reg [ao 4 (.mv (.c .nils)),
 ao 5 (.mv (.c (.int .i64 9)))]) (.seq (.view [.eta 4 (.one (.sl 8))]) (.ret))) (.skip))) (.seq (.reg [ao 29 (.mv 0),
 ao 30 (.load true 8 3),
 .callc (po 31 (.call 89 [29, 30])) 89 qy3,
 ao 4 (.mv 31),
 ao 5 (.mv (.c (.int .i64 0)))]) (.ret))))))
theorem qbit : AC.ok Try.prog (TIof Try.prog) 32 0 (kret [.t 4, .t 5] qk3) qz3 := qn (zA (qe.ok q2r) (zA (qe.ok qv0) (zA qbcq (zA (qe.ok qbd7) trivial))))
theorem qbjf (v0 : List AV) (Am : Bool) (An Ao Ap Ba : Int) (Bb Bc : List UInt8) (Bd : Int) : den 0 (kret [.t 4, .t 5] qk3) qz3 (qi [(0, (.sl 8 v0)), (1, .agg (qba Am An Ao Ap Ba Bb Bc Bd))]) (qh []) (kend (kret [.t 4, .t 5] qk3)) = qus v0 Am An Ao Ap Ba Bb Bc Bd := by
  rw [q5p]; kernel_rfl
theorem qbjg : cFn (TIof Try.prog) Try.f57 = some ⟨32, [.t 4, .t 5], scOf qz3⟩ := by kernel_rfl
def qbjh (xs : List AV) : Option ((List AV) × Int) := qbn ((qk xs) 1).cells (qus (gL [(qk xs) 0] 0))
def q2v {R : Type} : List AV → (AV → Option R) → Option R := entF qbgd qbjh qbgc
theorem qbji {R : Type} : qe Try.prog 57 (q2v (R := R)) :=
  qb6 tabOk follows Try.func57 (by kernel_rfl) qbjg (fun z r h => by
 obtain ⟨h1, h2⟩ := qm h
 cases h2
 exact (qgh h1).symm) qbit (qbe (by kernel_rfl)) fun xs => qbjf _ _ _ _ _ _ _ _ _
def qmu (z : AV) : Option ((List AV) × AV × Int) := cond (qkp [(.one (.sl 8)), (.st [.b, (.i .u64), (.i .u64), (.i .i64)]), (.one (.i .i64))] z) (some (aL (gC (tpL z) 0), (gC (tpL z) 1), aI (gC (tpL z) 2))) none
def q2w (r : (List AV) × AV × Int) : AV := .tup [.sl 8 r.1, qmk (.st [.b, (.i .u64), (.i .u64), (.i .i64)]) r.2.1, .int .i64 r.2.2]
def q2x : Shp := ⟨[(0, .one (.l (.sl 8))), (1, .st (lk qc)), (2, .one (.l (.i .i64))), (3, .one (.l (.i .i64))), (4, .one (.l .s)), (5, .one (.l .s))], []⟩
def qpl (v0 : List AV) (Am : Bool) (An Ao Ap v2 v3 : Int) (v4 v5 : List UInt8) : Option ((List AV) × AV × Int) :=
  (oB (qhh v0 Am An Ao Ap v2 v3) fun r1 => (bif (r1.2 != (0 : Int)) then (some (([] : List AV), (.agg [(.bool false), (.int .u64 (0 : Int)), (.int .u64 (0 : Int)), (.int .i64 (0 : Int))]), r1.2)) else (oB (qus v0 (gB r1.1.cells 0) (gI r1.1.cells 1) (gI r1.1.cells 2) (gI r1.1.cells 3) (2 : Int) v4 v5 (0 : Int)) fun r2 => (bif (r2.2 != (0 : Int)) then (some (([] : List AV), (.agg [(.bool false), (.int .u64 (0 : Int)), (.int .u64 (0 : Int)), (.int .i64 (0 : Int))]), r2.2)) else (some (r2.1, (.agg [(.bool (gB r1.1.cells 0)), (.int .u64 (gI r1.1.cells 1)), (.int .u64 (gI r1.1.cells 2)), (.int .i64 (gI r1.1.cells 3))]), (0 : Int)))))))
def qko := hull qpl
theorem qut : qko = qpl := ql _
def qpm : AC ((List AV) × AV × Int) :=
  .seq (.reg [ao 7 (.box 1),
 ao 12 (.mv (.c .nils)),
 ao 13 (.alloc [(.bool false), (.int .u64 0), (.int .u64 0), (.int .i64 0)]),
 ao 14 (.mv (.c (.int .i64 0)))]) (.seq (.reg [ao 19 (.mv 0),
 ao 20 (.load true 4 7),
 ao 21 (.mv 2),
 ao 22 (.mv 3),
 .call (po 23 (.call 15 [19, 20, 21, 22])) 15 qld,
 ao 18 (.mv 23),
 ao 24 (.ext 18 0),
 ao 25 (.ext 18 1),
 ao 15 (.alloc [(.bool false), (.int .u64 0), (.int .u64 0), (.int .i64 0)]),
 an (.store 4 15 24),
 ao 16 (.mv 25)]) (.seq (.seq (.reg [ao 26 (.mv 16),
 ao 27 (.bin .neq 26 (.c (.int .i64 0)))]) (.cond 27 (.seq (.reg [ao 28 (.build [(.bool false), (.int .u64 0), (.int .u64 0), (.int .i64 0)] []),
 ao 29 (.mv 16),
 ao 12 (.mv (.c .nils)),
 an (.store 4 13 28),
 ao 14 (.mv 29)]) (.seq (.view [.eta 12 (.one (.sl 8))]) (.ret))) (.skip))) (.seq (.reg [ao 31 (.mv 0),
 ao 32 (.load true 4 15),
 ao 33 (.mv 4),
 ao 34 (.mv 5),
 ao 35 (.build [(.bool false), (.int .u64 0), (.int .u64 0), (.int .i64 0), (.int .i64 0), (.str []), (.str []), (.int .i64 0)] [(0, (4, 32)), (4, (1, (.c (.int .i64 2)))), (5, (1, 33)), (6, (1, 34))]),
 .callc (po 36 (.call 57 [31, 35])) 57 q2v,
 ao 30 (.mv 36),
 ao 37 (.ext 30 0),
 ao 38 (.ext 30 1),
 ao 17 (.mv 37),
 ao 16 (.mv 38)]) (.seq (.seq (.reg [ao 39 (.mv 16),
 ao 40 (.bin .neq 39 (.c (.int .i64 0)))]) (.cond 40 (.seq (.reg [ao 41 (.build [(.bool false), (.int .u64 0), (.int .u64 0), (.int .i64 0)] []),
 ao 42 (.mv 16),
 ao 12 (.mv (.c .nils)),
 an (.store 4 13 41),
 ao 14 (.mv 42)]) (.seq (.view [.eta 12 (.one (.sl 8))]) (.ret))) (.skip))) (.seq (.draw [] [ao 43 (.mv 17),
 ao 44 (.load true 4 15),
 ao 12 (.mv 43)] [an (.store 4 13 44),
 ao 14 (.mv (.c (.int .i64 0)))]) (.ret))))))
theorem q4e : AC.ok Try.prog (TIof Try.prog) 45 0 (kret [.t 12, (.cell 13 true 4), .t 14] qmu) qpm := qn (zA (qe.ok qr8) (zA (qe.ok qbji) (zA rfl trivial)))
theorem q6v (v0 : List AV) (Am : Bool) (An Ao Ap v2 v3 : Int) (v4 v5 : List UInt8) : den 0 (kret [.t 12, (.cell 13 true 4), .t 14] qmu) qpm (qi [(0, (.sl 8 v0)), (1, .agg (qa Am An Ao Ap)), (2, (.int .i64 v2)), (3, (.int .i64 v3)), (4, (.str v4)), (5, (.str v5))]) (qh []) (kend (kret [.t 12, (.cell 13 true 4), .t 14] qmu)) = qko v0 Am An Ao Ap v2 v3 v4 v5 := by
  rw [qut]; kernel_rfl
theorem q6w : cFn (TIof Try.prog) Try.f19 = some ⟨45, [.t 12, (.cell 13 true 4), .t 14], scOf qpm⟩ := by kernel_rfl
def q6x (xs : List AV) : Option ((List AV) × AV × Int) := qb ((qk xs) 1).cells (qko (gL [(qk xs) 0] 0)) (gI [(qk xs) 2] 0) (gI [(qk xs) 3] 0) (gS [(qk xs) 4] 0) (gS [(qk xs) 5] 0)
def qts {R : Type} : List AV → (AV → Option R) → Option R := entF q2x q6x q2w
theorem q6y {R : Type} : qe Try.prog 19 (qts (R := R)) :=
  qb6 tabOk follows Try.func19 (by kernel_rfl) q6w (fun z r h => by
 obtain ⟨h1, h2⟩ := qm h
 cases h2
 exact (qgh h1).symm) q4e (qbe (by kernel_rfl)) fun xs => q6v _ _ _ _ _ _ _ _ _
def qis  (K : Ex → Env → Mem → Option Bool) := (fun (_ : Unit) => K (.exit 0) (qi []) (qh []))
def q0w : Shp := ⟨[(0, .one (.l (.sl 8))), (1, .one (.l (.sl 8))), (5, .one (.l (.i .i64)))], []⟩
def ql5 (v0 v1 : List AV) (v5 : Int) : Env := qi [(0, (.sl 8 v0)), (1, (.sl 8 v1)), (5, (.int .i64 v5))]
def ql6 (v0 v1 : List AV) (v5 : Int) : Mem := qh []
def qfi  (v0 v1 : List AV) (v5 : Int) (next : Int → Option Bool) (kx0 : Unit → Option Bool) : Option Bool :=
  (bif (decide (v5 < (v0.length : Int))) then (oB (ixB v0 v5) fun y1 => (bif fitC qj y1.cells then (oB (ixB v1 v5) fun y2 => (bif fitC qj y2.cells then (bif (!(((gB y1.cells 0) == (gB y2.cells 0)) && (((gI y1.cells 1) == (gI y2.cells 1)) && (((gI y1.cells 2) == (gI y2.cells 2)) && (((gI y1.cells 3) == (gI y2.cells 3)) && (((gI y1.cells 4) == (gI y2.cells 4)) && (((gS y1.cells 5) == (gS y2.cells 5)) && (((gS y1.cells 6) == (gS y2.cells 6)) && (((gI y1.cells 7) == (gI y2.cells 7)) && true))))))))) then (some false) else (next (IntKind.i64.wrap (v5 + (1 : Int))))) else none)) else none)) else (kx0 ()))
def qkg  (v0 v1 : List AV) (kx0 : Unit → Option Bool) : Nat → Int → Option Bool
  | 0 => (fun _ => none)
  | n + 1 => (fun v5 => qfi v0 v1 v5 (qkg v0 v1 kx0 n) kx0)
def qle := hull (qkg)
theorem qsi : qle = qkg := ql _
def qfj : AC Bool :=
  .seq (.seq (.reg [ao 11 (.mv 5),
 ao 12 (.mv 0),
 ao 13 (.len false 12),
 ao 14 (.bin .lss 11 13)]) (.cond 14 (.skip) (.seq (.view [.sel [] []]) (.exit 0)))) (.seq (.block 1 (.seq (.draw [] [ao 17 (.mv 0),
 ao 18 (.mv 5),
 ao 19 (.ia 8 17 18),
 .et 19 qj,
 ao 20 (.load true 8 19),
 ao 21 (.mv 1),
 ao 22 (.mv 5),
 ao 23 (.ia 8 21 22),
 .et 23 qj,
 ao 24 (.load true 8 23)] [ao 25 (.eq true true [.b, (.i .u64), (.i .u64), (.i .i64), (.i .i64), .s, .s, (.i .i64)] 20 24)]) (.cond 25 (.seq (.reg [ao 4 (.mv (.c (.bool false)))]) (.ret)) (.skip)))) (.seq (.reg [ao 15 (.mv 5),
 ao 16 (.bin .add 15 (.c (.int .i64 1))),
 ao 5 (.mv 16)]) (.view [.sel [0, 1, 5] []])))
theorem q15 : AC.ok Try.prog (TIof Try.prog) 26 0 (kret [.t 4] decB) qfj := qn (zA rfl trivial)
theorem q0x (v0 v1 : List AV) (v5 : Int) (K : Ex → Env → Mem → Option Bool) : den 0 (kret [.t 4] decB) qfj (ql5 v0 v1 v5) (ql6 v0 v1 v5) K = qfi v0 v1 v5 (fun z_v5 => K .norm (ql5 v0 v1 z_v5) (ql6 v0 v1 z_v5)) (qis K) := by kernel_rfl
theorem q2y (v0 v1 : List AV) (K : Ex → Env → Mem → Option Bool) : ∀ (n : Nat) (v5 : Int), qht (den 0 (kret [.t 4] decB) qfj) n (ql5 v0 v1 v5) (ql6 v0 v1 v5) K = qle v0 v1 (qis K) n v5 := by
  rw [qsi]
  intro n
  induction n with
  | zero => intros; rfl
  | succ n ih =>
 intro v5
 exact (q0x v0 v1 v5 (itK (den 0 (kret [.t 4] decB) qfj) n K)).trans (congrArg (fun q => qfi v0 v1 v5 q (qis K)) (funext fun v5 => ih v5))
def qtt := subE (R := Bool) q0w fun t m K => qle (gL [t 0] 0) (gL [t 1] 0) (qis K) FU (gI [t 5] 0)
theorem q2z : qc9 Try.prog (TIof Try.prog) 26 0 (kret [.t 4] decB) (.loop (scOf qfj)) (qtt) :=
  qjh tabOk follows (q15) (qbe (by kernel_rfl)) fun t m K => q2y _ _ K FU _
def q6z : Shp := ⟨[(0, .one (.l (.sl 8))), (1, .one (.l (.sl 8)))], []⟩
def qsc (v0 v1 : List AV) : Option Bool :=
  (bif ((v0.length : Int) != (v1.length : Int)) then (some false) else (qle v0 v1 (fun (_ : Unit) => (some true)) FU (0 : Int)))
def qly := hull qsc
theorem qxn : qly = qsc := ql _
def qsd : AC Bool :=
  .seq (.reg [ao 4 (.mv (.c (.bool false)))]) (.seq (.seq (.reg [ao 6 (.mv 0),
 ao 7 (.len false 6),
 ao 8 (.mv 1),
 ao 9 (.len false 8),
 ao 10 (.bin .neq 7 9)]) (.cond 10 (.seq (.reg [ao 4 (.mv (.c (.bool false)))]) (.ret)) (.skip))) (.seq (.seq (.reg [ao 5 (.mv (.c (.int .i64 0)))]) (.block 0 (.seq (.view [.sel [0, 1, 5] []]) (.sub (.loop (scOf qfj)) qtt)))) (.seq (.reg [ao 4 (.mv (.c (.bool true)))]) (.ret))))
theorem q75 : AC.ok Try.prog (TIof Try.prog) 26 0 (kret [.t 4] decB) qsd := qn (zA q2z trivial)
theorem qba1 (v0 v1 : List AV) : den 0 (kret [.t 4] decB) qsd (qi [(0, (.sl 8 v0)), (1, (.sl 8 v1))]) (qh []) (kend (kret [.t 4] decB)) = qly v0 v1 := by
  rw [qxn]; kernel_rfl
theorem qba2 : cFn (TIof Try.prog) Try.f21 = some ⟨26, [.t 4], scOf qsd⟩ := by kernel_rfl
def qba3 (xs : List AV) : Option Bool := qly (gL [(qk xs) 0] 0) (gL [(qk xs) 1] 0)
def qvu {R : Type} : List AV → (AV → Option R) → Option R := entF q6z qba3 AV.bool
theorem qba4 {R : Type} : qe Try.prog 21 (qvu (R := R)) :=
  qb6 tabOk follows Try.func21 (by kernel_rfl) qba2 hdeB q75 (qbe (by kernel_rfl)) fun xs => qba1 _ _
def qk4 : List LT := [.b, (.i .u64), (.i .u64), (.i .i64), (.i .i64), (.i .i64), .s, .s]
def qdp (x0 : Bool) (x1 x2 x3 x4 x5 : Int) (x6 x7 : List UInt8) : List AV := [.bool x0, .int .u64 x1, .int .u64 x2, .int .i64 x3, .int .i64 x4, .int .i64 x5, .str x6, .str x7]
def qh0 {β : Type} (cs : List AV) (f : Bool → Int → Int → Int → Int → Int → List UInt8 → List UInt8 → β) : β := f (gB cs 0) (gI cs 1) (gI cs 2) (gI cs 3) (gI cs 4) (gI cs 5) (gS cs 6) (gS cs 7)
def qvv  (v0 : List AV) (v3 : Int) (v10 : List AV) (v11 v12 : Int) (Aa : Bool) (Ab Ac Ad A6 : Int) (A7 A8 : List UInt8) (A9 : Int) (K : Ex → Env → Mem → Option Int) := (fun (_ : Unit) => K .norm (qi [(0, (.sl 8 v0)), (3, (.int .i64 v3)), (4, (.ptr 0 0)), (10, (.sl 8 v10)), (11, (.int .i64 v11)), (12, (.int .i64 v12))]) (qh [(some (.box true (qba Aa Ab Ac Ad A6 A7 A8 A9)))]))
def q4f : Shp := ⟨[(0, .one (.l (.sl 8))), (3, .one (.l (.i .i64))), (4, .one (.ptr 0 0)), (10, .one (.l (.sl 8))), (11, .one (.l (.i .i64))), (12, .one (.l (.i .i64)))], [.box true (lk qj)]⟩
def qqv  (v0 : List AV) (v3 : Int) (v10 : List AV) (v11 v12 : Int) (Aa : Bool) (Ab Ac Ad A6 : Int) (A7 A8 : List UInt8) (A9 : Int) (kn : Unit → Option Int) : Option Int :=
  (bif (decide (v3 > (0 : Int))) then (oB (ixB v0 (IntKind.i64.wrap (v3 - (1 : Int)))) fun y1 => (bif fitC qj y1.cells then (oB (qk2 Aa Ab Ac Ad (gB y1.cells 0) (gI y1.cells 1) (gI y1.cells 2) (gI y1.cells 3)) fun r2 => (bif (decide (r2 < (0 : Int))) then (some (7 : Int)) else (bif (r2 == (0 : Int)) then (some (12 : Int)) else (kn ())))) else none)) else (kn ()))
def qn3 := hull (qqv)
theorem qvw : qn3 = qqv := ql _
def qlz : AC Int :=
  .seq (.reg [ao 22 (.mv 3),
 ao 23 (.bin .gtr 22 (.c (.int .i64 0)))]) (.cond 23 (.seq (.draw [] [ao 24 (.fa 0 4),
 ao 25 (.load true 4 24),
 ao 26 (.mv 0),
 ao 27 (.mv 3),
 ao 28 (.bin .sub 27 (.c (.int .i64 1))),
 ao 29 (.ia 8 26 28),
 .et 29 qj,
 ao 30 (.fa 0 29),
 ao 31 (.load true 4 30)] [.call (po 32 (.call 30 [25, 31])) 30 qqt,
 ao 6 (.mv 32)]) (.seq (.seq (.reg [ao 33 (.mv 6),
 ao 34 (.bin .lss 33 (.c (.int .i64 0)))]) (.cond 34 (.seq (.reg [ao 2 (.mv (.c (.int .i64 7)))]) (.ret)) (.skip))) (.seq (.reg [ao 35 (.mv 6),
 ao 36 (.bin .eql 35 (.c (.int .i64 0)))]) (.cond 36 (.seq (.reg [ao 2 (.mv (.c (.int .i64 12)))]) (.ret)) (.seq (.skip) (.view [.sel [0, 3, 4, 10, 11, 12] [0]])))))) (.seq (.skip) (.view [.sel [0, 3, 4, 10, 11, 12] [0]])))
theorem q60 : AC.ok Try.prog (TIof Try.prog) 43 0 (kret [.t 2] (decI .i64)) qlz := qn (zA (qe.ok qzz) (zA rfl trivial))
theorem q76 (v0 : List AV) (v3 : Int) (v10 : List AV) (v11 v12 : Int) (Aa : Bool) (Ab Ac Ad A6 : Int) (A7 A8 : List UInt8) (A9 : Int) (K : Ex → Env → Mem → Option Int) : den 0 (kret [.t 2] (decI .i64)) qlz (qi [(0, (.sl 8 v0)), (3, (.int .i64 v3)), (4, (.ptr 0 0)), (10, (.sl 8 v10)), (11, (.int .i64 v11)), (12, (.int .i64 v12))]) (qh [(some (.box true (qba Aa Ab Ac Ad A6 A7 A8 A9)))]) K = qn3 v0 v3 v10 v11 v12 Aa Ab Ac Ad A6 A7 A8 A9 (qvv v0 v3 v10 v11 v12 Aa Ab Ac Ad A6 A7 A8 A9 K) := by
  rw [qvw]; kernel_rfl
def qxo := subE (R := Int) q4f fun t m K => qbn (bxC (m.s 0)) (qn3 (gL [t 0] 0) (gI [t 3] 0) (gL [t 10] 0) (gI [t 11] 0) (gI [t 12] 0)) (qvv (gL [t 0] 0) (gI [t 3] 0) (gL [t 10] 0) (gI [t 11] 0) (gI [t 12] 0) (gB (bxC (m.s 0)) 0) (gI (bxC (m.s 0)) 1) (gI (bxC (m.s 0)) 2) (gI (bxC (m.s 0)) 3) (gI (bxC (m.s 0)) 4) (gS (bxC (m.s 0)) 5) (gS (bxC (m.s 0)) 6) (gI (bxC (m.s 0)) 7) K)
theorem q77 : qc9 Try.prog (TIof Try.prog) 43 0 (kret [.t 2] (decI .i64)) (scOf qlz) (qxo) :=
  qi8 tabOk follows (q60) (qbe (by kernel_rfl)) fun t m K => q76 _ _ _ _ _ _ _ _ _ _ _ _ _ K
def qkt  (K : Ex → Env → Mem → Option Int) := (fun (_ : Unit) => K (.exit 0) (qi []) (qh []))
def q4g : Shp := ⟨[(0, .one (.l (.sl 8))), (10, .one (.l (.sl 8))), (11, .one (.l (.i .i64))), (12, .one (.l (.i .i64)))], []⟩
def qpn (v0 v10 : List AV) (v11 v12 : Int) : Env := qi [(0, (.sl 8 v0)), (10, (.sl 8 v10)), (11, (.int .i64 v11)), (12, (.int .i64 v12))]
def qpo (v0 v10 : List AV) (v11 v12 : Int) : Mem := qh []
def qgu  (v0 v10 : List AV) (v11 v12 : Int) (next : Int → Option Int) (kx0 : Unit → Option Int) : Option Int :=
  (bif (decide (v12 < v11)) then (oB (ixB v10 v12) fun y1 => (bif fitC qj y1.cells then (oB (qla (gB y1.cells 0) (gI y1.cells 1) (gI y1.cells 2) (gI y1.cells 3) (gI y1.cells 4) (gS y1.cells 5) (gS y1.cells 6) (gI y1.cells 7)) fun r2 => (bif (r2 != (0 : Int)) then (some r2) else (qn3 v0 v12 v10 v11 v12 (gB y1.cells 0) (gI y1.cells 1) (gI y1.cells 2) (gI y1.cells 3) (gI y1.cells 4) (gS y1.cells 5) (gS y1.cells 6) (gI y1.cells 7) (fun (_ : Unit) => (oB (cutI v0 none (some v12)) fun s3 => (oB (qgp s3 (gB y1.cells 0) (gI y1.cells 1) (gI y1.cells 2) (gI y1.cells 3) (gI y1.cells 4) (gS y1.cells 5) (gS y1.cells 6) (gI y1.cells 7)) fun r4 => (bif r4 then (some (24 : Int)) else (next (IntKind.i64.wrap (v12 + (1 : Int))))))))))) else none)) else (kx0 ()))
def ql0  (v0 v10 : List AV) (v11 : Int) (kx0 : Unit → Option Int) : Nat → Int → Option Int
  | 0 => (fun _ => none)
  | n + 1 => (fun v12 => qgu v0 v10 v11 v12 (ql0 v0 v10 v11 kx0 n) kx0)
def qn4 := hull (ql0)
theorem qvx : qn4 = ql0 := ql _
def qgv : AC Int :=
  .seq (.reg [ao 13 (.bin .lss 12 11)]) (.seq (.cond 13 (.skip) (.seq (.view [.sel [] []]) (.exit 0))) (.seq (.block 1 (.seq (.reg [ao 14 (.mv 12),
 ao 15 (.ia 8 10 12),
 .st (.etac 15 qj),
 ao 16 (.load true 8 15),
 ao 4 (.alloc [(.bool false), (.int .u64 0), (.int .u64 0), (.int .i64 0), (.int .i64 0), (.str []), (.str []), (.int .i64 0)]),
 ao 3 (.mv 14),
 an (.store 8 4 16)]) (.seq (.seq (.reg [ao 17 (.load true 8 4),
 .call (po 18 (.call 59 [17])) 59 qs9,
 ao 5 (.mv 18)]) (.seq (.reg [ao 19 (.mv 5),
 ao 20 (.bin .neq 19 (.c (.int .i64 0)))]) (.cond 20 (.seq (.reg [ao 21 (.mv 5),
 ao 2 (.mv 21)]) (.ret)) (.skip)))) (.seq (.seq (.view [.sel [0, 3, 4, 10, 11, 12] [0]]) (.sub (scOf qlz) qxo)) (.seq (.draw [] [ao 37 (.mv 0),
 ao 38 (.mv 3),
 ao 39 (.slc 8 37 none (some 38)),
 ao 40 (.load true 8 4)] [.call (po 41 (.call 60 [39, 40])) 60 qn0]) (.cond 41 (.seq (.reg [ao 2 (.mv (.c (.int .i64 24)))]) (.ret)) (.skip))))))) (.seq (.reg [ao 42 (.bin .add 12 (.c (.int .i64 1))),
 ao 12 (.mv 42)]) (.view [.sel [0, 10, 11, 12] []]))))
theorem q61 : AC.ok Try.prog (TIof Try.prog) 43 0 (kret [.t 2] (decI .i64)) qgv := qn (zA (qe.ok q2r) (zA q77 (zA (qe.ok qxi) (zA rfl trivial))))
theorem q4h (v0 v10 : List AV) (v11 v12 : Int) (K : Ex → Env → Mem → Option Int) : den 0 (kret [.t 2] (decI .i64)) qgv (qpn v0 v10 v11 v12) (qpo v0 v10 v11 v12) K = qgu v0 v10 v11 v12 (fun z_v12 => K .norm (qpn v0 v10 v11 z_v12) (qpo v0 v10 v11 z_v12)) (qkt K) := by kernel_rfl
theorem q78 (v0 v10 : List AV) (v11 : Int) (K : Ex → Env → Mem → Option Int) : ∀ (n : Nat) (v12 : Int), qht (den 0 (kret [.t 2] (decI .i64)) qgv) n (qpn v0 v10 v11 v12) (qpo v0 v10 v11 v12) K = qn4 v0 v10 v11 (qkt K) n v12 := by
  rw [qvx]
  intro n
  induction n with
  | zero => intros; rfl
  | succ n ih =>
 intro v12
 exact (q4h v0 v10 v11 v12 (itK (den 0 (kret [.t 2] (decI .i64)) qgv) n K)).trans (congrArg (fun q => qgu v0 v10 v11 v12 q (qkt K)) (funext fun v12 => ih v12))
def qxp := subE (R := Int) q4g fun t m K => qn4 (gL [t 0] 0) (gL [t 10] 0) (gI [t 11] 0) (qkt K) FU (gI [t 12] 0)
theorem q79 : qc9 Try.prog (TIof Try.prog) 43 0 (kret [.t 2] (decI .i64)) (.loop (scOf qgv)) (qxp) :=
  qjh tabOk follows (q61) (qbe (by kernel_rfl)) fun t m K => q78 _ _ _ K FU _
def qbcr : Shp := ⟨[(0, .one (.l (.sl 8)))], []⟩
def qwd (v0 : List AV) : Option Int :=
  (bif (decide ((v0.length : Int) > (512 : Int))) then (some (9 : Int)) else (qn4 v0 v0 (v0.length : Int) (fun (_ : Unit) => (some (0 : Int))) FU (0 : Int)))
def qmv := hull qwd
theorem q1b : qmv = qwd := ql _
def qwe : AC Int :=
  .seq (.reg [ao 2 (.mv (.c (.int .i64 0)))]) (.seq (.seq (.reg [ao 7 (.mv 0),
 ao 8 (.len false 7),
 ao 9 (.bin .gtr 8 (.c (.int .i64 512)))]) (.cond 9 (.seq (.reg [ao 2 (.mv (.c (.int .i64 9)))]) (.ret)) (.skip))) (.seq (.seq (.reg [ao 10 (.mv 0),
 ao 11 (.len false 10),
 ao 12 (.mv (.c (.int .i64 0)))]) (.block 0 (.seq (.view [.sel [0, 10, 11, 12] []]) (.sub (.loop (scOf qgv)) qxp)))) (.seq (.reg [ao 2 (.mv (.c (.int .i64 0)))]) (.ret))))
theorem qbd8 : AC.ok Try.prog (TIof Try.prog) 43 0 (kret [.t 2] (decI .i64)) qwe := qn (zA q79 trivial)
theorem qbge (v0 : List AV) : den 0 (kret [.t 2] (decI .i64)) qwe (qi [(0, (.sl 8 v0))]) (qh []) (kend (kret [.t 2] (decI .i64))) = qmv v0 := by
  rw [q1b]; kernel_rfl
theorem qbgf : cFn (TIof Try.prog) Try.f22 = some ⟨43, [.t 2], scOf qwe⟩ := by kernel_rfl
def qbgg (xs : List AV) : Option Int := qmv (gL [(qk xs) 0] 0)
def qtd {R : Type} : List AV → (AV → Option R) → Option R := entF qbcr qbgg (AV.int .i64)
theorem q20 {R : Type} : qe Try.prog 22 (qtd (R := R)) :=
  qb6 tabOk follows Try.func22 (by kernel_rfl) qbgf hdeI qbd8 (qbe (by kernel_rfl)) fun xs => qbge _
def q5q {R : Type} (vs : List AV) (m : Mem) (K : AV → Mem → Option R) : Option R := q1n 8 vs m K
theorem qbiu {R : Type} : qit Try.prog 100 (q5q (R := R)) := qbod (ρ := q87 100 0 3 4 22 34) tabOk (qbm8 follows "slices.Delete[[]ddi/api.Block,ddi/api.Block]" (by kernel_rfl) (by kernel_rfl) (by kernel_rfl) (by kernel_rfl) (by kernel_rfl) (by kernel_rfl) (by kernel_rfl) (by kernel_rfl) (by kernel_rfl) (by kernel_rfl) (by kernel_rfl) (by kernel_rfl) (by kernel_rfl) (by kernel_rfl)) (by kernel_rfl) (by decide)
def q8a : Shp := ⟨[(0, .one (.l (.sl 8))), (1, .one (.l (.i .i64)))], []⟩
def qte (v0 : List AV) (v1 : Int) : Option (List AV) :=
  (oB (qbs v0) fun r1 => (bif hd r1 r1.length then (oB (q3j r1 v1 (IntKind.i64.wrap (v1 + (1 : Int)))) fun r2 => (bif hd r2 r2.length then (some r2) else none)) else none))
def qk5 := hull qte
theorem qy6 : qk5 = qte := ql _
def qtf : AC (List AV) :=
  .seq (.reg [ao 4 (.mv (.c .nils))]) (.seq (.reg [ao 5 (.mv 0),
 .call (po 6 (.call 101 [5])) 101 qfe,
 ao 7 (.mv 1),
 ao 8 (.mv 1),
 ao 9 (.bin .add 8 (.c (.int .i64 1))),
 .callr (po 10 (.call 100 [6, 7, 9])) 100 q5q,
 ao 4 (.mv 10)]) (.ret))
theorem qba5 : AC.ok Try.prog (TIof Try.prog) 11 0 (kret [.t 4] (decF true 8)) qtf := qn (zA (qe.ok qj4) (zA qbiu trivial))
theorem qbcs (v0 : List AV) (v1 : Int) : den 0 (kret [.t 4] (decF true 8)) qtf (qi [(0, (.sl 8 v0)), (1, (.int .i64 v1))]) (qh []) (kend (kret [.t 4] (decF true 8))) = qk5 v0 v1 := by
  rw [qy6]; kernel_rfl
theorem qbct : cFn (TIof Try.prog) Try.f65 = some ⟨11, [.t 4], scOf qtf⟩ := by kernel_rfl
def qbcu (xs : List AV) : Option (List AV) := qk5 (gL [(qk xs) 0] 0) (gI [(qk xs) 1] 0)
def qxq {R : Type} : List AV → (AV → Option R) → Option R := entF q8a qbcu (AV.fr true 8)
theorem qbcv {R : Type} : qe Try.prog 65 (qxq (R := R)) :=
  qb6 tabOk follows Try.func65 (by kernel_rfl) qbct hdeF qba5 (qbe (by kernel_rfl)) fun xs => qbcs _ _
def qse (z : AV) : Option ((List AV) × Int) := cond (qkp [(.one (.sl 8)), (.one (.i .i64))] z) (some (aL (gC (tpL z) 0), aI (gC (tpL z) 1))) none
def qba6 (r : (List AV) × Int) : AV := .tup [.sl 8 r.1, .int .i64 r.2]
def qba7 : Shp := ⟨[(0, .one (.l (.sl 8))), (1, .st (lk qc))], []⟩
def quu (v0 : List AV) (Am : Bool) (An Ao Ap : Int) : Option ((List AV) × Int) :=
  (oB (qk8 v0 Am An Ao Ap) fun r1 => (bif (decide (r1 < (0 : Int))) then (some (([] : List AV), (11 : Int))) else (oB (qkf v0 Am An Ao Ap) fun r2 => (bif r2 then (some (([] : List AV), (25 : Int))) else (oB (qk5 v0 r1) fun r3 => (some (r3, (0 : Int))))))))
def qos := hull quu
theorem qz4 : qos = quu := ql _
def quv : AC ((List AV) × Int) :=
  .seq (.reg [ao 3 (.box 1),
 ao 4 (.mv (.c .nils)),
 ao 5 (.mv (.c (.int .i64 0)))]) (.seq (.reg [ao 7 (.mv 0),
 ao 8 (.load true 4 3),
 .call (po 9 (.call 63 [7, 8])) 63 qni,
 ao 6 (.mv 9)]) (.seq (.seq (.reg [ao 10 (.mv 6),
 ao 11 (.bin .lss 10 (.c (.int .i64 0)))]) (.cond 11 (.seq (.reg [ao 4 (.mv (.c .nils)),
 ao 5 (.mv (.c (.int .i64 11)))]) (.seq (.view [.eta 4 (.one (.sl 8))]) (.ret))) (.skip))) (.seq (.seq (.reg [ao 12 (.mv 0),
 ao 13 (.load true 4 3),
 .call (po 14 (.call 64 [12, 13])) 64 qpk]) (.cond 14 (.seq (.reg [ao 4 (.mv (.c .nils)),
 ao 5 (.mv (.c (.int .i64 25)))]) (.seq (.view [.eta 4 (.one (.sl 8))]) (.ret))) (.skip))) (.seq (.reg [ao 15 (.mv 0),
 ao 16 (.mv 6),
 .callc (po 17 (.call 65 [15, 16])) 65 qxq,
 ao 4 (.mv 17),
 ao 5 (.mv (.c (.int .i64 0)))]) (.ret)))))
theorem qbcw : AC.ok Try.prog (TIof Try.prog) 18 0 (kret [.t 4, .t 5] qse) quv := qn (zA (qe.ok qv0) (zA (qe.ok qy0) (zA (qe.ok qbcv) trivial)))
theorem qbd9 (v0 : List AV) (Am : Bool) (An Ao Ap : Int) : den 0 (kret [.t 4, .t 5] qse) quv (qi [(0, (.sl 8 v0)), (1, .agg (qa Am An Ao Ap))]) (qh []) (kend (kret [.t 4, .t 5] qse)) = qos v0 Am An Ao Ap := by
  rw [qz4]; kernel_rfl
theorem qbea : cFn (TIof Try.prog) Try.f26 = some ⟨18, [.t 4, .t 5], scOf quv⟩ := by kernel_rfl
def qbeb (xs : List AV) : Option ((List AV) × Int) := qb ((qk xs) 1).cells (qos (gL [(qk xs) 0] 0))
def qy7 {R : Type} : List AV → (AV → Option R) → Option R := entF qba7 qbeb qba6
theorem qbec {R : Type} : qe Try.prog 26 (qy7 (R := R)) :=
  qb6 tabOk follows Try.func26 (by kernel_rfl) qbea (fun z r h => by
 obtain ⟨h1, h2⟩ := qm h
 cases h2
 exact (qgh h1).symm) qbcw (qbe (by kernel_rfl)) fun xs => qbd9 _ _ _ _ _
def qmw  (v0 : List AV) (Aa : Bool) (Ab Ac Ad A6 A7 : Int) (A8 A9 : List UInt8) (K : Ex → Env → Mem → Option Bool) := (fun z_v34 => K .norm (qi [(0, (.sl 8 v0)), (3, (.ptr 0 0)), (34, (.bool z_v34))]) (qh [(some (.box true (qdp Aa Ab Ac Ad A6 A7 A8 A9)))]))
def qvd : Shp := ⟨[(0, .one (.l (.sl 8))), (3, .one (.ptr 0 0))], [.box true (lk qk4)]⟩
def qj5  (v0 : List AV) (Aa : Bool) (Ab Ac Ad A6 A7 : Int) (A8 A9 : List UInt8) (kn : Bool → Option Bool) : Option Bool :=
  (oB (qmo v0) fun r1 => (bif (((!r1) || (decide ((A8.length : Int) > (100 : Int)))) || (decide ((A9.length : Int) > (100 : Int)))) then (kn true) else (oB (qmv v0) fun r2 => (kn (r2 != (0 : Int))))))
def qgx := hull (qj5)
theorem qmx : qgx = qj5 := ql _
def qga : AC Bool :=
  .seq (.reg [ao 15 (.mv 0),
 .call (po 16 (.call 11 [15])) 11 qw9,
 ao 17 (.un .not 16),
 ao 18 (.mv 17),
 .grp 18 false [(pg 19 18 false (.fa 6 3)), (pg 20 18 false (.load false 1 19)), (pg 21 18 false (.len true 20)), (pg 22 18 false (.bin .gtr 21 (.c (.int .i64 100))))] 23 22,
 ao 24 (.mv 23),
 .grp 24 false [(pg 25 24 false (.fa 7 3)), (pg 26 24 false (.load false 1 25)), (pg 27 24 false (.len true 26)), (pg 28 24 false (.bin .gtr 27 (.c (.int .i64 100))))] 29 28,
 ao 30 (.mv 29),
 ag 31 30 false (.mv 0),
 .call (pg 32 30 false (.call 22 [31])) 22 qtd,
 ag 33 30 false (.bin .neq 32 (.c (.int .i64 0))),
 ao 34 (.pick 30 (.c (.bool true)) 33)]) (.view [.sel [0, 3, 34] [0]])
theorem qwf : AC.ok Try.prog (TIof Try.prog) 177 0 (kret [.t 4] decB) qga := qn (zA (qe.ok qbb1) (zA (qe.ok q20) trivial))
theorem qxr (v0 : List AV) (Aa : Bool) (Ab Ac Ad A6 A7 : Int) (A8 A9 : List UInt8) (K : Ex → Env → Mem → Option Bool) : den 0 (kret [.t 4] decB) qga (qi [(0, (.sl 8 v0)), (3, (.ptr 0 0))]) (qh [(some (.box true (qdp Aa Ab Ac Ad A6 A7 A8 A9)))]) K = qgx v0 Aa Ab Ac Ad A6 A7 A8 A9 (qmw v0 Aa Ab Ac Ad A6 A7 A8 A9 K) := by
  rw [qmx]; kernel_rfl
def qnb := subE (R := Bool) qvd fun t m K => qh0 (bxC (m.s 0)) (qgx (gL [t 0] 0)) (qmw (gL [t 0] 0) (gB (bxC (m.s 0)) 0) (gI (bxC (m.s 0)) 1) (gI (bxC (m.s 0)) 2) (gI (bxC (m.s 0)) 3) (gI (bxC (m.s 0)) 4) (gI (bxC (m.s 0)) 5) (gS (bxC (m.s 0)) 6) (gS (bxC (m.s 0)) 7) K)
theorem qxs : qc9 Try.prog (TIof Try.prog) 177 0 (kret [.t 4] decB) (scOf qga) (qnb) :=
  qi8 tabOk follows (qwf) (qbe (by kernel_rfl)) fun t m K => qxr _ _ _ _ _ _ _ _ _ K
def qmy  (v0 : List AV) (Aa : Bool) (Ab Ac Ad A6 A7 : Int) (A8 A9 : List UInt8) (Aq : Bool) (Ar As At : Int) (K : Ex → Env → Mem → Option Bool) := (fun z_v62 => K .norm (qi [(0, (.sl 8 v0)), (3, (.ptr 0 0)), (5, (.ptr 1 0)), (62, (.bool z_v62))]) (qh [(some (.box true (qdp Aa Ab Ac Ad A6 A7 A8 A9))), (some (.box true (qa Aq Ar As At)))]))
def qve : Shp := ⟨[(0, .one (.l (.sl 8))), (3, .one (.ptr 0 0)), (5, .one (.ptr 1 0))], [.box true (lk qk4), .box true (lk qc)]⟩
def qj6  (v0 : List AV) (Aa : Bool) (Ab Ac Ad A6 A7 : Int) (A8 A9 : List UInt8) (Aq : Bool) (Ar As At : Int) (kn : Bool → Option Bool) : Option Bool :=
  (bif (At != A6) then (kn true) else (oB (qfs Aq Ar As At Aa Ab Ac Ad) fun r1 => (kn (!r1))))
def qgy := hull (qj6)
theorem qmz : qgy = qj6 := ql _
def qgb : AC Bool :=
  .seq (.reg [ao 51 (.fa 3 5),
 ao 52 (.load false 1 51),
 ao 53 (.fa 4 3),
 ao 54 (.load false 1 53),
 ao 55 (.bin .neq 52 54),
 ao 56 (.mv 55),
 ag 57 56 false (.load true 4 5),
 ag 58 56 false (.fa 0 3),
 ag 59 56 false (.load true 4 58),
 .call (pg 60 56 false (.call 23 [57, 59])) 23 qf3,
 ag 61 56 false (.un .not 60),
 ao 62 (.pick 56 (.c (.bool true)) 61)]) (.view [.sel [0, 3, 5, 62] [0, 1]])
theorem qwg : AC.ok Try.prog (TIof Try.prog) 177 0 (kret [.t 4] decB) qgb := qn (zA (qe.ok qkb) trivial)
theorem qxt (v0 : List AV) (Aa : Bool) (Ab Ac Ad A6 A7 : Int) (A8 A9 : List UInt8) (Aq : Bool) (Ar As At : Int) (K : Ex → Env → Mem → Option Bool) : den 0 (kret [.t 4] decB) qgb (qi [(0, (.sl 8 v0)), (3, (.ptr 0 0)), (5, (.ptr 1 0))]) (qh [(some (.box true (qdp Aa Ab Ac Ad A6 A7 A8 A9))), (some (.box true (qa Aq Ar As At)))]) K = qgy v0 Aa Ab Ac Ad A6 A7 A8 A9 Aq Ar As At (qmy v0 Aa Ab Ac Ad A6 A7 A8 A9 Aq Ar As At K) := by
  rw [qmz]; kernel_rfl
def qnc := subE (R := Bool) qve fun t m K => qb (bxC (m.s 1)) (qh0 (bxC (m.s 0)) (qgy (gL [t 0] 0))) (qmy (gL [t 0] 0) (gB (bxC (m.s 0)) 0) (gI (bxC (m.s 0)) 1) (gI (bxC (m.s 0)) 2) (gI (bxC (m.s 0)) 3) (gI (bxC (m.s 0)) 4) (gI (bxC (m.s 0)) 5) (gS (bxC (m.s 0)) 6) (gS (bxC (m.s 0)) 7) (gB (bxC (m.s 1)) 0) (gI (bxC (m.s 1)) 1) (gI (bxC (m.s 1)) 2) (gI (bxC (m.s 1)) 3) K)
theorem qxu : qc9 Try.prog (TIof Try.prog) 177 0 (kret [.t 4] decB) (scOf qgb) (qnc) :=
  qi8 tabOk follows (qwg) (qbe (by kernel_rfl)) fun t m K => qxt _ _ _ _ _ _ _ _ _ _ _ _ _ K
def qm0  (v0 : List AV) (v7 : Int) (Aa : Bool) (Ab Ac Ad A6 A7 : Int) (A8 A9 : List UInt8) (Aq : Bool) (Ar As At : Int) (K : Ex → Env → Mem → Option Bool) := (fun z_v95 => K .norm (qi [(0, (.sl 8 v0)), (3, (.ptr 0 0)), (5, (.ptr 1 0)), (7, (.int .i64 v7)), (95, (.bool z_v95))]) (qh [(some (.box true (qdp Aa Ab Ac Ad A6 A7 A8 A9))), (some (.box true (qa Aq Ar As At)))]))
def qvf : Shp := ⟨[(0, .one (.l (.sl 8))), (3, .one (.ptr 0 0)), (5, .one (.ptr 1 0)), (7, .one (.l (.i .i64)))], [.box true (lk qk4), .box true (lk qc)]⟩
def qj7  (v0 : List AV) (v7 : Int) (Aa : Bool) (Ab Ac Ad A6 A7 : Int) (A8 A9 : List UInt8) (Aq : Bool) (Ar As At : Int) (kn : Bool → Option Bool) : Option Bool :=
  (oB (ixB v0 v7) fun y1 => (bif fitC qj y1.cells then (bif (!(((gB y1.cells 0) == Aa) && (((gI y1.cells 1) == Ab) && (((gI y1.cells 2) == Ac) && (((gI y1.cells 3) == Ad) && true))))) then (oB (ixB v0 v7) fun y2 => (bif fitC qj y2.cells then (oB (qfs (gB y2.cells 0) (gI y2.cells 1) (gI y2.cells 2) (gI y2.cells 3) Aa Ab Ac Ad) fun r3 => (bif r3 then (oB (ixB v0 v7) fun y4 => (bif fitC qj y4.cells then (oB (qk0 (gB y4.cells 0) (gI y4.cells 1) (gI y4.cells 2) (gI y4.cells 3) Aq Ar As At) fun r5 => (kn r5)) else none)) else (kn false))) else none)) else (kn false)) else none))
def qgz := hull (qj7)
theorem qm1 : qgz = qj7 := ql _
def qgc : AC Bool :=
  .seq (.draw [] [ao 69 (.mv 0),
 ao 70 (.mv 7),
 ao 71 (.ia 8 69 70),
 .et 71 qj,
 ao 72 (.fa 0 71),
 ao 73 (.load true 4 72),
 ao 74 (.fa 0 3),
 ao 75 (.load true 4 74),
 ao 76 (.eq true true [.b, (.i .u64), (.i .u64), (.i .i64)] 73 75),
 ao 77 (.mv 76),
 ag 78 77 true (.mv 0),
 ag 79 77 true (.mv 7),
 ag 80 77 true (.ia 8 78 79),
 .et 80 qj,
 ag 81 77 true (.fa 0 80),
 ag 82 77 true (.load true 4 81),
 ag 83 77 true (.fa 0 3),
 ag 84 77 true (.load true 4 83),
 .call (pg 85 77 true (.call 23 [82, 84])) 23 qf3,
 ao 86 (.pick 77 85 (.c (.bool false))),
 ao 87 (.mv 86),
 ag 88 87 true (.mv 0),
 ag 89 87 true (.mv 7),
 ag 90 87 true (.ia 8 88 89),
 .et 90 qj,
 ag 91 87 true (.fa 0 90),
 ag 92 87 true (.load true 4 91),
 ag 93 87 true (.load true 4 5)] [.call (pg 94 87 true (.call 24 [92, 93])) 24 qp8,
 ao 95 (.pick 87 94 (.c (.bool false)))]) (.view [.sel [0, 3, 5, 7, 95] [0, 1]])
theorem qwh : AC.ok Try.prog (TIof Try.prog) 177 0 (kret [.t 4] decB) qgc := qn (zA (qe.ok qkb) (zA (qe.ok qzr) (zA rfl trivial)))
theorem qxv (v0 : List AV) (v7 : Int) (Aa : Bool) (Ab Ac Ad A6 A7 : Int) (A8 A9 : List UInt8) (Aq : Bool) (Ar As At : Int) (K : Ex → Env → Mem → Option Bool) : den 0 (kret [.t 4] decB) qgc (qi [(0, (.sl 8 v0)), (3, (.ptr 0 0)), (5, (.ptr 1 0)), (7, (.int .i64 v7))]) (qh [(some (.box true (qdp Aa Ab Ac Ad A6 A7 A8 A9))), (some (.box true (qa Aq Ar As At)))]) K = qgz v0 v7 Aa Ab Ac Ad A6 A7 A8 A9 Aq Ar As At (qm0 v0 v7 Aa Ab Ac Ad A6 A7 A8 A9 Aq Ar As At K) := by
  rw [qm1]; kernel_rfl
def qnd := subE (R := Bool) qvf fun t m K => qb (bxC (m.s 1)) (qh0 (bxC (m.s 0)) (qgz (gL [t 0] 0) (gI [t 7] 0))) (qm0 (gL [t 0] 0) (gI [t 7] 0) (gB (bxC (m.s 0)) 0) (gI (bxC (m.s 0)) 1) (gI (bxC (m.s 0)) 2) (gI (bxC (m.s 0)) 3) (gI (bxC (m.s 0)) 4) (gI (bxC (m.s 0)) 5) (gS (bxC (m.s 0)) 6) (gS (bxC (m.s 0)) 7) (gB (bxC (m.s 1)) 0) (gI (bxC (m.s 1)) 1) (gI (bxC (m.s 1)) 2) (gI (bxC (m.s 1)) 3) K)
theorem qxw : qc9 Try.prog (TIof Try.prog) 177 0 (kret [.t 4] decB) (scOf qgc) (qnd) :=
  qi8 tabOk follows (qwh) (qbe (by kernel_rfl)) fun t m K => qxv _ _ _ _ _ _ _ _ _ _ _ _ _ _ K
def qfm  (v0 : List AV) (Aa : Bool) (Ab Ac Ad A6 A7 : Int) (A8 A9 : List UInt8) (Aq : Bool) (Ar As At : Int) (K : Ex → Env → Mem → Option Bool) := (fun (_ : Unit) => K (.exit 0) (qi [(0, (.sl 8 v0)), (3, (.ptr 0 0)), (5, (.ptr 1 0))]) (qh [(some (.box true (qdp Aa Ab Ac Ad A6 A7 A8 A9))), (some (.box true (qa Aq Ar As At)))]))
def qvg : Shp := ⟨[(0, .one (.l (.sl 8))), (3, .one (.ptr 0 0)), (5, .one (.ptr 1 0)), (7, .one (.l (.i .i64)))], [.box true (lk qk4), .box true (lk qc)]⟩
def qje (v0 : List AV) (v7 : Int) (Aa : Bool) (Ab Ac Ad A6 A7 : Int) (A8 A9 : List UInt8) (Aq : Bool) (Ar As At : Int) : Env := qi [(0, (.sl 8 v0)), (3, (.ptr 0 0)), (5, (.ptr 1 0)), (7, (.int .i64 v7))]
def qjf (v0 : List AV) (v7 : Int) (Aa : Bool) (Ab Ac Ad A6 A7 : Int) (A8 A9 : List UInt8) (Aq : Bool) (Ar As At : Int) : Mem := qh [(some (.box true (qdp Aa Ab Ac Ad A6 A7 A8 A9))), (some (.box true (qa Aq Ar As At)))]
def qdn  (v0 : List AV) (v7 : Int) (Aa : Bool) (Ab Ac Ad A6 A7 : Int) (A8 A9 : List UInt8) (Aq : Bool) (Ar As At : Int) (next : Int → Option Bool) (kx0 : Unit → Option Bool) : Option Bool :=
  (bif (decide (v7 < (v0.length : Int))) then (qgz v0 v7 Aa Ab Ac Ad A6 A7 A8 A9 Aq Ar As At (fun v95q1 => (bif v95q1 then (some false) else (next (IntKind.i64.wrap (v7 + (1 : Int))))))) else (kx0 ()))
def qgd  (v0 : List AV) (Aa : Bool) (Ab Ac Ad A6 A7 : Int) (A8 A9 : List UInt8) (Aq : Bool) (Ar As At : Int) (kx0 : Unit → Option Bool) : Nat → Int → Option Bool
  | 0 => (fun _ => none)
  | n + 1 => (fun v7 => qdn v0 v7 Aa Ab Ac Ad A6 A7 A8 A9 Aq Ar As At (qgd v0 Aa Ab Ac Ad A6 A7 A8 A9 Aq Ar As At kx0 n) kx0)
def qfg := hull (qgd)
theorem qm2 : qfg = qgd := ql _
def qdo : AC Bool :=
  .seq (.seq (.reg [ao 63 (.mv 7),
 ao 64 (.mv 0),
 ao 65 (.len false 64),
 ao 66 (.bin .lss 63 65)]) (.cond 66 (.skip) (.seq (.view [.sel [0, 3, 5] [0, 1]]) (.exit 0)))) (.seq (.block 1 (.seq (.seq (.view [.sel [0, 3, 5, 7] [0, 1]]) (.sub (scOf qgc) qnd)) (.cond 95 (.seq (.reg [ao 4 (.mv (.c (.bool false)))]) (.ret)) (.skip)))) (.seq (.reg [ao 67 (.mv 7),
 ao 68 (.bin .add 67 (.c (.int .i64 1))),
 ao 7 (.mv 68)]) (.view [.sel [0, 3, 5, 7] [0, 1]])))
theorem qwi : AC.ok Try.prog (TIof Try.prog) 177 0 (kret [.t 4] decB) qdo := qn (zA qxw trivial)
theorem qvh (v0 : List AV) (v7 : Int) (Aa : Bool) (Ab Ac Ad A6 A7 : Int) (A8 A9 : List UInt8) (Aq : Bool) (Ar As At : Int) (K : Ex → Env → Mem → Option Bool) : den 0 (kret [.t 4] decB) qdo (qje v0 v7 Aa Ab Ac Ad A6 A7 A8 A9 Aq Ar As At) (qjf v0 v7 Aa Ab Ac Ad A6 A7 A8 A9 Aq Ar As At) K = qdn v0 v7 Aa Ab Ac Ad A6 A7 A8 A9 Aq Ar As At (fun z_v7 => K .norm (qje v0 z_v7 Aa Ab Ac Ad A6 A7 A8 A9 Aq Ar As At) (qjf v0 z_v7 Aa Ab Ac Ad A6 A7 A8 A9 Aq Ar As At)) (qfm v0 Aa Ab Ac Ad A6 A7 A8 A9 Aq Ar As At K) := by kernel_rfl
theorem qxx (v0 : List AV) (Aa : Bool) (Ab Ac Ad A6 A7 : Int) (A8 A9 : List UInt8) (Aq : Bool) (Ar As At : Int) (K : Ex → Env → Mem → Option Bool) : ∀ (n : Nat) (v7 : Int), qht (den 0 (kret [.t 4] decB) qdo) n (qje v0 v7 Aa Ab Ac Ad A6 A7 A8 A9 Aq Ar As At) (qjf v0 v7 Aa Ab Ac Ad A6 A7 A8 A9 Aq Ar As At) K = qfg v0 Aa Ab Ac Ad A6 A7 A8 A9 Aq Ar As At (qfm v0 Aa Ab Ac Ad A6 A7 A8 A9 Aq Ar As At K) n v7 := by
  rw [qm2]
  intro n
  induction n with
  | zero => intros; rfl
  | succ n ih =>
 intro v7
 exact (qvh v0 v7 Aa Ab Ac Ad A6 A7 A8 A9 Aq Ar As At (itK (den 0 (kret [.t 4] decB) qdo) n K)).trans (congrArg (fun q => qdn v0 v7 Aa Ab Ac Ad A6 A7 A8 A9 Aq Ar As At q (qfm v0 Aa Ab Ac Ad A6 A7 A8 A9 Aq Ar As At K)) (funext fun v7 => ih v7))
def qne := subE (R := Bool) qvg fun t m K => qb (bxC (m.s 1)) (qh0 (bxC (m.s 0)) (qfg (gL [t 0] 0))) (qfm (gL [t 0] 0) (gB (bxC (m.s 0)) 0) (gI (bxC (m.s 0)) 1) (gI (bxC (m.s 0)) 2) (gI (bxC (m.s 0)) 3) (gI (bxC (m.s 0)) 4) (gI (bxC (m.s 0)) 5) (gS (bxC (m.s 0)) 6) (gS (bxC (m.s 0)) 7) (gB (bxC (m.s 1)) 0) (gI (bxC (m.s 1)) 1) (gI (bxC (m.s 1)) 2) (gI (bxC (m.s 1)) 3) K) FU (gI [t 7] 0)
theorem qxy : qc9 Try.prog (TIof Try.prog) 177 0 (kret [.t 4] decB) (.loop (scOf qdo)) (qne) :=
  qjh tabOk follows (qwi) (qbe (by kernel_rfl)) fun t m K => qxx _ _ _ _ _ _ _ _ _ _ _ _ _ K FU _
def qm3  (v0 v8 : List AV) (Aq : Bool) (Ar As At : Int) (K : Ex → Env → Mem → Option Bool) := (fun z_v163 => K .norm (qi [(0, (.sl 8 v0)), (5, (.ptr 0 0)), (8, (.sl 8 v8)), (163, (.bool z_v163))]) (qh [(some (.box true (qa Aq Ar As At)))]))
def qvi : Shp := ⟨[(0, .one (.l (.sl 8))), (3, .one (.ptr 0 0)), (5, .one (.ptr 1 0)), (8, .one (.l (.sl 8))), (9, .one (.ptr 2 0)), (10, .one (.ptr 3 0)), (11, .one (.l .b))], [.box true (lk qk4), .box true (lk qc), .box true (lk qc), .box true (lk qj)]⟩
def qj8  (v0 v8 : List AV) (v11 Aa : Bool) (Ab Ac Ad A6 A7 : Int) (A8 A9 : List UInt8) (Aq : Bool) (Ar As At : Int) (Au : Bool) (Av Aw Ax : Int) (Ay : Bool) (Az A0 A1 Be : Int) (Bf Bg : List UInt8) (Bh : Int) (kn : Bool → Option Bool) : Option Bool :=
  (bif ((((((!((Au == Aq) && ((Av == Ar) && ((Aw == As) && ((Ax == At) && true))))) || (!v11)) || (Be != (2 : Int))) || (!(Bf == A8))) || (!(Bg == A9))) || (Bh != (0 : Int))) then (kn true) else (oB (qmv v8) fun r1 => (kn (r1 != (0 : Int)))))
def qg0 := hull (qj8)
theorem qm4 : qg0 = qj8 := ql _
def qge : AC Bool :=
  .seq (.reg [ao 128 (.load true 4 9),
 ao 129 (.load true 4 5),
 ao 130 (.eq true true [.b, (.i .u64), (.i .u64), (.i .i64)] 128 129),
 ao 131 (.mv 130),
 .grp 131 false [(pg 132 131 false (.mv 11)), (pg 133 131 false (.un .not 132))] 134 133,
 ao 135 (.mv 134),
 .grp 135 false [(pg 136 135 false (.fa 4 10)), (pg 137 135 false (.load false 1 136)), (pg 138 135 false (.bin .neq 137 (.c (.int .i64 2))))] 139 138,
 ao 140 (.mv 139),
 .grp 140 false [(pg 141 140 false (.fa 5 10)), (pg 142 140 false (.load false 1 141)), (pg 143 140 false (.fa 6 3)), (pg 144 140 false (.load false 1 143)), (pg 145 140 false (.bin .neq 142 144))] 146 145,
 ao 147 (.mv 146),
 .grp 147 false [(pg 148 147 false (.fa 6 10)), (pg 149 147 false (.load false 1 148)), (pg 150 147 false (.fa 7 3)), (pg 151 147 false (.load false 1 150)), (pg 152 147 false (.bin .neq 149 151))] 153 152,
 ao 154 (.mv 153),
 .grp 154 false [(pg 155 154 false (.fa 7 10)), (pg 156 154 false (.load false 1 155)), (pg 157 154 false (.bin .neq 156 (.c (.int .i64 0))))] 158 157,
 ao 159 (.mv 158),
 ag 160 159 false (.mv 8),
 .call (pg 161 159 false (.call 22 [160])) 22 qtd,
 ag 162 159 false (.bin .neq 161 (.c (.int .i64 0))),
 ao 163 (.pick 159 (.c (.bool true)) 162)]) (.view [.sel [0, 5, 8, 163] [1]])
theorem qwj : AC.ok Try.prog (TIof Try.prog) 177 0 (kret [.t 4] decB) qge := qn (zA (qe.ok q20) trivial)
theorem qxz (v0 v8 : List AV) (v11 Aa : Bool) (Ab Ac Ad A6 A7 : Int) (A8 A9 : List UInt8) (Aq : Bool) (Ar As At : Int) (Au : Bool) (Av Aw Ax : Int) (Ay : Bool) (Az A0 A1 Be : Int) (Bf Bg : List UInt8) (Bh : Int) (K : Ex → Env → Mem → Option Bool) : den 0 (kret [.t 4] decB) qge (qi [(0, (.sl 8 v0)), (3, (.ptr 0 0)), (5, (.ptr 1 0)), (8, (.sl 8 v8)), (9, (.ptr 2 0)), (10, (.ptr 3 0)), (11, (.bool v11))]) (qh [(some (.box true (qdp Aa Ab Ac Ad A6 A7 A8 A9))), (some (.box true (qa Aq Ar As At))), (some (.box true (qa Au Av Aw Ax))), (some (.box true (qba Ay Az A0 A1 Be Bf Bg Bh)))]) K = qg0 v0 v8 v11 Aa Ab Ac Ad A6 A7 A8 A9 Aq Ar As At Au Av Aw Ax Ay Az A0 A1 Be Bf Bg Bh (qm3 v0 v8 Aq Ar As At K) := by
  rw [qm4]; kernel_rfl
def qnf := subE (R := Bool) qvi fun t m K => qbn (bxC (m.s 3)) (qb (bxC (m.s 2)) (qb (bxC (m.s 1)) (qh0 (bxC (m.s 0)) (qg0 (gL [t 0] 0) (gL [t 8] 0) (gB [t 11] 0))))) (qm3 (gL [t 0] 0) (gL [t 8] 0) (gB (bxC (m.s 1)) 0) (gI (bxC (m.s 1)) 1) (gI (bxC (m.s 1)) 2) (gI (bxC (m.s 1)) 3) K)
theorem qx0 : qc9 Try.prog (TIof Try.prog) 177 0 (kret [.t 4] decB) (scOf qge) (qnf) :=
  qi8 tabOk follows (qwj) (qbe (by kernel_rfl)) fun t m K => qxz _ _ _ _ _ _ _ _ _ _ _ _ _ _ _ _ _ _ _ _ _ _ _ _ _ _ _ K
def qfh : Shp := ⟨[(0, .one (.l (.sl 8))), (1, .st (lk qk4))], []⟩
def qlh (v0 : List AV) (Am : Bool) (An Ao Ap Ba Bb : Int) (Bc Bd : List UInt8) : Option Bool :=
  (oB (qmr) fun r1 => (bif (!r1) then (some false) else (qgx v0 Am An Ao Ap Ba Bb Bc Bd (fun v34q2 => (bif v34q2 then (some true) else (oB (qhh v0 Am An Ao Ap Ba Bb) fun r3 => (bif (r3.2 != (0 : Int)) then (some (((gB r3.1.cells 0) == false) && (((gI r3.1.cells 1) == (0 : Int)) && (((gI r3.1.cells 2) == (0 : Int)) && (((gI r3.1.cells 3) == (0 : Int)) && true))))) else (qgy v0 Am An Ao Ap Ba Bb Bc Bd (gB r3.1.cells 0) (gI r3.1.cells 1) (gI r3.1.cells 2) (gI r3.1.cells 3) (fun v62q4 => (bif v62q4 then (some false) else (qfg v0 Am An Ao Ap Ba Bb Bc Bd (gB r3.1.cells 0) (gI r3.1.cells 1) (gI r3.1.cells 2) (gI r3.1.cells 3) (fun (_ : Unit) => (oB (qko v0 Am An Ao Ap Ba Bb Bc Bd) fun r5 => (bif (r5.2.2 != (0 : Int)) then (some (((r5.1.length : Int) == (0 : Int)) && (((gB r5.2.1.cells 0) == false) && (((gI r5.2.1.cells 1) == (0 : Int)) && (((gI r5.2.1.cells 2) == (0 : Int)) && (((gI r5.2.1.cells 3) == (0 : Int)) && true)))))) else (oB (qky r5.1 (gB r3.1.cells 0) (gI r3.1.cells 1) (gI r3.1.cells 2) (gI r3.1.cells 3)) fun r6 => (qg0 v0 r5.1 r6.2 Am An Ao Ap Ba Bb Bc Bd (gB r3.1.cells 0) (gI r3.1.cells 1) (gI r3.1.cells 2) (gI r3.1.cells 3) (gB r5.2.1.cells 0) (gI r5.2.1.cells 1) (gI r5.2.1.cells 2) (gI r5.2.1.cells 3) (gB r6.1.cells 0) (gI r6.1.cells 1) (gI r6.1.cells 2) (gI r6.1.cells 3) (gI r6.1.cells 4) (gS r6.1.cells 5) (gS r6.1.cells 6) (gI r6.1.cells 7) (fun v163q7 => (bif v163q7 then (some false) else (oB (qos r5.1 (gB r3.1.cells 0) (gI r3.1.cells 1) (gI r3.1.cells 2) (gI r3.1.cells 3)) fun r8 => (bif (r8.2 == (0 : Int)) then (oB (qly r8.1 v0) fun r9 => (some r9)) else (some false)))))))))) FU (0 : Int))))))))))))
def qfk := hull qlh
theorem qqw : qfk = qlh := ql _
def qli : AC Bool :=
  .seq (.reg [ao 3 (.box 1),
 ao 4 (.mv (.c (.bool false)))]) (.seq (.seq (.reg [.call (po 13 (.call 14 [])) 14 qxg,
 ao 14 (.un .not 13)]) (.cond 14 (.seq (.reg [ao 4 (.mv (.c (.bool false)))]) (.ret)) (.skip))) (.seq (.seq (.seq (.view [.sel [0, 3] [0]]) (.sub (scOf qga) qnb)) (.cond 34 (.seq (.reg [ao 4 (.mv (.c (.bool true)))]) (.ret)) (.skip))) (.seq (.reg [ao 36 (.mv 0),
 ao 37 (.fa 0 3),
 ao 38 (.load true 4 37),
 ao 39 (.fa 4 3),
 ao 40 (.load false 1 39),
 ao 41 (.fa 5 3),
 ao 42 (.load false 1 41),
 .call (po 43 (.call 15 [36, 38, 40, 42])) 15 qld,
 ao 35 (.mv 43),
 ao 44 (.ext 35 0),
 ao 45 (.ext 35 1),
 ao 5 (.alloc [(.bool false), (.int .u64 0), (.int .u64 0), (.int .i64 0)]),
 an (.store 4 5 44),
 ao 6 (.mv 45)]) (.seq (.seq (.reg [ao 46 (.mv 6),
 ao 47 (.bin .neq 46 (.c (.int .i64 0)))]) (.cond 47 (.seq (.reg [ao 48 (.load true 4 5),
 ao 49 (.build [(.bool false), (.int .u64 0), (.int .u64 0), (.int .i64 0)] []),
 ao 50 (.eq false true [.b, (.i .u64), (.i .u64), (.i .i64)] 48 49),
 ao 4 (.mv 50)]) (.ret)) (.skip))) (.seq (.seq (.seq (.view [.sel [0, 3, 5] [0, 1]]) (.sub (scOf qgb) qnc)) (.cond 62 (.seq (.reg [ao 4 (.mv (.c (.bool false)))]) (.ret)) (.skip))) (.seq (.seq (.reg [ao 7 (.mv (.c (.int .i64 0)))]) (.block 0 (.seq (.view [.sel [0, 3, 5, 7] [0, 1]]) (.sub (.loop (scOf qdo)) qne)))) (.seq (.reg [ao 97 (.mv 0),
 ao 98 (.fa 0 3),
 ao 99 (.load true 4 98),
 ao 100 (.fa 4 3),
 ao 101 (.load false 1 100),
 ao 102 (.fa 5 3),
 ao 103 (.load false 1 102),
 ao 104 (.fa 6 3),
 ao 105 (.load false 1 104),
 ao 106 (.fa 7 3),
 ao 107 (.load false 1 106),
 .callc (po 108 (.call 19 [97, 99, 101, 103, 105, 107])) 19 qts,
 ao 96 (.mv 108),
 ao 109 (.ext 96 0),
 ao 110 (.ext 96 1),
 ao 111 (.ext 96 2),
 ao 9 (.alloc [(.bool false), (.int .u64 0), (.int .u64 0), (.int .i64 0)]),
 ao 8 (.mv 109),
 an (.store 4 9 110),
 ao 6 (.mv 111)]) (.seq (.seq (.reg [ao 112 (.mv 6),
 ao 113 (.bin .neq 112 (.c (.int .i64 0)))]) (.cond 113 (.seq (.reg [ao 114 (.mv 8),
 ao 115 (.len false 114),
 ao 116 (.bin .eql 115 (.c (.int .i64 0))),
 ao 117 (.mv 116),
 .grp 117 true [(pg 118 117 true (.load true 4 9)), (pg 119 117 true (.build [(.bool false), (.int .u64 0), (.int .u64 0), (.int .i64 0)] [])), (pg 120 117 true (.eq false true [.b, (.i .u64), (.i .u64), (.i .i64)] 118 119))] 121 120,
 ao 4 (.mv 121)]) (.ret)) (.skip))) (.seq (.reg [ao 123 (.mv 8),
 ao 124 (.load true 4 5),
 .call (po 125 (.call 25 [123, 124])) 25 qlm,
 ao 122 (.mv 125),
 ao 126 (.ext 122 0),
 ao 127 (.ext 122 1),
 ao 10 (.alloc [(.bool false), (.int .u64 0), (.int .u64 0), (.int .i64 0), (.int .i64 0), (.str []), (.str []), (.int .i64 0)]),
 an (.store 8 10 126),
 ao 11 (.mv 127)]) (.seq (.seq (.seq (.view [.sel [0, 3, 5, 8, 9, 10, 11] [0, 1, 2, 3]]) (.sub (scOf qge) qnf)) (.cond 163 (.seq (.reg [ao 4 (.mv (.c (.bool false)))]) (.ret)) (.skip))) (.seq (.reg [ao 165 (.mv 8),
 ao 166 (.load true 4 5),
 .callc (po 167 (.call 26 [165, 166])) 26 qy7,
 ao 164 (.mv 167),
 ao 168 (.ext 164 0),
 ao 169 (.ext 164 1),
 ao 12 (.mv 168),
 ao 6 (.mv 169)]) (.seq (.reg [ao 170 (.mv 6),
 ao 171 (.bin .eql 170 (.c (.int .i64 0))),
 ao 172 (.mv 171),
 ag 173 172 true (.mv 12),
 ag 174 172 true (.mv 0),
 .call (pg 175 172 true (.call 21 [173, 174])) 21 qvu,
 ao 176 (.pick 172 175 (.c (.bool false))),
 ao 4 (.mv 176)]) (.ret)))))))))))))
theorem qz5 : AC.ok Try.prog (TIof Try.prog) 177 0 (kret [.t 4] decB) qli := qn (zA (qe.ok qbcd) (zA qxs (zA (qe.ok qr8) (zA qxu (zA qxy (zA (qe.ok q6y) (zA (qe.ok qsp) (zA qx0 (zA (qe.ok qbec) (zA (qe.ok qba4) trivial))))))))))
theorem q0y (v0 : List AV) (Am : Bool) (An Ao Ap Ba Bb : Int) (Bc Bd : List UInt8) : den 0 (kret [.t 4] decB) qli (qi [(0, (.sl 8 v0)), (1, .agg (qdp Am An Ao Ap Ba Bb Bc Bd))]) (qh []) (kend (kret [.t 4] decB)) = qfk v0 Am An Ao Ap Ba Bb Bc Bd := by
  rw [qqw]; kernel_rfl
theorem q0z : cFn (TIof Try.prog) Try.f5 = some ⟨177, [.t 4], scOf qli⟩ := by kernel_rfl
def q00 (xs : List AV) : Option Bool := qh0 ((qk xs) 1).cells (qfk (gL [(qk xs) 0] 0))
def qy8 {R : Type} : List AV → (AV → Option R) → Option R := entF qfh q00 AV.bool
theorem q01 {R : Type} : qe Try.prog 5 (qy8 (R := R)) :=
  qb6 tabOk follows Try.func5 (by kernel_rfl) q0z hdeB qz5 (qbe (by kernel_rfl)) fun xs => q0y _ _ _ _ _ _ _ _ _
end
end Go.Proofs.Ytmfghgaboaocgaa.Dn
