import Derived.Test.YtmfghgaboaocgaaProg
import Derived.Test.YtmfghgaboaocgaaChLibD
import Derived.Test.YtmfghgaboaocgaaChDn47x2
set_option linter.all false
namespace Go.Proofs.Ytmfghgaboaocgaa.Dn
open Go Go.Pev
set_option linter.unusedVariables false
set_option linter.unusedSimpArgs false
set_option maxRecDepth 100000
set_option maxHeartbeats 4000000
def qh9 : Shp := ⟨[(0, .one (.l (.sl 8))), (1, .one (.fn 99 [(0, 0)]))], [.box true (lk qc)]⟩
def qd6 {R : Type} (KK : AV → Mem → Option R) := (fun v4 Aa Ab Ac Ad => KK (.bool v4) (qh [(some (.box true [(.bool Aa), (.int .u64 Ab), (.int .u64 Ac), (.int .i64 Ad)]))]))
noncomputable section
def qct {R : Type}  (v0 : List AV) (Aa : Bool) (Ab Ac Ad : Int) (kr : Bool → Bool → Int → Int → Int → Option R) : Option R :=
  (qbo v0 Aa Ab Ac Ad fun v4q1 b0_0q2 b0_1q3 b0_2q4 b0_3q5 => (kr (decide (v4q1 ≥ (0 : Int))) b0_0q2 b0_1q3 b0_2q4 b0_3q5))
def qb5 {R : Type} := hull (qct (R := R))
theorem qd7 {R : Type} : qb5 (R := R) = qct := qk _
def qbc {R : Type} (KK : AV → Mem → Option R) : AC R :=
  .seq (.reg [ao 4 (.mv (.c (.bool false)))]) (.seq (.reg [ao 5 (.mv 0),
 ao 6 (.mv 1),
 .st (.sel [5, 6] [0]),
 .callr (po 7 (.call 97 [5, 6])) 97 qe0,
 ao 8 (.bin .geq 7 (.c (.int .i64 0))),
 ao 4 (.mv 8)]) (.seq (.view [.sel [4] [0]]) (.ret)))
theorem qih {R : Type} (KK : AV → Mem → Option R) : AC.ok Try.prog (TIof Try.prog) 9 1 (qbm [.t 4] KK) (qbc KK) := qm (zA qkd trivial)
theorem qir {R : Type} (KK : AV → Mem → Option R) (v0 : List AV) (Aa : Bool) (Ab Ac Ad : Int) : den 1 (qbm [.t 4] KK) (qbc KK) (qi [(0, (.sl 8 v0)), (1, (.func 99 [(.ptr 0 0)]))]) (qh [(some (.box true (qa Aa Ab Ac Ad)))]) (kend (qbm [.t 4] KK)) = qb5 v0 Aa Ab Ac Ad (qd6 KK) := by
  rw [qd7]; kernel_rfl
theorem qis : cFn (TIof Try.prog) Try.f93 = some ⟨9, [.t 4], scOf (qbc (R := Unit) (fun _ _ => none))⟩ := by kernel_rfl
theorem qit {R : Type} (KK : AV → Mem → Option R) : (qbc KK).er = some (scOf (qbc (R := Unit) (fun _ _ => none))) := by kernel_rfl
def qeg {R : Type} : List AV → Mem → (AV → Mem → Option R) → Option R := refE qh9 fun xs m KK => qb (bxC (m.s 0)) (qb5 (gL [(qj xs) 0] 0)) (qd6 KK)
theorem qiu {R : Type} : qm3 Try.prog 93 (qeg (R := R)) :=
  qx4 (ac := fun KK => qbc KK) tabOk follows Try.func93 (by kernel_rfl) qis (fun KK => qih KK) (fun KK => qit KK) rfl fun xs m KK => qir KK _ _ _ _ _
def qbiw : Shp := ⟨[(0, .one (.l (.sl 8))), (1, .st (lk qc))], []⟩
def qxh (v0 : List AV) (Am : Bool) (An Ao Ap : Int) : Option Bool :=
  (qb5 v0 Am An Ao Ap fun v4q1 b0_0q2 b0_1q3 b0_2q4 b0_3q5 => (some v4q1))
def qot := hull qxh
theorem q5h : qot = qxh := qk _
def qxi : AC Bool :=
  .seq (.reg [ao 3 (.box 1),
 ao 4 (.mv (.c (.bool false)))]) (.seq (.reg [ao 5 (.mv 0),
 ao 6 (.mkf 99 [3]),
 .st (.sel [5, 6] [0]),
 .callr (po 7 (.call 93 [5, 6])) 93 qeg,
 ao 4 (.mv 7)]) (.ret))
theorem qblb : AC.ok Try.prog (TIof Try.prog) 8 0 (kret [.t 4] decB) qxi := qm (zA qiu trivial)
theorem qbpa (v0 : List AV) (Am : Bool) (An Ao Ap : Int) : den 0 (kret [.t 4] decB) qxi (qi [(0, (.sl 8 v0)), (1, .agg (qa Am An Ao Ap))]) (qh []) (kend (kret [.t 4] decB)) = qot v0 Am An Ao Ap := by
  rw [q5h]; kernel_rfl
theorem qbpb : cFn (TIof Try.prog) Try.f64 = some ⟨8, [.t 4], scOf qxi⟩ := by kernel_rfl
def qbpc (xs : List AV) : Option Bool := qb ((qj xs) 1).cells (qot (gL [(qj xs) 0] 0))
def q21 {R : Type} : List AV → (AV → Option R) → Option R := entF qbiw qbpc AV.bool
theorem qbpd {R : Type} : qd Try.prog 64 (q21 (R := R)) :=
  qt tabOk follows Try.func64 (by kernel_rfl) qbpb hdeB qblb (qo (by kernel_rfl)) fun xs => qbpa _ _ _ _ _
def qbtu : Shp := ⟨[(0, .one (.l (.i .u64))), (1, .one (.l (.i .u64)))], []⟩
def q6d (v0 v1 : Int) : Option Int :=
  (bif (decide (v0 < v1)) then (some (-1 : Int)) else (bif (decide (v0 > v1)) then (some (1 : Int)) else (some (0 : Int))))
def qx0 := hull q6d
theorem qbc0 : qx0 = q6d := qk _
def q6e : AC Int :=
  .seq (.reg [ao 4 (.mv (.c (.int .i64 0)))]) (.seq (.block 0 (.seq (.reg [ao 6 (.mv 0),
 ao 7 (.mv 1),
 ao 8 (.bin .lss 6 7),
 ao 5 (.mv 8)]) (.cond 5 (.seq (.reg [ao 4 (.mv (.c (.int .i64 (-1))))]) (.ret)) (.seq (.reg [ao 10 (.mv 0),
 ao 11 (.mv 1),
 ao 12 (.bin .gtr 10 11),
 ao 9 (.mv 12)]) (.cond 9 (.seq (.reg [ao 4 (.mv (.c (.int .i64 1)))]) (.ret)) (.skip)))))) (.seq (.reg [ao 4 (.mv (.c (.int .i64 0)))]) (.ret)))
theorem qbvy : AC.ok Try.prog (TIof Try.prog) 13 0 (kret [.t 4] (decI .i64)) q6e := qm trivial
theorem qbyv (v0 v1 : Int) : den 0 (kret [.t 4] (decI .i64)) q6e (qi [(0, (.int .u64 v0)), (1, (.int .u64 v1))]) (qh []) (kend (kret [.t 4] (decI .i64))) = qx0 v0 v1 := by
  rw [qbc0]; kernel_rfl
theorem qbyw : cFn (TIof Try.prog) Try.f105 = some ⟨13, [.t 4], scOf q6e⟩ := by kernel_rfl
def qbyx (xs : List AV) : Option Int := qx0 (gI [(qj xs) 0] 0) (gI [(qj xs) 1] 0)
def q1r {R : Type} : List AV → (AV → Option R) → Option R := entF qbtu qbyx (AV.int .i64)
theorem qbgz {R : Type} : qd Try.prog 105 (q1r (R := R)) :=
  qt tabOk follows Try.func105 (by kernel_rfl) qbyw hdeI qbvy (qo (by kernel_rfl)) fun xs => qbyv _ _
def qbrt : Shp := ⟨[(0, .st (lk qf6)), (1, .st (lk qf6))], []⟩
def q3r (Ae : Bool) (Af Ag : Int) (Am : Bool) (An Ao : Int) : Option Int :=
  (bif ((!((Ae == Am) && true)) && Am) then (some (-1 : Int)) else (bif (!((Ae == Am) && true)) then (some (1 : Int)) else (bif (Af != An) then (oB (qx0 Af An) fun r1 => (some r1)) else (oB (qx0 Ag Ao) fun r2 => (some r2)))))
def qvg := hull q3r
theorem qbae : qvg = q3r := qk _
def q3s : AC Int :=
  .seq (.reg [ao 2 (.box 0),
 ao 3 (.box 1),
 ao 4 (.mv (.c (.int .i64 0)))]) (.seq (.block 0 (.seq (.reg [ao 6 (.fa 0 2),
 ao 7 (.load false 1 6),
 ao 8 (.fa 0 3),
 ao 9 (.load false 1 8),
 ao 10 (.eq true false [.b] 7 9),
 ao 11 (.mv 10),
 .grp 11 true [(pg 12 11 true (.fa 0 3)), (pg 13 11 true (.load false 1 12))] 14 13,
 ao 5 (.mv 14)]) (.cond 5 (.seq (.reg [ao 4 (.mv (.c (.int .i64 (-1))))]) (.ret)) (.seq (.reg [ao 16 (.fa 0 2),
 ao 17 (.load false 1 16),
 ao 18 (.fa 0 3),
 ao 19 (.load false 1 18),
 ao 20 (.eq true false [.b] 17 19),
 ao 15 (.mv 20)]) (.cond 15 (.seq (.reg [ao 4 (.mv (.c (.int .i64 1)))]) (.ret)) (.seq (.reg [ao 22 (.fa 1 2),
 ao 23 (.load false 1 22),
 ao 24 (.fa 1 3),
 ao 25 (.load false 1 24),
 ao 26 (.bin .neq 23 25),
 ao 21 (.mv 26)]) (.cond 21 (.seq (.reg [ao 27 (.fa 1 2),
 ao 28 (.load false 1 27),
 ao 29 (.fa 1 3),
 ao 30 (.load false 1 29),
 .call (po 31 (.call 105 [28, 30])) 105 q1r,
 ao 4 (.mv 31)]) (.ret)) (.skip)))))))) (.seq (.reg [ao 32 (.fa 2 2),
 ao 33 (.load false 1 32),
 ao 34 (.fa 2 3),
 ao 35 (.load false 1 34),
 .call (po 36 (.call 105 [33, 35])) 105 q1r,
 ao 4 (.mv 36)]) (.ret)))
theorem qbtv : AC.ok Try.prog (TIof Try.prog) 37 0 (kret [.t 4] (decI .i64)) q3s := qm (zA (qd.ok qbgz) (zA (qd.ok qbgz) trivial))
theorem qbvz (Ae : Bool) (Af Ag : Int) (Am : Bool) (An Ao : Int) : den 0 (kret [.t 4] (decI .i64)) q3s (qi [(0, .agg (qcy Ae Af Ag)), (1, .agg (qcy Am An Ao))]) (qh []) (kend (kret [.t 4] (decI .i64))) = qvg Ae Af Ag Am An Ao := by
  rw [qbae]; kernel_rfl
theorem qbv0 : cFn (TIof Try.prog) Try.f70 = some ⟨37, [.t 4], scOf q3s⟩ := by kernel_rfl
def qbv1 (xs : List AV) : Option Int := qdg ((qj xs) 1).cells (qdg ((qj xs) 0).cells (qvg))
def q8s {R : Type} : List AV → (AV → Option R) → Option R := entF qbrt qbv1 (AV.int .i64)
theorem qbv2 {R : Type} : qd Try.prog 70 (q8s (R := R)) :=
  qt tabOk follows Try.func70 (by kernel_rfl) qbv0 hdeI qbtv (qo (by kernel_rfl)) fun xs => qbvz _ _ _ _ _ _
def qblc : Shp := ⟨[(0, .st (lk qc)), (1, .st (lk qc))], []⟩
def qy5 (Ae : Bool) (Af Ag Ah : Int) (Am : Bool) (An Ao Ap : Int) : Option Int :=
  (oB (qvg Ae Af Ag Am An Ao) fun r1 => (bif (r1 != (0 : Int)) then (some r1) else (bif (decide (Ah < Ap)) then (some (-1 : Int)) else (bif (decide (Ah > Ap)) then (some (1 : Int)) else (some (0 : Int))))))
def qqf := hull qy5
theorem q7c : qqf = qy5 := qk _
def qy6 : AC Int :=
  .seq (.reg [ao 2 (.box 0),
 ao 3 (.box 1),
 ao 4 (.mv (.c (.int .i64 0)))]) (.seq (.seq (.reg [ao 6 (.fa 0 2),
 ao 7 (.load true 3 6),
 ao 8 (.fa 0 3),
 ao 9 (.load true 3 8),
 .call (po 10 (.call 70 [7, 9])) 70 q8s,
 ao 5 (.mv 10)]) (.seq (.reg [ao 11 (.mv 5),
 ao 12 (.bin .neq 11 (.c (.int .i64 0)))]) (.cond 12 (.seq (.reg [ao 13 (.mv 5),
 ao 4 (.mv 13)]) (.ret)) (.skip)))) (.seq (.block 0 (.seq (.reg [ao 15 (.fa 3 2),
 ao 16 (.load false 1 15),
 ao 17 (.fa 3 3),
 ao 18 (.load false 1 17),
 ao 19 (.bin .lss 16 18),
 ao 14 (.mv 19)]) (.cond 14 (.seq (.reg [ao 4 (.mv (.c (.int .i64 (-1))))]) (.ret)) (.seq (.reg [ao 21 (.fa 3 2),
 ao 22 (.load false 1 21),
 ao 23 (.fa 3 3),
 ao 24 (.load false 1 23),
 ao 25 (.bin .gtr 22 24),
 ao 20 (.mv 25)]) (.cond 20 (.seq (.reg [ao 4 (.mv (.c (.int .i64 1)))]) (.ret)) (.skip)))))) (.seq (.reg [ao 4 (.mv (.c (.int .i64 0)))]) (.ret))))
theorem qbpe : AC.ok Try.prog (TIof Try.prog) 26 0 (kret [.t 4] (decI .i64)) qy6 := qm (zA (qd.ok qbv2) trivial)
theorem qbru (Ae : Bool) (Af Ag Ah : Int) (Am : Bool) (An Ao Ap : Int) : den 0 (kret [.t 4] (decI .i64)) qy6 (qi [(0, .agg (qa Ae Af Ag Ah)), (1, .agg (qa Am An Ao Ap))]) (qh []) (kend (kret [.t 4] (decI .i64))) = qqf Ae Af Ag Ah Am An Ao Ap := by
  rw [q7c]; kernel_rfl
theorem qbrv : cFn (TIof Try.prog) Try.f30 = some ⟨26, [.t 4], scOf qy6⟩ := by kernel_rfl
def qbrw (xs : List AV) : Option Int := qb ((qj xs) 1).cells (qb ((qj xs) 0).cells (qqf))
def q5i {R : Type} : List AV → (AV → Option R) → Option R := entF qblc qbrw (AV.int .i64)
theorem qbrx {R : Type} : qd Try.prog 30 (q5i (R := R)) :=
  qt tabOk follows Try.func30 (by kernel_rfl) qbrv hdeI qbpe (qo (by kernel_rfl)) fun xs => qbru _ _ _ _ _ _ _ _
def qbix : Shp := ⟨[(0, .st (lk qe)), (1, .one (.ptr 0 0))], [.box true (lk qe)]⟩
def q5j {R : Type} (KK : AV → Mem → Option R) := (fun v3 Aa Ab Ac Ad Au Av Aw Ax => KK (.bool v3) (qh [(some (.box true [(.bool Aa), (.int .u64 Ab), (.int .u64 Ac), (.int .i64 Ad), (.int .i64 Au), (.str Av), (.str Aw), (.int .i64 Ax)]))]))
def qxj {R : Type}  (Ae : Bool) (Af Ag Ah Ai : Int) (Aj Ak : List UInt8) (Al : Int) (Aa : Bool) (Ab Ac Ad Au : Int) (Av Aw : List UInt8) (Ax : Int) (kr : Bool → Bool → Int → Int → Int → Int → (List UInt8) → (List UInt8) → Int → Option R) : Option R :=
  (oB (qqf Ae Af Ag Ah Aa Ab Ac Ad) fun r1 => (kr (decide (r1 > (0 : Int))) Aa Ab Ac Ad Au Av Aw Ax))
def qou {R : Type} := hull (qxj (R := R))
theorem q5k {R : Type} : qou (R := R) = qxj := qk _
def qi3 {R : Type} (KK : AV → Mem → Option R) : AC R :=
  .seq (.reg [ao 2 (.box 0),
 ao 3 (.mv (.c (.bool false)))]) (.seq (.reg [ao 4 (.fa 0 2),
 ao 5 (.load true 4 4),
 ao 6 (.fa 0 1),
 ao 7 (.load true 4 6),
 .call (po 8 (.call 30 [5, 7])) 30 q5i,
 ao 9 (.bin .gtr 8 (.c (.int .i64 0))),
 ao 3 (.mv 9)]) (.seq (.view [.sel [3] [0]]) (.ret)))
theorem qbld {R : Type} (KK : AV → Mem → Option R) : AC.ok Try.prog (TIof Try.prog) 10 1 (qbm [.t 3] KK) (qi3 KK) := qm (zA (qd.ok qbrx) trivial)
theorem qbpf {R : Type} (KK : AV → Mem → Option R) (Ae : Bool) (Af Ag Ah Ai : Int) (Aj Ak : List UInt8) (Al : Int) (Aa : Bool) (Ab Ac Ad Au : Int) (Av Aw : List UInt8) (Ax : Int) : den 1 (qbm [.t 3] KK) (qi3 KK) (qi [(0, .agg (qp Ae Af Ag Ah Ai Aj Ak Al)), (1, (.ptr 0 0))]) (qh [(some (.box true (qp Aa Ab Ac Ad Au Av Aw Ax)))]) (kend (qbm [.t 3] KK)) = qou Ae Af Ag Ah Ai Aj Ak Al Aa Ab Ac Ad Au Av Aw Ax (q5j KK) := by
  rw [q5k]; kernel_rfl
theorem qbpg : cFn (TIof Try.prog) Try.f108 = some ⟨10, [.t 3], scOf (qi3 (R := Unit) (fun _ _ => none))⟩ := by kernel_rfl
theorem qbph {R : Type} (KK : AV → Mem → Option R) : (qi3 KK).er = some (scOf (qi3 (R := Unit) (fun _ _ => none))) := by kernel_rfl
def q7d {R : Type} : List AV → Mem → (AV → Mem → Option R) → Option R := refE qbix fun xs m KK => qr (bxC (m.s 0)) (qr ((qj xs) 0).cells (qou)) (q5j KK)
theorem qbpi {R : Type} : qm3 Try.prog 108 (q7d (R := R)) :=
  qx4 (ac := fun KK => qi3 KK) tabOk follows Try.func108 (by kernel_rfl) qbpg (fun KK => qbld KK) (fun KK => qbph KK) rfl fun xs m KK => qbpf KK _ _ _ _ _ _ _ _ _ _ _ _ _ _ _ _
def qbw {R : Type}  (K : Ex → Env → Mem → Option R) := (fun z_b0_0 z_b0_1 z_b0_2 z_b0_3 z_b0_4 z_b0_5 z_b0_6 z_b0_7 => K (.exit 0) (qi []) (qh [(some (.box true (qp z_b0_0 z_b0_1 z_b0_2 z_b0_3 z_b0_4 z_b0_5 z_b0_6 z_b0_7)))]))
def qb2 {R : Type} (KK : AV → Mem → Option R) := (fun v4 Aa Ab Ac Ad Au Av Aw Ax => KK (.int .i64 v4) (qh [(some (.box true [(.bool Aa), (.int .u64 Ab), (.int .u64 Ac), (.int .i64 Ad), (.int .i64 Au), (.str Av), (.str Aw), (.int .i64 Ax)]))]))
def qiv : Shp := ⟨[(0, .one (.l (.sl 8))), (1, .one (.fn 108 [(0, 0)])), (7, .one (.l (.i .i64))), (8, .one (.l (.i .i64)))], [.box true (lk qe)]⟩
def qcw (v0 : List AV) (v7 v8 : Int) (Aa : Bool) (Ab Ac Ad Au : Int) (Av Aw : List UInt8) (Ax : Int) : Env := qi [(0, (.sl 8 v0)), (1, (.func 108 [(.ptr 0 0)])), (7, (.int .i64 v7)), (8, (.int .i64 v8))]
def qcx (v0 : List AV) (v7 v8 : Int) (Aa : Bool) (Ab Ac Ad Au : Int) (Av Aw : List UInt8) (Ax : Int) : Mem := qh [(some (.box true (qp Aa Ab Ac Ad Au Av Aw Ax)))]
def qbf {R : Type}  (v0 : List AV) (v7 v8 : Int) (Aa : Bool) (Ab Ac Ad Au : Int) (Av Aw : List UInt8) (Ax : Int) (next : Int → Bool → Int → Int → Int → Int → (List UInt8) → (List UInt8) → Int → Option R) (kx0 : Bool → Int → Int → Int → Int → (List UInt8) → (List UInt8) → Int → Option R) (kr : Int → Bool → Int → Int → Int → Int → (List UInt8) → (List UInt8) → Int → Option R) : Option R :=
  (bif (decide (v8 < v7)) then (oB (ixB v0 v8) fun y1 => (bif fitC qe y1.cells then (qou (gB y1.cells 0) (gI y1.cells 1) (gI y1.cells 2) (gI y1.cells 3) (gI y1.cells 4) (gS y1.cells 5) (gS y1.cells 6) (gI y1.cells 7) Aa Ab Ac Ad Au Av Aw Ax fun v3q2 b0_0q3 b0_1q4 b0_2q5 b0_3q6 b0_4q7 b0_5q8 b0_6q9 b0_7q10 => (bif v3q2 then (kr v8 b0_0q3 b0_1q4 b0_2q5 b0_3q6 b0_4q7 b0_5q8 b0_6q9 b0_7q10) else (next (IntKind.i64.wrap (v8 + (1 : Int))) b0_0q3 b0_1q4 b0_2q5 b0_3q6 b0_4q7 b0_5q8 b0_6q9 b0_7q10))) else none)) else (kx0 Aa Ab Ac Ad Au Av Aw Ax))
def qb6 {R : Type}  (v0 : List AV) (v7 : Int) (kx0 : Bool → Int → Int → Int → Int → (List UInt8) → (List UInt8) → Int → Option R) (kr : Int → Bool → Int → Int → Int → Int → (List UInt8) → (List UInt8) → Int → Option R) : Nat → Int → Bool → Int → Int → Int → Int → (List UInt8) → (List UInt8) → Int → Option R
  | 0 => (fun _ _ _ _ _ _ _ _ _ => none)
  | n + 1 => (fun v8 Aa Ab Ac Ad Au Av Aw Ax => qbf v0 v7 v8 Aa Ab Ac Ad Au Av Aw Ax (qb6 v0 v7 kx0 kr n) kx0 kr)
def qb8 {R : Type} := hull (qb6 (R := R))
theorem qel {R : Type} : qb8 (R := R) = qb6 := qk _
def qbg {R : Type} (KK : AV → Mem → Option R) : AC R :=
  .seq (.reg [ao 9 (.bin .lss 8 7)]) (.seq (.cond 9 (.skip) (.seq (.view [.sel [] [0]]) (.exit 0))) (.seq (.block 1 (.seq (.reg [ao 10 (.mv 8),
 ao 5 (.mv 10)]) (.seq (.reg [ao 11 (.mv 1),
 ao 12 (.mv 0),
 ao 13 (.mv 5),
 ao 14 (.ia 8 12 13),
 .st (.etac 14 qe),
 ao 15 (.load true 8 14),
 .st (.sel [0, 1, 5, 7, 8, 11, 15] [0]),
 .callr (po 16 (.callv 11 [15])) 108 q7d]) (.cond 16 (.seq (.reg [ao 17 (.mv 5),
 ao 4 (.mv 17)]) (.seq (.view [.sel [4] [0]]) (.ret))) (.skip))))) (.seq (.reg [ao 18 (.bin .add 8 (.c (.int .i64 1))),
 ao 8 (.mv 18)]) (.view [.sel [0, 1, 7, 8] [0]]))))
theorem qjb {R : Type} (KK : AV → Mem → Option R) : AC.ok Try.prog (TIof Try.prog) 19 1 (qbm [.t 4] KK) (qbg KK) := qm (zA qbpi trivial)
theorem qiw {R : Type} (KK : AV → Mem → Option R) (v0 : List AV) (v7 v8 : Int) (Aa : Bool) (Ab Ac Ad Au : Int) (Av Aw : List UInt8) (Ax : Int) (K : Ex → Env → Mem → Option R) : den 1 (qbm [.t 4] KK) (qbg KK) (qcw v0 v7 v8 Aa Ab Ac Ad Au Av Aw Ax) (qcx v0 v7 v8 Aa Ab Ac Ad Au Av Aw Ax) K = qbf v0 v7 v8 Aa Ab Ac Ad Au Av Aw Ax (fun z_v8 z_b0_0 z_b0_1 z_b0_2 z_b0_3 z_b0_4 z_b0_5 z_b0_6 z_b0_7 => K .norm (qcw v0 v7 z_v8 z_b0_0 z_b0_1 z_b0_2 z_b0_3 z_b0_4 z_b0_5 z_b0_6 z_b0_7) (qcx v0 v7 z_v8 z_b0_0 z_b0_1 z_b0_2 z_b0_3 z_b0_4 z_b0_5 z_b0_6 z_b0_7)) (qbw K) (qb2 KK) := by kernel_rfl
theorem qju {R : Type} (KK : AV → Mem → Option R) (v0 : List AV) (v7 : Int) (K : Ex → Env → Mem → Option R) : ∀ (n : Nat) (v8 : Int) (Aa : Bool) (Ab Ac Ad Au : Int) (Av Aw : List UInt8) (Ax : Int), qe2 (den 1 (qbm [.t 4] KK) (qbg KK)) n (qcw v0 v7 v8 Aa Ab Ac Ad Au Av Aw Ax) (qcx v0 v7 v8 Aa Ab Ac Ad Au Av Aw Ax) K = qb8 v0 v7 (qbw K) (qb2 KK) n v8 Aa Ab Ac Ad Au Av Aw Ax := by
  rw [qel]
  intro n
  induction n with
  | zero => intros; rfl
  | succ n ih =>
 intro v8 Aa Ab Ac Ad Au Av Aw Ax
 exact (qiw KK v0 v7 v8 Aa Ab Ac Ad Au Av Aw Ax (itK (den 1 (qbm [.t 4] KK) (qbg KK)) n K)).trans (congrArg (fun q => qbf v0 v7 v8 Aa Ab Ac Ad Au Av Aw Ax q (qbw K) (qb2 KK)) (funext fun v8 => funext fun Aa => funext fun Ab => funext fun Ac => funext fun Ad => funext fun Au => funext fun Av => funext fun Aw => funext fun Ax => ih v8 Aa Ab Ac Ad Au Av Aw Ax))
def qew {R : Type} (KK : AV → Mem → Option R) := subE (R := R) qiv fun t m K => qr (bxC (m.s 0)) (qb8 (gL [t 0] 0) (gI [t 7] 0) (qbw K) (qb2 KK) FU (gI [t 8] 0))
theorem qjv {R : Type} (KK : AV → Mem → Option R) : qby Try.prog (TIof Try.prog) 19 1 (qbm [.t 4] KK) (.loop (scOf (qbg KK))) (qew KK) :=
  qd9 tabOk follows (qjb KK) (qo (by kernel_rfl)) fun t m K => qju KK _ _ K FU _ _ _ _ _ _ _ _ _
def qke : Shp := ⟨[(0, .one (.l (.sl 8))), (1, .one (.fn 108 [(0, 0)]))], [.box true (lk qe)]⟩
def qe3 {R : Type} (KK : AV → Mem → Option R) := (fun v4 Aa Ab Ac Ad Au Av Aw Ax => KK (.int .i64 v4) (qh [(some (.box true [(.bool Aa), (.int .u64 Ab), (.int .u64 Ac), (.int .i64 Ad), (.int .i64 Au), (.str Av), (.str Aw), (.int .i64 Ax)]))]))
def qc6 {R : Type}  (v0 : List AV) (Aa : Bool) (Ab Ac Ad Au : Int) (Av Aw : List UInt8) (Ax : Int) (kr : Int → Bool → Int → Int → Int → Int → (List UInt8) → (List UInt8) → Int → Option R) : Option R :=
  (qb8 v0 (v0.length : Int) (fun b0_0q1 b0_1q2 b0_2q3 b0_3q4 b0_4q5 b0_5q6 b0_6q7 b0_7q8 => (kr (-1 : Int) b0_0q1 b0_1q2 b0_2q3 b0_3q4 b0_4q5 b0_5q6 b0_6q7 b0_7q8)) kr FU (0 : Int) Aa Ab Ac Ad Au Av Aw Ax)
def qbp {R : Type} := hull (qc6 (R := R))
theorem qe4 {R : Type} : qbp (R := R) = qc6 := qk _
def qbk {R : Type} (KK : AV → Mem → Option R) : AC R :=
  .seq (.reg [ao 4 (.mv (.c (.int .i64 0)))]) (.seq (.seq (.reg [ao 6 (.mv 0),
 ao 7 (.len false 6),
 ao 8 (.mv (.c (.int .i64 0)))]) (.block 0 (.seq (.view [.sel [0, 1, 7, 8] [0]]) (.sub (.loop (scOf (qbg KK))) (qew KK))))) (.seq (.reg [ao 4 (.mv (.c (.int .i64 (-1))))]) (.seq (.view [.sel [4] [0]]) (.ret))))
theorem qks {R : Type} (KK : AV → Mem → Option R) : AC.ok Try.prog (TIof Try.prog) 19 1 (qbm [.t 4] KK) (qbk KK) := qm (zA (qjv KK) trivial)
theorem qk7 {R : Type} (KK : AV → Mem → Option R) (v0 : List AV) (Aa : Bool) (Ab Ac Ad Au : Int) (Av Aw : List UInt8) (Ax : Int) : den 1 (qbm [.t 4] KK) (qbk KK) (qi [(0, (.sl 8 v0)), (1, (.func 108 [(.ptr 0 0)]))]) (qh [(some (.box true (qp Aa Ab Ac Ad Au Av Aw Ax)))]) (kend (qbm [.t 4] KK)) = qbp v0 Aa Ab Ac Ad Au Av Aw Ax (qe3 KK) := by
  rw [qe4]; kernel_rfl
theorem qk8 : cFn (TIof Try.prog) Try.f97 = some ⟨19, [.t 4], scOf (qbk (R := Unit) (fun _ _ => none))⟩ := by kernel_rfl
theorem qk9 {R : Type} (KK : AV → Mem → Option R) : (qbk KK).er = some (scOf (qbk (R := Unit) (fun _ _ => none))) := by kernel_rfl
def qfc {R : Type} : List AV → Mem → (AV → Mem → Option R) → Option R := refE qke fun xs m KK => qr (bxC (m.s 0)) (qbp (gL [(qj xs) 0] 0)) (qe3 KK)
theorem qla {R : Type} : qm3 Try.prog 97 (qfc (R := R)) :=
  qx4 (ac := fun KK => qbk KK) tabOk follows Try.func97 (by kernel_rfl) qk8 (fun KK => qks KK) (fun KK => qk9 KK) rfl fun xs m KK => qk7 KK _ _ _ _ _ _ _ _ _
def qdc (l : List AV) : Option (List AV) := qbuy 80 l
def qkf {R : Type} (xs : List AV) (K : AV → Option R) : Option R := qbgk 8 80 xs K
theorem qvh {R : Type} : qd Try.prog 101 (qkf (R := R)) := qb66 (ρ := qbr9 101 4 22 34) tabOk (qb4i follows "slices.Clone[[]ddi/api.Block,ddi/api.Block]" (by kernel_rfl) (by kernel_rfl) (by kernel_rfl) (by kernel_rfl) (by kernel_rfl) (by kernel_rfl) (by kernel_rfl) (by kernel_rfl)) (by kernel_rfl) (by decide) (by decide)
def qbg0 {R : Type} (vs : List AV) (m : Mem) (K : AV → Mem → Option R) : Option R := qbat 8 80 vs m K
theorem qbyy {R : Type} : qm3 Try.prog 109 (qbg0 (R := R)) := qb4j (ρ := qbmk 109 113 114 0 3 4 22 34) tabOk (qb3d follows "slices.Insert[[]ddi/api.Block,ddi/api.Block]" (by kernel_rfl) (by kernel_rfl) Try.func113 (by kernel_rfl) (by kernel_rfl) (by kernel_rfl) (by kernel_rfl) (by kernel_rfl) (by kernel_rfl) (by kernel_rfl) (by kernel_rfl) (by kernel_rfl) (by kernel_rfl) (by kernel_rfl) (by kernel_rfl) (by kernel_rfl) (by kernel_rfl) (by kernel_rfl) (by kernel_rfl) (by kernel_rfl)) (by kernel_rfl) (by kernel_rfl) (by decide) (by decide)
def q23  (v0 : List AV) (Aa : Bool) (Ab Ac Ad Au : Int) (Av Aw : List UInt8) (Ax : Int) (K : Ex → Env → Mem → Option (List AV)) := (fun z_v5 => K .norm (qi [(0, (.sl 8 v0)), (3, (.ptr 0 0)), (5, (.int .i64 z_v5))]) (qh [(some (.box true (qp Aa Ab Ac Ad Au Av Aw Ax)))]))
def qbfm : Shp := ⟨[(0, .one (.l (.sl 8))), (3, .one (.ptr 0 0)), (5, .one (.l (.i .i64)))], [.box true (lk qe)]⟩
def qvi  (v0 : List AV) (v5 : Int) (Aa : Bool) (Ab Ac Ad Au : Int) (Av Aw : List UInt8) (Ax : Int) (kn : Int → Option (List AV)) : Option (List AV) :=
  (bif (decide (v5 < (0 : Int))) then (kn (v0.length : Int)) else (kn v5))
def qrp := hull (qvi)
theorem q24 : qrp = qvi := qk _
def qov : AC (List AV) :=
  .seq (.reg [ao 9 (.mv 5),
 ao 10 (.bin .lss 9 (.c (.int .i64 0)))]) (.cond 10 (.seq (.reg [ao 11 (.mv 0),
 ao 12 (.len false 11),
 ao 5 (.mv 12)]) (.view [.sel [0, 3, 5] [0]])) (.seq (.skip) (.view [.sel [0, 3, 5] [0]])))
theorem qbiy : AC.ok Try.prog (TIof Try.prog) 19 0 (kret [.t 4] (decF true 8)) qov := qm trivial
theorem qble (v0 : List AV) (v5 : Int) (Aa : Bool) (Ab Ac Ad Au : Int) (Av Aw : List UInt8) (Ax : Int) (K : Ex → Env → Mem → Option (List AV)) : den 0 (kret [.t 4] (decF true 8)) qov (qi [(0, (.sl 8 v0)), (3, (.ptr 0 0)), (5, (.int .i64 v5))]) (qh [(some (.box true (qp Aa Ab Ac Ad Au Av Aw Ax)))]) K = qrp v0 v5 Aa Ab Ac Ad Au Av Aw Ax (q23 v0 Aa Ab Ac Ad Au Av Aw Ax K) := by
  rw [q24]; kernel_rfl
def q5l := subE (R := (List AV)) qbfm fun t m K => qr (bxC (m.s 0)) (qrp (gL [t 0] 0) (gI [t 5] 0)) (q23 (gL [t 0] 0) (gB (bxC (m.s 0)) 0) (gI (bxC (m.s 0)) 1) (gI (bxC (m.s 0)) 2) (gI (bxC (m.s 0)) 3) (gI (bxC (m.s 0)) 4) (gS (bxC (m.s 0)) 5) (gS (bxC (m.s 0)) 6) (gI (bxC (m.s 0)) 7) K)
theorem qblf : qby Try.prog (TIof Try.prog) 19 0 (kret [.t 4] (decF true 8)) (scOf qov) (q5l) :=
  qex tabOk follows (qbiy) (qo (by kernel_rfl)) fun t m K => qble _ _ _ _ _ _ _ _ _ _ K
def qbpj : Shp := ⟨[(0, .one (.l (.sl 8))), (1, .st (lk qe))], []⟩
def q1s (v0 : List AV) (Am : Bool) (An Ao Ap Ay : Int) (Az A0 : List UInt8) (A1 : Int) : Option (List AV) :=
  (qbp v0 Am An Ao Ap Ay Az A0 A1 fun v4q1 b0_0q2 b0_1q3 b0_2q4 b0_3q5 b0_4q6 b0_5q7 b0_6q8 b0_7q9 => (qrp v0 v4q1 b0_0q2 b0_1q3 b0_2q4 b0_3q5 b0_4q6 b0_5q7 b0_6q8 b0_7q9 (fun v5q10 => (oB (qdc v0) fun r11 => (bif hd r11 r11.length then (bif hd ([(.agg [(.bool b0_0q2), (.int .u64 b0_1q3), (.int .u64 b0_2q4), (.int .i64 b0_3q5), (.int .i64 b0_4q6), (.str b0_5q7), (.str b0_6q8), (.int .i64 b0_7q9)])] : List AV) (([(.agg [(.bool b0_0q2), (.int .u64 b0_1q3), (.int .u64 b0_2q4), (.int .i64 b0_3q5), (.int .i64 b0_4q6), (.str b0_5q7), (.str b0_6q8), (.int .i64 b0_7q9)])] : List AV).length) then (oB (q38 80 r11 v5q10 ([(.agg [(.bool b0_0q2), (.int .u64 b0_1q3), (.int .u64 b0_2q4), (.int .i64 b0_3q5), (.int .i64 b0_4q6), (.str b0_5q7), (.str b0_6q8), (.int .i64 b0_7q9)])] : List AV)) fun r12 => (bif hd r12 r12.length then (some r12) else none)) else none) else none)))))
def qsh := hull q1s
theorem q8t : qsh = q1s := qk _
def q1t : AC (List AV) :=
  .seq (.reg [ao 3 (.box 1),
 ao 4 (.mv (.c .nils))]) (.seq (.reg [ao 6 (.mv 0),
 ao 7 (.mkf 108 [3]),
 .st (.sel [0, 3, 6, 7] [0]),
 .callr (po 8 (.call 97 [6, 7])) 97 qfc,
 ao 5 (.mv 8)]) (.seq (.seq (.view [.sel [0, 3, 5] [0]]) (.sub (scOf qov) q5l)) (.seq (.draw3 [] [14, 17] [ao 13 (.mv 0),
 .call (po 14 (.call 101 [13])) 101 qkf,
 ao 15 (.mv 5),
 ao 16 (.load true 8 3),
 ao 17 (.bsl 8 [16])] [.callr (po 18 (.call 109 [14, 15, 17])) 109 qbg0,
 ao 4 (.mv 18)]) (.ret))))
theorem qbry : AC.ok Try.prog (TIof Try.prog) 19 0 (kret [.t 4] (decF true 8)) q1t := qm (zA qla (zA qblf (zA (qd.ok qvh) (zA qbyy (zA rfl trivial)))))
theorem qbtw (v0 : List AV) (Am : Bool) (An Ao Ap Ay : Int) (Az A0 : List UInt8) (A1 : Int) : den 0 (kret [.t 4] (decF true 8)) q1t (qi [(0, (.sl 8 v0)), (1, .agg (qp Am An Ao Ap Ay Az A0 A1))]) (qh []) (kend (kret [.t 4] (decF true 8))) = qsh v0 Am An Ao Ap Ay Az A0 A1 := by
  rw [q8t]; kernel_rfl
theorem qbtx : cFn (TIof Try.prog) Try.f89 = some ⟨19, [.t 4], scOf q1t⟩ := by kernel_rfl
def qbty (xs : List AV) : Option (List AV) := qr ((qj xs) 1).cells (qsh (gL [(qj xs) 0] 0))
def q7e {R : Type} : List AV → (AV → Option R) → Option R := entF qbpj qbty (AV.fr true 8)
theorem qbtz {R : Type} : qd Try.prog 89 (q7e (R := R)) :=
  qt tabOk follows Try.func89 (by kernel_rfl) qbtx hdeF qbry (qo (by kernel_rfl)) fun xs => qbtw _ _ _ _ _ _ _ _ _
def qm6 (z : AV) : Option ((List AV) × Int) := cond (qfn [(.one (.sl 8)), (.one (.i .i64))] z) (some (aL (gC (tpL z) 0), aI (gC (tpL z) 1))) none
def qbv3 (r : (List AV) × Int) : AV := .tup [.sl 8 r.1, .int .i64 r.2]
def q7f  (v0 : List AV) (Aa : Bool) (Ab Ac Ad Au : Int) (Av Aw : List UInt8) (Ax : Int) (K : Ex → Env → Mem → Option ((List AV) × Int)) := (fun z_v25 => K .norm (qi [(0, (.sl 8 v0)), (3, (.ptr 0 0)), (25, (.bool z_v25))]) (qh [(some (.box true (qp Aa Ab Ac Ad Au Av Aw Ax)))]))
def qblg : Shp := ⟨[(0, .one (.l (.sl 8))), (3, .one (.ptr 0 0))], [.box true (lk qe)]⟩
def qy7  (v0 : List AV) (Aa : Bool) (Ab Ac Ad Au : Int) (Av Aw : List UInt8) (Ax : Int) (kn : Bool → Option ((List AV) × Int)) : Option ((List AV) × Int) :=
  (oB (qkr v0 Aa Ab Ac Ad Au Av Aw Ax) fun r1 => (bif r1 then (kn true) else (oB (qot v0 Aa Ab Ac Ad) fun r2 => (kn r2))))
def qv4 := hull (qy7)
theorem q7g : qv4 = qy7 := qk _
def qrq : AC ((List AV) × Int) :=
  .seq (.reg [ao 17 (.mv 0),
 ao 18 (.load true 8 3),
 .call (po 19 (.call 60 [17, 18])) 60 q1o,
 ao 20 (.mv 19),
 ag 21 20 false (.mv 0),
 ag 22 20 false (.fa 0 3),
 ag 23 20 false (.load true 4 22),
 .call (pg 24 20 false (.call 64 [21, 23])) 64 q21,
 ao 25 (.pick 20 (.c (.bool true)) 24)]) (.view [.sel [0, 3, 25] [0]])
theorem qbpk : AC.ok Try.prog (TIof Try.prog) 32 0 (kret [.t 4, .t 5] qm6) qrq := qm (zA (qd.ok qbla) (zA (qd.ok qbpd) trivial))
theorem qbrz (v0 : List AV) (Aa : Bool) (Ab Ac Ad Au : Int) (Av Aw : List UInt8) (Ax : Int) (K : Ex → Env → Mem → Option ((List AV) × Int)) : den 0 (kret [.t 4, .t 5] qm6) qrq (qi [(0, (.sl 8 v0)), (3, (.ptr 0 0))]) (qh [(some (.box true (qp Aa Ab Ac Ad Au Av Aw Ax)))]) K = qv4 v0 Aa Ab Ac Ad Au Av Aw Ax (q7f v0 Aa Ab Ac Ad Au Av Aw Ax K) := by
  rw [q7g]; kernel_rfl
def q8u := subE (R := (List AV) × Int) qblg fun t m K => qr (bxC (m.s 0)) (qv4 (gL [t 0] 0)) (q7f (gL [t 0] 0) (gB (bxC (m.s 0)) 0) (gI (bxC (m.s 0)) 1) (gI (bxC (m.s 0)) 2) (gI (bxC (m.s 0)) 3) (gI (bxC (m.s 0)) 4) (gS (bxC (m.s 0)) 5) (gS (bxC (m.s 0)) 6) (gI (bxC (m.s 0)) 7) K)
theorem qbr0 : qby Try.prog (TIof Try.prog) 32 0 (kret [.t 4, .t 5] qm6) (scOf qrq) (q8u) :=
  qex tabOk follows (qbpk) (qo (by kernel_rfl)) fun t m K => qbrz _ _ _ _ _ _ _ _ _ K
def qbv4 : Shp := ⟨[(0, .one (.l (.sl 8))), (1, .st (lk qe))], []⟩
def q8v (v0 : List AV) (Am : Bool) (An Ao Ap Ay : Int) (Az A0 : List UInt8) (A1 : Int) : Option ((List AV) × Int) :=
  (oB (qqe Am An Ao Ap Ay Az A0 A1) fun r1 => (bif (r1 != (0 : Int)) then (some (([] : List AV), r1)) else (oB (qps v0 Am An Ao Ap) fun r2 => (bif (decide (r2 ≥ (0 : Int))) then (some (([] : List AV), (12 : Int))) else (qv4 v0 Am An Ao Ap Ay Az A0 A1 (fun v25q3 => (bif v25q3 then (some (([] : List AV), (24 : Int))) else (bif (decide ((v0.length : Int) ≥ (512 : Int))) then (some (([] : List AV), (9 : Int))) else (oB (qsh v0 Am An Ao Ap Ay Az A0 A1) fun r4 => (some (r4, (0 : Int))))))))))))
def q1u := hull q8v
theorem qbg1 : q1u = q8v := qk _
def q8w : AC ((List AV) × Int) :=
  .seq (.reg [ao 3 (.box 1),
 ao 4 (.mv (.c .nils)),
 ao 5 (.mv (.c (.int .i64 0)))]) (.seq (.seq (.reg [ao 7 (.load true 8 3),
 .call (po 8 (.call 59 [7])) 59 q8q,
 ao 6 (.mv 8)]) (.seq (.reg [ao 9 (.mv 6),
 ao 10 (.bin .neq 9 (.c (.int .i64 0)))]) (.cond 10 (.seq (.reg [ao 11 (.mv 6),
 ao 4 (.mv (.c .nils)),
 ao 5 (.mv 11)]) (.seq (.view [.eta 4 (.one (.sl 8))]) (.ret))) (.skip)))) (.seq (.seq (.reg [ao 12 (.mv 0),
 ao 13 (.fa 0 3),
 ao 14 (.load true 4 13),
 .call (po 15 (.call 63 [12, 14])) 63 qyg,
 ao 16 (.bin .geq 15 (.c (.int .i64 0)))]) (.cond 16 (.seq (.reg [ao 4 (.mv (.c .nils)),
 ao 5 (.mv (.c (.int .i64 12)))]) (.seq (.view [.eta 4 (.one (.sl 8))]) (.ret))) (.skip))) (.seq (.seq (.seq (.view [.sel [0, 3] [0]]) (.sub (scOf qrq) q8u)) (.cond 25 (.seq (.reg [ao 4 (.mv (.c .nils)),
 ao 5 (.mv (.c (.int .i64 24)))]) (.seq (.view [.eta 4 (.one (.sl 8))]) (.ret))) (.skip))) (.seq (.seq (.reg [ao 26 (.mv 0),
 ao 27 (.len false 26),
 ao 28 (.bin .geq 27 (.c (.int .i64 512)))]) (.cond 28 (.seq (.reg [ao 4 (.mv (.c .nils)),
 ao 5 (.mv (.c (.int .i64 9)))]) (.seq (.view [.eta 4 (.one (.sl 8))]) (.ret))) (.skip))) (.seq (.reg [ao 29 (.mv 0),
 ao 30 (.load true 8 3),
 .callc (po 31 (.call 89 [29, 30])) 89 q7e,
 ao 4 (.mv 31),
 ao 5 (.mv (.c (.int .i64 0)))]) (.ret))))))
theorem qbyz : AC.ok Try.prog (TIof Try.prog) 32 0 (kret [.t 4, .t 5] qm6) q8w := qm (zA (qd.ok qbvx) (zA (qd.ok qbbw) (zA qbr0 (zA (qd.ok qbtz) trivial))))
theorem qbzj (v0 : List AV) (Am : Bool) (An Ao Ap Ay : Int) (Az A0 : List UInt8) (A1 : Int) : den 0 (kret [.t 4, .t 5] qm6) q8w (qi [(0, (.sl 8 v0)), (1, .agg (qp Am An Ao Ap Ay Az A0 A1))]) (qh []) (kend (kret [.t 4, .t 5] qm6)) = q1u v0 Am An Ao Ap Ay Az A0 A1 := by
  rw [qbg1]; kernel_rfl
theorem qbzk : cFn (TIof Try.prog) Try.f57 = some ⟨32, [.t 4, .t 5], scOf q8w⟩ := by kernel_rfl
def qbzl (xs : List AV) : Option ((List AV) × Int) := qr ((qj xs) 1).cells (q1u (gL [(qj xs) 0] 0))
def qbc1 {R : Type} : List AV → (AV → Option R) → Option R := entF qbv4 qbzl qbv3
theorem qbzm {R : Type} : qd Try.prog 57 (qbc1 (R := R)) :=
  qt tabOk follows Try.func57 (by kernel_rfl) qbzk (fun z r h => by
 obtain ⟨h1, h2⟩ := qq h
 cases h2
 exact (qc9 h1).symm) qbyz (qo (by kernel_rfl)) fun xs => qbzj _ _ _ _ _ _ _ _ _
def qqg (z : AV) : Option ((List AV) × AV × Int) := cond (qfn [(.one (.sl 8)), (.st [.b, (.i .u64), (.i .u64), (.i .i64)]), (.one (.i .i64))] z) (some (aL (gC (tpL z) 0), (gC (tpL z) 1), aI (gC (tpL z) 2))) none
def qbc2 (r : (List AV) × AV × Int) : AV := .tup [.sl 8 r.1, qh4 (.st [.b, (.i .u64), (.i .u64), (.i .i64)]) r.2.1, .int .i64 r.2.2]
def qbc3 : Shp := ⟨[(0, .one (.l (.sl 8))), (1, .st (lk qc)), (2, .one (.l (.i .i64))), (3, .one (.l (.i .i64))), (4, .one (.l .s)), (5, .one (.l .s))], []⟩
def qtq (v0 : List AV) (Am : Bool) (An Ao Ap v2 v3 : Int) (v4 v5 : List UInt8) : Option ((List AV) × AV × Int) :=
  (oB (qik v0 Am An Ao Ap v2 v3) fun r1 => (bif (r1.2 != (0 : Int)) then (some (([] : List AV), (.agg [(.bool false), (.int .u64 (0 : Int)), (.int .u64 (0 : Int)), (.int .i64 (0 : Int))]), r1.2)) else (oB (q1u v0 (gB r1.1.cells 0) (gI r1.1.cells 1) (gI r1.1.cells 2) (gI r1.1.cells 3) (2 : Int) v4 v5 (0 : Int)) fun r2 => (bif (r2.2 != (0 : Int)) then (some (([] : List AV), (.agg [(.bool false), (.int .u64 (0 : Int)), (.int .u64 (0 : Int)), (.int .i64 (0 : Int))]), r2.2)) else (some (r2.1, (.agg [(.bool (gB r1.1.cells 0)), (.int .u64 (gI r1.1.cells 1)), (.int .u64 (gI r1.1.cells 2)), (.int .i64 (gI r1.1.cells 3))]), (0 : Int)))))))
def qmg := hull qtq
theorem q1v : qmg = qtq := qk _
def qtr : AC ((List AV) × AV × Int) :=
  .seq (.reg [ao 7 (.box 1),
 ao 12 (.mv (.c .nils)),
 ao 13 (.alloc [(.bool false), (.int .u64 0), (.int .u64 0), (.int .i64 0)]),
 ao 14 (.mv (.c (.int .i64 0)))]) (.seq (.reg [ao 19 (.mv 0),
 ao 20 (.load true 4 7),
 ao 21 (.mv 2),
 ao 22 (.mv 3),
 .call (po 23 (.call 15 [19, 20, 21, 22])) 15 qnr,
 ao 18 (.mv 23),
 ao 24 (.ext 18 0),
 ao 25 (.ext 18 1),
 ao 15 (.alloc [(.bool false), (.int .u64 0), (.int .u64 0), (.int .i64 0)]),
 an (.store 4 15 24),
 ao 16 (.mv 25)]) (.seq (.seq (.reg [ao 26 (.mv 16),
 ao 27 (.bin .neq 26 (.c (.int .i64 0)))]) (.cond 27 (.seq (.reg [ao 28 (.build [(.bool false), (.int .u64 0), (.int .u64 0), (.int .i64 0)] []),
 ao 29 (.mv 16),
 ao 12 (.mv (.c .nils)),
 an (.store 4 13 28),
 ao 14 (.mv 29)]) (.seq (.view [.eta 12 (.one (.sl 8))]) (.ret))) (.skip))) (.seq (.reg [ao 31 (.mv 0),
 ao 32 (.load true 4 15),
 ao 33 (.mv 4),
 ao 34 (.mv 5),
 ao 35 (.build [(.bool false), (.int .u64 0), (.int .u64 0), (.int .i64 0), (.int .i64 0), (.str []), (.str []), (.int .i64 0)] [(0, (4, 32)), (4, (1, (.c (.int .i64 2)))), (5, (1, 33)), (6, (1, 34))]),
 .callc (po 36 (.call 57 [31, 35])) 57 qbc1,
 ao 30 (.mv 36),
 ao 37 (.ext 30 0),
 ao 38 (.ext 30 1),
 ao 17 (.mv 37),
 ao 16 (.mv 38)]) (.seq (.seq (.reg [ao 39 (.mv 16),
 ao 40 (.bin .neq 39 (.c (.int .i64 0)))]) (.cond 40 (.seq (.reg [ao 41 (.build [(.bool false), (.int .u64 0), (.int .u64 0), (.int .i64 0)] []),
 ao 42 (.mv 16),
 ao 12 (.mv (.c .nils)),
 an (.store 4 13 41),
 ao 14 (.mv 42)]) (.seq (.view [.eta 12 (.one (.sl 8))]) (.ret))) (.skip))) (.seq (.draw [] [ao 43 (.mv 17),
 ao 44 (.load true 4 15),
 ao 12 (.mv 43)] [an (.store 4 13 44),
 ao 14 (.mv (.c (.int .i64 0)))]) (.ret))))))
theorem qbfn : AC.ok Try.prog (TIof Try.prog) 45 0 (kret [.t 12, (.cell 13 true 4), .t 14] qqg) qtr := qm (zA (qd.ok qw9) (zA (qd.ok qbzm) (zA rfl trivial)))
theorem qbiz (v0 : List AV) (Am : Bool) (An Ao Ap v2 v3 : Int) (v4 v5 : List UInt8) : den 0 (kret [.t 12, (.cell 13 true 4), .t 14] qqg) qtr (qi [(0, (.sl 8 v0)), (1, .agg (qa Am An Ao Ap)), (2, (.int .i64 v2)), (3, (.int .i64 v3)), (4, (.str v4)), (5, (.str v5))]) (qh []) (kend (kret [.t 12, (.cell 13 true 4), .t 14] qqg)) = qmg v0 Am An Ao Ap v2 v3 v4 v5 := by
  rw [q1v]; kernel_rfl
theorem qbi0 : cFn (TIof Try.prog) Try.f19 = some ⟨45, [.t 12, (.cell 13 true 4), .t 14], scOf qtr⟩ := by kernel_rfl
def qbi1 (xs : List AV) : Option ((List AV) × AV × Int) := qb ((qj xs) 1).cells (qmg (gL [(qj xs) 0] 0)) (gI [(qj xs) 2] 0) (gI [(qj xs) 3] 0) (gS [(qj xs) 4] 0) (gS [(qj xs) 5] 0)
def qz2 {R : Type} : List AV → (AV → Option R) → Option R := entF qbc3 qbi1 qbc2
theorem qbi2 {R : Type} : qd Try.prog 19 (qz2 (R := R)) :=
  qt tabOk follows Try.func19 (by kernel_rfl) qbi0 (fun z r h => by
 obtain ⟨h1, h2⟩ := qq h
 cases h2
 exact (qc9 h1).symm) qbfn (qo (by kernel_rfl)) fun xs => qbiz _ _ _ _ _ _ _ _ _
def q25  (v0 : List AV) (v6 : Bool) (v7 : Int) (Aa : Bool) (Ab Ac Ad Au : Int) (Av Aw : List UInt8) (Ax : Int) (a1 : List AV) (K : Ex → Env → Mem → Option (List AV)) := (fun z_v26 => K .norm (qi [(0, (.sl 8 v0)), (3, (.ptr 0 0)), (5, (.own 1 a1.length)), (6, (.bool v6)), (7, (.int .i64 v7)), (26, (.bool z_v26))]) (qh [(some (.box true (qp Aa Ab Ac Ad Au Av Aw Ax))), (some (.arr true 8 a1))]))
def qbfo : Shp := ⟨[(0, .one (.l (.sl 8))), (3, .one (.ptr 0 0)), (5, .one (.own 1)), (6, .one (.l .b)), (7, .one (.l (.i .i64)))], [.box true (lk qe), .arr true 8]⟩
def qvj  (v0 : List AV) (v6 : Bool) (v7 : Int) (Aa : Bool) (Ab Ac Ad Au : Int) (Av Aw : List UInt8) (Ax : Int) (a1 : List AV) (kn : Bool → Option (List AV)) : Option (List AV) :=
  (bif (!v6) then (oB (ixB v0 v7) fun y1 => (bif fitC qe y1.cells then (oB (qkn (gB y1.cells 0) (gI y1.cells 1) (gI y1.cells 2) (gI y1.cells 3) Aa Ab Ac Ad) fun r2 => (kn (decide (r2 > (0 : Int))))) else none)) else (kn false))
def qrr := hull (qvj)
theorem q26 : qrr = qvj := qk _
def qow : AC (List AV) :=
  .seq (.draw [] [ao 14 (.mv 6),
 ao 15 (.un .not 14),
 ao 16 (.mv 15),
 ag 17 16 true (.mv 0),
 ag 18 16 true (.mv 7),
 ag 19 16 true (.ia 8 17 18),
 .et 19 qe,
 ag 20 16 true (.fa 0 19),
 ag 21 16 true (.load true 4 20),
 ag 22 16 true (.fa 0 3),
 ag 23 16 true (.load true 4 22)] [.call (pg 24 16 true (.call 35 [21, 23])) 35 qqv,
 ag 25 16 true (.bin .gtr 24 (.c (.int .i64 0))),
 ao 26 (.pick 16 25 (.c (.bool false)))]) (.view [.sel [0, 3, 5, 6, 7, 26] [0, 1]])
theorem qbi3 : AC.ok Try.prog (TIof Try.prog) 45 0 (kret [.t 4] (decF true 8)) qow := qm (zA (qd.ok q4w) (zA rfl trivial))
theorem qblh (v0 : List AV) (v6 : Bool) (v7 : Int) (Aa : Bool) (Ab Ac Ad Au : Int) (Av Aw : List UInt8) (Ax : Int) (a1 : List AV) (K : Ex → Env → Mem → Option (List AV)) : den 0 (kret [.t 4] (decF true 8)) qow (qi [(0, (.sl 8 v0)), (3, (.ptr 0 0)), (5, (.own 1 a1.length)), (6, (.bool v6)), (7, (.int .i64 v7))]) (qh [(some (.box true (qp Aa Ab Ac Ad Au Av Aw Ax))), (some (.arr true 8 a1))]) K = qrr v0 v6 v7 Aa Ab Ac Ad Au Av Aw Ax a1 (q25 v0 v6 v7 Aa Ab Ac Ad Au Av Aw Ax a1 K) := by
  rw [q26]; kernel_rfl
def q5m := subE (R := (List AV)) qbfo fun t m K => qr (bxC (m.s 0)) (qrr (gL [t 0] 0) (gB [t 6] 0) (gI [t 7] 0)) (arL (m.s 1)) (q25 (gL [t 0] 0) (gB [t 6] 0) (gI [t 7] 0) (gB (bxC (m.s 0)) 0) (gI (bxC (m.s 0)) 1) (gI (bxC (m.s 0)) 2) (gI (bxC (m.s 0)) 3) (gI (bxC (m.s 0)) 4) (gS (bxC (m.s 0)) 5) (gS (bxC (m.s 0)) 6) (gI (bxC (m.s 0)) 7) (arL (m.s 1)) K)
theorem qbli : qby Try.prog (TIof Try.prog) 45 0 (kret [.t 4] (decF true 8)) (scOf qow) (q5m) :=
  qex tabOk follows (qbi3) (qo (by kernel_rfl)) fun t m K => qblh _ _ _ _ _ _ _ _ _ _ _ _ K
def q27  (v0 : List AV) (v7 : Int) (Aa : Bool) (Ab Ac Ad Au : Int) (Av Aw : List UInt8) (Ax : Int) (K : Ex → Env → Mem → Option (List AV)) := (fun z_v6 z_a1 => K .norm (qi [(0, (.sl 8 v0)), (3, (.ptr 0 0)), (5, (.own 1 z_a1.length)), (6, (.bool z_v6)), (7, (.int .i64 v7))]) (qh [(some (.box true (qp Aa Ab Ac Ad Au Av Aw Ax))), (some (.arr true 8 z_a1))]))
def qbfp : Shp := ⟨[(0, .one (.l (.sl 8))), (3, .one (.ptr 0 0)), (5, .one (.own 1)), (6, .one (.l .b)), (7, .one (.l (.i .i64)))], [.box true (lk qe), .arr true 8]⟩
def qvk  (v0 : List AV) (v6 : Bool) (v7 : Int) (Aa : Bool) (Ab Ac Ad Au : Int) (Av Aw : List UInt8) (Ax : Int) (a1 : List AV) (kn : Bool → (List AV) → Option (List AV)) : Option (List AV) :=
  (bif (hd a1 (a1.length) && true) then (qrr v0 v6 v7 Aa Ab Ac Ad Au Av Aw Ax a1 (fun v26q1 => (bif v26q1 then (bif hd a1 a1.length then (bif hd ([(.agg [(.bool Aa), (.int .u64 Ab), (.int .u64 Ac), (.int .i64 Ad), (.int .i64 Au), (.str Av), (.str Aw), (.int .i64 Ax)])] : List AV) (([(.agg [(.bool Aa), (.int .u64 Ab), (.int .u64 Ac), (.int .i64 Ad), (.int .i64 Au), (.str Av), (.str Aw), (.int .i64 Ax)])] : List AV).length) then (bif decide ((a1.length + ([(.agg [(.bool Aa), (.int .u64 Ab), (.int .u64 Ac), (.int .i64 Ad), (.int .i64 Au), (.str Av), (.str Aw), (.int .i64 Ax)])] : List AV).length) * 80 ≤ 140737488355328) then (kn true (a1 ++ ([(.agg [(.bool Aa), (.int .u64 Ab), (.int .u64 Ac), (.int .i64 Ad), (.int .i64 Au), (.str Av), (.str Aw), (.int .i64 Ax)])] : List AV))) else none) else none) else none) else (kn v6 a1)))) else none)
def qnl := hull (qvk)
theorem q28 : qnl = qvk := qk _
def qox : AC (List AV) :=
  .seq (.seq (.view [.sel [0, 3, 5, 6, 7] [0, 1]]) (.sub (scOf qow) q5m)) (.cond 26 (.seq (.reg [ao 27 (.mv 5),
 ao 28 (.load true 8 3),
 ao 29 (.bsl 8 [28]),
 ao 30 (.app 8 80 27 29),
 ao 5 (.mv 30)]) (.seq (.reg [ao 6 (.mv (.c (.bool true)))]) (.view [.sel [0, 3, 5, 6, 7] [0, 1]]))) (.seq (.skip) (.view [.sel [0, 3, 5, 6, 7] [0, 1]])))
theorem qbi4 : AC.ok Try.prog (TIof Try.prog) 45 0 (kret [.t 4] (decF true 8)) qox := qm (zA qbli trivial)
theorem qblj (v0 : List AV) (v6 : Bool) (v7 : Int) (Aa : Bool) (Ab Ac Ad Au : Int) (Av Aw : List UInt8) (Ax : Int) (a1 : List AV) (K : Ex → Env → Mem → Option (List AV)) : den 0 (kret [.t 4] (decF true 8)) qox (qi [(0, (.sl 8 v0)), (3, (.ptr 0 0)), (5, (.own 1 a1.length)), (6, (.bool v6)), (7, (.int .i64 v7))]) (qh [(some (.box true (qp Aa Ab Ac Ad Au Av Aw Ax))), (some (.arr true 8 a1))]) K = qnl v0 v6 v7 Aa Ab Ac Ad Au Av Aw Ax a1 (q27 v0 v7 Aa Ab Ac Ad Au Av Aw Ax K) := by
  rw [q28]; kernel_rfl
def q5n := subE (R := (List AV)) qbfp fun t m K => qr (bxC (m.s 0)) (qnl (gL [t 0] 0) (gB [t 6] 0) (gI [t 7] 0)) (arL (m.s 1)) (q27 (gL [t 0] 0) (gI [t 7] 0) (gB (bxC (m.s 0)) 0) (gI (bxC (m.s 0)) 1) (gI (bxC (m.s 0)) 2) (gI (bxC (m.s 0)) 3) (gI (bxC (m.s 0)) 4) (gS (bxC (m.s 0)) 5) (gS (bxC (m.s 0)) 6) (gI (bxC (m.s 0)) 7) K)
theorem qblk : qby Try.prog (TIof Try.prog) 45 0 (kret [.t 4] (decF true 8)) (scOf qox) (q5n) :=
  qex tabOk follows (qbi4) (qo (by kernel_rfl)) fun t m K => qblj _ _ _ _ _ _ _ _ _ _ _ _ K
def qmy  (Aa : Bool) (Ab Ac Ad Au : Int) (Av Aw : List UInt8) (Ax : Int) (K : Ex → Env → Mem → Option (List AV)) := (fun z_v6 z_a1 => K (.exit 0) (qi [(3, (.ptr 0 0)), (5, (.own 1 z_a1.length)), (6, (.bool z_v6))]) (qh [(some (.box true (qp Aa Ab Ac Ad Au Av Aw Ax))), (some (.arr true 8 z_a1))]))
def qbfq : Shp := ⟨[(0, .one (.l (.sl 8))), (3, .one (.ptr 0 0)), (5, .one (.own 1)), (6, .one (.l .b)), (7, .one (.l (.i .i64)))], [.box true (lk qe), .arr true 8]⟩
def qts (v0 : List AV) (v6 : Bool) (v7 : Int) (Aa : Bool) (Ab Ac Ad Au : Int) (Av Aw : List UInt8) (Ax : Int) (a1 : List AV) : Env := qi [(0, (.sl 8 v0)), (3, (.ptr 0 0)), (5, (.own 1 a1.length)), (6, (.bool v6)), (7, (.int .i64 v7))]
def qtt (v0 : List AV) (v6 : Bool) (v7 : Int) (Aa : Bool) (Ab Ac Ad Au : Int) (Av Aw : List UInt8) (Ax : Int) (a1 : List AV) : Mem := qh [(some (.box true (qp Aa Ab Ac Ad Au Av Aw Ax))), (some (.arr true 8 a1))]
def qgb  (v0 : List AV) (v6 : Bool) (v7 : Int) (Aa : Bool) (Ab Ac Ad Au : Int) (Av Aw : List UInt8) (Ax : Int) (a1 : List AV) (next : Bool → Int → (List AV) → Option (List AV)) (kx0 : Bool → (List AV) → Option (List AV)) : Option (List AV) :=
  (bif (decide (v7 < (v0.length : Int))) then (bif (hd a1 (a1.length) && true) then (qnl v0 v6 v7 Aa Ab Ac Ad Au Av Aw Ax a1 (fun v6q1 a1q2 => (oB (ixB v0 v7) fun y3 => (bif fitC qe y3.cells then (bif hd a1q2 a1q2.length then (bif hd ([(.agg [(.bool (gB y3.cells 0)), (.int .u64 (gI y3.cells 1)), (.int .u64 (gI y3.cells 2)), (.int .i64 (gI y3.cells 3)), (.int .i64 (gI y3.cells 4)), (.str (gS y3.cells 5)), (.str (gS y3.cells 6)), (.int .i64 (gI y3.cells 7))])] : List AV) (([(.agg [(.bool (gB y3.cells 0)), (.int .u64 (gI y3.cells 1)), (.int .u64 (gI y3.cells 2)), (.int .i64 (gI y3.cells 3)), (.int .i64 (gI y3.cells 4)), (.str (gS y3.cells 5)), (.str (gS y3.cells 6)), (.int .i64 (gI y3.cells 7))])] : List AV).length) then (bif decide ((a1q2.length + ([(.agg [(.bool (gB y3.cells 0)), (.int .u64 (gI y3.cells 1)), (.int .u64 (gI y3.cells 2)), (.int .i64 (gI y3.cells 3)), (.int .i64 (gI y3.cells 4)), (.str (gS y3.cells 5)), (.str (gS y3.cells 6)), (.int .i64 (gI y3.cells 7))])] : List AV).length) * 80 ≤ 140737488355328) then (next v6q1 (IntKind.i64.wrap (v7 + (1 : Int))) (a1q2 ++ ([(.agg [(.bool (gB y3.cells 0)), (.int .u64 (gI y3.cells 1)), (.int .u64 (gI y3.cells 2)), (.int .i64 (gI y3.cells 3)), (.int .i64 (gI y3.cells 4)), (.str (gS y3.cells 5)), (.str (gS y3.cells 6)), (.int .i64 (gI y3.cells 7))])] : List AV))) else none) else none) else none) else none)))) else none) else (kx0 v6 a1))
def qln  (v0 : List AV) (Aa : Bool) (Ab Ac Ad Au : Int) (Av Aw : List UInt8) (Ax : Int) (kx0 : Bool → (List AV) → Option (List AV)) : Nat → Bool → Int → (List AV) → Option (List AV)
  | 0 => (fun _ _ _ => none)
  | n + 1 => (fun v6 v7 a1 => qgb v0 v6 v7 Aa Ab Ac Ad Au Av Aw Ax a1 (qln v0 Aa Ab Ac Ad Au Av Aw Ax kx0 n) kx0)
def qrs := hull (qln)
theorem q29 : qrs = qln := qk _
def qhx : AC (List AV) :=
  .seq (.seq (.reg [ao 8 (.mv 7),
 ao 9 (.mv 0),
 ao 10 (.len false 9),
 ao 11 (.bin .lss 8 10)]) (.cond 11 (.skip) (.seq (.view [.sel [3, 5, 6] [0, 1]]) (.exit 0)))) (.seq (.block 1 (.seq (.seq (.view [.sel [0, 3, 5, 6, 7] [0, 1]]) (.sub (scOf qox) q5n)) (.reg [ao 31 (.mv 5),
 ao 32 (.mv 0),
 ao 33 (.mv 7),
 ao 34 (.ia 8 32 33),
 .st (.etac 34 qe),
 ao 35 (.load true 8 34),
 ao 36 (.bsl 8 [35]),
 ao 37 (.app 8 80 31 36),
 ao 5 (.mv 37)]))) (.seq (.reg [ao 12 (.mv 7),
 ao 13 (.bin .add 12 (.c (.int .i64 1))),
 ao 7 (.mv 13)]) (.view [.sel [0, 3, 5, 6, 7] [0, 1]])))
theorem qbi5 : AC.ok Try.prog (TIof Try.prog) 45 0 (kret [.t 4] (decF true 8)) qhx := qm (zA qblk trivial)
theorem qbfr (v0 : List AV) (v6 : Bool) (v7 : Int) (Aa : Bool) (Ab Ac Ad Au : Int) (Av Aw : List UInt8) (Ax : Int) (a1 : List AV) (K : Ex → Env → Mem → Option (List AV)) : den 0 (kret [.t 4] (decF true 8)) qhx (qts v0 v6 v7 Aa Ab Ac Ad Au Av Aw Ax a1) (qtt v0 v6 v7 Aa Ab Ac Ad Au Av Aw Ax a1) K = qgb v0 v6 v7 Aa Ab Ac Ad Au Av Aw Ax a1 (fun z_v6 z_v7 z_a1 => K .norm (qts v0 z_v6 z_v7 Aa Ab Ac Ad Au Av Aw Ax z_a1) (qtt v0 z_v6 z_v7 Aa Ab Ac Ad Au Av Aw Ax z_a1)) (qmy Aa Ab Ac Ad Au Av Aw Ax K) := by kernel_rfl
theorem qbll (v0 : List AV) (Aa : Bool) (Ab Ac Ad Au : Int) (Av Aw : List UInt8) (Ax : Int) (K : Ex → Env → Mem → Option (List AV)) : ∀ (n : Nat) (v6 : Bool) (v7 : Int) (a1 : List AV), qe2 (den 0 (kret [.t 4] (decF true 8)) qhx) n (qts v0 v6 v7 Aa Ab Ac Ad Au Av Aw Ax a1) (qtt v0 v6 v7 Aa Ab Ac Ad Au Av Aw Ax a1) K = qrs v0 Aa Ab Ac Ad Au Av Aw Ax (qmy Aa Ab Ac Ad Au Av Aw Ax K) n v6 v7 a1 := by
  rw [q29]
  intro n
  induction n with
  | zero => intros; rfl
  | succ n ih =>
 intro v6 v7 a1
 exact (qbfr v0 v6 v7 Aa Ab Ac Ad Au Av Aw Ax a1 (itK (den 0 (kret [.t 4] (decF true 8)) qhx) n K)).trans (congrArg (fun q => qgb v0 v6 v7 Aa Ab Ac Ad Au Av Aw Ax a1 q (qmy Aa Ab Ac Ad Au Av Aw Ax K)) (funext fun v6 => funext fun v7 => funext fun a1 => ih v6 v7 a1))
def q5o := subE (R := (List AV)) qbfq fun t m K => qr (bxC (m.s 0)) (qrs (gL [t 0] 0)) (qmy (gB (bxC (m.s 0)) 0) (gI (bxC (m.s 0)) 1) (gI (bxC (m.s 0)) 2) (gI (bxC (m.s 0)) 3) (gI (bxC (m.s 0)) 4) (gS (bxC (m.s 0)) 5) (gS (bxC (m.s 0)) 6) (gI (bxC (m.s 0)) 7) K) FU (gB [t 6] 0) (gI [t 7] 0) (arL (m.s 1))
theorem qblm : qby Try.prog (TIof Try.prog) 45 0 (kret [.t 4] (decF true 8)) (.loop (scOf qhx)) (q5o) :=
  qd9 tabOk follows (qbi5) (qo (by kernel_rfl)) fun t m K => qbll _ _ _ _ _ _ _ _ _ K FU _ _ _
def qbr1 : Shp := ⟨[(0, .one (.l (.sl 8))), (1, .st (lk qe))], []⟩
def q3t (v0 : List AV) (Am : Bool) (An Ao Ap Ay : Int) (Az A0 : List UInt8) (A1 : Int) : Option (List AV) :=
  (bif (hd ([] : List AV) (([] : List AV).length) && true) then (qrs v0 Am An Ao Ap Ay Az A0 A1 (fun v6q1 a1q2 => (bif (!v6q1) then (bif hd a1q2 a1q2.length then (bif hd ([(.agg [(.bool Am), (.int .u64 An), (.int .u64 Ao), (.int .i64 Ap), (.int .i64 Ay), (.str Az), (.str A0), (.int .i64 A1)])] : List AV) (([(.agg [(.bool Am), (.int .u64 An), (.int .u64 Ao), (.int .i64 Ap), (.int .i64 Ay), (.str Az), (.str A0), (.int .i64 A1)])] : List AV).length) then (bif decide ((a1q2.length + ([(.agg [(.bool Am), (.int .u64 An), (.int .u64 Ao), (.int .i64 Ap), (.int .i64 Ay), (.str Az), (.str A0), (.int .i64 A1)])] : List AV).length) * 80 ≤ 140737488355328) then (bif hd (a1q2 ++ ([(.agg [(.bool Am), (.int .u64 An), (.int .u64 Ao), (.int .i64 Ap), (.int .i64 Ay), (.str Az), (.str A0), (.int .i64 A1)])] : List AV)) ((a1q2 ++ ([(.agg [(.bool Am), (.int .u64 An), (.int .u64 Ao), (.int .i64 Ap), (.int .i64 Ay), (.str Az), (.str A0), (.int .i64 A1)])] : List AV)).length) then (some (a1q2 ++ ([(.agg [(.bool Am), (.int .u64 An), (.int .u64 Ao), (.int .i64 Ap), (.int .i64 Ay), (.str Az), (.str A0), (.int .i64 A1)])] : List AV))) else none) else none) else none) else none) else (bif hd a1q2 a1q2.length then (some a1q2) else none))) FU false (0 : Int) ([] : List AV)) else none)
def qvl := hull q3t
theorem qbaf : qvl = q3t := qk _
def q3u : AC (List AV) :=
  .seq (.reg [ao 3 (.box 1),
 ao 4 (.mv (.c .nils))]) (.seq (.reg [ao 5 (.mv (.c .nils))]) (.seq (.reg [ao 6 (.mv (.c (.bool false)))]) (.seq (.seq (.reg [ao 7 (.mv (.c (.int .i64 0)))]) (.block 0 (.seq (.view [.own 5 8, .sel [0, 3, 5, 6, 7] [0, 1]]) (.sub (.loop (scOf qhx)) q5o)))) (.seq (.seq (.reg [ao 38 (.mv 6),
 ao 39 (.un .not 38)]) (.cond 39 (.reg [ao 40 (.mv 5),
 ao 41 (.load true 8 3),
 ao 42 (.bsl 8 [41]),
 ao 43 (.app 8 80 40 42),
 ao 5 (.mv 43)]) (.skip))) (.seq (.reg [ao 44 (.mv 5),
 ao 4 (.mv 44)]) (.ret))))))
theorem qbt0 : AC.ok Try.prog (TIof Try.prog) 45 0 (kret [.t 4] (decF true 8)) q3u := qm (zA qblm trivial)
theorem qbv5 (v0 : List AV) (Am : Bool) (An Ao Ap Ay : Int) (Az A0 : List UInt8) (A1 : Int) : den 0 (kret [.t 4] (decF true 8)) q3u (qi [(0, (.sl 8 v0)), (1, .agg (qp Am An Ao Ap Ay Az A0 A1))]) (qh []) (kend (kret [.t 4] (decF true 8))) = qvl v0 Am An Ao Ap Ay Az A0 A1 := by
  rw [qbaf]; kernel_rfl
theorem qbv6 : cFn (TIof Try.prog) Try.f90 = some ⟨45, [.t 4], scOf q3u⟩ := by kernel_rfl
def qbv7 (xs : List AV) : Option (List AV) := qr ((qj xs) 1).cells (qvl (gL [(qj xs) 0] 0))
def q8x {R : Type} : List AV → (AV → Option R) → Option R := entF qbr1 qbv7 (AV.fr true 8)
theorem qbv8 {R : Type} : qd Try.prog 90 (q8x (R := R)) :=
  qt tabOk follows Try.func90 (by kernel_rfl) qbv6 hdeF qbt0 (qo (by kernel_rfl)) fun xs => qbv5 _ _ _ _ _ _ _ _ _
def qgc (z : AV) : Option ((List AV) × Int) := cond (qfn [(.one (.sl 8)), (.one (.i .i64))] z) (some (aL (gC (tpL z) 0), aI (gC (tpL z) 1))) none
def qbr2 (r : (List AV) × Int) : AV := .tup [.sl 8 r.1, .int .i64 r.2]
def qmz  (v0 : List AV) (Aa : Bool) (Ab Ac Ad Au : Int) (Av Aw : List UInt8) (Ax : Int) (K : Ex → Env → Mem → Option ((List AV) × Int)) := (fun (_ : Unit) => K (.exit 0) (qi [(0, (.sl 8 v0)), (3, (.ptr 0 0))]) (qh [(some (.box true (qp Aa Ab Ac Ad Au Av Aw Ax)))]))
def qbfs : Shp := ⟨[(0, .one (.l (.sl 8))), (3, .one (.ptr 0 0)), (8, .one (.l (.i .i64)))], [.box true (lk qe)]⟩
def qtu (v0 : List AV) (v8 : Int) (Aa : Bool) (Ab Ac Ad Au : Int) (Av Aw : List UInt8) (Ax : Int) : Env := qi [(0, (.sl 8 v0)), (3, (.ptr 0 0)), (8, (.int .i64 v8))]
def qtv (v0 : List AV) (v8 : Int) (Aa : Bool) (Ab Ac Ad Au : Int) (Av Aw : List UInt8) (Ax : Int) : Mem := qh [(some (.box true (qp Aa Ab Ac Ad Au Av Aw Ax)))]
def qhy  (v0 : List AV) (v8 : Int) (Aa : Bool) (Ab Ac Ad Au : Int) (Av Aw : List UInt8) (Ax : Int) (next : Int → Option ((List AV) × Int)) (kx0 : Unit → Option ((List AV) × Int)) : Option ((List AV) × Int) :=
  (bif (decide (v8 < (v0.length : Int))) then (oB (ixB v0 v8) fun y1 => (bif fitC qe y1.cells then (oB (qii Aa Ab Ac Ad Au Av Aw Ax (gB y1.cells 0) (gI y1.cells 1) (gI y1.cells 2) (gI y1.cells 3) (gI y1.cells 4) (gS y1.cells 5) (gS y1.cells 6) (gI y1.cells 7)) fun r2 => (bif r2 then (some (([] : List AV), (24 : Int))) else (oB (ixB v0 v8) fun y3 => (bif fitC qe y3.cells then (oB (qk1 (gB y3.cells 0) (gI y3.cells 1) (gI y3.cells 2) (gI y3.cells 3) Aa Ab Ac Ad) fun r4 => (bif r4 then (some (([] : List AV), (24 : Int))) else (next (IntKind.i64.wrap (v8 + (1 : Int)))))) else none)))) else none)) else (kx0 ()))
def qoy  (v0 : List AV) (Aa : Bool) (Ab Ac Ad Au : Int) (Av Aw : List UInt8) (Ax : Int) (kx0 : Unit → Option ((List AV) × Int)) : Nat → Int → Option ((List AV) × Int)
  | 0 => (fun _ => none)
  | n + 1 => (fun v8 => qhy v0 v8 Aa Ab Ac Ad Au Av Aw Ax (qoy v0 Aa Ab Ac Ad Au Av Aw Ax kx0 n) kx0)
def qnm := hull (qoy)
theorem q3a : qnm = qoy := qk _
def qhz : AC ((List AV) × Int) :=
  .seq (.seq (.reg [ao 24 (.mv 8),
 ao 25 (.mv 0),
 ao 26 (.len false 25),
 ao 27 (.bin .lss 24 26)]) (.cond 27 (.skip) (.seq (.view [.sel [0, 3] [0]]) (.exit 0)))) (.seq (.block 1 (.seq (.draw [] [ao 30 (.load true 8 3),
 ao 31 (.mv 0),
 ao 32 (.mv 8),
 ao 33 (.ia 8 31 32),
 .et 33 qe,
 ao 34 (.load true 8 33),
 .call (po 35 (.call 36 [30, 34])) 36 qsw,
 ao 36 (.mv 35),
 ag 37 36 false (.mv 0),
 ag 38 36 false (.mv 8),
 ag 39 36 false (.ia 8 37 38),
 .et 39 qe,
 ag 40 36 false (.fa 0 39),
 ag 41 36 false (.load true 4 40),
 ag 42 36 false (.fa 0 3),
 ag 43 36 false (.load true 4 42)] [.call (pg 44 36 false (.call 80 [41, 43])) 80 qlt,
 ao 45 (.pick 36 (.c (.bool true)) 44)]) (.cond 45 (.seq (.reg [ao 4 (.mv (.c .nils)),
 ao 5 (.mv (.c (.int .i64 24)))]) (.seq (.view [.eta 4 (.one (.sl 8))]) (.ret))) (.skip)))) (.seq (.reg [ao 28 (.mv 8),
 ao 29 (.bin .add 28 (.c (.int .i64 1))),
 ao 8 (.mv 29)]) (.view [.sel [0, 3, 8] [0]])))
theorem qbi6 : AC.ok Try.prog (TIof Try.prog) 52 0 (kret [.t 4, .t 5] qgc) qhz := qm (zA (qd.ok q6v) (zA (qd.ok qr2) (zA rfl trivial)))
theorem qbft (v0 : List AV) (v8 : Int) (Aa : Bool) (Ab Ac Ad Au : Int) (Av Aw : List UInt8) (Ax : Int) (K : Ex → Env → Mem → Option ((List AV) × Int)) : den 0 (kret [.t 4, .t 5] qgc) qhz (qtu v0 v8 Aa Ab Ac Ad Au Av Aw Ax) (qtv v0 v8 Aa Ab Ac Ad Au Av Aw Ax) K = qhy v0 v8 Aa Ab Ac Ad Au Av Aw Ax (fun z_v8 => K .norm (qtu v0 z_v8 Aa Ab Ac Ad Au Av Aw Ax) (qtv v0 z_v8 Aa Ab Ac Ad Au Av Aw Ax)) (qmz v0 Aa Ab Ac Ad Au Av Aw Ax K) := by kernel_rfl
theorem qbln (v0 : List AV) (Aa : Bool) (Ab Ac Ad Au : Int) (Av Aw : List UInt8) (Ax : Int) (K : Ex → Env → Mem → Option ((List AV) × Int)) : ∀ (n : Nat) (v8 : Int), qe2 (den 0 (kret [.t 4, .t 5] qgc) qhz) n (qtu v0 v8 Aa Ab Ac Ad Au Av Aw Ax) (qtv v0 v8 Aa Ab Ac Ad Au Av Aw Ax) K = qnm v0 Aa Ab Ac Ad Au Av Aw Ax (qmz v0 Aa Ab Ac Ad Au Av Aw Ax K) n v8 := by
  rw [q3a]
  intro n
  induction n with
  | zero => intros; rfl
  | succ n ih =>
 intro v8
 exact (qbft v0 v8 Aa Ab Ac Ad Au Av Aw Ax (itK (den 0 (kret [.t 4, .t 5] qgc) qhz) n K)).trans (congrArg (fun q => qhy v0 v8 Aa Ab Ac Ad Au Av Aw Ax q (qmz v0 Aa Ab Ac Ad Au Av Aw Ax K)) (funext fun v8 => ih v8))
def q5p := subE (R := (List AV) × Int) qbfs fun t m K => qr (bxC (m.s 0)) (qnm (gL [t 0] 0)) (qmz (gL [t 0] 0) (gB (bxC (m.s 0)) 0) (gI (bxC (m.s 0)) 1) (gI (bxC (m.s 0)) 2) (gI (bxC (m.s 0)) 3) (gI (bxC (m.s 0)) 4) (gS (bxC (m.s 0)) 5) (gS (bxC (m.s 0)) 6) (gI (bxC (m.s 0)) 7) K) FU (gI [t 8] 0)
theorem qblo : qby Try.prog (TIof Try.prog) 52 0 (kret [.t 4, .t 5] qgc) (.loop (scOf qhz)) (q5p) :=
  qd9 tabOk follows (qbi6) (qo (by kernel_rfl)) fun t m K => qbln _ _ _ _ _ _ _ _ _ K FU _
def qbr3 : Shp := ⟨[(0, .one (.l (.sl 8))), (1, .st (lk qe))], []⟩
def q3v (v0 : List AV) (Am : Bool) (An Ao Ap Ay : Int) (Az A0 : List UInt8) (A1 : Int) : Option ((List AV) × Int) :=
  (oB (qfq Am An Ao Ap) fun r1 => (bif (!r1) then (some (([] : List AV), (3 : Int))) else (oB (qnc Am An Ao Ap Ay Az A0 A1) fun r2 => (bif (!r2) then (some (([] : List AV), (1 : Int))) else (oB (qje v0 Am An Ao Ap) fun r3 => (bif r3.2 then (some (([] : List AV), (12 : Int))) else (qnm v0 Am An Ao Ap Ay Az A0 A1 (fun (_ : Unit) => (bif (decide ((v0.length : Int) ≥ (512 : Int))) then (some (([] : List AV), (9 : Int))) else (oB (qvl v0 Am An Ao Ap Ay Az A0 A1) fun r4 => (some (r4, (0 : Int)))))) FU (0 : Int))))))))
def qvm := hull q3v
theorem qbag : qvm = q3v := qk _
def q3w : AC ((List AV) × Int) :=
  .seq (.reg [ao 3 (.box 1),
 ao 4 (.mv (.c .nils)),
 ao 5 (.mv (.c (.int .i64 0)))]) (.seq (.seq (.reg [ao 9 (.fa 0 3),
 ao 10 (.load true 4 9),
 .call (po 11 (.call 33 [10])) 33 qga,
 ao 12 (.un .not 11)]) (.cond 12 (.seq (.reg [ao 4 (.mv (.c .nils)),
 ao 5 (.mv (.c (.int .i64 3)))]) (.seq (.view [.eta 4 (.one (.sl 8))]) (.ret))) (.skip))) (.seq (.seq (.reg [ao 13 (.load true 8 3),
 .call (po 14 (.call 34 [13])) 34 qys,
 ao 15 (.un .not 14)]) (.cond 15 (.seq (.reg [ao 4 (.mv (.c .nils)),
 ao 5 (.mv (.c (.int .i64 1)))]) (.seq (.view [.eta 4 (.one (.sl 8))]) (.ret))) (.skip))) (.seq (.reg [ao 17 (.mv 0),
 ao 18 (.fa 0 3),
 ao 19 (.load true 4 18),
 .call (po 20 (.call 37 [17, 19])) 37 qmd,
 ao 16 (.mv 20),
 ao 21 (.ext 16 0),
 ao 22 (.ext 16 1),
 ao 6 (.alloc [(.bool false), (.int .u64 0), (.int .u64 0), (.int .i64 0), (.int .i64 0), (.str []), (.str []), (.int .i64 0)]),
 an (.store 8 6 21),
 ao 7 (.mv 22)]) (.seq (.seq (.reg [ao 23 (.mv 7)]) (.cond 23 (.seq (.reg [ao 4 (.mv (.c .nils)),
 ao 5 (.mv (.c (.int .i64 12)))]) (.seq (.view [.eta 4 (.one (.sl 8))]) (.ret))) (.skip))) (.seq (.seq (.reg [ao 8 (.mv (.c (.int .i64 0)))]) (.block 0 (.seq (.view [.sel [0, 3, 8] [0]]) (.sub (.loop (scOf qhz)) q5p)))) (.seq (.seq (.reg [ao 46 (.mv 0),
 ao 47 (.len false 46),
 ao 48 (.bin .geq 47 (.c (.int .i64 512)))]) (.cond 48 (.seq (.reg [ao 4 (.mv (.c .nils)),
 ao 5 (.mv (.c (.int .i64 9)))]) (.seq (.view [.eta 4 (.one (.sl 8))]) (.ret))) (.skip))) (.seq (.reg [ao 49 (.mv 0),
 ao 50 (.load true 8 3),
 .callc (po 51 (.call 90 [49, 50])) 90 q8x,
 ao 4 (.mv 51),
 ao 5 (.mv (.c (.int .i64 0)))]) (.ret))))))))
theorem qbt1 : AC.ok Try.prog (TIof Try.prog) 52 0 (kret [.t 4, .t 5] qgc) q3w := qm (zA (qd.ok qkm) (zA (qd.ok qbb3) (zA (qd.ok qt3) (zA qblo (zA (qd.ok qbv8) trivial)))))
theorem qbv9 (v0 : List AV) (Am : Bool) (An Ao Ap Ay : Int) (Az A0 : List UInt8) (A1 : Int) : den 0 (kret [.t 4, .t 5] qgc) q3w (qi [(0, (.sl 8 v0)), (1, .agg (qp Am An Ao Ap Ay Az A0 A1))]) (qh []) (kend (kret [.t 4, .t 5] qgc)) = qvm v0 Am An Ao Ap Ay Az A0 A1 := by
  rw [qbag]; kernel_rfl
theorem qbwa : cFn (TIof Try.prog) Try.f58 = some ⟨52, [.t 4, .t 5], scOf q3w⟩ := by kernel_rfl
def qbwb (xs : List AV) : Option ((List AV) × Int) := qr ((qj xs) 1).cells (qvm (gL [(qj xs) 0] 0))
def q8y {R : Type} : List AV → (AV → Option R) → Option R := entF qbr3 qbwb qbr2
theorem qbwc {R : Type} : qd Try.prog 58 (q8y (R := R)) :=
  qt tabOk follows Try.func58 (by kernel_rfl) qbwa (fun z r h => by
 obtain ⟨h1, h2⟩ := qq h
 cases h2
 exact (qc9 h1).symm) qbt1 (qo (by kernel_rfl)) fun xs => qbv9 _ _ _ _ _ _ _ _ _
def qqh (z : AV) : Option ((List AV) × AV × Int) := cond (qfn [(.one (.sl 8)), (.st [.b, (.i .u64), (.i .u64), (.i .i64)]), (.one (.i .i64))] z) (some (aL (gC (tpL z) 0), (gC (tpL z) 1), aI (gC (tpL z) 2))) none
def qbc4 (r : (List AV) × AV × Int) : AV := .tup [.sl 8 r.1, qh4 (.st [.b, (.i .u64), (.i .u64), (.i .i64)]) r.2.1, .int .i64 r.2.2]
def qbc5 : Shp := ⟨[(0, .one (.l (.sl 8))), (1, .st (lk qc)), (2, .one (.l (.i .i64))), (3, .one (.l (.i .i64))), (4, .one (.l .s)), (5, .one (.l .s))], []⟩
def qtw (v0 : List AV) (Am : Bool) (An Ao Ap v2 v3 : Int) (v4 v5 : List UInt8) : Option ((List AV) × AV × Int) :=
  (oB (ql2 v0 Am An Ao Ap v2 v3) fun r1 => (bif (r1.2 != (0 : Int)) then (some (([] : List AV), (.agg [(.bool false), (.int .u64 (0 : Int)), (.int .u64 (0 : Int)), (.int .i64 (0 : Int))]), r1.2)) else (oB (qvm v0 (gB r1.1.cells 0) (gI r1.1.cells 1) (gI r1.1.cells 2) (gI r1.1.cells 3) (2 : Int) v4 v5 (0 : Int)) fun r2 => (bif (r2.2 != (0 : Int)) then (some (([] : List AV), (.agg [(.bool false), (.int .u64 (0 : Int)), (.int .u64 (0 : Int)), (.int .i64 (0 : Int))]), r2.2)) else (some (r2.1, (.agg [(.bool (gB r1.1.cells 0)), (.int .u64 (gI r1.1.cells 1)), (.int .u64 (gI r1.1.cells 2)), (.int .i64 (gI r1.1.cells 3))]), (0 : Int)))))))
def qmh := hull qtw
theorem q1w : qmh = qtw := qk _
def qtx : AC ((List AV) × AV × Int) :=
  .seq (.reg [ao 7 (.box 1),
 ao 12 (.mv (.c .nils)),
 ao 13 (.alloc [(.bool false), (.int .u64 0), (.int .u64 0), (.int .i64 0)]),
 ao 14 (.mv (.c (.int .i64 0)))]) (.seq (.reg [ao 19 (.mv 0),
 ao 20 (.load true 4 7),
 ao 21 (.mv 2),
 ao 22 (.mv 3),
 .call (po 23 (.call 16 [19, 20, 21, 22])) 16 qto,
 ao 18 (.mv 23),
 ao 24 (.ext 18 0),
 ao 25 (.ext 18 1),
 ao 15 (.alloc [(.bool false), (.int .u64 0), (.int .u64 0), (.int .i64 0)]),
 an (.store 4 15 24),
 ao 16 (.mv 25)]) (.seq (.seq (.reg [ao 26 (.mv 16),
 ao 27 (.bin .neq 26 (.c (.int .i64 0)))]) (.cond 27 (.seq (.reg [ao 28 (.build [(.bool false), (.int .u64 0), (.int .u64 0), (.int .i64 0)] []),
 ao 29 (.mv 16),
 ao 12 (.mv (.c .nils)),
 an (.store 4 13 28),
 ao 14 (.mv 29)]) (.seq (.view [.eta 12 (.one (.sl 8))]) (.ret))) (.skip))) (.seq (.reg [ao 31 (.mv 0),
 ao 32 (.load true 4 15),
 ao 33 (.mv 4),
 ao 34 (.mv 5),
 ao 35 (.build [(.bool false), (.int .u64 0), (.int .u64 0), (.int .i64 0), (.int .i64 0), (.str []), (.str []), (.int .i64 0)] [(0, (4, 32)), (4, (1, (.c (.int .i64 2)))), (5, (1, 33)), (6, (1, 34))]),
 .callc (po 36 (.call 58 [31, 35])) 58 q8y,
 ao 30 (.mv 36),
 ao 37 (.ext 30 0),
 ao 38 (.ext 30 1),
 ao 17 (.mv 37),
 ao 16 (.mv 38)]) (.seq (.seq (.reg [ao 39 (.mv 16),
 ao 40 (.bin .neq 39 (.c (.int .i64 0)))]) (.cond 40 (.seq (.reg [ao 41 (.build [(.bool false), (.int .u64 0), (.int .u64 0), (.int .i64 0)] []),
 ao 42 (.mv 16),
 ao 12 (.mv (.c .nils)),
 an (.store 4 13 41),
 ao 14 (.mv 42)]) (.seq (.view [.eta 12 (.one (.sl 8))]) (.ret))) (.skip))) (.seq (.draw [] [ao 43 (.mv 17),
 ao 44 (.load true 4 15),
 ao 12 (.mv 43)] [an (.store 4 13 44),
 ao 14 (.mv (.c (.int .i64 0)))]) (.ret))))))
theorem qbfu : AC.ok Try.prog (TIof Try.prog) 45 0 (kret [.t 12, (.cell 13 true 4), .t 14] qqh) qtx := qm (zA (qd.ok q69) (zA (qd.ok qbwc) (zA rfl trivial)))
theorem qbi7 (v0 : List AV) (Am : Bool) (An Ao Ap v2 v3 : Int) (v4 v5 : List UInt8) : den 0 (kret [.t 12, (.cell 13 true 4), .t 14] qqh) qtx (qi [(0, (.sl 8 v0)), (1, .agg (qa Am An Ao Ap)), (2, (.int .i64 v2)), (3, (.int .i64 v3)), (4, (.str v4)), (5, (.str v5))]) (qh []) (kend (kret [.t 12, (.cell 13 true 4), .t 14] qqh)) = qmh v0 Am An Ao Ap v2 v3 v4 v5 := by
  rw [q1w]; kernel_rfl
theorem qbi8 : cFn (TIof Try.prog) Try.f20 = some ⟨45, [.t 12, (.cell 13 true 4), .t 14], scOf qtx⟩ := by kernel_rfl
def qbi9 (xs : List AV) : Option ((List AV) × AV × Int) := qb ((qj xs) 1).cells (qmh (gL [(qj xs) 0] 0)) (gI [(qj xs) 2] 0) (gI [(qj xs) 3] 0) (gS [(qj xs) 4] 0) (gS [(qj xs) 5] 0)
def qz3 {R : Type} : List AV → (AV → Option R) → Option R := entF qbc5 qbi9 qbc4
theorem qbja {R : Type} : qd Try.prog 20 (qz3 (R := R)) :=
  qt tabOk follows Try.func20 (by kernel_rfl) qbi8 (fun z r h => by
 obtain ⟨h1, h2⟩ := qq h
 cases h2
 exact (qc9 h1).symm) qbfu (qo (by kernel_rfl)) fun xs => qbi7 _ _ _ _ _ _ _ _ _
def qjy  (K : Ex → Env → Mem → Option Bool) := (fun (_ : Unit) => K (.exit 0) (qi []) (qh []))
def q91 : Shp := ⟨[(0, .one (.l (.sl 8))), (1, .one (.l (.sl 8))), (5, .one (.l (.i .i64)))], []⟩
def qo7 (v0 v1 : List AV) (v5 : Int) : Env := qi [(0, (.sl 8 v0)), (1, (.sl 8 v1)), (5, (.int .i64 v5))]
def qo8 (v0 v1 : List AV) (v5 : Int) : Mem := qh []
def qf8  (v0 v1 : List AV) (v5 : Int) (next : Int → Option Bool) (kx0 : Unit → Option Bool) : Option Bool :=
  (bif (decide (v5 < (v0.length : Int))) then (oB (ixB v0 v5) fun y1 => (bif fitC qe y1.cells then (oB (ixB v1 v5) fun y2 => (bif fitC qe y2.cells then (bif (!(((gB y1.cells 0) == (gB y2.cells 0)) && (((gI y1.cells 1) == (gI y2.cells 1)) && (((gI y1.cells 2) == (gI y2.cells 2)) && (((gI y1.cells 3) == (gI y2.cells 3)) && (((gI y1.cells 4) == (gI y2.cells 4)) && (((gS y1.cells 5) == (gS y2.cells 5)) && (((gS y1.cells 6) == (gS y2.cells 6)) && (((gI y1.cells 7) == (gI y2.cells 7)) && true))))))))) then (some false) else (next (IntKind.i64.wrap (v5 + (1 : Int))))) else none)) else none)) else (kx0 ()))
def ql3  (v0 v1 : List AV) (kx0 : Unit → Option Bool) : Nat → Int → Option Bool
  | 0 => (fun _ => none)
  | n + 1 => (fun v5 => qf8 v0 v1 v5 (ql3 v0 v1 kx0 n) kx0)
def qnu := hull (ql3)
theorem qx1 : qnu = ql3 := qk _
def qf9 : AC Bool :=
  .seq (.seq (.reg [ao 11 (.mv 5),
 ao 12 (.mv 0),
 ao 13 (.len false 12),
 ao 14 (.bin .lss 11 13)]) (.cond 14 (.skip) (.seq (.view [.sel [] []]) (.exit 0)))) (.seq (.block 1 (.seq (.draw [] [ao 17 (.mv 0),
 ao 18 (.mv 5),
 ao 19 (.ia 8 17 18),
 .et 19 qe,
 ao 20 (.load true 8 19),
 ao 21 (.mv 1),
 ao 22 (.mv 5),
 ao 23 (.ia 8 21 22),
 .et 23 qe,
 ao 24 (.load true 8 23)] [ao 25 (.eq true true [.b, (.i .u64), (.i .u64), (.i .i64), (.i .i64), .s, .s, (.i .i64)] 20 24)]) (.cond 25 (.seq (.reg [ao 4 (.mv (.c (.bool false)))]) (.ret)) (.skip)))) (.seq (.reg [ao 15 (.mv 5),
 ao 16 (.bin .add 15 (.c (.int .i64 1))),
 ao 5 (.mv 16)]) (.view [.sel [0, 1, 5] []])))
theorem qbbq : AC.ok Try.prog (TIof Try.prog) 26 0 (kret [.t 4] decB) qf9 := qm (zA rfl trivial)
theorem q92 (v0 v1 : List AV) (v5 : Int) (K : Ex → Env → Mem → Option Bool) : den 0 (kret [.t 4] decB) qf9 (qo7 v0 v1 v5) (qo8 v0 v1 v5) K = qf8 v0 v1 v5 (fun z_v5 => K .norm (qo7 v0 v1 z_v5) (qo8 v0 v1 z_v5)) (qjy K) := by kernel_rfl
theorem qbc6 (v0 v1 : List AV) (K : Ex → Env → Mem → Option Bool) : ∀ (n : Nat) (v5 : Int), qe2 (den 0 (kret [.t 4] decB) qf9) n (qo7 v0 v1 v5) (qo8 v0 v1 v5) K = qnu v0 v1 (qjy K) n v5 := by
  rw [qx1]
  intro n
  induction n with
  | zero => intros; rfl
  | succ n ih =>
 intro v5
 exact (q92 v0 v1 v5 (itK (den 0 (kret [.t 4] decB) qf9) n K)).trans (congrArg (fun q => qf8 v0 v1 v5 q (qjy K)) (funext fun v5 => ih v5))
def qz4 := subE (R := Bool) q91 fun t m K => qnu (gL [t 0] 0) (gL [t 1] 0) (qjy K) FU (gI [t 5] 0)
theorem qbc7 : qby Try.prog (TIof Try.prog) 26 0 (kret [.t 4] decB) (.loop (scOf qf9)) (qz4) :=
  qd9 tabOk follows (qbbq) (qo (by kernel_rfl)) fun t m K => qbc6 _ _ K FU _
def qbjb : Shp := ⟨[(0, .one (.l (.sl 8))), (1, .one (.l (.sl 8)))], []⟩
def qxk (v0 v1 : List AV) : Option Bool :=
  (bif ((v0.length : Int) != (v1.length : Int)) then (some false) else (qnu v0 v1 (fun (_ : Unit) => (some true)) FU (0 : Int)))
def qix := hull qxk
theorem q5q : qix = qxk := qk _
def qxl : AC Bool :=
  .seq (.reg [ao 4 (.mv (.c (.bool false)))]) (.seq (.seq (.reg [ao 6 (.mv 0),
 ao 7 (.len false 6),
 ao 8 (.mv 1),
 ao 9 (.len false 8),
 ao 10 (.bin .neq 7 9)]) (.cond 10 (.seq (.reg [ao 4 (.mv (.c (.bool false)))]) (.ret)) (.skip))) (.seq (.seq (.reg [ao 5 (.mv (.c (.int .i64 0)))]) (.block 0 (.seq (.view [.sel [0, 1, 5] []]) (.sub (.loop (scOf qf9)) qz4)))) (.seq (.reg [ao 4 (.mv (.c (.bool true)))]) (.ret))))
theorem qblp : AC.ok Try.prog (TIof Try.prog) 26 0 (kret [.t 4] decB) qxl := qm (zA qbc7 trivial)
theorem qbpl (v0 v1 : List AV) : den 0 (kret [.t 4] decB) qxl (qi [(0, (.sl 8 v0)), (1, (.sl 8 v1))]) (qh []) (kend (kret [.t 4] decB)) = qix v0 v1 := by
  rw [q5q]; kernel_rfl
theorem qbpm : cFn (TIof Try.prog) Try.f21 = some ⟨26, [.t 4], scOf qxl⟩ := by kernel_rfl
def qbpn (xs : List AV) : Option Bool := qix (gL [(qj xs) 0] 0) (gL [(qj xs) 1] 0)
def q3b {R : Type} : List AV → (AV → Option R) → Option R := entF qbjb qbpn AV.bool
theorem qbpo {R : Type} : qd Try.prog 21 (q3b (R := R)) :=
  qt tabOk follows Try.func21 (by kernel_rfl) qbpm hdeB qblp (qo (by kernel_rfl)) fun xs => qbpl _ _
def qbc8 : List LT := [.b, (.i .u64), (.i .u64), (.i .i64), (.i .i64), (.i .i64), .s, .s]
def qxm (x0 : Bool) (x1 x2 x3 x4 x5 : Int) (x6 x7 : List UInt8) : List AV := [.bool x0, .int .u64 x1, .int .u64 x2, .int .i64 x3, .int .i64 x4, .int .i64 x5, .str x6, .str x7]
def q7h {β : Type} (cs : List AV) (f : Bool → Int → Int → Int → Int → Int → List UInt8 → List UInt8 → β) : β := f (gB cs 0) (gI cs 1) (gI cs 2) (gI cs 3) (gI cs 4) (gI cs 5) (gS cs 6) (gS cs 7)
def qnx  (v0 : List AV) (Aa : Bool) (Ab Ac Ad Au Av : Int) (Aw Ax : List UInt8) (K : Ex → Env → Mem → Option Bool) := (fun z_v36 => K .norm (qi [(0, (.sl 8 v0)), (3, (.ptr 0 0)), (36, (.bool z_v36))]) (qh [(some (.box true (qxm Aa Ab Ac Ad Au Av Aw Ax)))]))
def qy8 : Shp := ⟨[(0, .one (.l (.sl 8))), (3, .one (.ptr 0 0))], [.box true (lk qbc8)]⟩
def qiy  (v0 : List AV) (Aa : Bool) (Ab Ac Ad Au Av : Int) (Aw Ax : List UInt8) (kn : Bool → Option Bool) : Option Bool :=
  (oB (qpw v0) fun r1 => (bif (((!r1) || (decide ((Aw.length : Int) > (100 : Int)))) || (decide ((Ax.length : Int) > (100 : Int)))) then (kn true) else (oB (qp2 v0) fun r2 => (kn (r2 != (0 : Int))))))
def qgy := hull (qiy)
theorem qny : qgy = qiy := qk _
def qf7 : AC Bool :=
  .seq (.reg [ao 17 (.mv 0),
 .call (po 18 (.call 11 [17])) 11 q4r,
 ao 19 (.un .not 18),
 ao 20 (.mv 19),
 .grp 20 false [(pg 21 20 false (.fa 6 3)), (pg 22 20 false (.load false 1 21)), (pg 23 20 false (.len true 22)), (pg 24 20 false (.bin .gtr 23 (.c (.int .i64 100))))] 25 24,
 ao 26 (.mv 25),
 .grp 26 false [(pg 27 26 false (.fa 7 3)), (pg 28 26 false (.load false 1 27)), (pg 29 26 false (.len true 28)), (pg 30 26 false (.bin .gtr 29 (.c (.int .i64 100))))] 31 30,
 ao 32 (.mv 31),
 ag 33 32 false (.mv 0),
 .call (pg 34 32 false (.call 12 [33])) 12 q4z,
 ag 35 32 false (.bin .neq 34 (.c (.int .i64 0))),
 ao 36 (.pick 32 (.c (.bool true)) 35)]) (.view [.sel [0, 3, 36] [0]])
theorem q0e : AC.ok Try.prog (TIof Try.prog) 134 0 (kret [.t 4] decB) qf7 := qm (zA (qd.ok qbqj) (zA (qd.ok qbq2) trivial))
theorem q1x (v0 : List AV) (Aa : Bool) (Ab Ac Ad Au Av : Int) (Aw Ax : List UInt8) (K : Ex → Env → Mem → Option Bool) : den 0 (kret [.t 4] decB) qf7 (qi [(0, (.sl 8 v0)), (3, (.ptr 0 0))]) (qh [(some (.box true (qxm Aa Ab Ac Ad Au Av Aw Ax)))]) K = qgy v0 Aa Ab Ac Ad Au Av Aw Ax (qnx v0 Aa Ab Ac Ad Au Av Aw Ax K) := by
  rw [qny]; kernel_rfl
def qoz := subE (R := Bool) qy8 fun t m K => q7h (bxC (m.s 0)) (qgy (gL [t 0] 0)) (qnx (gL [t 0] 0) (gB (bxC (m.s 0)) 0) (gI (bxC (m.s 0)) 1) (gI (bxC (m.s 0)) 2) (gI (bxC (m.s 0)) 3) (gI (bxC (m.s 0)) 4) (gI (bxC (m.s 0)) 5) (gS (bxC (m.s 0)) 6) (gS (bxC (m.s 0)) 7) K)
theorem q1y : qby Try.prog (TIof Try.prog) 134 0 (kret [.t 4] decB) (scOf qf7) (qoz) :=
  qex tabOk follows (q0e) (qo (by kernel_rfl)) fun t m K => q1x _ _ _ _ _ _ _ _ _ K
def qe5 : Shp := ⟨[(0, .one (.l (.sl 8))), (1, .st (lk qbc8))], []⟩
def ql8 (v0 : List AV) (Am : Bool) (An Ao Ap Ay Az : Int) (A0 A1 : List UInt8) : Option Bool :=
  (oB (qp6) fun r1 => (bif (!r1) then (some false) else (qgy v0 Am An Ao Ap Ay Az A0 A1 (fun v36q2 => (bif v36q2 then (some true) else (oB (qik v0 Am An Ao Ap Ay Az) fun r3 => (oB (ql2 v0 Am An Ao Ap Ay Az) fun r4 => (bif ((!(((gB r3.1.cells 0) == (gB r4.1.cells 0)) && (((gI r3.1.cells 1) == (gI r4.1.cells 1)) && (((gI r3.1.cells 2) == (gI r4.1.cells 2)) && (((gI r3.1.cells 3) == (gI r4.1.cells 3)) && true))))) || (r3.2 != r4.2)) then (some false) else (oB (qkq v0 Am An Ao Ap) fun r5 => (oB (qnk v0 Am An Ao Ap) fun r6 => (bif ((r5.1 != r6.1) || (!((r5.2 == r6.2) && true))) then (some false) else (oB (qmg v0 Am An Ao Ap Ay Az A0 A1) fun r7 => (oB (qmh v0 Am An Ao Ap Ay Az A0 A1) fun r8 => (oB (qix r7.1 r8.1) fun r9 => (some ((r9 && (((gB r7.2.1.cells 0) == (gB r8.2.1.cells 0)) && (((gI r7.2.1.cells 1) == (gI r8.2.1.cells 1)) && (((gI r7.2.1.cells 2) == (gI r8.2.1.cells 2)) && (((gI r7.2.1.cells 3) == (gI r8.2.1.cells 3)) && true))))) && (r7.2.2 == r8.2.2)))))))))))))))))
def qe6 := hull ql8
theorem qqn : qe6 = ql8 := qk _
def ql9 : AC Bool :=
  .seq (.reg [ao 3 (.box 1),
 ao 4 (.mv (.c (.bool false)))]) (.seq (.seq (.reg [.call (po 15 (.call 14 [])) 14 q49,
 ao 16 (.un .not 15)]) (.cond 16 (.seq (.reg [ao 4 (.mv (.c (.bool false)))]) (.ret)) (.skip))) (.seq (.seq (.seq (.view [.sel [0, 3] [0]]) (.sub (scOf qf7) qoz)) (.cond 36 (.seq (.reg [ao 4 (.mv (.c (.bool true)))]) (.ret)) (.skip))) (.seq (.reg [ao 38 (.mv 0),
 ao 39 (.fa 0 3),
 ao 40 (.load true 4 39),
 ao 41 (.fa 4 3),
 ao 42 (.load false 1 41),
 ao 43 (.fa 5 3),
 ao 44 (.load false 1 43),
 .call (po 45 (.call 15 [38, 40, 42, 44])) 15 qnr,
 ao 37 (.mv 45),
 ao 46 (.ext 37 0),
 ao 47 (.ext 37 1),
 ao 5 (.alloc [(.bool false), (.int .u64 0), (.int .u64 0), (.int .i64 0)]),
 an (.store 4 5 46),
 ao 6 (.mv 47)]) (.seq (.reg [ao 49 (.mv 0),
 ao 50 (.fa 0 3),
 ao 51 (.load true 4 50),
 ao 52 (.fa 4 3),
 ao 53 (.load false 1 52),
 ao 54 (.fa 5 3),
 ao 55 (.load false 1 54),
 .call (po 56 (.call 16 [49, 51, 53, 55])) 16 qto,
 ao 48 (.mv 56),
 ao 57 (.ext 48 0),
 ao 58 (.ext 48 1),
 ao 7 (.alloc [(.bool false), (.int .u64 0), (.int .u64 0), (.int .i64 0)]),
 an (.store 4 7 57),
 ao 8 (.mv 58)]) (.seq (.seq (.reg [ao 59 (.load true 4 5),
 ao 60 (.load true 4 7),
 ao 61 (.eq true true [.b, (.i .u64), (.i .u64), (.i .i64)] 59 60),
 ao 62 (.mv 61),
 .grp 62 false [(pg 63 62 false (.mv 6)), (pg 64 62 false (.mv 8)), (pg 65 62 false (.bin .neq 63 64))] 66 65]) (.cond 66 (.seq (.reg [ao 4 (.mv (.c (.bool false)))]) (.ret)) (.skip))) (.seq (.reg [ao 68 (.mv 0),
 ao 69 (.fa 0 3),
 ao 70 (.load true 4 69),
 .call (po 71 (.call 17 [68, 70])) 17 qrd,
 ao 67 (.mv 71),
 ao 72 (.ext 67 0),
 ao 73 (.ext 67 1),
 ao 9 (.mv 72),
 ao 10 (.mv 73)]) (.seq (.reg [ao 75 (.mv 0),
 ao 76 (.fa 0 3),
 ao 77 (.load true 4 76),
 .call (po 78 (.call 18 [75, 77])) 18 q1j,
 ao 74 (.mv 78),
 ao 79 (.ext 74 0),
 ao 80 (.ext 74 1),
 ao 11 (.mv 79),
 ao 12 (.mv 80)]) (.seq (.seq (.reg [ao 81 (.mv 9),
 ao 82 (.mv 11),
 ao 83 (.bin .neq 81 82),
 ao 84 (.mv 83),
 .grp 84 false [(pg 85 84 false (.mv 10)), (pg 86 84 false (.mv 12)), (pg 87 84 false (.eq true false [.b] 85 86))] 88 87]) (.cond 88 (.seq (.reg [ao 4 (.mv (.c (.bool false)))]) (.ret)) (.skip))) (.seq (.reg [ao 90 (.mv 0),
 ao 91 (.fa 0 3),
 ao 92 (.load true 4 91),
 ao 93 (.fa 4 3),
 ao 94 (.load false 1 93),
 ao 95 (.fa 5 3),
 ao 96 (.load false 1 95),
 ao 97 (.fa 6 3),
 ao 98 (.load false 1 97),
 ao 99 (.fa 7 3),
 ao 100 (.load false 1 99),
 .callc (po 101 (.call 19 [90, 92, 94, 96, 98, 100])) 19 qz2,
 ao 89 (.mv 101),
 ao 102 (.ext 89 0),
 ao 103 (.ext 89 1),
 ao 104 (.ext 89 2),
 ao 13 (.mv 102),
 an (.store 4 5 103),
 ao 6 (.mv 104)]) (.seq (.reg [ao 106 (.mv 0),
 ao 107 (.fa 0 3),
 ao 108 (.load true 4 107),
 ao 109 (.fa 4 3),
 ao 110 (.load false 1 109),
 ao 111 (.fa 5 3),
 ao 112 (.load false 1 111),
 ao 113 (.fa 6 3),
 ao 114 (.load false 1 113),
 ao 115 (.fa 7 3),
 ao 116 (.load false 1 115),
 .callc (po 117 (.call 20 [106, 108, 110, 112, 114, 116])) 20 qz3,
 ao 105 (.mv 117),
 ao 118 (.ext 105 0),
 ao 119 (.ext 105 1),
 ao 120 (.ext 105 2),
 ao 14 (.mv 118),
 an (.store 4 7 119),
 ao 8 (.mv 120)]) (.seq (.reg [ao 121 (.mv 13),
 ao 122 (.mv 14),
 .call (po 123 (.call 21 [121, 122])) 21 q3b,
 ao 124 (.mv 123),
 .grp 124 true [(pg 125 124 true (.load true 4 5)), (pg 126 124 true (.load true 4 7)), (pg 127 124 true (.eq false true [.b, (.i .u64), (.i .u64), (.i .i64)] 125 126))] 128 127,
 ao 129 (.mv 128),
 .grp 129 true [(pg 130 129 true (.mv 6)), (pg 131 129 true (.mv 8)), (pg 132 129 true (.bin .eql 130 131))] 133 132,
 ao 4 (.mv 133)]) (.ret))))))))))))
theorem q5r : AC.ok Try.prog (TIof Try.prog) 134 0 (kret [.t 4] decB) ql9 := qm (zA (qd.ok qbrg) (zA q1y (zA (qd.ok qw9) (zA (qd.ok q69) (zA (qd.ok q48) (zA (qd.ok qbk3) (zA (qd.ok qbi2) (zA (qd.ok qbja) (zA (qd.ok qbpo) trivial)))))))))
theorem q6f (v0 : List AV) (Am : Bool) (An Ao Ap Ay Az : Int) (A0 A1 : List UInt8) : den 0 (kret [.t 4] decB) ql9 (qi [(0, (.sl 8 v0)), (1, .agg (qxm Am An Ao Ap Ay Az A0 A1))]) (qh []) (kend (kret [.t 4] decB)) = qe6 v0 Am An Ao Ap Ay Az A0 A1 := by
  rw [qqn]; kernel_rfl
theorem q6g : cFn (TIof Try.prog) Try.f4 = some ⟨134, [.t 4], scOf ql9⟩ := by kernel_rfl
def q6h (xs : List AV) : Option Bool := q7h ((qj xs) 1).cells (qe6 (gL [(qj xs) 0] 0))
def q3x {R : Type} : List AV → (AV → Option R) → Option R := entF qe5 q6h AV.bool
theorem q6i {R : Type} : qd Try.prog 4 (q3x (R := R)) :=
  qt tabOk follows Try.func4 (by kernel_rfl) q6g hdeB q5r (qo (by kernel_rfl)) fun xs => q6f _ _ _ _ _ _ _ _ _
end
end Go.Proofs.Ytmfghgaboaocgaa.Dn
