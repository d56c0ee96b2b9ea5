import Derived.Test.YtmfghgaboaocgaaProg
import Derived.Test.YtmfghgaboaocgaaChLibD
set_option linter.all false
namespace Go.Proofs.Ytmfghgaboaocgaa.Dn
open Go Go.Pev
set_option linter.unusedVariables false
set_option linter.unusedSimpArgs false
set_option maxRecDepth 100000
set_option maxHeartbeats 4000000
theorem zT : True := True.intro
theorem zA {a b : Prop} (x : a) (y : b) : a ∧ b := ⟨x, y⟩
theorem tabOk : Tab.ok (TIof Try.prog) Try.prog := fun _ _ h => h
theorem follows : Try.prog.follows .mixedOrders = true := by kernel_rfl
def qbds : Shp := ⟨[], []⟩
noncomputable section
def quh : Option AV :=
  (some (.agg [(.bool false), (.int .u64 (0 : Int)), (.int .u64 (256 : Int)), (.int .i64 (24 : Int))]))
def qhk := hull quh
theorem qsp : qhk = quh := qk _
def qui : AC AV :=
  .seq (.reg [ao 0 (.alloc [(.bool false), (.int .u64 0), (.int .u64 0), (.int .i64 0)])]) (.seq (.reg [ao 1 (.build [(.bool false), (.int .u64 0), (.int .u64 0)] [(2, (1, (.c (.int .u64 256))))]),
 ao 2 (.build [(.bool false), (.int .u64 0), (.int .u64 0), (.int .i64 0)] [(0, (3, 1)), (3, (1, (.c (.int .i64 24))))]),
 an (.store 4 0 2)]) (.ret))
theorem qbg8 : AC.ok Try.prog (TIof Try.prog) 3 0 (kret [(.cell 0 true 4)] (decT [.b, (.i .u64), (.i .u64), (.i .i64)])) qui := qm trivial
theorem qbjd : den 0 (kret [(.cell 0 true 4)] (decT [.b, (.i .u64), (.i .u64), (.i .i64)])) qui (qi []) (qh []) (kend (kret [(.cell 0 true 4)] (decT [.b, (.i .u64), (.i .u64), (.i .i64)]))) = qhk := by
  rw [qsp]; kernel_rfl
theorem qbje : cFn (TIof Try.prog) Try.f28 = some ⟨3, [(.cell 0 true 4)], scOf qui⟩ := by kernel_rfl
def qbjf (xs : List AV) : Option AV := qhk
def qmk {R : Type} : List AV → (AV → Option R) → Option R := entF qbds qbjf (qh4 (.st [.b, (.i .u64), (.i .u64), (.i .i64)]))
theorem quj {R : Type} : qd Try.prog 28 (qmk (R := R)) :=
  qt tabOk follows Try.func28 (by kernel_rfl) qbje hdeT qbg8 (qo (by kernel_rfl)) fun xs => qbjd
def qbg9 : Shp := ⟨[], []⟩
def qwg : Option (List AV) :=
  (oB (qhk) fun r1 => (bif hd ([(.agg [(.bool (gB r1.cells 0)), (.int .u64 (gI r1.cells 1)), (.int .u64 (gI r1.cells 2)), (.int .i64 (gI r1.cells 3)), (.int .i64 (1 : Int)), (.str ([99] : List UInt8)), (.str ([] : List UInt8)), (.int .i64 (0 : Int))]), (.agg [(.bool false), (.int .u64 (0 : Int)), (.int .u64 (288 : Int)), (.int .i64 (27 : Int)), (.int .i64 (2 : Int)), (.str ([115] : List UInt8)), (.str ([] : List UInt8)), (.int .i64 (0 : Int))])] : List AV) (([(.agg [(.bool (gB r1.cells 0)), (.int .u64 (gI r1.cells 1)), (.int .u64 (gI r1.cells 2)), (.int .i64 (gI r1.cells 3)), (.int .i64 (1 : Int)), (.str ([99] : List UInt8)), (.str ([] : List UInt8)), (.int .i64 (0 : Int))]), (.agg [(.bool false), (.int .u64 (0 : Int)), (.int .u64 (288 : Int)), (.int .i64 (27 : Int)), (.int .i64 (2 : Int)), (.str ([115] : List UInt8)), (.str ([] : List UInt8)), (.int .i64 (0 : Int))])] : List AV).length) then (some ([(.agg [(.bool (gB r1.cells 0)), (.int .u64 (gI r1.cells 1)), (.int .u64 (gI r1.cells 2)), (.int .i64 (gI r1.cells 3)), (.int .i64 (1 : Int)), (.str ([99] : List UInt8)), (.str ([] : List UInt8)), (.int .i64 (0 : Int))]), (.agg [(.bool false), (.int .u64 (0 : Int)), (.int .u64 (288 : Int)), (.int .i64 (27 : Int)), (.int .i64 (2 : Int)), (.str ([115] : List UInt8)), (.str ([] : List UInt8)), (.int .i64 (0 : Int))])] : List AV)) else none))
def qlp := hull qwg
theorem q4m : qlp = qwg := qk _
def qwh : AC (List AV) :=
  .seq (.reg [ao 0 (.mv (.c .nils))]) (.seq (.reg [.call (po 1 (.call 28 [])) 28 qmk,
 ao 2 (.build [(.bool false), (.int .u64 0), (.int .u64 0), (.int .i64 0), (.int .i64 0), (.str []), (.str []), (.int .i64 0)] [(0, (4, 1)), (4, (1, (.c (.int .i64 1)))), (5, (1, (.c (.str [99]))))]),
 ao 3 (.build [(.bool false), (.int .u64 0), (.int .u64 0)] [(2, (1, (.c (.int .u64 288))))]),
 ao 4 (.build [(.bool false), (.int .u64 0), (.int .u64 0), (.int .i64 0)] [(0, (3, 3)), (3, (1, (.c (.int .i64 27))))]),
 ao 5 (.build [(.bool false), (.int .u64 0), (.int .u64 0), (.int .i64 0), (.int .i64 0), (.str []), (.str []), (.int .i64 0)] [(0, (4, 4)), (4, (1, (.c (.int .i64 2)))), (5, (1, (.c (.str [115]))))]),
 ao 6 (.bsl 8 [2, 5]),
 ao 0 (.mv 6)]) (.ret))
theorem qbjg : AC.ok Try.prog (TIof Try.prog) 7 0 (kret [.t 0] (decF true 8)) qwh := qm (zA (qd.ok quj) trivial)
theorem qbnf : den 0 (kret [.t 0] (decF true 8)) qwh (qi []) (qh []) (kend (kret [.t 0] (decF true 8))) = qlp := by
  rw [q4m]; kernel_rfl
theorem qbng : cFn (TIof Try.prog) Try.f10 = some ⟨7, [.t 0], scOf qwh⟩ := by kernel_rfl
def qbnh (xs : List AV) : Option (List AV) := qlp
def qsq {R : Type} : List AV → (AV → Option R) → Option R := entF qbg9 qbnh (AV.fr true 8)
theorem q6k {R : Type} : qd Try.prog 10 (qsq (R := R)) :=
  qt tabOk follows Try.func10 (by kernel_rfl) qbng hdeF qbjg (qo (by kernel_rfl)) fun xs => qbnf
def qe : List LT := [.b, (.i .u64), (.i .u64), (.i .i64), (.i .i64), .s, .s, (.i .i64)]
def qp (x0 : Bool) (x1 x2 x3 x4 : Int) (x5 x6 : List UInt8) (x7 : Int) : List AV := [.bool x0, .int .u64 x1, .int .u64 x2, .int .i64 x3, .int .i64 x4, .str x5, .str x6, .int .i64 x7]
def qc : List LT := [.b, (.i .u64), (.i .u64), (.i .i64)]
def qa (x0 : Bool) (x1 x2 x3 : Int) : List AV := [.bool x0, .int .u64 x1, .int .u64 x2, .int .i64 x3]
def qr {β : Type} (cs : List AV) (f : Bool → Int → Int → Int → Int → List UInt8 → List UInt8 → Int → β) : β := f (gB cs 0) (gI cs 1) (gI cs 2) (gI cs 3) (gI cs 4) (gS cs 5) (gS cs 6) (gI cs 7)
def qb {β : Type} (cs : List AV) (f : Bool → Int → Int → Int → β) : β := f (gB cs 0) (gI cs 1) (gI cs 2) (gI cs 3)
def qbjh : Shp := ⟨[(0, .st (lk qe)), (1, .one (.ptr 0 0))], [.box true (lk qc)]⟩
def q6l {R : Type} (KK : AV → Mem → Option R) := (fun v3 Aa Ab Ac Ad => KK (.bool v3) (qh [(some (.box true [(.bool Aa), (.int .u64 Ab), (.int .u64 Ac), (.int .i64 Ad)]))]))
def qyf {R : Type}  (Ae : Bool) (Af Ag Ah Ai : Int) (Aj Ak : List UInt8) (Al : Int) (Aa : Bool) (Ab Ac Ad : Int) (kr : Bool → Bool → Int → Int → Int → Option R) : Option R :=
  (kr ((Ae == Aa) && ((Af == Ab) && ((Ag == Ac) && ((Ah == Ad) && true)))) Aa Ab Ac Ad)
def qvs {R : Type} := hull (qyf (R := R))
theorem q6m {R : Type} : qvs (R := R) = qyf := qk _
def qkj {R : Type} (KK : AV → Mem → Option R) : AC R :=
  .seq (.reg [ao 2 (.box 0),
 ao 3 (.mv (.c (.bool false)))]) (.seq (.reg [ao 4 (.fa 0 2),
 ao 5 (.load true 4 4),
 ao 6 (.load true 4 1),
 ao 7 (.eq false true [.b, (.i .u64), (.i .u64), (.i .i64)] 5 6),
 ao 3 (.mv 7)]) (.seq (.view [.sel [3] [0]]) (.ret)))
theorem qbni {R : Type} (KK : AV → Mem → Option R) : AC.ok Try.prog (TIof Try.prog) 8 1 (qbm [.t 3] KK) (qkj KK) := qm trivial
theorem qbp5 {R : Type} (KK : AV → Mem → Option R) (Ae : Bool) (Af Ag Ah Ai : Int) (Aj Ak : List UInt8) (Al : Int) (Aa : Bool) (Ab Ac Ad : Int) : den 1 (qbm [.t 3] KK) (qkj KK) (qi [(0, .agg (qp Ae Af Ag Ah Ai Aj Ak Al)), (1, (.ptr 0 0))]) (qh [(some (.box true (qa Aa Ab Ac Ad)))]) (kend (qbm [.t 3] KK)) = qvs Ae Af Ag Ah Ai Aj Ak Al Aa Ab Ac Ad (q6l KK) := by
  rw [q6m]; kernel_rfl
theorem qbp6 : cFn (TIof Try.prog) Try.f98 = some ⟨8, [.t 3], scOf (qkj (R := Unit) (fun _ _ => none))⟩ := by kernel_rfl
theorem qbp7 {R : Type} (KK : AV → Mem → Option R) : (qkj KK).er = some (scOf (qkj (R := Unit) (fun _ _ => none))) := by kernel_rfl
def q72 {R : Type} : List AV → Mem → (AV → Mem → Option R) → Option R := refE qbjh fun xs m KK => qb (bxC (m.s 0)) (qr ((qj xs) 0).cells (qvs)) (q6l KK)
theorem qbp8 {R : Type} : qm3 Try.prog 98 (q72 (R := R)) :=
  qx4 (ac := fun KK => qkj KK) tabOk follows Try.func98 (by kernel_rfl) qbp6 (fun KK => qbni KK) (fun KK => qbp7 KK) rfl fun xs m KK => qbp5 KK _ _ _ _ _ _ _ _ _ _ _ _
def qbz {R : Type}  (K : Ex → Env → Mem → Option R) := (fun z_b0_0 z_b0_1 z_b0_2 z_b0_3 => K (.exit 0) (qi []) (qh [(some (.box true (qa z_b0_0 z_b0_1 z_b0_2 z_b0_3)))]))
def qb3 {R : Type} (KK : AV → Mem → Option R) := (fun v4 Aa Ab Ac Ad => KK (.int .i64 v4) (qh [(some (.box true [(.bool Aa), (.int .u64 Ab), (.int .u64 Ac), (.int .i64 Ad)]))]))
def qi7 : Shp := ⟨[(0, .one (.l (.sl 8))), (1, .one (.fn 98 [(0, 0)])), (7, .one (.l (.i .i64))), (8, .one (.l (.i .i64)))], [.box true (lk qc)]⟩
def qcz (v0 : List AV) (v7 v8 : Int) (Aa : Bool) (Ab Ac Ad : Int) : Env := qi [(0, (.sl 8 v0)), (1, (.func 98 [(.ptr 0 0)])), (7, (.int .i64 v7)), (8, (.int .i64 v8))]
def qc0 (v0 : List AV) (v7 v8 : Int) (Aa : Bool) (Ab Ac Ad : Int) : Mem := qh [(some (.box true (qa Aa Ab Ac Ad)))]
def qbh {R : Type}  (v0 : List AV) (v7 v8 : Int) (Aa : Bool) (Ab Ac Ad : Int) (next : Int → Bool → Int → Int → Int → Option R) (kx0 : Bool → Int → Int → Int → Option R) (kr : Int → Bool → Int → Int → Int → Option R) : Option R :=
  (bif (decide (v8 < v7)) then (oB (ixB v0 v8) fun y1 => (bif fitC qe y1.cells then (qvs (gB y1.cells 0) (gI y1.cells 1) (gI y1.cells 2) (gI y1.cells 3) (gI y1.cells 4) (gS y1.cells 5) (gS y1.cells 6) (gI y1.cells 7) Aa Ab Ac Ad fun v3q2 b0_0q3 b0_1q4 b0_2q5 b0_3q6 => (bif v3q2 then (kr v8 b0_0q3 b0_1q4 b0_2q5 b0_3q6) else (next (IntKind.i64.wrap (v8 + (1 : Int))) b0_0q3 b0_1q4 b0_2q5 b0_3q6))) else none)) else (kx0 Aa Ab Ac Ad))
def qb7 {R : Type}  (v0 : List AV) (v7 : Int) (kx0 : Bool → Int → Int → Int → Option R) (kr : Int → Bool → Int → Int → Int → Option R) : Nat → Int → Bool → Int → Int → Int → Option R
  | 0 => (fun _ _ _ _ _ => none)
  | n + 1 => (fun v8 Aa Ab Ac Ad => qbh v0 v7 v8 Aa Ab Ac Ad (qb7 v0 v7 kx0 kr n) kx0 kr)
def qb9 {R : Type} := hull (qb7 (R := R))
theorem qes {R : Type} : qb9 (R := R) = qb7 := qk _
def qbi {R : Type} (KK : AV → Mem → Option R) : AC R :=
  .seq (.reg [ao 9 (.bin .lss 8 7)]) (.seq (.cond 9 (.skip) (.seq (.view [.sel [] [0]]) (.exit 0))) (.seq (.block 1 (.seq (.reg [ao 10 (.mv 8),
 ao 5 (.mv 10)]) (.seq (.reg [ao 11 (.mv 1),
 ao 12 (.mv 0),
 ao 13 (.mv 5),
 ao 14 (.ia 8 12 13),
 .st (.etac 14 qe),
 ao 15 (.load true 8 14),
 .st (.sel [0, 1, 5, 7, 8, 11, 15] [0]),
 .callr (po 16 (.callv 11 [15])) 98 q72]) (.cond 16 (.seq (.reg [ao 17 (.mv 5),
 ao 4 (.mv 17)]) (.seq (.view [.sel [4] [0]]) (.ret))) (.skip))))) (.seq (.reg [ao 18 (.bin .add 8 (.c (.int .i64 1))),
 ao 8 (.mv 18)]) (.view [.sel [0, 1, 7, 8] [0]]))))
theorem qjo {R : Type} (KK : AV → Mem → Option R) : AC.ok Try.prog (TIof Try.prog) 19 1 (qbm [.t 4] KK) (qbi KK) := qm (zA qbp8 trivial)
theorem qi8 {R : Type} (KK : AV → Mem → Option R) (v0 : List AV) (v7 v8 : Int) (Aa : Bool) (Ab Ac Ad : Int) (K : Ex → Env → Mem → Option R) : den 1 (qbm [.t 4] KK) (qbi KK) (qcz v0 v7 v8 Aa Ab Ac Ad) (qc0 v0 v7 v8 Aa Ab Ac Ad) K = qbh v0 v7 v8 Aa Ab Ac Ad (fun z_v8 z_b0_0 z_b0_1 z_b0_2 z_b0_3 => K .norm (qcz v0 v7 z_v8 z_b0_0 z_b0_1 z_b0_2 z_b0_3) (qc0 v0 v7 z_v8 z_b0_0 z_b0_1 z_b0_2 z_b0_3)) (qbz K) (qb3 KK) := by kernel_rfl
theorem qjz {R : Type} (KK : AV → Mem → Option R) (v0 : List AV) (v7 : Int) (K : Ex → Env → Mem → Option R) : ∀ (n : Nat) (v8 : Int) (Aa : Bool) (Ab Ac Ad : Int), qe2 (den 1 (qbm [.t 4] KK) (qbi KK)) n (qcz v0 v7 v8 Aa Ab Ac Ad) (qc0 v0 v7 v8 Aa Ab Ac Ad) K = qb9 v0 v7 (qbz K) (qb3 KK) n v8 Aa Ab Ac Ad := by
  rw [qes]
  intro n
  induction n with
  | zero => intros; rfl
  | succ n ih =>
 intro v8 Aa Ab Ac Ad
 exact (qi8 KK v0 v7 v8 Aa Ab Ac Ad (itK (den 1 (qbm [.t 4] KK) (qbi KK)) n K)).trans (congrArg (fun q => qbh v0 v7 v8 Aa Ab Ac Ad q (qbz K) (qb3 KK)) (funext fun v8 => funext fun Aa => funext fun Ab => funext fun Ac => funext fun Ad => ih v8 Aa Ab Ac Ad))
def qez {R : Type} (KK : AV → Mem → Option R) := subE (R := R) qi7 fun t m K => qb (bxC (m.s 0)) (qb9 (gL [t 0] 0) (gI [t 7] 0) (qbz K) (qb3 KK) FU (gI [t 8] 0))
theorem qj0 {R : Type} (KK : AV → Mem → Option R) : qby Try.prog (TIof Try.prog) 19 1 (qbm [.t 4] KK) (.loop (scOf (qbi KK))) (qez KK) :=
  qd9 tabOk follows (qjo KK) (qo (by kernel_rfl)) fun t m K => qjz KK _ _ K FU _ _ _ _ _
def qkk : Shp := ⟨[(0, .one (.l (.sl 8))), (1, .one (.fn 98 [(0, 0)]))], [.box true (lk qc)]⟩
def qfa {R : Type} (KK : AV → Mem → Option R) := (fun v4 Aa Ab Ac Ad => KK (.int .i64 v4) (qh [(some (.box true [(.bool Aa), (.int .u64 Ab), (.int .u64 Ac), (.int .i64 Ad)]))]))
def qc7 {R : Type}  (v0 : List AV) (Aa : Bool) (Ab Ac Ad : Int) (kr : Int → Bool → Int → Int → Int → Option R) : Option R :=
  (qb9 v0 (v0.length : Int) (fun b0_0q1 b0_1q2 b0_2q3 b0_3q4 => (kr (-1 : Int) b0_0q1 b0_1q2 b0_2q3 b0_3q4)) kr FU (0 : Int) Aa Ab Ac Ad)
def qcf {R : Type} := hull (qc7 (R := R))
theorem qfb {R : Type} : qcf (R := R) = qc7 := qk _
def qbl {R : Type} (KK : AV → Mem → Option R) : AC R :=
  .seq (.reg [ao 4 (.mv (.c (.int .i64 0)))]) (.seq (.seq (.reg [ao 6 (.mv 0),
 ao 7 (.len false 6),
 ao 8 (.mv (.c (.int .i64 0)))]) (.block 0 (.seq (.view [.sel [0, 1, 7, 8] [0]]) (.sub (.loop (scOf (qbi KK))) (qez KK))))) (.seq (.reg [ao 4 (.mv (.c (.int .i64 (-1))))]) (.seq (.view [.sel [4] [0]]) (.ret))))
theorem qky {R : Type} (KK : AV → Mem → Option R) : AC.ok Try.prog (TIof Try.prog) 19 1 (qbm [.t 4] KK) (qbl KK) := qm (zA (qj0 KK) trivial)
theorem qlb {R : Type} (KK : AV → Mem → Option R) (v0 : List AV) (Aa : Bool) (Ab Ac Ad : Int) : den 1 (qbm [.t 4] KK) (qbl KK) (qi [(0, (.sl 8 v0)), (1, (.func 98 [(.ptr 0 0)]))]) (qh [(some (.box true (qa Aa Ab Ac Ad)))]) (kend (qbm [.t 4] KK)) = qcf v0 Aa Ab Ac Ad (qfa KK) := by
  rw [qfb]; kernel_rfl
theorem qlc : cFn (TIof Try.prog) Try.f97 = some ⟨19, [.t 4], scOf (qbl (R := Unit) (fun _ _ => none))⟩ := by kernel_rfl
theorem qld {R : Type} (KK : AV → Mem → Option R) : (qbl KK).er = some (scOf (qbl (R := Unit) (fun _ _ => none))) := by kernel_rfl
def qfe {R : Type} : List AV → Mem → (AV → Mem → Option R) → Option R := refE qkk fun xs m KK => qb (bxC (m.s 0)) (qcf (gL [(qj xs) 0] 0)) (qfa KK)
theorem qle {R : Type} : qm3 Try.prog 97 (qfe (R := R)) :=
  qx4 (ac := fun KK => qbl KK) tabOk follows Try.func97 (by kernel_rfl) qlc (fun KK => qky KK) (fun KK => qld KK) rfl fun xs m KK => qlb KK _ _ _ _ _
def qbp9 : Shp := ⟨[(0, .one (.l (.sl 8))), (1, .st (lk qc))], []⟩
def q3c (v0 : List AV) (Am : Bool) (An Ao Ap : Int) : Option Int :=
  (qcf v0 Am An Ao Ap fun v4q1 b0_0q2 b0_1q3 b0_2q4 b0_3q5 => (some v4q1))
def qps := hull q3c
theorem q93 : qps = q3c := qk _
def q3d : AC Int :=
  .seq (.reg [ao 3 (.box 1),
 ao 4 (.mv (.c (.int .i64 0)))]) (.seq (.reg [ao 5 (.mv 0),
 ao 6 (.mkf 98 [3]),
 .st (.sel [5, 6] [0]),
 .callr (po 7 (.call 97 [5, 6])) 97 qfe,
 ao 4 (.mv 7)]) (.ret))
theorem qbsi : AC.ok Try.prog (TIof Try.prog) 8 0 (kret [.t 4] (decI .i64)) q3d := qm (zA qle trivial)
theorem qbu4 (v0 : List AV) (Am : Bool) (An Ao Ap : Int) : den 0 (kret [.t 4] (decI .i64)) q3d (qi [(0, (.sl 8 v0)), (1, .agg (qa Am An Ao Ap))]) (qh []) (kend (kret [.t 4] (decI .i64))) = qps v0 Am An Ao Ap := by
  rw [q93]; kernel_rfl
theorem qbu5 : cFn (TIof Try.prog) Try.f63 = some ⟨8, [.t 4], scOf q3d⟩ := by kernel_rfl
def qbu6 (xs : List AV) : Option Int := qb ((qj xs) 1).cells (qps (gL [(qj xs) 0] 0))
def qyg {R : Type} : List AV → (AV → Option R) → Option R := entF qbp9 qbu6 (AV.int .i64)
theorem qbbw {R : Type} : qd Try.prog 63 (qyg (R := R)) :=
  qt tabOk follows Try.func63 (by kernel_rfl) qbu5 hdeI qbsi (qo (by kernel_rfl)) fun xs => qbu4 _ _ _ _ _
def q0f (z : AV) : Option (AV × Bool) := cond (qfn [(.st [.b, (.i .u64), (.i .u64), (.i .i64), (.i .i64), .s, .s, (.i .i64)]), (.one .b)] z) (some ((gC (tpL z) 0), aB (gC (tpL z) 1))) none
def qbsj (r : AV × Bool) : AV := .tup [qh4 (.st [.b, (.i .u64), (.i .u64), (.i .i64), (.i .i64), .s, .s, (.i .i64)]) r.1, .bool r.2]
def qbsk : Shp := ⟨[(0, .one (.l (.sl 8))), (1, .st (lk qc))], []⟩
def q5z (v0 : List AV) (Am : Bool) (An Ao Ap : Int) : Option (AV × Bool) :=
  (oB (qps v0 Am An Ao Ap) fun r1 => (bif (decide (r1 ≥ (0 : Int))) then (oB (ixB v0 r1) fun y2 => (bif fitC qe y2.cells then (some ((.agg [(.bool (gB y2.cells 0)), (.int .u64 (gI y2.cells 1)), (.int .u64 (gI y2.cells 2)), (.int .i64 (gI y2.cells 3)), (.int .i64 (gI y2.cells 4)), (.str (gS y2.cells 5)), (.str (gS y2.cells 6)), (.int .i64 (gI y2.cells 7))]), true)) else none)) else (some ((.agg [(.bool false), (.int .u64 (0 : Int)), (.int .u64 (0 : Int)), (.int .i64 (0 : Int)), (.int .i64 (0 : Int)), (.str ([] : List UInt8)), (.str ([] : List UInt8)), (.int .i64 (0 : Int))]), false))))
def qo2 := hull q5z
theorem qbbx : qo2 = q5z := qk _
def q50 : AC (AV × Bool) :=
  .seq (.reg [ao 3 (.box 1),
 ao 4 (.alloc [(.bool false), (.int .u64 0), (.int .u64 0), (.int .i64 0), (.int .i64 0), (.str []), (.str []), (.int .i64 0)]),
 ao 5 (.mv (.c (.bool false)))]) (.seq (.seq (.reg [ao 7 (.mv 0),
 ao 8 (.load true 4 3),
 .call (po 9 (.call 63 [7, 8])) 63 qyg,
 ao 6 (.mv 9)]) (.seq (.reg [ao 10 (.mv 6),
 ao 11 (.bin .geq 10 (.c (.int .i64 0)))]) (.cond 11 (.seq (.reg [ao 12 (.mv 0),
 ao 13 (.mv 6),
 ao 14 (.ia 8 12 13),
 .st (.etac 14 qe),
 ao 15 (.load true 8 14),
 an (.store 8 4 15),
 ao 5 (.mv (.c (.bool true)))]) (.ret)) (.skip)))) (.seq (.reg [ao 16 (.build [(.bool false), (.int .u64 0), (.int .u64 0), (.int .i64 0), (.int .i64 0), (.str []), (.str []), (.int .i64 0)] []),
 an (.store 8 4 16),
 ao 5 (.mv (.c (.bool false)))]) (.ret)))
theorem qbu7 : AC.ok Try.prog (TIof Try.prog) 17 0 (kret [(.cell 4 true 8), .t 5] q0f) q50 := qm (zA (qd.ok qbbw) trivial)
theorem qbx5 (v0 : List AV) (Am : Bool) (An Ao Ap : Int) : den 0 (kret [(.cell 4 true 8), .t 5] q0f) q50 (qi [(0, (.sl 8 v0)), (1, .agg (qa Am An Ao Ap))]) (qh []) (kend (kret [(.cell 4 true 8), .t 5] q0f)) = qo2 v0 Am An Ao Ap := by
  rw [qbbx]; kernel_rfl
theorem qbx6 : cFn (TIof Try.prog) Try.f25 = some ⟨17, [(.cell 4 true 8), .t 5], scOf q50⟩ := by kernel_rfl
def qbx7 (xs : List AV) : Option (AV × Bool) := qb ((qj xs) 1).cells (qo2 (gL [(qj xs) 0] 0))
def qty {R : Type} : List AV → (AV → Option R) → Option R := entF qbsk qbx7 qbsj
theorem q51 {R : Type} : qd Try.prog 25 (qty (R := R)) :=
  qt tabOk follows Try.func25 (by kernel_rfl) qbx6 (fun z r h => by
 obtain ⟨h1, h2⟩ := qq h
 cases h2
 exact (qc9 h1).symm) qbu7 (qo (by kernel_rfl)) fun xs => qbx5 _ _ _ _ _
def qf6 : List LT := [.b, (.i .u64), (.i .u64)]
def qcy (x0 : Bool) (x1 x2 : Int) : List AV := [.bool x0, .int .u64 x1, .int .u64 x2]
def qdg {β : Type} (cs : List AV) (f : Bool → Int → Int → β) : β := f (gB cs 0) (gI cs 1) (gI cs 2)
def qbu8 : Shp := ⟨[(0, .st (lk qf6))], []⟩
def q73 (Ae : Bool) (Af Ag : Int) : Option Bool :=
  (bif Ae then (some true) else (bif (Af == (0 : Int)) then (some (decide (Ag ≤ (4294967295 : Int)))) else (some false)))
def qvt := hull q73
theorem qbgw : qvt = q73 := qk _
def q74 : AC Bool :=
  .seq (.reg [ao 1 (.box 0),
 ao 2 (.mv (.c (.bool false)))]) (.seq (.reg [ao 3 (.fa 0 1),
 ao 4 (.load false 1 3),
 ao 5 (.mv 4),
 ag 6 5 false (.fa 1 1),
 ag 7 5 false (.load false 1 6),
 ag 8 5 false (.bin .eql 7 (.c (.int .u64 0))),
 ag 9 5 false (.mv 8),
 ag 10 9 true (.fa 2 1),
 ag 11 9 true (.load false 1 10),
 ag 12 9 true (.bin .leq 11 (.c (.int .u64 4294967295))),
 ag 13 5 false (.pick 9 12 (.c (.bool false))),
 ao 14 (.pick 5 (.c (.bool true)) 13),
 ao 2 (.mv 14)]) (.ret))
theorem qbx8 : AC.ok Try.prog (TIof Try.prog) 15 0 (kret [.t 2] decB) q74 := qm trivial
theorem qbzf (Ae : Bool) (Af Ag : Int) : den 0 (kret [.t 2] decB) q74 (qi [(0, .agg (qcy Ae Af Ag))]) (qh []) (kend (kret [.t 2] decB)) = qvt Ae Af Ag := by
  rw [qbgw]; kernel_rfl
theorem qbzg : cFn (TIof Try.prog) Try.f72 = some ⟨15, [.t 2], scOf q74⟩ := by kernel_rfl
def qbzh (xs : List AV) : Option Bool := qdg ((qj xs) 0).cells (qvt)
def q3e {R : Type} : List AV → (AV → Option R) → Option R := entF qbu8 qbzh AV.bool
theorem qbji {R : Type} : qd Try.prog 72 (q3e (R := R)) :=
  qt tabOk follows Try.func72 (by kernel_rfl) qbzg hdeB qbx8 (qo (by kernel_rfl)) fun xs => qbzf _ _ _
def qbnj : Shp := ⟨[(0, .st (lk qf6))], []⟩
def q0g (Ae : Bool) (Af Ag : Int) : Option Int :=
  (bif Ae then (some (128 : Int)) else (some (32 : Int)))
def qjc := hull q0g
theorem q75 : qjc = q0g := qk _
def q0h : AC Int :=
  .seq (.reg [ao 1 (.box 0),
 ao 2 (.mv (.c (.int .i64 0)))]) (.seq (.seq (.reg [ao 3 (.fa 0 1),
 ao 4 (.load false 1 3)]) (.cond 4 (.seq (.reg [ao 2 (.mv (.c (.int .i64 128)))]) (.ret)) (.skip))) (.seq (.reg [ao 2 (.mv (.c (.int .i64 32)))]) (.ret)))
theorem qbqa : AC.ok Try.prog (TIof Try.prog) 5 0 (kret [.t 2] (decI .i64)) q0h := qm trivial
theorem qbsl (Ae : Bool) (Af Ag : Int) : den 0 (kret [.t 2] (decI .i64)) q0h (qi [(0, .agg (qcy Ae Af Ag))]) (qh []) (kend (kret [.t 2] (decI .i64))) = qjc Ae Af Ag := by
  rw [q75]; kernel_rfl
theorem qbsm : cFn (TIof Try.prog) Try.f85 = some ⟨5, [.t 2], scOf q0h⟩ := by kernel_rfl
def qbsn (xs : List AV) : Option Int := qdg ((qj xs) 0).cells (qjc)
def qma {R : Type} : List AV → (AV → Option R) → Option R := entF qbnj qbsn (AV.int .i64)
theorem qtz {R : Type} : qd Try.prog 85 (qma (R := R)) :=
  qt tabOk follows Try.func85 (by kernel_rfl) qbsm hdeI qbqa (qo (by kernel_rfl)) fun xs => qbsl _ _ _
def qyh (z : AV) : Option (Int × Int) := cond (qfn [(.one (.i .u64)), (.one (.i .u64))] z) (some (aI (gC (tpL z) 0), aI (gC (tpL z) 1))) none
def qbqb (r : Int × Int) : AV := .tup [.int .u64 r.1, .int .u64 r.2]
def qbqc : Shp := ⟨[(0, .one (.l .b)), (1, .one (.l (.i .i64)))], []⟩
def qvu (v0 : Bool) (v1 : Int) : Option (Int × Int) :=
  (bif (!v0) then (bif decide ((IntKind.u64.wrap (IntKind.i64.wrap ((32 : Int) - v1))) < 0) then none else (some ((0 : Int), (IntKind.u64.wrap ((IntKind.u64.wrap ((1 : Int) * 2 ^ min (IntKind.u64.wrap (IntKind.i64.wrap ((32 : Int) - v1))).toNat IntKind.u64.bits)) - (1 : Int)))))) else (bif (decide (v1 ≥ (64 : Int))) then (bif decide ((IntKind.u64.wrap (IntKind.i64.wrap ((128 : Int) - v1))) < 0) then none else (some ((0 : Int), (IntKind.u64.wrap ((IntKind.u64.wrap ((1 : Int) * 2 ^ min (IntKind.u64.wrap (IntKind.i64.wrap ((128 : Int) - v1))).toNat IntKind.u64.bits)) - (1 : Int)))))) else (bif decide ((IntKind.u64.wrap (IntKind.i64.wrap ((64 : Int) - v1))) < 0) then none else (some ((IntKind.u64.wrap ((IntKind.u64.wrap ((1 : Int) * 2 ^ min (IntKind.u64.wrap (IntKind.i64.wrap ((64 : Int) - v1))).toNat IntKind.u64.bits)) - (1 : Int))), (18446744073709551615 : Int))))))
def qpt := hull qvu
theorem q94 : qpt = qvu := qk _
def q3f : AC (Int × Int) :=
  .seq (.reg [ao 4 (.mv (.c (.int .u64 0))),
 ao 5 (.mv (.c (.int .u64 0)))]) (.seq (.seq (.reg [ao 6 (.mv 0),
 ao 7 (.un .not 6)]) (.cond 7 (.seq (.reg [ao 8 (.mv 1),
 ao 9 (.bin .sub (.c (.int .i64 32)) 8),
 ao 10 (.conv (.int .u64) 9),
 ao 11 (.bin .shl (.c (.int .u64 1)) 10),
 ao 12 (.bin .sub 11 (.c (.int .u64 1))),
 ao 4 (.mv (.c (.int .u64 0))),
 ao 5 (.mv 12)]) (.ret)) (.skip))) (.seq (.seq (.reg [ao 13 (.mv 1),
 ao 14 (.bin .geq 13 (.c (.int .i64 64)))]) (.cond 14 (.seq (.reg [ao 15 (.mv 1),
 ao 16 (.bin .sub (.c (.int .i64 128)) 15),
 ao 17 (.conv (.int .u64) 16),
 ao 18 (.bin .shl (.c (.int .u64 1)) 17),
 ao 19 (.bin .sub 18 (.c (.int .u64 1))),
 ao 4 (.mv (.c (.int .u64 0))),
 ao 5 (.mv 19)]) (.ret)) (.skip))) (.seq (.reg [ao 20 (.mv 1),
 ao 21 (.bin .sub (.c (.int .i64 64)) 20),
 ao 22 (.conv (.int .u64) 21),
 ao 23 (.bin .shl (.c (.int .u64 1)) 22),
 ao 24 (.bin .sub 23 (.c (.int .u64 1))),
 ao 4 (.mv 24),
 ao 5 (.mv (.c (.int .u64 18446744073709551615)))]) (.ret))))
theorem qbso : AC.ok Try.prog (TIof Try.prog) 25 0 (kret [.t 4, .t 5] qyh) q3f := qm trivial
theorem qbu9 (v0 : Bool) (v1 : Int) : den 0 (kret [.t 4, .t 5] qyh) q3f (qi [(0, (.bool v0)), (1, (.int .i64 v1))]) (qh []) (kend (kret [.t 4, .t 5] qyh)) = qpt v0 v1 := by
  rw [q94]; kernel_rfl
theorem qbva : cFn (TIof Try.prog) Try.f71 = some ⟨25, [.t 4, .t 5], scOf q3f⟩ := by kernel_rfl
def qbvb (xs : List AV) : Option (Int × Int) := qpt (gB [(qj xs) 0] 0) (gI [(qj xs) 1] 0)
def qyi {R : Type} : List AV → (AV → Option R) → Option R := entF qbqc qbvb qbqb
theorem qbby {R : Type} : qd Try.prog 71 (qyi (R := R)) :=
  qt tabOk follows Try.func71 (by kernel_rfl) qbva (fun z r h => by
 obtain ⟨h1, h2⟩ := qq h
 cases h2
 exact (qc9 h1).symm) qbso (qo (by kernel_rfl)) fun xs => qbu9 _ _
def q4n  (Aa : Bool) (Ab Ac Ad : Int) (K : Ex → Env → Mem → Option Bool) := (fun z_v21 => K .norm (qi [(1, (.ptr 0 0)), (21, (.bool z_v21))]) (qh [(some (.box true (qa Aa Ab Ac Ad)))]))
def qbha : Shp := ⟨[(1, .one (.ptr 0 0))], [.box true (lk qc)]⟩
def qwi  (Aa : Bool) (Ab Ac Ad : Int) (kn : Bool → Option Bool) : Option Bool :=
  (oB (qvt Aa Ab Ac) fun r1 => (bif (!r1) then (kn true) else (bif (decide (Ad < (0 : Int))) then (kn true) else (oB (qjc Aa Ab Ac) fun r2 => (kn (decide (Ad > r2)))))))
def qt0 := hull (qwi)
theorem q4o : qt0 = qwi := qk _
def qpc : AC Bool :=
  .seq (.draw [] [ao 5 (.fa 0 1),
 ao 6 (.load true 3 5),
 .call (po 7 (.call 72 [6])) 72 q3e,
 ao 8 (.un .not 7),
 ao 9 (.mv 8),
 ag 10 9 false (.fa 3 1),
 ag 11 9 false (.load false 1 10),
 ag 12 9 false (.bin .lss 11 (.c (.int .i64 0))),
 ao 13 (.pick 9 (.c (.bool true)) 12),
 ao 14 (.mv 13),
 ag 15 14 false (.fa 3 1),
 ag 16 14 false (.load false 1 15),
 ag 17 14 false (.fa 0 1),
 ag 18 14 false (.load true 3 17),
 .call (pg 19 14 false (.call 85 [18])) 85 qma] [ag 20 14 false (.bin .gtr 16 19),
 ao 21 (.pick 14 (.c (.bool true)) 20)]) (.view [.sel [1, 21] [0]])
theorem qbjj : AC.ok Try.prog (TIof Try.prog) 45 0 (kret [.t 2] decB) qpc := qm (zA (qd.ok qbji) (zA (qd.ok qtz) (zA rfl trivial)))
theorem qbnk (Aa : Bool) (Ab Ac Ad : Int) (K : Ex → Env → Mem → Option Bool) : den 0 (kret [.t 2] decB) qpc (qi [(1, (.ptr 0 0))]) (qh [(some (.box true (qa Aa Ab Ac Ad)))]) K = qt0 Aa Ab Ac Ad (q4n Aa Ab Ac Ad K) := by
  rw [q4o]; kernel_rfl
def q6n := subE (R := Bool) qbha fun t m K => qb (bxC (m.s 0)) (qt0) (q4n (gB (bxC (m.s 0)) 0) (gI (bxC (m.s 0)) 1) (gI (bxC (m.s 0)) 2) (gI (bxC (m.s 0)) 3) K)
theorem qbnl : qby Try.prog (TIof Try.prog) 45 0 (kret [.t 2] decB) (scOf qpc) (q6n) :=
  qex tabOk follows (qbjj) (qo (by kernel_rfl)) fun t m K => qbnk _ _ _ _ K
def qbqd : Shp := ⟨[(0, .st (lk qc))], []⟩
def q3g (Ae : Bool) (Af Ag Ah : Int) : Option Bool :=
  (qt0 Ae Af Ag Ah (fun v21q1 => (bif v21q1 then (some false) else (oB (qpt Ae Ah) fun r2 => (some (((qbx .and .u64 Af r2.1) == (0 : Int)) && ((qbx .and .u64 Ag r2.2) == (0 : Int))))))))
def qhh := hull q3g
theorem q95 : qhh = q3g := qk _
def q3h : AC Bool :=
  .seq (.reg [ao 1 (.box 0),
 ao 2 (.mv (.c (.bool false)))]) (.seq (.seq (.seq (.view [.sel [1] [0]]) (.sub (scOf qpc) q6n)) (.cond 21 (.seq (.reg [ao 2 (.mv (.c (.bool false)))]) (.ret)) (.skip))) (.seq (.reg [ao 23 (.fa 0 1),
 ao 24 (.fa 0 23),
 ao 25 (.load false 1 24),
 ao 26 (.fa 3 1),
 ao 27 (.load false 1 26),
 .call (po 28 (.call 71 [25, 27])) 71 qyi,
 ao 22 (.mv 28),
 ao 29 (.ext 22 0),
 ao 30 (.ext 22 1),
 ao 3 (.mv 29),
 ao 4 (.mv 30)]) (.seq (.reg [ao 31 (.fa 0 1),
 ao 32 (.fa 1 31),
 ao 33 (.load false 1 32),
 ao 34 (.mv 3),
 ao 35 (.bin .and 33 34),
 ao 36 (.bin .eql 35 (.c (.int .u64 0))),
 ao 37 (.mv 36),
 .grp 37 true [(pg 38 37 true (.fa 0 1)), (pg 39 37 true (.fa 2 38)), (pg 40 37 true (.load false 1 39)), (pg 41 37 true (.mv 4)), (pg 42 37 true (.bin .and 40 41)), (pg 43 37 true (.bin .eql 42 (.c (.int .u64 0))))] 44 43,
 ao 2 (.mv 44)]) (.ret))))
theorem qbsp : AC.ok Try.prog (TIof Try.prog) 45 0 (kret [.t 2] decB) q3h := qm (zA qbnl (zA (qd.ok qbby) trivial))
theorem qbvc (Ae : Bool) (Af Ag Ah : Int) : den 0 (kret [.t 2] decB) q3h (qi [(0, .agg (qa Ae Af Ag Ah))]) (qh []) (kend (kret [.t 2] decB)) = qhh Ae Af Ag Ah := by
  rw [q95]; kernel_rfl
theorem qbvd : cFn (TIof Try.prog) Try.f61 = some ⟨45, [.t 2], scOf q3h⟩ := by kernel_rfl
def qbve (xs : List AV) : Option Bool := qb ((qj xs) 0).cells (qhh)
def qhl {R : Type} : List AV → (AV → Option R) → Option R := entF qbqd qbve AV.bool
theorem qm4 {R : Type} : qd Try.prog 61 (qhl (R := R)) :=
  qt tabOk follows Try.func61 (by kernel_rfl) qbvd hdeB qbsp (qo (by kernel_rfl)) fun xs => qbvc _ _ _ _
def qn1 (z : AV) : Option (AV × Bool) := cond (qfn [(.st [.b, (.i .u64), (.i .u64), (.i .i64)]), (.one .b)] z) (some ((gC (tpL z) 0), aB (gC (tpL z) 1))) none
def qbx9 (r : AV × Bool) : AV := .tup [qh4 (.st [.b, (.i .u64), (.i .u64), (.i .i64)]) r.1, .bool r.2]
def q96  (v1 : Int) (Aa : Bool) (Ab Ac : Int) (Aq : Bool) (Ar As At : Int) (K : Ex → Env → Mem → Option (AV × Bool)) := (fun z_v20 => K .norm (qi [(1, (.int .i64 v1)), (2, (.ptr 0 0)), (4, (.ptr 1 0)), (20, (.bool z_v20))]) (qh [(some (.box true (qcy Aa Ab Ac))), (some (.box true (qa Aq Ar As At)))]))
def qbqe : Shp := ⟨[(1, .one (.l (.i .i64))), (2, .one (.ptr 0 0)), (4, .one (.ptr 1 0))], [.box true (lk qf6), .box true (lk qc)]⟩
def q3i  (v1 : Int) (Aa : Bool) (Ab Ac : Int) (Aq : Bool) (Ar As At : Int) (kn : Bool → Option (AV × Bool)) : Option (AV × Bool) :=
  (oB (qvt Aa Ab Ac) fun r1 => (bif ((!r1) || (decide (v1 < (0 : Int)))) then (kn true) else (oB (qjc Aa Ab Ac) fun r2 => (kn (decide (v1 > r2))))))
def q0i := hull (q3i)
theorem q97 : q0i = q3i := qk _
def qvv : AC (AV × Bool) :=
  .seq (.reg [ao 8 (.load true 3 2),
 .call (po 9 (.call 72 [8])) 72 q3e,
 ao 10 (.un .not 9),
 ao 11 (.mv 10),
 .grp 11 false [(pg 12 11 false (.mv 1)), (pg 13 11 false (.bin .lss 12 (.c (.int .i64 0))))] 14 13,
 ao 15 (.mv 14),
 ag 16 15 false (.mv 1),
 ag 17 15 false (.load true 3 2),
 .call (pg 18 15 false (.call 85 [17])) 85 qma,
 ag 19 15 false (.bin .gtr 16 18),
 ao 20 (.pick 15 (.c (.bool true)) 19)]) (.view [.sel [1, 2, 4, 20] [0, 1]])
theorem qbsq : AC.ok Try.prog (TIof Try.prog) 42 0 (kret [(.cell 4 true 4), .t 5] qn1) qvv := qm (zA (qd.ok qbji) (zA (qd.ok qtz) trivial))
theorem qbvf (v1 : Int) (Aa : Bool) (Ab Ac : Int) (Aq : Bool) (Ar As At : Int) (K : Ex → Env → Mem → Option (AV × Bool)) : den 0 (kret [(.cell 4 true 4), .t 5] qn1) qvv (qi [(1, (.int .i64 v1)), (2, (.ptr 0 0)), (4, (.ptr 1 0))]) (qh [(some (.box true (qcy Aa Ab Ac))), (some (.box true (qa Aq Ar As At)))]) K = q0i v1 Aa Ab Ac Aq Ar As At (q96 v1 Aa Ab Ac Aq Ar As At K) := by
  rw [q97]; kernel_rfl
def qbbz := subE (R := AV × Bool) qbqe fun t m K => qb (bxC (m.s 1)) (qdg (bxC (m.s 0)) (q0i (gI [t 1] 0))) (q96 (gI [t 1] 0) (gB (bxC (m.s 0)) 0) (gI (bxC (m.s 0)) 1) (gI (bxC (m.s 0)) 2) (gB (bxC (m.s 1)) 0) (gI (bxC (m.s 1)) 1) (gI (bxC (m.s 1)) 2) (gI (bxC (m.s 1)) 3) K)
theorem qbvg : qby Try.prog (TIof Try.prog) 42 0 (kret [(.cell 4 true 4), .t 5] qn1) (scOf qvv) (qbbz) :=
  qex tabOk follows (qbsq) (qo (by kernel_rfl)) fun t m K => qbvf _ _ _ _ _ _ _ _ K
def qbya : Shp := ⟨[(0, .st (lk qf6)), (1, .one (.l (.i .i64)))], []⟩
def qbay (Ae : Bool) (Af Ag v1 : Int) : Option (AV × Bool) :=
  (q0i v1 Ae Af Ag false (0 : Int) (0 : Int) (0 : Int) (fun v20q1 => (bif v20q1 then (some ((.agg [(.bool false), (.int .u64 (0 : Int)), (.int .u64 (0 : Int)), (.int .i64 (0 : Int))]), false)) else (oB (qpt Ae v1) fun r2 => (some ((.agg [(.bool Ae), (.int .u64 (qbx .andNot .u64 Af r2.1)), (.int .u64 (qbx .andNot .u64 Ag r2.2)), (.int .i64 v1)]), true))))))
def q4p := hull qbay
theorem qbjk : q4p = qbay := qk _
def qbaz : AC (AV × Bool) :=
  .seq (.reg [ao 2 (.box 0),
 ao 4 (.alloc [(.bool false), (.int .u64 0), (.int .u64 0), (.int .i64 0)]),
 ao 5 (.mv (.c (.bool false)))]) (.seq (.seq (.seq (.view [.sel [1, 2, 4] [0, 1]]) (.sub (scOf qvv) qbbz)) (.cond 20 (.seq (.reg [ao 21 (.build [(.bool false), (.int .u64 0), (.int .u64 0), (.int .i64 0)] []),
 an (.store 4 4 21),
 ao 5 (.mv (.c (.bool false)))]) (.ret)) (.skip))) (.seq (.reg [ao 23 (.fa 0 2),
 ao 24 (.load false 1 23),
 ao 25 (.mv 1),
 .call (po 26 (.call 71 [24, 25])) 71 qyi,
 ao 22 (.mv 26),
 ao 27 (.ext 22 0),
 ao 28 (.ext 22 1),
 ao 6 (.mv 27),
 ao 7 (.mv 28)]) (.seq (.reg [ao 29 (.fa 1 2),
 ao 30 (.load false 1 29),
 ao 31 (.mv 6),
 ao 32 (.bin .andNot 30 31),
 ao 33 (.fa 1 2),
 an (.store 1 33 32)]) (.seq (.reg [ao 34 (.fa 2 2),
 ao 35 (.load false 1 34),
 ao 36 (.mv 7),
 ao 37 (.bin .andNot 35 36),
 ao 38 (.fa 2 2),
 an (.store 1 38 37)]) (.seq (.reg [ao 39 (.load true 3 2),
 ao 40 (.mv 1),
 ao 41 (.build [(.bool false), (.int .u64 0), (.int .u64 0), (.int .i64 0)] [(0, (3, 39)), (3, (1, 40))]),
 an (.store 4 4 41),
 ao 5 (.mv (.c (.bool true)))]) (.ret))))))
theorem qbzi : AC.ok Try.prog (TIof Try.prog) 42 0 (kret [(.cell 4 true 4), .t 5] qn1) qbaz := qm (zA qbvg (zA (qd.ok qbby) trivial))
theorem qb1f (Ae : Bool) (Af Ag v1 : Int) : den 0 (kret [(.cell 4 true 4), .t 5] qn1) qbaz (qi [(0, .agg (qcy Ae Af Ag)), (1, (.int .i64 v1))]) (qh []) (kend (kret [(.cell 4 true 4), .t 5] qn1)) = q4p Ae Af Ag v1 := by
  rw [qbjk]; kernel_rfl
theorem qb1g : cFn (TIof Try.prog) Try.f96 = some ⟨42, [(.cell 4 true 4), .t 5], scOf qbaz⟩ := by kernel_rfl
def qb1h (xs : List AV) : Option (AV × Bool) := qdg ((qj xs) 0).cells (q4p) (gI [(qj xs) 1] 0)
def qbgx {R : Type} : List AV → (AV → Option R) → Option R := entF qbya qb1h qbx9
theorem qb1i {R : Type} : qd Try.prog 96 (qbgx (R := R)) :=
  qt tabOk follows Try.func96 (by kernel_rfl) qb1g (fun z r h => by
 obtain ⟨h1, h2⟩ := qq h
 cases h2
 exact (qc9 h1).symm) qbzi (qo (by kernel_rfl)) fun xs => qb1f _ _ _ _
def qbhb : Shp := ⟨[(0, .st (lk qc)), (1, .st (lk qf6))], []⟩
def qwj (Ae : Bool) (Af Ag Ah : Int) (Am : Bool) (An Ao : Int) : Option Bool :=
  (oB (qhh Ae Af Ag Ah) fun r1 => (bif ((!r1) || (!((Ae == Am) && true))) then (some false) else (oB (q4p Am An Ao Ah) fun r2 => (some (r2.2 && (((gB r2.1.cells 0) == Ae) && (((gI r2.1.cells 1) == Af) && (((gI r2.1.cells 2) == Ag) && (((gI r2.1.cells 3) == Ah) && true)))))))))
def qn3 := hull qwj
theorem q4q : qn3 = qwj := qk _
def qwk : AC Bool :=
  .seq (.reg [ao 2 (.box 0),
 ao 3 (.box 1),
 ao 4 (.mv (.c (.bool false)))]) (.seq (.seq (.reg [ao 7 (.load true 4 2),
 .call (po 8 (.call 61 [7])) 61 qhl,
 ao 9 (.un .not 8),
 ao 10 (.mv 9),
 .grp 10 false [(pg 11 10 false (.fa 0 2)), (pg 12 10 false (.fa 0 11)), (pg 13 10 false (.load false 1 12)), (pg 14 10 false (.fa 0 3)), (pg 15 10 false (.load false 1 14)), (pg 16 10 false (.eq true false [.b] 13 15))] 17 16]) (.cond 17 (.seq (.reg [ao 4 (.mv (.c (.bool false)))]) (.ret)) (.skip))) (.seq (.reg [ao 19 (.load true 3 3),
 ao 20 (.fa 3 2),
 ao 21 (.load false 1 20),
 .call (po 22 (.call 96 [19, 21])) 96 qbgx,
 ao 18 (.mv 22),
 ao 23 (.ext 18 0),
 ao 24 (.ext 18 1),
 ao 5 (.alloc [(.bool false), (.int .u64 0), (.int .u64 0), (.int .i64 0)]),
 an (.store 4 5 23),
 ao 6 (.mv 24)]) (.seq (.reg [ao 25 (.mv 6),
 ao 26 (.mv 25),
 .grp 26 true [(pg 27 26 true (.load true 4 5)), (pg 28 26 true (.load true 4 2)), (pg 29 26 true (.eq false true [.b, (.i .u64), (.i .u64), (.i .i64)] 27 28))] 30 29,
 ao 4 (.mv 30)]) (.ret))))
theorem qbjl : AC.ok Try.prog (TIof Try.prog) 31 0 (kret [.t 4] decB) qwk := qm (zA (qd.ok qm4) (zA (qd.ok qb1i) trivial))
theorem qbnm (Ae : Bool) (Af Ag Ah : Int) (Am : Bool) (An Ao : Int) : den 0 (kret [.t 4] decB) qwk (qi [(0, .agg (qa Ae Af Ag Ah)), (1, .agg (qcy Am An Ao))]) (qh []) (kend (kret [.t 4] decB)) = qn3 Ae Af Ag Ah Am An Ao := by
  rw [q4q]; kernel_rfl
theorem qbnn : cFn (TIof Try.prog) Try.f62 = some ⟨31, [.t 4], scOf qwk⟩ := by kernel_rfl
def qbno (xs : List AV) : Option Bool := qdg ((qj xs) 1).cells (qb ((qj xs) 0).cells (qn3))
def q2f {R : Type} : List AV → (AV → Option R) → Option R := entF qbhb qbno AV.bool
theorem qbnp {R : Type} : qd Try.prog 62 (q2f (R := R)) :=
  qt tabOk follows Try.func62 (by kernel_rfl) qbnn hdeB qbjl (qo (by kernel_rfl)) fun xs => qbnm _ _ _ _ _ _ _
def qbnq : Shp := ⟨[(0, .st (lk qc)), (1, .st (lk qc))], []⟩
def q0j (Ae : Bool) (Af Ag Ah : Int) (Am : Bool) (An Ao Ap : Int) : Option Bool :=
  (oB (qhh Ae Af Ag Ah) fun r1 => (bif r1 then (oB (qhh Am An Ao Ap) fun r2 => (bif (r2 && (decide (Ah ≥ Ap))) then (oB (qn3 Am An Ao Ap Ae Af Ag) fun r3 => (some r3)) else (some false))) else (some false)))
def qjd := hull q0j
theorem q76 : qjd = q0j := qk _
def q0k : AC Bool :=
  .seq (.reg [ao 2 (.box 0),
 ao 3 (.box 1),
 ao 4 (.mv (.c (.bool false)))]) (.seq (.reg [ao 5 (.load true 4 2),
 .call (po 6 (.call 61 [5])) 61 qhl,
 ao 7 (.mv 6),
 ag 8 7 true (.load true 4 3),
 .call (pg 9 7 true (.call 61 [8])) 61 qhl,
 ao 10 (.pick 7 9 (.c (.bool false))),
 ao 11 (.mv 10),
 .grp 11 true [(pg 12 11 true (.fa 3 2)), (pg 13 11 true (.load false 1 12)), (pg 14 11 true (.fa 3 3)), (pg 15 11 true (.load false 1 14)), (pg 16 11 true (.bin .geq 13 15))] 17 16,
 ao 18 (.mv 17),
 ag 19 18 true (.load true 4 3),
 ag 20 18 true (.fa 0 2),
 ag 21 18 true (.load true 3 20),
 .call (pg 22 18 true (.call 62 [19, 21])) 62 q2f,
 ao 23 (.pick 18 22 (.c (.bool false))),
 ao 4 (.mv 23)]) (.ret))
theorem qbqf : AC.ok Try.prog (TIof Try.prog) 24 0 (kret [.t 4] decB) q0k := qm (zA (qd.ok qm4) (zA (qd.ok qm4) (zA (qd.ok qbnp) trivial)))
theorem qbsr (Ae : Bool) (Af Ag Ah : Int) (Am : Bool) (An Ao Ap : Int) : den 0 (kret [.t 4] decB) q0k (qi [(0, .agg (qa Ae Af Ag Ah)), (1, .agg (qa Am An Ao Ap))]) (qh []) (kend (kret [.t 4] decB)) = qjd Ae Af Ag Ah Am An Ao Ap := by
  rw [q76]; kernel_rfl
theorem qbss : cFn (TIof Try.prog) Try.f23 = some ⟨24, [.t 4], scOf q0k⟩ := by kernel_rfl
def qbst (xs : List AV) : Option Bool := qb ((qj xs) 1).cells (qb ((qj xs) 0).cells (qjd))
def qmb {R : Type} : List AV → (AV → Option R) → Option R := entF qbnq qbst AV.bool
theorem qt1 {R : Type} : qd Try.prog 23 (qmb (R := R)) :=
  qt tabOk follows Try.func23 (by kernel_rfl) qbss hdeB qbqf (qo (by kernel_rfl)) fun xs => qbsr _ _ _ _ _ _ _ _
def qkz  (K : Ex → Env → Mem → Option Bool) := (fun (_ : Unit) => K (.exit 0) (qi []) (qh []))
def qba0 : Shp := ⟨[(0, .one (.l (.sl 8))), (3, .one (.l (.i .i64)))], []⟩
def qpu (v0 : List AV) (v3 : Int) : Env := qi [(0, (.sl 8 v0)), (3, (.int .i64 v3))]
def qpv (v0 : List AV) (v3 : Int) : Mem := qh []
def qgk  (v0 : List AV) (v3 : Int) (next : Int → Option Bool) (kx0 : Unit → Option Bool) : Option Bool :=
  (bif (decide (v3 < (v0.length : Int))) then (oB (ixB v0 v3) fun y1 => (bif fitC qe y1.cells then (bif (decide (((gS y1.cells 5).length : Int) > (100 : Int))) then (some false) else (oB (ixB v0 v3) fun y2 => (bif fitC qe y2.cells then (bif (decide (((gS y2.cells 6).length : Int) > (100 : Int))) then (some false) else (next (IntKind.i64.wrap (v3 + (1 : Int))))) else none))) else none)) else (kx0 ()))
def qml  (v0 : List AV) (kx0 : Unit → Option Bool) : Nat → Int → Option Bool
  | 0 => (fun _ => none)
  | n + 1 => (fun v3 => qgk v0 v3 (qml v0 kx0 n) kx0)
def qn4 := hull (qml)
theorem qzc : qn4 = qml := qk _
def qgl : AC Bool :=
  .seq (.seq (.reg [ao 7 (.mv 3),
 ao 8 (.mv 0),
 ao 9 (.len false 8),
 ao 10 (.bin .lss 7 9)]) (.cond 10 (.skip) (.seq (.view [.sel [] []]) (.exit 0)))) (.seq (.block 1 (.seq (.reg [ao 13 (.mv 0),
 ao 14 (.mv 3),
 ao 15 (.ia 8 13 14),
 .st (.etac 15 qe),
 ao 16 (.fa 5 15),
 ao 17 (.load false 1 16),
 ao 18 (.len true 17),
 ao 19 (.bin .gtr 18 (.c (.int .i64 100))),
 ao 20 (.mv 19),
 ag 21 20 false (.mv 0),
 ag 22 20 false (.mv 3),
 ag 23 20 false (.ia 8 21 22),
 .stg 20 false (.etac 23 qe),
 ag 24 20 false (.fa 6 23),
 ag 25 20 false (.load false 1 24),
 ag 26 20 false (.len true 25),
 ag 27 20 false (.bin .gtr 26 (.c (.int .i64 100))),
 ao 28 (.pick 20 (.c (.bool true)) 27)]) (.cond 28 (.seq (.reg [ao 2 (.mv (.c (.bool false)))]) (.ret)) (.skip)))) (.seq (.reg [ao 11 (.mv 3),
 ao 12 (.bin .add 11 (.c (.int .i64 1))),
 ao 3 (.mv 12)]) (.view [.sel [0, 3] []])))
theorem qbb0 : AC.ok Try.prog (TIof Try.prog) 29 0 (kret [.t 2] decB) qgl := qm trivial
theorem qba1 (v0 : List AV) (v3 : Int) (K : Ex → Env → Mem → Option Bool) : den 0 (kret [.t 2] decB) qgl (qpu v0 v3) (qpv v0 v3) K = qgk v0 v3 (fun z_v3 => K .norm (qpu v0 z_v3) (qpv v0 z_v3)) (qkz K) := by kernel_rfl
theorem qbdt (v0 : List AV) (K : Ex → Env → Mem → Option Bool) : ∀ (n : Nat) (v3 : Int), qe2 (den 0 (kret [.t 2] decB) qgl) n (qpu v0 v3) (qpv v0 v3) K = qn4 v0 (qkz K) n v3 := by
  rw [qzc]
  intro n
  induction n with
  | zero => intros; rfl
  | succ n ih =>
 intro v3
 exact (qba1 v0 v3 (itK (den 0 (kret [.t 2] decB) qgl) n K)).trans (congrArg (fun q => qgk v0 v3 q (qkz K)) (funext fun v3 => ih v3))
def q0l := subE (R := Bool) qba0 fun t m K => qn4 (gL [t 0] 0) (qkz K) FU (gI [t 3] 0)
theorem qbdu : qby Try.prog (TIof Try.prog) 29 0 (kret [.t 2] decB) (.loop (scOf qgl)) (q0l) :=
  qd9 tabOk follows (qbb0) (qo (by kernel_rfl)) fun t m K => qbdt _ K FU _
def qbjm : Shp := ⟨[(0, .one (.l (.sl 8)))], []⟩
def qyj (v0 : List AV) : Option Bool :=
  (bif (decide ((v0.length : Int) > (40 : Int))) then (some false) else (qn4 v0 (fun (_ : Unit) => (some true)) FU (0 : Int)))
def qpw := hull qyj
theorem q6o : qpw = qyj := qk _
def qyk : AC Bool :=
  .seq (.reg [ao 2 (.mv (.c (.bool false)))]) (.seq (.seq (.reg [ao 4 (.mv 0),
 ao 5 (.len false 4),
 ao 6 (.bin .gtr 5 (.c (.int .i64 40)))]) (.cond 6 (.seq (.reg [ao 2 (.mv (.c (.bool false)))]) (.ret)) (.skip))) (.seq (.seq (.reg [ao 3 (.mv (.c (.int .i64 0)))]) (.block 0 (.seq (.view [.sel [0, 3] []]) (.sub (.loop (scOf qgl)) q0l)))) (.seq (.reg [ao 2 (.mv (.c (.bool true)))]) (.ret))))
theorem qbnr : AC.ok Try.prog (TIof Try.prog) 29 0 (kret [.t 2] decB) qyk := qm (zA qbdu trivial)
theorem qbqg (v0 : List AV) : den 0 (kret [.t 2] decB) qyk (qi [(0, (.sl 8 v0))]) (qh []) (kend (kret [.t 2] decB)) = qpw v0 := by
  rw [q6o]; kernel_rfl
theorem qbqh : cFn (TIof Try.prog) Try.f11 = some ⟨29, [.t 2], scOf qyk⟩ := by kernel_rfl
def qbqi (xs : List AV) : Option Bool := qpw (gL [(qj xs) 0] 0)
def q4r {R : Type} : List AV → (AV → Option R) → Option R := entF qbjm qbqi AV.bool
theorem qbqj {R : Type} : qd Try.prog 11 (q4r (R := R)) :=
  qt tabOk follows Try.func11 (by kernel_rfl) qbqh hdeB qbnr (qo (by kernel_rfl)) fun xs => qbqg _
def qbjn : Shp := ⟨[(0, .st (lk qf6))], []⟩
def qyl (Ae : Bool) (Af Ag : Int) : Option Bool :=
  (bif Ae then (some true) else (bif (Af == (0 : Int)) then (some (decide (Ag < (4294967296 : Int)))) else (some false)))
def qkl := hull qyl
theorem q6p : qkl = qyl := qk _
def qym : AC Bool :=
  .seq (.reg [ao 1 (.box 0),
 ao 2 (.mv (.c (.bool false)))]) (.seq (.reg [ao 3 (.fa 0 1),
 ao 4 (.load false 1 3),
 ao 5 (.mv 4),
 ag 6 5 false (.fa 1 1),
 ag 7 5 false (.load false 1 6),
 ag 8 5 false (.bin .eql 7 (.c (.int .u64 0))),
 ag 9 5 false (.mv 8),
 ag 10 9 true (.fa 2 1),
 ag 11 9 true (.load false 1 10),
 ag 12 9 true (.bin .lss 11 (.c (.int .u64 4294967296))),
 ag 13 5 false (.pick 9 12 (.c (.bool false))),
 ao 14 (.pick 5 (.c (.bool true)) 13),
 ao 2 (.mv 14)]) (.ret))
theorem qbns : AC.ok Try.prog (TIof Try.prog) 15 0 (kret [.t 2] decB) qym := qm trivial
theorem qbqk (Ae : Bool) (Af Ag : Int) : den 0 (kret [.t 2] decB) qym (qi [(0, .agg (qcy Ae Af Ag))]) (qh []) (kend (kret [.t 2] decB)) = qkl Ae Af Ag := by
  rw [q6p]; kernel_rfl
theorem qbql : cFn (TIof Try.prog) Try.f74 = some ⟨15, [.t 2], scOf qym⟩ := by kernel_rfl
def qbqm (xs : List AV) : Option Bool := qdg ((qj xs) 0).cells (qkl)
def qn5 {R : Type} : List AV → (AV → Option R) → Option R := entF qbjn qbqm AV.bool
theorem qyn {R : Type} : qd Try.prog 74 (qn5 (R := R)) :=
  qt tabOk follows Try.func74 (by kernel_rfl) qbql hdeB qbns (qo (by kernel_rfl)) fun xs => qbqk _ _ _
def qbnt : Shp := ⟨[(0, .one (.l .b))], []⟩
def q0m (v0 : Bool) : Option Int :=
  (bif v0 then (some (128 : Int)) else (some (32 : Int)))
def qgh := hull q0m
theorem q77 : qgh = q0m := qk _
def q0n : AC Int :=
  .seq (.reg [ao 2 (.mv (.c (.int .i64 0)))]) (.seq (.seq (.reg [ao 3 (.mv 0)]) (.cond 3 (.seq (.reg [ao 2 (.mv (.c (.int .i64 128)))]) (.ret)) (.skip))) (.seq (.reg [ao 2 (.mv (.c (.int .i64 32)))]) (.ret)))
theorem qbqn : AC.ok Try.prog (TIof Try.prog) 4 0 (kret [.t 2] (decI .i64)) q0n := qm trivial
theorem qbsu (v0 : Bool) : den 0 (kret [.t 2] (decI .i64)) q0n (qi [(0, (.bool v0))]) (qh []) (kend (kret [.t 2] (decI .i64))) = qgh v0 := by
  rw [q77]; kernel_rfl
theorem qbsv : cFn (TIof Try.prog) Try.f75 = some ⟨4, [.t 2], scOf q0n⟩ := by kernel_rfl
def qbsw (xs : List AV) : Option Int := qgh (gB [(qj xs) 0] 0)
def qg0 {R : Type} : List AV → (AV → Option R) → Option R := entF qbnt qbsw (AV.int .i64)
theorem qlq {R : Type} : qd Try.prog 75 (qg0 (R := R)) :=
  qt tabOk follows Try.func75 (by kernel_rfl) qbsv hdeI qbqn (qo (by kernel_rfl)) fun xs => qbsu _
def qfu (z : AV) : Option (Int × Int) := cond (qfn [(.one (.i .u64)), (.one (.i .u64))] z) (some (aI (gC (tpL z) 0), aI (gC (tpL z) 1))) none
def qbnu (r : Int × Int) : AV := .tup [.int .u64 r.1, .int .u64 r.2]
def qmm  (K : Ex → Env → Mem → Option (Int × Int)) := (fun z_v4 z_v5 => K (.exit 0) (qi [(4, (.int .u64 z_v4)), (5, (.int .u64 z_v5))]) (qh []))
def qbdv : Shp := ⟨[(0, .one (.l (.i .i64))), (4, .one (.l (.i .u64))), (5, .one (.l (.i .u64))), (6, .one (.l (.i .i64)))], []⟩
def qsr (v0 v4 v5 v6 : Int) : Env := qi [(0, (.int .i64 v0)), (4, (.int .u64 v4)), (5, (.int .u64 v5)), (6, (.int .i64 v6))]
def qss (v0 v4 v5 v6 : Int) : Mem := qh []
def qlf  (v0 v4 v5 v6 : Int) (next : Int → Int → Int → Option (Int × Int)) (kx0 : Int → Int → Option (Int × Int)) : Option (Int × Int) :=
  (bif ((decide (v6 < v0)) && (decide (v6 < (128 : Int)))) then (next (IntKind.u64.wrap ((IntKind.u64.wrap (v4 * (2 : Int))) + (IntKind.u64.wrap (v5.tdiv (9223372036854775808 : Int))))) (IntKind.u64.wrap ((IntKind.u64.wrap (v5 * (2 : Int))) + (1 : Int))) (IntKind.i64.wrap (v6 + (1 : Int)))) else (kx0 v4 v5))
def qn6  (v0 : Int) (kx0 : Int → Int → Option (Int × Int)) : Nat → Int → Int → Int → Option (Int × Int)
  | 0 => (fun _ _ _ => none)
  | n + 1 => (fun v4 v5 v6 => qlf v0 v4 v5 v6 (qn6 v0 kx0 n) kx0)
def qqs := hull (qn6)
theorem q2g : qqs = qn6 := qk _
def qhn : AC (Int × Int) :=
  .seq (.seq (.reg [ao 7 (.mv 6),
 ao 8 (.mv 0),
 ao 9 (.bin .lss 7 8),
 ao 10 (.mv 9),
 .grp 10 true [(pg 11 10 true (.mv 6)), (pg 12 10 true (.bin .lss 11 (.c (.int .i64 128))))] 13 12]) (.cond 13 (.skip) (.seq (.view [.sel [4, 5] []]) (.exit 0)))) (.seq (.block 1 (.seq (.reg [ao 16 (.mv 4),
 ao 17 (.bin .mul 16 (.c (.int .u64 2))),
 ao 18 (.mv 5),
 ao 19 (.bin .quo 18 (.c (.int .u64 9223372036854775808))),
 ao 20 (.bin .add 17 19),
 ao 4 (.mv 20)]) (.reg [ao 21 (.mv 5),
 ao 22 (.bin .mul 21 (.c (.int .u64 2))),
 ao 23 (.bin .add 22 (.c (.int .u64 1))),
 ao 5 (.mv 23)]))) (.seq (.reg [ao 14 (.mv 6),
 ao 15 (.bin .add 14 (.c (.int .i64 1))),
 ao 6 (.mv 15)]) (.view [.sel [0, 4, 5, 6] []])))
theorem qbhc : AC.ok Try.prog (TIof Try.prog) 26 0 (kret [.t 2, .t 3] qfu) qhn := qm trivial
theorem qbdw (v0 v4 v5 v6 : Int) (K : Ex → Env → Mem → Option (Int × Int)) : den 0 (kret [.t 2, .t 3] qfu) qhn (qsr v0 v4 v5 v6) (qss v0 v4 v5 v6) K = qlf v0 v4 v5 v6 (fun z_v4 z_v5 z_v6 => K .norm (qsr v0 z_v4 z_v5 z_v6) (qss v0 z_v4 z_v5 z_v6)) (qmm K) := by kernel_rfl
theorem qbjo (v0 : Int) (K : Ex → Env → Mem → Option (Int × Int)) : ∀ (n : Nat) (v4 v5 v6 : Int), qe2 (den 0 (kret [.t 2, .t 3] qfu) qhn) n (qsr v0 v4 v5 v6) (qss v0 v4 v5 v6) K = qqs v0 (qmm K) n v4 v5 v6 := by
  rw [q2g]
  intro n
  induction n with
  | zero => intros; rfl
  | succ n ih =>
 intro v4 v5 v6
 exact (qbdw v0 v4 v5 v6 (itK (den 0 (kret [.t 2, .t 3] qfu) qhn) n K)).trans (congrArg (fun q => qlf v0 v4 v5 v6 q (qmm K)) (funext fun v4 => funext fun v5 => funext fun v6 => ih v4 v5 v6))
def q4s := subE (R := Int × Int) qbdv fun t m K => qqs (gI [t 0] 0) (qmm K) FU (gI [t 4] 0) (gI [t 5] 0) (gI [t 6] 0)
theorem qbjp : qby Try.prog (TIof Try.prog) 26 0 (kret [.t 2, .t 3] qfu) (.loop (scOf qhn)) (q4s) :=
  qd9 tabOk follows (qbhc) (qo (by kernel_rfl)) fun t m K => qbjo _ K FU _ _ _
def qbnv : Shp := ⟨[(0, .one (.l (.i .i64)))], []⟩
def q0o (v0 : Int) : Option (Int × Int) :=
  (qqs v0 (fun v4q1 v5q2 => (some (v4q1, v5q2))) FU (0 : Int) (0 : Int) (0 : Int))
def ql6 := hull q0o
theorem q78 : ql6 = q0o := qk _
def q0p : AC (Int × Int) :=
  .seq (.reg [ao 2 (.mv (.c (.int .u64 0))),
 ao 3 (.mv (.c (.int .u64 0)))]) (.seq (.reg [ao 4 (.mv (.c (.int .u64 0))),
 ao 5 (.mv (.c (.int .u64 0)))]) (.seq (.seq (.reg [ao 6 (.mv (.c (.int .i64 0)))]) (.block 0 (.seq (.view [.sel [0, 4, 5, 6] []]) (.sub (.loop (scOf qhn)) q4s)))) (.seq (.reg [ao 24 (.mv 4),
 ao 25 (.mv 5),
 ao 2 (.mv 24),
 ao 3 (.mv 25)]) (.ret))))
theorem qbqo : AC.ok Try.prog (TIof Try.prog) 26 0 (kret [.t 2, .t 3] qfu) q0p := qm (zA qbjp trivial)
theorem qbsx (v0 : Int) : den 0 (kret [.t 2, .t 3] qfu) q0p (qi [(0, (.int .i64 v0))]) (qh []) (kend (kret [.t 2, .t 3] qfu)) = ql6 v0 := by
  rw [q78]; kernel_rfl
theorem qbsy : cFn (TIof Try.prog) Try.f76 = some ⟨26, [.t 2, .t 3], scOf q0p⟩ := by kernel_rfl
def qbsz (xs : List AV) : Option (Int × Int) := ql6 (gI [(qj xs) 0] 0)
def qpd {R : Type} : List AV → (AV → Option R) → Option R := entF qbnv qbsz qbnu
theorem q0q {R : Type} : qd Try.prog 76 (qpd (R := R)) :=
  qt tabOk follows Try.func76 (by kernel_rfl) qbsy (fun z r h => by
 obtain ⟨h1, h2⟩ := qq h
 cases h2
 exact (qc9 h1).symm) qbqo (qo (by kernel_rfl)) fun xs => qbsx _
def q0r  (Aa : Bool) (Ab Ac Ad : Int) (K : Ex → Env → Mem → Option Bool) := (fun z_v22 => K .norm (qi [(1, (.ptr 0 0)), (22, (.bool z_v22))]) (qh [(some (.box true (qa Aa Ab Ac Ad)))]))
def qbb1 : Shp := ⟨[(1, .one (.ptr 0 0))], [.box true (lk qc)]⟩
def qst  (Aa : Bool) (Ab Ac Ad : Int) (kn : Bool → Option Bool) : Option Bool :=
  (oB (qkl Aa Ab Ac) fun r1 => (bif (!r1) then (kn true) else (bif (decide (Ad < (0 : Int))) then (kn true) else (oB (qgh Aa) fun r2 => (kn (decide (Ad > r2)))))))
def qpe := hull (qst)
theorem q0s : qpe = qst := qk _
def qnp : AC Bool :=
  .seq (.draw [] [ao 5 (.fa 0 1),
 ao 6 (.load true 3 5),
 .call (po 7 (.call 74 [6])) 74 qn5,
 ao 8 (.un .not 7),
 ao 9 (.mv 8),
 ag 10 9 false (.fa 3 1),
 ag 11 9 false (.load false 1 10),
 ag 12 9 false (.bin .lss 11 (.c (.int .i64 0))),
 ao 13 (.pick 9 (.c (.bool true)) 12),
 ao 14 (.mv 13),
 ag 15 14 false (.fa 3 1),
 ag 16 14 false (.load false 1 15),
 ag 17 14 false (.fa 0 1),
 ag 18 14 false (.fa 0 17),
 ag 19 14 false (.load false 1 18),
 .call (pg 20 14 false (.call 75 [19])) 75 qg0] [ag 21 14 false (.bin .gtr 16 20),
 ao 22 (.pick 14 (.c (.bool true)) 21)]) (.view [.sel [1, 22] [0]])
theorem qbdx : AC.ok Try.prog (TIof Try.prog) 48 0 (kret [.t 2] decB) qnp := qm (zA (qd.ok qyn) (zA (qd.ok qlq) (zA rfl trivial)))
theorem qbhd (Aa : Bool) (Ab Ac Ad : Int) (K : Ex → Env → Mem → Option Bool) : den 0 (kret [.t 2] decB) qnp (qi [(1, (.ptr 0 0))]) (qh [(some (.box true (qa Aa Ab Ac Ad)))]) K = qpe Aa Ab Ac Ad (q0r Aa Ab Ac Ad K) := by
  rw [q0s]; kernel_rfl
def q2h := subE (R := Bool) qbb1 fun t m K => qb (bxC (m.s 0)) (qpe) (q0r (gB (bxC (m.s 0)) 0) (gI (bxC (m.s 0)) 1) (gI (bxC (m.s 0)) 2) (gI (bxC (m.s 0)) 3) K)
theorem qbhe : qby Try.prog (TIof Try.prog) 48 0 (kret [.t 2] decB) (scOf qnp) (q2h) :=
  qex tabOk follows (qbdx) (qo (by kernel_rfl)) fun t m K => qbhd _ _ _ _ K
def qbjq : Shp := ⟨[(0, .st (lk qc))], []⟩
def qyo (Ae : Bool) (Af Ag Ah : Int) : Option Bool :=
  (qpe Ae Af Ag Ah (fun v22q1 => (bif v22q1 then (some false) else (oB (qgh Ae) fun r2 => (oB (ql6 (IntKind.i64.wrap (r2 - Ah))) fun r3 => (some (((qbx .and .u64 Af r3.1) == (0 : Int)) && ((qbx .and .u64 Ag r3.2) == (0 : Int)))))))))
def qfq := hull qyo
theorem q6q : qfq = qyo := qk _
def qyp : AC Bool :=
  .seq (.reg [ao 1 (.box 0),
 ao 2 (.mv (.c (.bool false)))]) (.seq (.seq (.seq (.view [.sel [1] [0]]) (.sub (scOf qnp) q2h)) (.cond 22 (.seq (.reg [ao 2 (.mv (.c (.bool false)))]) (.ret)) (.skip))) (.seq (.draw [] [ao 24 (.fa 0 1),
 ao 25 (.fa 0 24),
 ao 26 (.load false 1 25),
 .call (po 27 (.call 75 [26])) 75 qg0,
 ao 28 (.fa 3 1),
 ao 29 (.load false 1 28),
 ao 30 (.bin .sub 27 29),
 .call (po 31 (.call 76 [30])) 76 qpd,
 ao 23 (.mv 31),
 ao 32 (.ext 23 0),
 ao 33 (.ext 23 1),
 ao 3 (.mv 32)] [ao 4 (.mv 33)]) (.seq (.reg [ao 34 (.fa 0 1),
 ao 35 (.fa 1 34),
 ao 36 (.load false 1 35),
 ao 37 (.mv 3),
 ao 38 (.bin .and 36 37),
 ao 39 (.bin .eql 38 (.c (.int .u64 0))),
 ao 40 (.mv 39),
 .grp 40 true [(pg 41 40 true (.fa 0 1)), (pg 42 40 true (.fa 2 41)), (pg 43 40 true (.load false 1 42)), (pg 44 40 true (.mv 4)), (pg 45 40 true (.bin .and 43 44)), (pg 46 40 true (.bin .eql 45 (.c (.int .u64 0))))] 47 46,
 ao 2 (.mv 47)]) (.ret))))
theorem qbnw : AC.ok Try.prog (TIof Try.prog) 48 0 (kret [.t 2] decB) qyp := qm (zA qbhe (zA (qd.ok qlq) (zA (qd.ok q0q) (zA rfl trivial))))
theorem qbqp (Ae : Bool) (Af Ag Ah : Int) : den 0 (kret [.t 2] decB) qyp (qi [(0, .agg (qa Ae Af Ag Ah))]) (qh []) (kend (kret [.t 2] decB)) = qfq Ae Af Ag Ah := by
  rw [q6q]; kernel_rfl
theorem qbqq : cFn (TIof Try.prog) Try.f33 = some ⟨48, [.t 2], scOf qyp⟩ := by kernel_rfl
def qbqr (xs : List AV) : Option Bool := qb ((qj xs) 0).cells (qfq)
def qga {R : Type} : List AV → (AV → Option R) → Option R := entF qbjq qbqr AV.bool
theorem qkm {R : Type} : qd Try.prog 33 (qga (R := R)) :=
  qt tabOk follows Try.func33 (by kernel_rfl) qbqq hdeB qbnw (qo (by kernel_rfl)) fun xs => qbqp _ _ _ _
def qbjr : Shp := ⟨[(0, .st (lk qc))], []⟩
def qyq (Ae : Bool) (Af Ag Ah : Int) : Option Int :=
  (bif Ae then (some (128 : Int)) else (some (32 : Int)))
def qpx := hull qyq
theorem q6r : qpx = qyq := qk _
def qyr : AC Int :=
  .seq (.reg [ao 1 (.box 0),
 ao 2 (.mv (.c (.int .i64 0)))]) (.seq (.seq (.reg [ao 3 (.fa 0 1),
 ao 4 (.fa 0 3),
 ao 5 (.load false 1 4)]) (.cond 5 (.seq (.reg [ao 2 (.mv (.c (.int .i64 128)))]) (.ret)) (.skip))) (.seq (.reg [ao 2 (.mv (.c (.int .i64 32)))]) (.ret)))
theorem qbnx : AC.ok Try.prog (TIof Try.prog) 6 0 (kret [.t 2] (decI .i64)) qyr := qm trivial
theorem qbqs (Ae : Bool) (Af Ag Ah : Int) : den 0 (kret [.t 2] (decI .i64)) qyr (qi [(0, .agg (qa Ae Af Ag Ah))]) (qh []) (kend (kret [.t 2] (decI .i64))) = qpx Ae Af Ag Ah := by
  rw [q6r]; kernel_rfl
theorem qbqt : cFn (TIof Try.prog) Try.f77 = some ⟨6, [.t 2], scOf qyr⟩ := by kernel_rfl
def qbqu (xs : List AV) : Option Int := qb ((qj xs) 0).cells (qpx)
def q4t {R : Type} : List AV → (AV → Option R) → Option R := entF qbjr qbqu (AV.int .i64)
theorem qbqv {R : Type} : qd Try.prog 77 (q4t (R := R)) :=
  qt tabOk follows Try.func77 (by kernel_rfl) qbqt hdeI qbnx (qo (by kernel_rfl)) fun xs => qbqs _ _ _ _
def qh1  (K : Ex → Env → Mem → Option Bool) := (fun (_ : Unit) => K (.exit 0) (qi []) (qh []))
def q7i : Shp := ⟨[(0, .one (.l .s)), (3, .one (.l (.i .i64)))], []⟩
def qna (v0 : List UInt8) (v3 : Int) : Env := qi [(0, (.str v0)), (3, (.int .i64 v3))]
def qnb (v0 : List UInt8) (v3 : Int) : Mem := qh []
def qff  (v0 : List UInt8) (v3 : Int) (next : Int → Option Bool) (kx0 : Unit → Option Bool) : Option Bool :=
  (bif (decide (v3 < (v0.length : Int))) then (oB (ixB v0 v3) fun c1 => (bif (decide ((c1.toNat : Int) < (33 : Int))) then (some false) else (oB (ixB v0 v3) fun c2 => (bif (decide ((c2.toNat : Int) > (126 : Int))) then (some false) else (next (IntKind.i64.wrap (v3 + (1 : Int)))))))) else (kx0 ()))
def qjw  (v0 : List UInt8) (kx0 : Unit → Option Bool) : Nat → Int → Option Bool
  | 0 => (fun _ => none)
  | n + 1 => (fun v3 => qff v0 v3 (qjw v0 kx0 n) kx0)
def qlr := hull (qjw)
theorem quk : qlr = qjw := qk _
def qfg : AC Bool :=
  .seq (.seq (.reg [ao 4 (.mv 3),
 ao 5 (.mv 0),
 ao 6 (.len true 5),
 ao 7 (.bin .lss 4 6)]) (.cond 7 (.skip) (.seq (.view [.sel [] []]) (.exit 0)))) (.seq (.block 1 (.seq (.reg [ao 10 (.mv 0),
 ao 11 (.mv 3),
 ao 12 (.ixs 10 11),
 ao 13 (.bin .lss 12 (.c (.int .u8 33))),
 ao 14 (.mv 13),
 ag 15 14 false (.mv 0),
 ag 16 14 false (.mv 3),
 ag 17 14 false (.ixs 15 16),
 ag 18 14 false (.bin .gtr 17 (.c (.int .u8 126))),
 ao 19 (.pick 14 (.c (.bool true)) 18)]) (.cond 19 (.seq (.reg [ao 2 (.mv (.c (.bool false)))]) (.ret)) (.skip)))) (.seq (.reg [ao 8 (.mv 3),
 ao 9 (.bin .add 8 (.c (.int .i64 1))),
 ao 3 (.mv 9)]) (.view [.sel [0, 3] []])))
theorem q79 : AC.ok Try.prog (TIof Try.prog) 20 0 (kret [.t 2] decB) qfg := qm trivial
theorem q7j (v0 : List UInt8) (v3 : Int) (K : Ex → Env → Mem → Option Bool) : den 0 (kret [.t 2] decB) qfg (qna v0 v3) (qnb v0 v3) K = qff v0 v3 (fun z_v3 => K .norm (qna v0 z_v3) (qnb v0 z_v3)) (qh1 K) := by kernel_rfl
theorem q9s (v0 : List UInt8) (K : Ex → Env → Mem → Option Bool) : ∀ (n : Nat) (v3 : Int), qe2 (den 0 (kret [.t 2] decB) qfg) n (qna v0 v3) (qnb v0 v3) K = qlr v0 (qh1 K) n v3 := by
  rw [quk]
  intro n
  induction n with
  | zero => intros; rfl
  | succ n ih =>
 intro v3
 exact (q7j v0 v3 (itK (den 0 (kret [.t 2] decB) qfg) n K)).trans (congrArg (fun q => qff v0 v3 q (qh1 K)) (funext fun v3 => ih v3))
def qwa := subE (R := Bool) q7i fun t m K => qlr (gS [t 0] 0) (qh1 K) FU (gI [t 3] 0)
theorem q9t : qby Try.prog (TIof Try.prog) 20 0 (kret [.t 2] decB) (.loop (scOf qfg)) (qwa) :=
  qd9 tabOk follows (q79) (qo (by kernel_rfl)) fun t m K => q9s _ K FU _
def qba2 : Shp := ⟨[(0, .one (.l .s))], []⟩
def qqt (v0 : List UInt8) : Option Bool :=
  (qlr v0 (fun (_ : Unit) => (some true)) FU (0 : Int))
def qho := hull qqt
theorem qzd : qho = qqt := qk _
def qqu : AC Bool :=
  .seq (.reg [ao 2 (.mv (.c (.bool false)))]) (.seq (.seq (.reg [ao 3 (.mv (.c (.int .i64 0)))]) (.block 0 (.seq (.view [.sel [0, 3] []]) (.sub (.loop (scOf qfg)) qwa)))) (.seq (.reg [ao 2 (.mv (.c (.bool true)))]) (.ret)))
theorem qbb2 : AC.ok Try.prog (TIof Try.prog) 20 0 (kret [.t 2] decB) qqu := qm (zA q9t trivial)
theorem qbdy (v0 : List UInt8) : den 0 (kret [.t 2] decB) qqu (qi [(0, (.str v0))]) (qh []) (kend (kret [.t 2] decB)) = qho v0 := by
  rw [qzd]; kernel_rfl
theorem qbdz : cFn (TIof Try.prog) Try.f78 = some ⟨20, [.t 2], scOf qqu⟩ := by kernel_rfl
def qbd0 (xs : List AV) : Option Bool := qho (gS [(qj xs) 0] 0)
def qo3 {R : Type} : List AV → (AV → Option R) → Option R := entF qba2 qbd0 AV.bool
theorem q0t {R : Type} : qd Try.prog 78 (qo3 (R := R)) :=
  qt tabOk follows Try.func78 (by kernel_rfl) qbdz hdeB qbb2 (qo (by kernel_rfl)) fun xs => qbdy _
def q4u  (Aa : Bool) (Ab Ac Ad Au : Int) (Av Aw : List UInt8) (Ax : Int) (K : Ex → Env → Mem → Option Bool) := (fun z_v24 => K .norm (qi [(1, (.ptr 0 0)), (24, (.bool z_v24))]) (qh [(some (.box true (qp Aa Ab Ac Ad Au Av Aw Ax)))]))
def qbhf : Shp := ⟨[(1, .one (.ptr 0 0))], [.box true (lk qe)]⟩
def qwl  (Aa : Bool) (Ab Ac Ad Au : Int) (Av Aw : List UInt8) (Ax : Int) (kn : Bool → Option Bool) : Option Bool :=
  (bif (decide (Au < (1 : Int))) then (kn true) else (bif (decide (Au > (3 : Int))) then (kn true) else (bif (Au == (3 : Int)) then (oB (qpx Aa Ab Ac Ad) fun r1 => (kn (Ad != r1))) else (kn false))))
def qt2 := hull (qwl)
theorem q4v : qt2 = qwl := qk _
def qpf : AC Bool :=
  .seq (.draw [] [ao 3 (.fa 4 1),
 ao 4 (.load false 1 3),
 ao 5 (.bin .lss 4 (.c (.int .i64 1))),
 ao 6 (.mv 5),
 ag 7 6 false (.fa 4 1),
 ag 8 6 false (.load false 1 7),
 ag 9 6 false (.bin .gtr 8 (.c (.int .i64 3))),
 ao 10 (.pick 6 (.c (.bool true)) 9),
 ao 11 (.mv 10),
 ag 12 11 false (.fa 4 1),
 ag 13 11 false (.load false 1 12),
 ag 14 11 false (.bin .eql 13 (.c (.int .i64 3))),
 ag 15 11 false (.mv 14),
 ag 16 15 true (.fa 0 1),
 ag 17 15 true (.fa 3 16),
 ag 18 15 true (.load false 1 17),
 ag 19 15 true (.fa 0 1),
 ag 20 15 true (.load true 4 19),
 .call (pg 21 15 true (.call 77 [20])) 77 q4t] [ag 22 15 true (.bin .neq 18 21),
 ag 23 11 false (.pick 15 22 (.c (.bool false))),
 ao 24 (.pick 11 (.c (.bool true)) 23)]) (.view [.sel [1, 24] [0]])
theorem qbjs : AC.ok Try.prog (TIof Try.prog) 61 0 (kret [.t 2] decB) qpf := qm (zA (qd.ok qbqv) (zA rfl trivial))
theorem qbny (Aa : Bool) (Ab Ac Ad Au : Int) (Av Aw : List UInt8) (Ax : Int) (K : Ex → Env → Mem → Option Bool) : den 0 (kret [.t 2] decB) qpf (qi [(1, (.ptr 0 0))]) (qh [(some (.box true (qp Aa Ab Ac Ad Au Av Aw Ax)))]) K = qt2 Aa Ab Ac Ad Au Av Aw Ax (q4u Aa Ab Ac Ad Au Av Aw Ax K) := by
  rw [q4v]; kernel_rfl
def q6s := subE (R := Bool) qbhf fun t m K => qr (bxC (m.s 0)) (qt2) (q4u (gB (bxC (m.s 0)) 0) (gI (bxC (m.s 0)) 1) (gI (bxC (m.s 0)) 2) (gI (bxC (m.s 0)) 3) (gI (bxC (m.s 0)) 4) (gS (bxC (m.s 0)) 5) (gS (bxC (m.s 0)) 6) (gI (bxC (m.s 0)) 7) K)
theorem qbnz : qby Try.prog (TIof Try.prog) 61 0 (kret [.t 2] decB) (scOf qpf) (q6s) :=
  qex tabOk follows (qbjs) (qo (by kernel_rfl)) fun t m K => qbny _ _ _ _ _ _ _ _ K
def qbqw : Shp := ⟨[(0, .st (lk qe))], []⟩
def q3j (Ae : Bool) (Af Ag Ah Ai : Int) (Aj Ak : List UInt8) (Al : Int) : Option Bool :=
  (qt2 Ae Af Ag Ah Ai Aj Ak Al (fun v24q1 => (bif v24q1 then (some false) else (bif ((decide ((Aj.length : Int) ≥ (1 : Int))) && (decide ((Aj.length : Int) ≤ (63 : Int)))) then (oB (qho Aj) fun r2 => (bif (r2 && (decide ((Ak.length : Int) ≤ (32 : Int)))) then (oB (qho Ak) fun r3 => (some ((r3 && (decide (Al ≥ (0 : Int)))) && (decide (Al ≤ (4294967295 : Int)))))) else (some false))) else (some false)))))
def qnc := hull q3j
theorem q98 : qnc = q3j := qk _
def q3k : AC Bool :=
  .seq (.reg [ao 1 (.box 0),
 ao 2 (.mv (.c (.bool false)))]) (.seq (.seq (.seq (.view [.sel [1] [0]]) (.sub (scOf qpf) q6s)) (.cond 24 (.seq (.reg [ao 2 (.mv (.c (.bool false)))]) (.ret)) (.skip))) (.seq (.reg [ao 25 (.fa 5 1),
 ao 26 (.load false 1 25),
 ao 27 (.len true 26),
 ao 28 (.bin .geq 27 (.c (.int .i64 1))),
 ao 29 (.mv 28),
 .grp 29 true [(pg 30 29 true (.fa 5 1)), (pg 31 29 true (.load false 1 30)), (pg 32 29 true (.len true 31)), (pg 33 29 true (.bin .leq 32 (.c (.int .i64 63))))] 34 33,
 ao 35 (.mv 34),
 ag 36 35 true (.fa 5 1),
 ag 37 35 true (.load false 1 36),
 .call (pg 38 35 true (.call 78 [37])) 78 qo3,
 ao 39 (.pick 35 38 (.c (.bool false))),
 ao 40 (.mv 39),
 .grp 40 true [(pg 41 40 true (.fa 6 1)), (pg 42 40 true (.load false 1 41)), (pg 43 40 true (.len true 42)), (pg 44 40 true (.bin .leq 43 (.c (.int .i64 32))))] 45 44,
 ao 46 (.mv 45),
 ag 47 46 true (.fa 6 1),
 ag 48 46 true (.load false 1 47),
 .call (pg 49 46 true (.call 78 [48])) 78 qo3,
 ao 50 (.pick 46 49 (.c (.bool false))),
 ao 51 (.mv 50),
 .grp 51 true [(pg 52 51 true (.fa 7 1)), (pg 53 51 true (.load false 1 52)), (pg 54 51 true (.bin .geq 53 (.c (.int .i64 0))))] 55 54,
 ao 56 (.mv 55),
 .grp 56 true [(pg 57 56 true (.fa 7 1)), (pg 58 56 true (.load false 1 57)), (pg 59 56 true (.bin .leq 58 (.c (.int .i64 4294967295))))] 60 59,
 ao 2 (.mv 60)]) (.ret)))
theorem qbs0 : AC.ok Try.prog (TIof Try.prog) 61 0 (kret [.t 2] decB) q3k := qm (zA qbnz (zA (qd.ok q0t) (zA (qd.ok q0t) trivial)))
theorem qbvh (Ae : Bool) (Af Ag Ah Ai : Int) (Aj Ak : List UInt8) (Al : Int) : den 0 (kret [.t 2] decB) q3k (qi [(0, .agg (qp Ae Af Ag Ah Ai Aj Ak Al))]) (qh []) (kend (kret [.t 2] decB)) = qnc Ae Af Ag Ah Ai Aj Ak Al := by
  rw [q98]; kernel_rfl
theorem qbvi : cFn (TIof Try.prog) Try.f34 = some ⟨61, [.t 2], scOf q3k⟩ := by kernel_rfl
def qbvj (xs : List AV) : Option Bool := qr ((qj xs) 0).cells (qnc)
def qys {R : Type} : List AV → (AV → Option R) → Option R := entF qbqw qbvj AV.bool
theorem qbb3 {R : Type} : qd Try.prog 34 (qys (R := R)) :=
  qt tabOk follows Try.func34 (by kernel_rfl) qbvi hdeB qbs0 (qo (by kernel_rfl)) fun xs => qbvh _ _ _ _ _ _ _ _
def qbd1 : Shp := ⟨[(0, .st (lk qf6)), (1, .st (lk qf6))], []⟩
def qul (Ae : Bool) (Af Ag : Int) (Am : Bool) (An Ao : Int) : Option Int :=
  (bif (!((Ae == Am) && true)) then (bif Am then (some (-1 : Int)) else (some (1 : Int))) else (bif (Af != An) then (bif (decide (Af < An)) then (some (-1 : Int)) else (some (1 : Int))) else (bif (decide (Ag < Ao)) then (some (-1 : Int)) else (bif (decide (Ag > Ao)) then (some (1 : Int)) else (some (0 : Int))))))
def qnd := hull qul
theorem q2i : qnd = qul := qk _
def qum : AC Int :=
  .seq (.reg [ao 2 (.box 0),
 ao 3 (.box 1),
 ao 4 (.mv (.c (.int .i64 0)))]) (.seq (.seq (.reg [ao 5 (.fa 0 2),
 ao 6 (.load false 1 5),
 ao 7 (.fa 0 3),
 ao 8 (.load false 1 7),
 ao 9 (.eq true false [.b] 6 8)]) (.cond 9 (.seq (.seq (.reg [ao 10 (.fa 0 3),
 ao 11 (.load false 1 10)]) (.cond 11 (.seq (.reg [ao 4 (.mv (.c (.int .i64 (-1))))]) (.ret)) (.skip))) (.seq (.reg [ao 4 (.mv (.c (.int .i64 1)))]) (.ret))) (.skip))) (.seq (.seq (.reg [ao 12 (.fa 1 2),
 ao 13 (.load false 1 12),
 ao 14 (.fa 1 3),
 ao 15 (.load false 1 14),
 ao 16 (.bin .neq 13 15)]) (.cond 16 (.seq (.seq (.reg [ao 17 (.fa 1 2),
 ao 18 (.load false 1 17),
 ao 19 (.fa 1 3),
 ao 20 (.load false 1 19),
 ao 21 (.bin .lss 18 20)]) (.cond 21 (.seq (.reg [ao 4 (.mv (.c (.int .i64 (-1))))]) (.ret)) (.skip))) (.seq (.reg [ao 4 (.mv (.c (.int .i64 1)))]) (.ret))) (.skip))) (.seq (.seq (.reg [ao 22 (.fa 2 2),
 ao 23 (.load false 1 22),
 ao 24 (.fa 2 3),
 ao 25 (.load false 1 24),
 ao 26 (.bin .lss 23 25)]) (.cond 26 (.seq (.reg [ao 4 (.mv (.c (.int .i64 (-1))))]) (.ret)) (.skip))) (.seq (.seq (.reg [ao 27 (.fa 2 2),
 ao 28 (.load false 1 27),
 ao 29 (.fa 2 3),
 ao 30 (.load false 1 29),
 ao 31 (.bin .gtr 28 30)]) (.cond 31 (.seq (.reg [ao 4 (.mv (.c (.int .i64 1)))]) (.ret)) (.skip))) (.seq (.reg [ao 4 (.mv (.c (.int .i64 0)))]) (.ret))))))
theorem qbhg : AC.ok Try.prog (TIof Try.prog) 32 0 (kret [.t 4] (decI .i64)) qum := qm trivial
theorem qbjt (Ae : Bool) (Af Ag : Int) (Am : Bool) (An Ao : Int) : den 0 (kret [.t 4] (decI .i64)) qum (qi [(0, .agg (qcy Ae Af Ag)), (1, .agg (qcy Am An Ao))]) (qh []) (kend (kret [.t 4] (decI .i64))) = qnd Ae Af Ag Am An Ao := by
  rw [q2i]; kernel_rfl
theorem qbju : cFn (TIof Try.prog) Try.f79 = some ⟨32, [.t 4], scOf qum⟩ := by kernel_rfl
def qbjv (xs : List AV) : Option Int := qdg ((qj xs) 1).cells (qdg ((qj xs) 0).cells (qnd))
def q0u {R : Type} : List AV → (AV → Option R) → Option R := entF qbd1 qbjv (AV.int .i64)
theorem qbjw {R : Type} : qd Try.prog 79 (q0u (R := R)) :=
  qt tabOk follows Try.func79 (by kernel_rfl) qbju hdeI qbhg (qo (by kernel_rfl)) fun xs => qbjt _ _ _ _ _ _
def qbd2 : Shp := ⟨[(0, .st (lk qc)), (1, .st (lk qc))], []⟩
def qun (Ae : Bool) (Af Ag Ah : Int) (Am : Bool) (An Ao Ap : Int) : Option Int :=
  (oB (qnd Ae Af Ag Am An Ao) fun r1 => (bif (r1 != (0 : Int)) then (some r1) else (bif (decide (Ah < Ap)) then (some (-1 : Int)) else (bif (decide (Ah > Ap)) then (some (1 : Int)) else (some (0 : Int))))))
def qkn := hull qun
theorem q2j : qkn = qun := qk _
def qup : AC Int :=
  .seq (.reg [ao 2 (.box 0),
 ao 3 (.box 1),
 ao 4 (.mv (.c (.int .i64 0)))]) (.seq (.reg [ao 6 (.fa 0 2),
 ao 7 (.load true 3 6),
 ao 8 (.fa 0 3),
 ao 9 (.load true 3 8),
 .call (po 10 (.call 79 [7, 9])) 79 q0u,
 ao 5 (.mv 10)]) (.seq (.seq (.reg [ao 11 (.mv 5),
 ao 12 (.bin .neq 11 (.c (.int .i64 0)))]) (.cond 12 (.seq (.reg [ao 13 (.mv 5),
 ao 4 (.mv 13)]) (.ret)) (.skip))) (.seq (.seq (.reg [ao 14 (.fa 3 2),
 ao 15 (.load false 1 14),
 ao 16 (.fa 3 3),
 ao 17 (.load false 1 16),
 ao 18 (.bin .lss 15 17)]) (.cond 18 (.seq (.reg [ao 4 (.mv (.c (.int .i64 (-1))))]) (.ret)) (.skip))) (.seq (.seq (.reg [ao 19 (.fa 3 2),
 ao 20 (.load false 1 19),
 ao 21 (.fa 3 3),
 ao 22 (.load false 1 21),
 ao 23 (.bin .gtr 20 22)]) (.cond 23 (.seq (.reg [ao 4 (.mv (.c (.int .i64 1)))]) (.ret)) (.skip))) (.seq (.reg [ao 4 (.mv (.c (.int .i64 0)))]) (.ret))))))
theorem qbhh : AC.ok Try.prog (TIof Try.prog) 24 0 (kret [.t 4] (decI .i64)) qup := qm (zA (qd.ok qbjw) trivial)
theorem qbjx (Ae : Bool) (Af Ag Ah : Int) (Am : Bool) (An Ao Ap : Int) : den 0 (kret [.t 4] (decI .i64)) qup (qi [(0, .agg (qa Ae Af Ag Ah)), (1, .agg (qa Am An Ao Ap))]) (qh []) (kend (kret [.t 4] (decI .i64))) = qkn Ae Af Ag Ah Am An Ao Ap := by
  rw [q2j]; kernel_rfl
theorem qbjy : cFn (TIof Try.prog) Try.f35 = some ⟨24, [.t 4], scOf qup⟩ := by kernel_rfl
def qbjz (xs : List AV) : Option Int := qb ((qj xs) 1).cells (qb ((qj xs) 0).cells (qkn))
def qqv {R : Type} : List AV → (AV → Option R) → Option R := entF qbd2 qbjz (AV.int .i64)
theorem q4w {R : Type} : qd Try.prog 35 (qqv (R := R)) :=
  qt tabOk follows Try.func35 (by kernel_rfl) qbjy hdeI qbhh (qo (by kernel_rfl)) fun xs => qbjx _ _ _ _ _ _ _ _
def qls (z : AV) : Option (AV × Bool) := cond (qfn [(.st [.b, (.i .u64), (.i .u64), (.i .i64)]), (.one .b)] z) (some ((gC (tpL z) 0), aB (gC (tpL z) 1))) none
def qbs1 (r : AV × Bool) : AV := .tup [qh4 (.st [.b, (.i .u64), (.i .u64), (.i .i64)]) r.1, .bool r.2]
def q6t  (v1 : Int) (Aa : Bool) (Ab Ac : Int) (Aq : Bool) (Ar As At : Int) (K : Ex → Env → Mem → Option (AV × Bool)) := (fun z_v22 => K .norm (qi [(1, (.int .i64 v1)), (2, (.ptr 0 0)), (4, (.ptr 1 0)), (22, (.bool z_v22))]) (qh [(some (.box true (qcy Aa Ab Ac))), (some (.box true (qa Aq Ar As At)))]))
def qbj0 : Shp := ⟨[(1, .one (.l (.i .i64))), (2, .one (.ptr 0 0)), (4, .one (.ptr 1 0))], [.box true (lk qf6), .box true (lk qc)]⟩
def qyt  (v1 : Int) (Aa : Bool) (Ab Ac : Int) (Aq : Bool) (Ar As At : Int) (kn : Bool → Option (AV × Bool)) : Option (AV × Bool) :=
  (oB (qkl Aa Ab Ac) fun r1 => (bif ((!r1) || (decide (v1 < (0 : Int)))) then (kn true) else (oB (qgh Aa) fun r2 => (kn (decide (v1 > r2))))))
def qvw := hull (qyt)
theorem q6u : qvw = qyt := qk _
def qqw : AC (AV × Bool) :=
  .seq (.reg [ao 9 (.load true 3 2),
 .call (po 10 (.call 74 [9])) 74 qn5,
 ao 11 (.un .not 10),
 ao 12 (.mv 11),
 .grp 12 false [(pg 13 12 false (.mv 1)), (pg 14 12 false (.bin .lss 13 (.c (.int .i64 0))))] 15 14,
 ao 16 (.mv 15),
 ag 17 16 false (.mv 1),
 ag 18 16 false (.fa 0 2),
 ag 19 16 false (.load false 1 18),
 .call (pg 20 16 false (.call 75 [19])) 75 qg0,
 ag 21 16 false (.bin .gtr 17 20),
 ao 22 (.pick 16 (.c (.bool true)) 21)]) (.view [.sel [1, 2, 4, 22] [0, 1]])
theorem qbn0 : AC.ok Try.prog (TIof Try.prog) 53 0 (kret [(.cell 4 true 4), .t 5] qls) qqw := qm (zA (qd.ok qyn) (zA (qd.ok qlq) trivial))
theorem qbqx (v1 : Int) (Aa : Bool) (Ab Ac : Int) (Aq : Bool) (Ar As At : Int) (K : Ex → Env → Mem → Option (AV × Bool)) : den 0 (kret [(.cell 4 true 4), .t 5] qls) qqw (qi [(1, (.int .i64 v1)), (2, (.ptr 0 0)), (4, (.ptr 1 0))]) (qh [(some (.box true (qcy Aa Ab Ac))), (some (.box true (qa Aq Ar As At)))]) K = qvw v1 Aa Ab Ac Aq Ar As At (q6t v1 Aa Ab Ac Aq Ar As At K) := by
  rw [q6u]; kernel_rfl
def q8a := subE (R := AV × Bool) qbj0 fun t m K => qb (bxC (m.s 1)) (qdg (bxC (m.s 0)) (qvw (gI [t 1] 0))) (q6t (gI [t 1] 0) (gB (bxC (m.s 0)) 0) (gI (bxC (m.s 0)) 1) (gI (bxC (m.s 0)) 2) (gB (bxC (m.s 1)) 0) (gI (bxC (m.s 1)) 1) (gI (bxC (m.s 1)) 2) (gI (bxC (m.s 1)) 3) K)
theorem qbqy : qby Try.prog (TIof Try.prog) 53 0 (kret [(.cell 4 true 4), .t 5] qls) (scOf qqw) (q8a) :=
  qex tabOk follows (qbn0) (qo (by kernel_rfl)) fun t m K => qbqx _ _ _ _ _ _ _ _ K
def qbs2 : Shp := ⟨[(0, .st (lk qf6)), (1, .one (.l (.i .i64)))], []⟩
def q52 (Ae : Bool) (Af Ag v1 : Int) : Option (AV × Bool) :=
  (qvw v1 Ae Af Ag false (0 : Int) (0 : Int) (0 : Int) (fun v22q1 => (bif v22q1 then (some ((.agg [(.bool false), (.int .u64 (0 : Int)), (.int .u64 (0 : Int)), (.int .i64 (0 : Int))]), false)) else (oB (qgh Ae) fun r2 => (oB (ql6 (IntKind.i64.wrap (r2 - v1))) fun r3 => (some ((.agg [(.bool Ae), (.int .u64 (IntKind.u64.wrap (Af - (qbx .and .u64 Af r3.1)))), (.int .u64 (IntKind.u64.wrap (Ag - (qbx .and .u64 Ag r3.2)))), (.int .i64 v1)]), true)))))))
def qxn := hull q52
theorem qbb4 : qxn = q52 := qk _
def q53 : AC (AV × Bool) :=
  .seq (.reg [ao 2 (.box 0),
 ao 4 (.alloc [(.bool false), (.int .u64 0), (.int .u64 0), (.int .i64 0)]),
 ao 5 (.mv (.c (.bool false)))]) (.seq (.seq (.seq (.view [.sel [1, 2, 4] [0, 1]]) (.sub (scOf qqw) q8a)) (.cond 22 (.seq (.reg [ao 23 (.build [(.bool false), (.int .u64 0), (.int .u64 0), (.int .i64 0)] []),
 an (.store 4 4 23),
 ao 5 (.mv (.c (.bool false)))]) (.ret)) (.skip))) (.seq (.reg [ao 25 (.fa 0 2),
 ao 26 (.load false 1 25),
 .call (po 27 (.call 75 [26])) 75 qg0,
 ao 28 (.mv 1),
 ao 29 (.bin .sub 27 28),
 .call (po 30 (.call 76 [29])) 76 qpd,
 ao 24 (.mv 30),
 ao 31 (.ext 24 0),
 ao 32 (.ext 24 1),
 ao 6 (.mv 31),
 ao 7 (.mv 32)]) (.seq (.reg [ao 33 (.fa 0 2),
 ao 34 (.load false 1 33),
 ao 35 (.fa 1 2),
 ao 36 (.load false 1 35),
 ao 37 (.fa 1 2),
 ao 38 (.load false 1 37),
 ao 39 (.mv 6),
 ao 40 (.bin .and 38 39),
 ao 41 (.bin .sub 36 40),
 ao 42 (.fa 2 2),
 ao 43 (.load false 1 42),
 ao 44 (.fa 2 2),
 ao 45 (.load false 1 44),
 ao 46 (.mv 7),
 ao 47 (.bin .and 45 46),
 ao 48 (.bin .sub 43 47),
 ao 49 (.build [(.bool false), (.int .u64 0), (.int .u64 0)] [(0, (1, 34)), (1, (1, 41)), (2, (1, 48))]),
 ao 8 (.alloc [(.bool false), (.int .u64 0), (.int .u64 0)]),
 an (.store 3 8 49)]) (.seq (.reg [ao 50 (.load true 3 8),
 ao 51 (.mv 1),
 ao 52 (.build [(.bool false), (.int .u64 0), (.int .u64 0), (.int .i64 0)] [(0, (3, 50)), (3, (1, 51))]),
 an (.store 4 4 52),
 ao 5 (.mv (.c (.bool true)))]) (.ret)))))
theorem qbvk : AC.ok Try.prog (TIof Try.prog) 53 0 (kret [(.cell 4 true 4), .t 5] qls) q53 := qm (zA qbqy (zA (qd.ok qlq) (zA (qd.ok q0q) trivial)))
theorem qbyb (Ae : Bool) (Af Ag v1 : Int) : den 0 (kret [(.cell 4 true 4), .t 5] qls) q53 (qi [(0, .agg (qcy Ae Af Ag)), (1, (.int .i64 v1))]) (qh []) (kend (kret [(.cell 4 true 4), .t 5] qls)) = qxn Ae Af Ag v1 := by
  rw [qbb4]; kernel_rfl
theorem qbyc : cFn (TIof Try.prog) Try.f106 = some ⟨53, [(.cell 4 true 4), .t 5], scOf q53⟩ := by kernel_rfl
def qbyd (xs : List AV) : Option (AV × Bool) := qdg ((qj xs) 0).cells (qxn) (gI [(qj xs) 1] 0)
def q99 {R : Type} : List AV → (AV → Option R) → Option R := entF qbs2 qbyd qbs1
theorem qbye {R : Type} : qd Try.prog 106 (q99 (R := R)) :=
  qt tabOk follows Try.func106 (by kernel_rfl) qbyc (fun z r h => by
 obtain ⟨h1, h2⟩ := qq h
 cases h2
 exact (qc9 h1).symm) qbvk (qo (by kernel_rfl)) fun xs => qbyb _ _ _ _
def qwb  (Aa : Bool) (Ab Ac Ad : Int) (Aq : Bool) (Ar As : Int) (K : Ex → Env → Mem → Option Bool) := (fun z_v22 => K .norm (qi [(2, (.ptr 0 0)), (3, (.ptr 1 0)), (22, (.bool z_v22))]) (qh [(some (.box true (qa Aa Ab Ac Ad))), (some (.box true (qcy Aq Ar As)))]))
def q8b : Shp := ⟨[(2, .one (.ptr 0 0)), (3, .one (.ptr 1 0))], [.box true (lk qc), .box true (lk qf6)]⟩
def qo4  (Aa : Bool) (Ab Ac Ad : Int) (Aq : Bool) (Ar As : Int) (kn : Bool → Option Bool) : Option Bool :=
  (oB (qfq Aa Ab Ac Ad) fun r1 => (bif (!r1) then (kn true) else (oB (qkl Aq Ar As) fun r2 => (kn ((!r2) || (!((Aa == Aq) && true)))))))
def qmn := hull (qo4)
theorem qwc : qmn = qo4 := qk _
def qk0 : AC Bool :=
  .seq (.reg [ao 7 (.load true 4 2),
 .call (po 8 (.call 33 [7])) 33 qga,
 ao 9 (.un .not 8),
 ao 10 (.mv 9),
 ag 11 10 false (.load true 3 3),
 .call (pg 12 10 false (.call 74 [11])) 74 qn5,
 ag 13 10 false (.un .not 12),
 ao 14 (.pick 10 (.c (.bool true)) 13),
 ao 15 (.mv 14),
 .grp 15 false [(pg 16 15 false (.fa 0 2)), (pg 17 15 false (.fa 0 16)), (pg 18 15 false (.load false 1 17)), (pg 19 15 false (.fa 0 3)), (pg 20 15 false (.load false 1 19)), (pg 21 15 false (.eq true false [.b] 18 20))] 22 21]) (.view [.sel [2, 3, 22] [0, 1]])
theorem q9u : AC.ok Try.prog (TIof Try.prog) 33 0 (kret [.t 4] decB) qk0 := qm (zA (qd.ok qkm) (zA (qd.ok qyn) trivial))
theorem qba3 (Aa : Bool) (Ab Ac Ad : Int) (Aq : Bool) (Ar As : Int) (K : Ex → Env → Mem → Option Bool) : den 0 (kret [.t 4] decB) qk0 (qi [(2, (.ptr 0 0)), (3, (.ptr 1 0))]) (qh [(some (.box true (qa Aa Ab Ac Ad))), (some (.box true (qcy Aq Ar As)))]) K = qmn Aa Ab Ac Ad Aq Ar As (qwb Aa Ab Ac Ad Aq Ar As K) := by
  rw [qwc]; kernel_rfl
def qxo := subE (R := Bool) q8b fun t m K => qdg (bxC (m.s 1)) (qb (bxC (m.s 0)) (qmn)) (qwb (gB (bxC (m.s 0)) 0) (gI (bxC (m.s 0)) 1) (gI (bxC (m.s 0)) 2) (gI (bxC (m.s 0)) 3) (gB (bxC (m.s 1)) 0) (gI (bxC (m.s 1)) 1) (gI (bxC (m.s 1)) 2) K)
theorem qba4 : qby Try.prog (TIof Try.prog) 33 0 (kret [.t 4] decB) (scOf qk0) (qxo) :=
  qex tabOk follows (q9u) (qo (by kernel_rfl)) fun t m K => qba3 _ _ _ _ _ _ _ K
def qbb5 : Shp := ⟨[(0, .st (lk qc)), (1, .st (lk qf6))], []⟩
def qsu (Ae : Bool) (Af Ag Ah : Int) (Am : Bool) (An Ao : Int) : Option Bool :=
  (qmn Ae Af Ag Ah Am An Ao (fun v22q1 => (bif v22q1 then (some false) else (oB (qxn Am An Ao Ah) fun r2 => (some (((gB r2.1.cells 0) == Ae) && (((gI r2.1.cells 1) == Af) && (((gI r2.1.cells 2) == Ag) && (((gI r2.1.cells 3) == Ah) && true)))))))))
def qmc := hull qsu
theorem q0v : qmc = qsu := qk _
def qsv : AC Bool :=
  .seq (.reg [ao 2 (.box 0),
 ao 3 (.box 1),
 ao 4 (.mv (.c (.bool false)))]) (.seq (.seq (.seq (.view [.sel [2, 3] [0, 1]]) (.sub (scOf qk0) qxo)) (.cond 22 (.seq (.reg [ao 4 (.mv (.c (.bool false)))]) (.ret)) (.skip))) (.seq (.reg [ao 24 (.load true 3 3),
 ao 25 (.fa 3 2),
 ao 26 (.load false 1 25),
 .call (po 27 (.call 106 [24, 26])) 106 q99,
 ao 23 (.mv 27),
 ao 28 (.ext 23 0),
 ao 29 (.ext 23 1),
 ao 5 (.alloc [(.bool false), (.int .u64 0), (.int .u64 0), (.int .i64 0)]),
 an (.store 4 5 28),
 ao 6 (.mv 29)]) (.seq (.reg [ao 30 (.load true 4 5),
 ao 31 (.load true 4 2),
 ao 32 (.eq false true [.b, (.i .u64), (.i .u64), (.i .i64)] 30 31),
 ao 4 (.mv 32)]) (.ret))))
theorem qbd3 : AC.ok Try.prog (TIof Try.prog) 33 0 (kret [.t 4] decB) qsv := qm (zA qba4 (zA (qd.ok qbye) trivial))
theorem qbhi (Ae : Bool) (Af Ag Ah : Int) (Am : Bool) (An Ao : Int) : den 0 (kret [.t 4] decB) qsv (qi [(0, .agg (qa Ae Af Ag Ah)), (1, .agg (qcy Am An Ao))]) (qh []) (kend (kret [.t 4] decB)) = qmc Ae Af Ag Ah Am An Ao := by
  rw [q0v]; kernel_rfl
theorem qbhj : cFn (TIof Try.prog) Try.f82 = some ⟨33, [.t 4], scOf qsv⟩ := by kernel_rfl
def qbhk (xs : List AV) : Option Bool := qdg ((qj xs) 1).cells (qb ((qj xs) 0).cells (qmc))
def qze {R : Type} : List AV → (AV → Option R) → Option R := entF qbb5 qbhk AV.bool
theorem qbhl {R : Type} : qd Try.prog 82 (qze (R := R)) :=
  qt tabOk follows Try.func82 (by kernel_rfl) qbhj hdeB qbd3 (qo (by kernel_rfl)) fun xs => qbhi _ _ _ _ _ _ _
def qbhm : Shp := ⟨[(0, .st (lk qc)), (1, .st (lk qc))], []⟩
def qwm (Ae : Bool) (Af Ag Ah : Int) (Am : Bool) (An Ao Ap : Int) : Option Bool :=
  (oB (qfq Ae Af Ag Ah) fun r1 => (bif (r1 && (decide (Ah ≥ Ap))) then (oB (qmc Am An Ao Ap Ae Af Ag) fun r2 => (some r2)) else (some false)))
def qg8 := hull qwm
theorem q4x : qg8 = qwm := qk _
def qwn : AC Bool :=
  .seq (.reg [ao 2 (.box 0),
 ao 3 (.box 1),
 ao 4 (.mv (.c (.bool false)))]) (.seq (.reg [ao 5 (.load true 4 2),
 .call (po 6 (.call 33 [5])) 33 qga,
 ao 7 (.mv 6),
 .grp 7 true [(pg 8 7 true (.fa 3 2)), (pg 9 7 true (.load false 1 8)), (pg 10 7 true (.fa 3 3)), (pg 11 7 true (.load false 1 10)), (pg 12 7 true (.bin .geq 9 11))] 13 12,
 ao 14 (.mv 13),
 ag 15 14 true (.load true 4 3),
 ag 16 14 true (.fa 0 2),
 ag 17 14 true (.load true 3 16),
 .call (pg 18 14 true (.call 82 [15, 17])) 82 qze,
 ao 19 (.pick 14 18 (.c (.bool false))),
 ao 4 (.mv 19)]) (.ret))
theorem qbj1 : AC.ok Try.prog (TIof Try.prog) 20 0 (kret [.t 4] decB) qwn := qm (zA (qd.ok qkm) (zA (qd.ok qbhl) trivial))
theorem qbn1 (Ae : Bool) (Af Ag Ah : Int) (Am : Bool) (An Ao Ap : Int) : den 0 (kret [.t 4] decB) qwn (qi [(0, .agg (qa Ae Af Ag Ah)), (1, .agg (qa Am An Ao Ap))]) (qh []) (kend (kret [.t 4] decB)) = qg8 Ae Af Ag Ah Am An Ao Ap := by
  rw [q4x]; kernel_rfl
theorem qbn2 : cFn (TIof Try.prog) Try.f81 = some ⟨20, [.t 4], scOf qwn⟩ := by kernel_rfl
def qbn3 (xs : List AV) : Option Bool := qb ((qj xs) 1).cells (qb ((qj xs) 0).cells (qg8))
def qj1 {R : Type} : List AV → (AV → Option R) → Option R := entF qbhm qbn3 AV.bool
theorem qpg {R : Type} : qd Try.prog 81 (qj1 (R := R)) :=
  qt tabOk follows Try.func81 (by kernel_rfl) qbn2 hdeB qbj1 (qo (by kernel_rfl)) fun xs => qbn1 _ _ _ _ _ _ _ _
def qbs3 : Shp := ⟨[(0, .st (lk qc)), (1, .st (lk qc))], []⟩
def qx7 (Ae : Bool) (Af Ag Ah : Int) (Am : Bool) (An Ao Ap : Int) : Option Bool :=
  (oB (qg8 Ae Af Ag Ah Am An Ao Ap) fun r1 => (some (r1 && (decide (Ah > Ap)))))
def qk1 := hull qx7
theorem q3l : qk1 = qx7 := qk _
def q54 : AC Bool :=
  .seq (.reg [ao 2 (.box 0),
 ao 3 (.box 1),
 ao 4 (.mv (.c (.bool false)))]) (.seq (.reg [ao 5 (.load true 4 2),
 ao 6 (.load true 4 3),
 .call (po 7 (.call 81 [5, 6])) 81 qj1,
 ao 8 (.mv 7),
 .grp 8 true [(pg 9 8 true (.fa 3 2)), (pg 10 8 true (.load false 1 9)), (pg 11 8 true (.fa 3 3)), (pg 12 8 true (.load false 1 11)), (pg 13 8 true (.bin .gtr 10 12))] 14 13,
 ao 4 (.mv 14)]) (.ret))
theorem qbvl : AC.ok Try.prog (TIof Try.prog) 15 0 (kret [.t 4] decB) q54 := qm (zA (qd.ok qpg) trivial)
theorem qbyf (Ae : Bool) (Af Ag Ah : Int) (Am : Bool) (An Ao Ap : Int) : den 0 (kret [.t 4] decB) q54 (qi [(0, .agg (qa Ae Af Ag Ah)), (1, .agg (qa Am An Ao Ap))]) (qh []) (kend (kret [.t 4] decB)) = qk1 Ae Af Ag Ah Am An Ao Ap := by
  rw [q3l]; kernel_rfl
theorem qbyg : cFn (TIof Try.prog) Try.f80 = some ⟨15, [.t 4], scOf q54⟩ := by kernel_rfl
def qbyh (xs : List AV) : Option Bool := qb ((qj xs) 1).cells (qb ((qj xs) 0).cells (qk1))
def qlt {R : Type} : List AV → (AV → Option R) → Option R := entF qbs3 qbyh AV.bool
theorem qr2 {R : Type} : qd Try.prog 80 (qlt (R := R)) :=
  qt tabOk follows Try.func80 (by kernel_rfl) qbyg hdeB qbvl (qo (by kernel_rfl)) fun xs => qbyf _ _ _ _ _ _ _ _
def qbhn : Shp := ⟨[(0, .st (lk qe)), (1, .st (lk qe))], []⟩
def qwo (Ae : Bool) (Af Ag Ah Ai : Int) (Aj Ak : List UInt8) (Al : Int) (Am : Bool) (An Ao Ap Ay : Int) (Az A0 : List UInt8) (A1 : Int) : Option Bool :=
  (oB (qk1 Ae Af Ag Ah Am An Ao Ap) fun r1 => (bif r1 then (bif (Ay == (3 : Int)) then (some true) else (bif (Ay == (2 : Int)) then (some (Ai != (3 : Int))) else (some false))) else (some false)))
def qii := hull qwo
theorem q4y : qii = qwo := qk _
def qwp : AC Bool :=
  .seq (.reg [ao 2 (.box 0),
 ao 3 (.box 1),
 ao 4 (.mv (.c (.bool false)))]) (.seq (.reg [ao 5 (.fa 0 2),
 ao 6 (.load true 4 5),
 ao 7 (.fa 0 3),
 ao 8 (.load true 4 7),
 .call (po 9 (.call 80 [6, 8])) 80 qlt,
 ao 10 (.mv 9),
 ag 11 10 true (.fa 4 3),
 ag 12 10 true (.load false 1 11),
 ag 13 10 true (.bin .eql 12 (.c (.int .i64 3))),
 ag 14 10 true (.mv 13),
 ag 15 14 false (.fa 4 3),
 ag 16 14 false (.load false 1 15),
 ag 17 14 false (.bin .eql 16 (.c (.int .i64 2))),
 ag 18 14 false (.mv 17),
 ag 19 18 true (.fa 4 2),
 ag 20 18 true (.load false 1 19),
 ag 21 18 true (.bin .neq 20 (.c (.int .i64 3))),
 ag 22 14 false (.pick 18 21 (.c (.bool false))),
 ag 23 10 true (.pick 14 (.c (.bool true)) 22),
 ao 24 (.pick 10 23 (.c (.bool false))),
 ao 4 (.mv 24)]) (.ret))
theorem qbj2 : AC.ok Try.prog (TIof Try.prog) 25 0 (kret [.t 4] decB) qwp := qm (zA (qd.ok qr2) trivial)
theorem qbn4 (Ae : Bool) (Af Ag Ah Ai : Int) (Aj Ak : List UInt8) (Al : Int) (Am : Bool) (An Ao Ap Ay : Int) (Az A0 : List UInt8) (A1 : Int) : den 0 (kret [.t 4] decB) qwp (qi [(0, .agg (qp Ae Af Ag Ah Ai Aj Ak Al)), (1, .agg (qp Am An Ao Ap Ay Az A0 A1))]) (qh []) (kend (kret [.t 4] decB)) = qii Ae Af Ag Ah Ai Aj Ak Al Am An Ao Ap Ay Az A0 A1 := by
  rw [q4y]; kernel_rfl
theorem qbn5 : cFn (TIof Try.prog) Try.f36 = some ⟨25, [.t 4], scOf qwp⟩ := by kernel_rfl
def qbn6 (xs : List AV) : Option Bool := qr ((qj xs) 1).cells (qr ((qj xs) 0).cells (qii))
def qsw {R : Type} : List AV → (AV → Option R) → Option R := entF qbhn qbn6 AV.bool
theorem q6v {R : Type} : qd Try.prog 36 (qsw (R := R)) :=
  qt tabOk follows Try.func36 (by kernel_rfl) qbn5 hdeB qbj2 (qo (by kernel_rfl)) fun xs => qbn4 _ _ _ _ _ _ _ _ _ _ _ _ _ _ _ _
def qzf  (v0 : List AV) (v3 : Int) (K : Ex → Env → Mem → Option Int) := (fun z_v43 => K .norm (qi [(0, (.sl 8 v0)), (3, (.int .i64 v3)), (43, (.bool z_v43))]) (qh []))
def qba5 : Shp := ⟨[(0, .one (.l (.sl 8))), (3, .one (.l (.i .i64)))], []⟩
def qqx  (v0 : List AV) (v3 : Int) (kn : Bool → Option Int) : Option Int :=
  (bif (decide (v3 > (0 : Int))) then (oB (ixB v0 (IntKind.i64.wrap (v3 - (1 : Int)))) fun y1 => (bif fitC qe y1.cells then (oB (ixB v0 v3) fun y2 => (bif fitC qe y2.cells then (oB (qkn (gB y1.cells 0) (gI y1.cells 1) (gI y1.cells 2) (gI y1.cells 3) (gB y2.cells 0) (gI y2.cells 1) (gI y2.cells 2) (gI y2.cells 3)) fun r3 => (kn (decide (r3 > (0 : Int))))) else none)) else none)) else (kn false))
def qn7 := hull (qqx)
theorem qzg : qn7 = qqx := qk _
def qmo : AC Int :=
  .seq (.draw [] [ao 27 (.mv 3),
 ao 28 (.bin .gtr 27 (.c (.int .i64 0))),
 ao 29 (.mv 28),
 ag 30 29 true (.mv 0),
 ag 31 29 true (.mv 3),
 ag 32 29 true (.bin .sub 31 (.c (.int .i64 1))),
 ag 33 29 true (.ia 8 30 32),
 .et 33 qe,
 ag 34 29 true (.fa 0 33),
 ag 35 29 true (.load true 4 34),
 ag 36 29 true (.mv 0),
 ag 37 29 true (.mv 3),
 ag 38 29 true (.ia 8 36 37),
 .et 38 qe,
 ag 39 29 true (.fa 0 38),
 ag 40 29 true (.load true 4 39)] [.call (pg 41 29 true (.call 35 [35, 40])) 35 qqv,
 ag 42 29 true (.bin .gtr 41 (.c (.int .i64 0))),
 ao 43 (.pick 29 42 (.c (.bool false)))]) (.view [.sel [0, 3, 43] []])
theorem qbb6 : AC.ok Try.prog (TIof Try.prog) 74 0 (kret [.t 2] (decI .i64)) qmo := qm (zA (qd.ok q4w) (zA rfl trivial))
theorem qbd4 (v0 : List AV) (v3 : Int) (K : Ex → Env → Mem → Option Int) : den 0 (kret [.t 2] (decI .i64)) qmo (qi [(0, (.sl 8 v0)), (3, (.int .i64 v3))]) (qh []) K = qn7 v0 v3 (qzf v0 v3 K) := by
  rw [qzg]; kernel_rfl
def q0w := subE (R := Int) qba5 fun t m K => qn7 (gL [t 0] 0) (gI [t 3] 0) (qzf (gL [t 0] 0) (gI [t 3] 0) K)
theorem qbd5 : qby Try.prog (TIof Try.prog) 74 0 (kret [.t 2] (decI .i64)) (scOf qmo) (q0w) :=
  qex tabOk follows (qbb6) (qo (by kernel_rfl)) fun t m K => qbd4 _ _ K
def qzh  (v0 : List AV) (v3 : Int) (K : Ex → Env → Mem → Option Int) := (fun z_v59 => K .norm (qi [(0, (.sl 8 v0)), (3, (.int .i64 v3)), (59, (.bool z_v59))]) (qh []))
def qba6 : Shp := ⟨[(0, .one (.l (.sl 8))), (3, .one (.l (.i .i64)))], []⟩
def qqy  (v0 : List AV) (v3 : Int) (kn : Bool → Option Int) : Option Int :=
  (bif (decide (v3 > (0 : Int))) then (oB (ixB v0 (IntKind.i64.wrap (v3 - (1 : Int)))) fun y1 => (bif fitC qe y1.cells then (oB (ixB v0 v3) fun y2 => (bif fitC qe y2.cells then (kn (((gB y1.cells 0) == (gB y2.cells 0)) && (((gI y1.cells 1) == (gI y2.cells 1)) && (((gI y1.cells 2) == (gI y2.cells 2)) && (((gI y1.cells 3) == (gI y2.cells 3)) && true))))) else none)) else none)) else (kn false))
def qn8 := hull (qqy)
theorem qzi : qn8 = qqy := qk _
def qmp : AC Int :=
  .seq (.draw [] [ao 44 (.mv 3),
 ao 45 (.bin .gtr 44 (.c (.int .i64 0))),
 ao 46 (.mv 45),
 ag 47 46 true (.mv 0),
 ag 48 46 true (.mv 3),
 ag 49 46 true (.bin .sub 48 (.c (.int .i64 1))),
 ag 50 46 true (.ia 8 47 49),
 .et 50 qe,
 ag 51 46 true (.fa 0 50),
 ag 52 46 true (.load true 4 51),
 ag 53 46 true (.mv 0),
 ag 54 46 true (.mv 3),
 ag 55 46 true (.ia 8 53 54),
 .et 55 qe,
 ag 56 46 true (.fa 0 55),
 ag 57 46 true (.load true 4 56)] [ag 58 46 true (.eq false true [.b, (.i .u64), (.i .u64), (.i .i64)] 52 57),
 ao 59 (.pick 46 58 (.c (.bool false)))]) (.view [.sel [0, 3, 59] []])
theorem qbb7 : AC.ok Try.prog (TIof Try.prog) 74 0 (kret [.t 2] (decI .i64)) qmp := qm (zA rfl trivial)
theorem qbd6 (v0 : List AV) (v3 : Int) (K : Ex → Env → Mem → Option Int) : den 0 (kret [.t 2] (decI .i64)) qmp (qi [(0, (.sl 8 v0)), (3, (.int .i64 v3))]) (qh []) K = qn8 v0 v3 (qzh v0 v3 K) := by
  rw [qzi]; kernel_rfl
def q0x := subE (R := Int) qba6 fun t m K => qn8 (gL [t 0] 0) (gI [t 3] 0) (qzh (gL [t 0] 0) (gI [t 3] 0) K)
theorem qbd7 : qby Try.prog (TIof Try.prog) 74 0 (kret [.t 2] (decI .i64)) (scOf qmp) (q0x) :=
  qex tabOk follows (qbb7) (qo (by kernel_rfl)) fun t m K => qbd6 _ _ K
def qk2  (v0 : List AV) (v3 : Int) (K : Ex → Env → Mem → Option Int) := (fun (_ : Unit) => K (.exit 2) (qi [(0, (.sl 8 v0)), (3, (.int .i64 v3))]) (qh []))
def qba7 : Shp := ⟨[(0, .one (.l (.sl 8))), (3, .one (.l (.i .i64))), (4, .one (.l (.i .i64)))], []⟩
def qpy (v0 : List AV) (v3 v4 : Int) : Env := qi [(0, (.sl 8 v0)), (3, (.int .i64 v3)), (4, (.int .i64 v4))]
def qpz (v0 : List AV) (v3 v4 : Int) : Mem := qh []
def qgm  (v0 : List AV) (v3 v4 : Int) (next : Int → Option Int) (kx2 : Unit → Option Int) : Option Int :=
  (bif (decide (v4 < v3)) then (oB (ixB v0 v3) fun y1 => (bif fitC qe y1.cells then (oB (ixB v0 v4) fun y2 => (bif fitC qe y2.cells then (oB (qii (gB y1.cells 0) (gI y1.cells 1) (gI y1.cells 2) (gI y1.cells 3) (gI y1.cells 4) (gS y1.cells 5) (gS y1.cells 6) (gI y1.cells 7) (gB y2.cells 0) (gI y2.cells 1) (gI y2.cells 2) (gI y2.cells 3) (gI y2.cells 4) (gS y2.cells 5) (gS y2.cells 6) (gI y2.cells 7)) fun r3 => (bif r3 then (some (24 : Int)) else (next (IntKind.i64.wrap (v4 + (1 : Int)))))) else none)) else none)) else (kx2 ()))
def qmq  (v0 : List AV) (v3 : Int) (kx2 : Unit → Option Int) : Nat → Int → Option Int
  | 0 => (fun _ => none)
  | n + 1 => (fun v4 => qgm v0 v3 v4 (qmq v0 v3 kx2 n) kx2)
def qlg := hull (qmq)
theorem qzj : qlg = qmq := qk _
def qgn : AC Int :=
  .seq (.seq (.reg [ao 60 (.mv 4),
 ao 61 (.mv 3),
 ao 62 (.bin .lss 60 61)]) (.cond 62 (.skip) (.seq (.view [.sel [0, 3] []]) (.exit 2)))) (.seq (.block 3 (.seq (.draw [] [ao 65 (.mv 0),
 ao 66 (.mv 3),
 ao 67 (.ia 8 65 66),
 .et 67 qe,
 ao 68 (.load true 8 67),
 ao 69 (.mv 0),
 ao 70 (.mv 4),
 ao 71 (.ia 8 69 70),
 .et 71 qe,
 ao 72 (.load true 8 71)] [.call (po 73 (.call 36 [68, 72])) 36 qsw]) (.cond 73 (.seq (.reg [ao 2 (.mv (.c (.int .i64 24)))]) (.ret)) (.skip)))) (.seq (.reg [ao 63 (.mv 4),
 ao 64 (.bin .add 63 (.c (.int .i64 1))),
 ao 4 (.mv 64)]) (.view [.sel [0, 3, 4] []])))
theorem qbb8 : AC.ok Try.prog (TIof Try.prog) 74 0 (kret [.t 2] (decI .i64)) qgn := qm (zA (qd.ok q6v) (zA rfl trivial))
theorem qba8 (v0 : List AV) (v3 v4 : Int) (K : Ex → Env → Mem → Option Int) : den 0 (kret [.t 2] (decI .i64)) qgn (qpy v0 v3 v4) (qpz v0 v3 v4) K = qgm v0 v3 v4 (fun z_v4 => K .norm (qpy v0 v3 z_v4) (qpz v0 v3 z_v4)) (qk2 v0 v3 K) := by kernel_rfl
theorem qbd8 (v0 : List AV) (v3 : Int) (K : Ex → Env → Mem → Option Int) : ∀ (n : Nat) (v4 : Int), qe2 (den 0 (kret [.t 2] (decI .i64)) qgn) n (qpy v0 v3 v4) (qpz v0 v3 v4) K = qlg v0 v3 (qk2 v0 v3 K) n v4 := by
  rw [qzj]
  intro n
  induction n with
  | zero => intros; rfl
  | succ n ih =>
 intro v4
 exact (qba8 v0 v3 v4 (itK (den 0 (kret [.t 2] (decI .i64)) qgn) n K)).trans (congrArg (fun q => qgm v0 v3 v4 q (qk2 v0 v3 K)) (funext fun v4 => ih v4))
def q0y := subE (R := Int) qba7 fun t m K => qlg (gL [t 0] 0) (gI [t 3] 0) (qk2 (gL [t 0] 0) (gI [t 3] 0) K) FU (gI [t 4] 0)
theorem qbd9 : qby Try.prog (TIof Try.prog) 74 0 (kret [.t 2] (decI .i64)) (.loop (scOf qgn)) (q0y) :=
  qd9 tabOk follows (qbb8) (qo (by kernel_rfl)) fun t m K => qbd8 _ _ K FU _
def qk3  (K : Ex → Env → Mem → Option Int) := (fun (_ : Unit) => K (.exit 0) (qi []) (qh []))
def qba9 : Shp := ⟨[(0, .one (.l (.sl 8))), (3, .one (.l (.i .i64)))], []⟩
def qp0 (v0 : List AV) (v3 : Int) : Env := qi [(0, (.sl 8 v0)), (3, (.int .i64 v3))]
def qp1 (v0 : List AV) (v3 : Int) : Mem := qh []
def qgo  (v0 : List AV) (v3 : Int) (next : Int → Option Int) (kx0 : Unit → Option Int) : Option Int :=
  (bif (decide (v3 < (v0.length : Int))) then (oB (ixB v0 v3) fun y1 => (bif fitC qe y1.cells then (oB (qfq (gB y1.cells 0) (gI y1.cells 1) (gI y1.cells 2) (gI y1.cells 3)) fun r2 => (bif (!r2) then (some (3 : Int)) else (oB (ixB v0 v3) fun y3 => (bif fitC qe y3.cells then (oB (qnc (gB y3.cells 0) (gI y3.cells 1) (gI y3.cells 2) (gI y3.cells 3) (gI y3.cells 4) (gS y3.cells 5) (gS y3.cells 6) (gI y3.cells 7)) fun r4 => (bif (!r4) then (some (1 : Int)) else (qn7 v0 v3 (fun v43q5 => (bif v43q5 then (some (7 : Int)) else (qn8 v0 v3 (fun v59q6 => (bif v59q6 then (some (12 : Int)) else (qlg v0 v3 (fun (_ : Unit) => (next (IntKind.i64.wrap (v3 + (1 : Int))))) FU (0 : Int)))))))))) else none)))) else none)) else (kx0 ()))
def qmr  (v0 : List AV) (kx0 : Unit → Option Int) : Nat → Int → Option Int
  | 0 => (fun _ => none)
  | n + 1 => (fun v3 => qgo v0 v3 (qmr v0 kx0 n) kx0)
def qn9 := hull (qmr)
theorem qzk : qn9 = qmr := qk _
def qgp : AC Int :=
  .seq (.seq (.reg [ao 8 (.mv 3),
 ao 9 (.mv 0),
 ao 10 (.len false 9),
 ao 11 (.bin .lss 8 10)]) (.cond 11 (.skip) (.seq (.view [.sel [] []]) (.exit 0)))) (.seq (.block 1 (.seq (.seq (.reg [ao 14 (.mv 0),
 ao 15 (.mv 3),
 ao 16 (.ia 8 14 15),
 .st (.etac 16 qe),
 ao 17 (.fa 0 16),
 ao 18 (.load true 4 17),
 .call (po 19 (.call 33 [18])) 33 qga,
 ao 20 (.un .not 19)]) (.cond 20 (.seq (.reg [ao 2 (.mv (.c (.int .i64 3)))]) (.ret)) (.skip))) (.seq (.seq (.reg [ao 21 (.mv 0),
 ao 22 (.mv 3),
 ao 23 (.ia 8 21 22),
 .st (.etac 23 qe),
 ao 24 (.load true 8 23),
 .call (po 25 (.call 34 [24])) 34 qys,
 ao 26 (.un .not 25)]) (.cond 26 (.seq (.reg [ao 2 (.mv (.c (.int .i64 1)))]) (.ret)) (.skip))) (.seq (.seq (.seq (.view [.sel [0, 3] []]) (.sub (scOf qmo) q0w)) (.cond 43 (.seq (.reg [ao 2 (.mv (.c (.int .i64 7)))]) (.ret)) (.skip))) (.seq (.seq (.seq (.view [.sel [0, 3] []]) (.sub (scOf qmp) q0x)) (.cond 59 (.seq (.reg [ao 2 (.mv (.c (.int .i64 12)))]) (.ret)) (.skip))) (.seq (.reg [ao 4 (.mv (.c (.int .i64 0)))]) (.block 2 (.seq (.view [.sel [0, 3, 4] []]) (.sub (.loop (scOf qgn)) q0y))))))))) (.seq (.reg [ao 12 (.mv 3),
 ao 13 (.bin .add 12 (.c (.int .i64 1))),
 ao 3 (.mv 13)]) (.view [.sel [0, 3] []])))
theorem qbb9 : AC.ok Try.prog (TIof Try.prog) 74 0 (kret [.t 2] (decI .i64)) qgp := qm (zA (qd.ok qkm) (zA (qd.ok qbb3) (zA qbd5 (zA qbd7 (zA qbd9 trivial)))))
theorem qbba (v0 : List AV) (v3 : Int) (K : Ex → Env → Mem → Option Int) : den 0 (kret [.t 2] (decI .i64)) qgp (qp0 v0 v3) (qp1 v0 v3) K = qgo v0 v3 (fun z_v3 => K .norm (qp0 v0 z_v3) (qp1 v0 z_v3)) (qk3 K) := by kernel_rfl
theorem qbea (v0 : List AV) (K : Ex → Env → Mem → Option Int) : ∀ (n : Nat) (v3 : Int), qe2 (den 0 (kret [.t 2] (decI .i64)) qgp) n (qp0 v0 v3) (qp1 v0 v3) K = qn9 v0 (qk3 K) n v3 := by
  rw [qzk]
  intro n
  induction n with
  | zero => intros; rfl
  | succ n ih =>
 intro v3
 exact (qbba v0 v3 (itK (den 0 (kret [.t 2] (decI .i64)) qgp) n K)).trans (congrArg (fun q => qgo v0 v3 q (qk3 K)) (funext fun v3 => ih v3))
def q0z := subE (R := Int) qba9 fun t m K => qn9 (gL [t 0] 0) (qk3 K) FU (gI [t 3] 0)
theorem qbeb : qby Try.prog (TIof Try.prog) 74 0 (kret [.t 2] (decI .i64)) (.loop (scOf qgp)) (q0z) :=
  qd9 tabOk follows (qbb9) (qo (by kernel_rfl)) fun t m K => qbea _ K FU _
def qbj3 : Shp := ⟨[(0, .one (.l (.sl 8)))], []⟩
def qyu (v0 : List AV) : Option Int :=
  (bif (decide ((v0.length : Int) > (512 : Int))) then (some (9 : Int)) else (qn9 v0 (fun (_ : Unit) => (some (0 : Int))) FU (0 : Int)))
def qp2 := hull qyu
theorem q6w : qp2 = qyu := qk _
def qyv : AC Int :=
  .seq (.reg [ao 2 (.mv (.c (.int .i64 0)))]) (.seq (.seq (.reg [ao 5 (.mv 0),
 ao 6 (.len false 5),
 ao 7 (.bin .gtr 6 (.c (.int .i64 512)))]) (.cond 7 (.seq (.reg [ao 2 (.mv (.c (.int .i64 9)))]) (.ret)) (.skip))) (.seq (.seq (.reg [ao 3 (.mv (.c (.int .i64 0)))]) (.block 0 (.seq (.view [.sel [0, 3] []]) (.sub (.loop (scOf qgp)) q0z)))) (.seq (.reg [ao 2 (.mv (.c (.int .i64 0)))]) (.ret))))
theorem qbn7 : AC.ok Try.prog (TIof Try.prog) 74 0 (kret [.t 2] (decI .i64)) qyv := qm (zA qbeb trivial)
theorem qbqz (v0 : List AV) : den 0 (kret [.t 2] (decI .i64)) qyv (qi [(0, (.sl 8 v0))]) (qh []) (kend (kret [.t 2] (decI .i64))) = qp2 v0 := by
  rw [q6w]; kernel_rfl
theorem qbq0 : cFn (TIof Try.prog) Try.f12 = some ⟨74, [.t 2], scOf qyv⟩ := by kernel_rfl
def qbq1 (xs : List AV) : Option Int := qp2 (gL [(qj xs) 0] 0)
def q4z {R : Type} : List AV → (AV → Option R) → Option R := entF qbj3 qbq1 (AV.int .i64)
theorem qbq2 {R : Type} : qd Try.prog 12 (q4z (R := R)) :=
  qt tabOk follows Try.func12 (by kernel_rfl) qbq0 hdeI qbn7 (qo (by kernel_rfl)) fun xs => qbqz _
def qfv (z : AV) : Option (AV × Bool) := cond (qfn [(.st [.b, (.i .u64), (.i .u64), (.i .i64), (.i .i64), .s, .s, (.i .i64)]), (.one .b)] z) (some ((gC (tpL z) 0), aB (gC (tpL z) 1))) none
def qbn8 (r : AV × Bool) : AV := .tup [qh4 (.st [.b, (.i .u64), (.i .u64), (.i .i64), (.i .i64), .s, .s, (.i .i64)]) r.1, .bool r.2]
def qms  (Aq : Bool) (Ar As At A2 : Int) (A3 A4 : List UInt8) (A5 : Int) (K : Ex → Env → Mem → Option (AV × Bool)) := (fun (_ : Unit) => K (.exit 0) (qi [(4, (.ptr 0 0))]) (qh [(some (.box true (qp Aq Ar As At A2 A3 A4 A5)))]))
def qbec : Shp := ⟨[(0, .one (.l (.sl 8))), (3, .one (.ptr 0 0)), (4, .one (.ptr 1 0)), (6, .one (.l (.i .i64)))], [.box true (lk qc), .box true (lk qe)]⟩
def qsx (v0 : List AV) (v6 : Int) (Aa : Bool) (Ab Ac Ad : Int) (Aq : Bool) (Ar As At A2 : Int) (A3 A4 : List UInt8) (A5 : Int) : Env := qi [(0, (.sl 8 v0)), (3, (.ptr 0 0)), (4, (.ptr 1 0)), (6, (.int .i64 v6))]
def qsy (v0 : List AV) (v6 : Int) (Aa : Bool) (Ab Ac Ad : Int) (Aq : Bool) (Ar As At A2 : Int) (A3 A4 : List UInt8) (A5 : Int) : Mem := qh [(some (.box true (qa Aa Ab Ac Ad))), (some (.box true (qp Aq Ar As At A2 A3 A4 A5)))]
def qhp  (v0 : List AV) (v6 : Int) (Aa : Bool) (Ab Ac Ad : Int) (Aq : Bool) (Ar As At A2 : Int) (A3 A4 : List UInt8) (A5 : Int) (next : Int → Option (AV × Bool)) (kx0 : Unit → Option (AV × Bool)) : Option (AV × Bool) :=
  (bif (decide (v6 < (v0.length : Int))) then (oB (ixB v0 v6) fun y1 => (bif fitC qe y1.cells then (bif (((gB y1.cells 0) == Aa) && (((gI y1.cells 1) == Ab) && (((gI y1.cells 2) == Ac) && (((gI y1.cells 3) == Ad) && true)))) then (oB (ixB v0 v6) fun y2 => (bif fitC qe y2.cells then (some ((.agg [(.bool (gB y2.cells 0)), (.int .u64 (gI y2.cells 1)), (.int .u64 (gI y2.cells 2)), (.int .i64 (gI y2.cells 3)), (.int .i64 (gI y2.cells 4)), (.str (gS y2.cells 5)), (.str (gS y2.cells 6)), (.int .i64 (gI y2.cells 7))]), true)) else none)) else (next (IntKind.i64.wrap (v6 + (1 : Int))))) else none)) else (kx0 ()))
def qoa  (v0 : List AV) (Aa : Bool) (Ab Ac Ad : Int) (Aq : Bool) (Ar As At A2 : Int) (A3 A4 : List UInt8) (A5 : Int) (kx0 : Unit → Option (AV × Bool)) : Nat → Int → Option (AV × Bool)
  | 0 => (fun _ => none)
  | n + 1 => (fun v6 => qhp v0 v6 Aa Ab Ac Ad Aq Ar As At A2 A3 A4 A5 (qoa v0 Aa Ab Ac Ad Aq Ar As At A2 A3 A4 A5 kx0 n) kx0)
def qne := hull (qoa)
theorem q2k : qne = qoa := qk _
def qhq : AC (AV × Bool) :=
  .seq (.seq (.reg [ao 7 (.mv 6),
 ao 8 (.mv 0),
 ao 9 (.len false 8),
 ao 10 (.bin .lss 7 9)]) (.cond 10 (.skip) (.seq (.view [.sel [4] [1]]) (.exit 0)))) (.seq (.block 1 (.seq (.draw [] [ao 13 (.mv 0),
 ao 14 (.mv 6),
 ao 15 (.ia 8 13 14),
 .et 15 qe,
 ao 16 (.fa 0 15),
 ao 17 (.load true 4 16),
 ao 18 (.load true 4 3)] [ao 19 (.eq false true [.b, (.i .u64), (.i .u64), (.i .i64)] 17 18)]) (.cond 19 (.seq (.reg [ao 20 (.mv 0),
 ao 21 (.mv 6),
 ao 22 (.ia 8 20 21),
 .st (.etac 22 qe),
 ao 23 (.load true 8 22),
 an (.store 8 4 23),
 ao 5 (.mv (.c (.bool true)))]) (.ret)) (.skip)))) (.seq (.reg [ao 11 (.mv 6),
 ao 12 (.bin .add 11 (.c (.int .i64 1))),
 ao 6 (.mv 12)]) (.view [.sel [0, 3, 4, 6] [0, 1]])))
theorem qbho : AC.ok Try.prog (TIof Try.prog) 25 0 (kret [(.cell 4 true 8), .t 5] qfv) qhq := qm (zA rfl trivial)
theorem qbed (v0 : List AV) (v6 : Int) (Aa : Bool) (Ab Ac Ad : Int) (Aq : Bool) (Ar As At A2 : Int) (A3 A4 : List UInt8) (A5 : Int) (K : Ex → Env → Mem → Option (AV × Bool)) : den 0 (kret [(.cell 4 true 8), .t 5] qfv) qhq (qsx v0 v6 Aa Ab Ac Ad Aq Ar As At A2 A3 A4 A5) (qsy v0 v6 Aa Ab Ac Ad Aq Ar As At A2 A3 A4 A5) K = qhp v0 v6 Aa Ab Ac Ad Aq Ar As At A2 A3 A4 A5 (fun z_v6 => K .norm (qsx v0 z_v6 Aa Ab Ac Ad Aq Ar As At A2 A3 A4 A5) (qsy v0 z_v6 Aa Ab Ac Ad Aq Ar As At A2 A3 A4 A5)) (qms Aq Ar As At A2 A3 A4 A5 K) := by kernel_rfl
theorem qbj4 (v0 : List AV) (Aa : Bool) (Ab Ac Ad : Int) (Aq : Bool) (Ar As At A2 : Int) (A3 A4 : List UInt8) (A5 : Int) (K : Ex → Env → Mem → Option (AV × Bool)) : ∀ (n : Nat) (v6 : Int), qe2 (den 0 (kret [(.cell 4 true 8), .t 5] qfv) qhq) n (qsx v0 v6 Aa Ab Ac Ad Aq Ar As At A2 A3 A4 A5) (qsy v0 v6 Aa Ab Ac Ad Aq Ar As At A2 A3 A4 A5) K = qne v0 Aa Ab Ac Ad Aq Ar As At A2 A3 A4 A5 (qms Aq Ar As At A2 A3 A4 A5 K) n v6 := by
  rw [q2k]
  intro n
  induction n with
  | zero => intros; rfl
  | succ n ih =>
 intro v6
 exact (qbed v0 v6 Aa Ab Ac Ad Aq Ar As At A2 A3 A4 A5 (itK (den 0 (kret [(.cell 4 true 8), .t 5] qfv) qhq) n K)).trans (congrArg (fun q => qhp v0 v6 Aa Ab Ac Ad Aq Ar As At A2 A3 A4 A5 q (qms Aq Ar As At A2 A3 A4 A5 K)) (funext fun v6 => ih v6))
def q40 := subE (R := AV × Bool) qbec fun t m K => qr (bxC (m.s 1)) (qb (bxC (m.s 0)) (qne (gL [t 0] 0))) (qms (gB (bxC (m.s 1)) 0) (gI (bxC (m.s 1)) 1) (gI (bxC (m.s 1)) 2) (gI (bxC (m.s 1)) 3) (gI (bxC (m.s 1)) 4) (gS (bxC (m.s 1)) 5) (gS (bxC (m.s 1)) 6) (gI (bxC (m.s 1)) 7) K) FU (gI [t 6] 0)
theorem qbj5 : qby Try.prog (TIof Try.prog) 25 0 (kret [(.cell 4 true 8), .t 5] qfv) (.loop (scOf qhq)) (q40) :=
  qd9 tabOk follows (qbho) (qo (by kernel_rfl)) fun t m K => qbj4 _ _ _ _ _ _ _ _ _ _ _ _ _ K FU _
def qbn9 : Shp := ⟨[(0, .one (.l (.sl 8))), (1, .st (lk qc))], []⟩
def q00 (v0 : List AV) (Am : Bool) (An Ao Ap : Int) : Option (AV × Bool) :=
  (qne v0 Am An Ao Ap false (0 : Int) (0 : Int) (0 : Int) (0 : Int) ([] : List UInt8) ([] : List UInt8) (0 : Int) (fun (_ : Unit) => (some ((.agg [(.bool false), (.int .u64 (0 : Int)), (.int .u64 (0 : Int)), (.int .i64 (0 : Int)), (.int .i64 (0 : Int)), (.str ([] : List UInt8)), (.str ([] : List UInt8)), (.int .i64 (0 : Int))]), false))) FU (0 : Int))
def qje := hull q00
theorem q8c : qje = q00 := qk _
def q01 : AC (AV × Bool) :=
  .seq (.reg [ao 3 (.box 1),
 ao 4 (.alloc [(.bool false), (.int .u64 0), (.int .u64 0), (.int .i64 0), (.int .i64 0), (.str []), (.str []), (.int .i64 0)]),
 ao 5 (.mv (.c (.bool false)))]) (.seq (.seq (.reg [ao 6 (.mv (.c (.int .i64 0)))]) (.block 0 (.seq (.view [.sel [0, 3, 4, 6] [0, 1]]) (.sub (.loop (scOf qhq)) q40)))) (.seq (.reg [ao 24 (.build [(.bool false), (.int .u64 0), (.int .u64 0), (.int .i64 0), (.int .i64 0), (.str []), (.str []), (.int .i64 0)] []),
 an (.store 8 4 24),
 ao 5 (.mv (.c (.bool false)))]) (.ret)))
theorem qbq3 : AC.ok Try.prog (TIof Try.prog) 25 0 (kret [(.cell 4 true 8), .t 5] qfv) q01 := qm (zA qbj5 trivial)
theorem qbs4 (v0 : List AV) (Am : Bool) (An Ao Ap : Int) : den 0 (kret [(.cell 4 true 8), .t 5] qfv) q01 (qi [(0, (.sl 8 v0)), (1, .agg (qa Am An Ao Ap))]) (qh []) (kend (kret [(.cell 4 true 8), .t 5] qfv)) = qje v0 Am An Ao Ap := by
  rw [q8c]; kernel_rfl
theorem qbs5 : cFn (TIof Try.prog) Try.f37 = some ⟨25, [(.cell 4 true 8), .t 5], scOf q01⟩ := by kernel_rfl
def qbs6 (xs : List AV) : Option (AV × Bool) := qb ((qj xs) 1).cells (qje (gL [(qj xs) 0] 0))
def qmd {R : Type} : List AV → (AV → Option R) → Option R := entF qbn9 qbs6 qbn8
theorem qt3 {R : Type} : qd Try.prog 37 (qmd (R := R)) :=
  qt tabOk follows Try.func37 (by kernel_rfl) qbs5 (fun z r h => by
 obtain ⟨h1, h2⟩ := qq h
 cases h2
 exact (qc9 h1).symm) qbq3 (qo (by kernel_rfl)) fun xs => qbs4 _ _ _ _ _
def qbhp : Shp := ⟨[(0, .st (lk qc))], []⟩
def qwq (Ae : Bool) (Af Ag Ah : Int) : Option Int :=
  (bif Ae then (some (128 : Int)) else (some (32 : Int)))
def qob := hull qwq
theorem q41 : qob = qwq := qk _
def qwr : AC Int :=
  .seq (.reg [ao 1 (.box 0),
 ao 2 (.mv (.c (.int .i64 0)))]) (.seq (.seq (.reg [ao 3 (.fa 0 1),
 ao 4 (.fa 0 3),
 ao 5 (.load false 1 4)]) (.cond 5 (.seq (.reg [ao 2 (.mv (.c (.int .i64 128)))]) (.ret)) (.skip))) (.seq (.reg [ao 2 (.mv (.c (.int .i64 32)))]) (.ret)))
theorem qbj6 : AC.ok Try.prog (TIof Try.prog) 6 0 (kret [.t 2] (decI .i64)) qwr := qm trivial
theorem qboa (Ae : Bool) (Af Ag Ah : Int) : den 0 (kret [.t 2] (decI .i64)) qwr (qi [(0, .agg (qa Ae Af Ag Ah))]) (qh []) (kend (kret [.t 2] (decI .i64))) = qob Ae Af Ag Ah := by
  rw [q41]; kernel_rfl
theorem qbob : cFn (TIof Try.prog) Try.f41 = some ⟨6, [.t 2], scOf qwr⟩ := by kernel_rfl
def qboc (xs : List AV) : Option Int := qb ((qj xs) 0).cells (qob)
def q2l {R : Type} : List AV → (AV → Option R) → Option R := entF qbhp qboc (AV.int .i64)
theorem qbod {R : Type} : qd Try.prog 41 (q2l (R := R)) :=
  qt tabOk follows Try.func41 (by kernel_rfl) qbob hdeI qbj6 (qo (by kernel_rfl)) fun xs => qboa _ _ _ _
def qbs7 : Shp := ⟨[(0, .st (lk qc)), (1, .st (lk qc))], []⟩
def q55 (Ae : Bool) (Af Ag Ah : Int) (Am : Bool) (An Ao Ap : Int) : Option Bool :=
  (bif (decide (Ah > Ap)) then (oB (qjd Ae Af Ag Ah Am An Ao Ap) fun r1 => (some r1)) else (some false))
def qo5 := hull q55
theorem qbca : qo5 = q55 := qk _
def q56 : AC Bool :=
  .seq (.reg [ao 2 (.box 0),
 ao 3 (.box 1),
 ao 4 (.mv (.c (.bool false)))]) (.seq (.reg [ao 5 (.fa 3 2),
 ao 6 (.load false 1 5),
 ao 7 (.fa 3 3),
 ao 8 (.load false 1 7),
 ao 9 (.bin .gtr 6 8),
 ao 10 (.mv 9),
 ag 11 10 true (.load true 4 2),
 ag 12 10 true (.load true 4 3),
 .call (pg 13 10 true (.call 23 [11, 12])) 23 qmb,
 ao 14 (.pick 10 13 (.c (.bool false))),
 ao 4 (.mv 14)]) (.ret))
theorem qbvm : AC.ok Try.prog (TIof Try.prog) 15 0 (kret [.t 4] decB) q56 := qm (zA (qd.ok qt1) trivial)
theorem qbyi (Ae : Bool) (Af Ag Ah : Int) (Am : Bool) (An Ao Ap : Int) : den 0 (kret [.t 4] decB) q56 (qi [(0, .agg (qa Ae Af Ag Ah)), (1, .agg (qa Am An Ao Ap))]) (qh []) (kend (kret [.t 4] decB)) = qo5 Ae Af Ag Ah Am An Ao Ap := by
  rw [qbca]; kernel_rfl
theorem qbyj : cFn (TIof Try.prog) Try.f83 = some ⟨15, [.t 4], scOf q56⟩ := by kernel_rfl
def qbyk (xs : List AV) : Option Bool := qb ((qj xs) 1).cells (qb ((qj xs) 0).cells (qo5))
def qt4 {R : Type} : List AV → (AV → Option R) → Option R := entF qbs7 qbyk AV.bool
theorem q57 {R : Type} : qd Try.prog 83 (qt4 (R := R)) :=
  qt tabOk follows Try.func83 (by kernel_rfl) qbyj hdeB qbvm (qo (by kernel_rfl)) fun xs => qbyi _ _ _ _ _ _ _ _
def qbj7 : Shp := ⟨[(0, .st (lk qc)), (1, .st (lk qc))], []⟩
def qyw (Ae : Bool) (Af Ag Ah : Int) (Am : Bool) (An Ao Ap : Int) : Option Bool :=
  (oB (qjd Ae Af Ag Ah Am An Ao Ap) fun r1 => (bif r1 then (some true) else (oB (qjd Am An Ao Ap Ae Af Ag Ah) fun r2 => (some r2))))
def qp3 := hull qyw
theorem q6x : qp3 = qyw := qk _
def qyx : AC Bool :=
  .seq (.reg [ao 2 (.box 0),
 ao 3 (.box 1),
 ao 4 (.mv (.c (.bool false)))]) (.seq (.reg [ao 5 (.load true 4 2),
 ao 6 (.load true 4 3),
 .call (po 7 (.call 23 [5, 6])) 23 qmb,
 ao 8 (.mv 7),
 ag 9 8 false (.load true 4 3),
 ag 10 8 false (.load true 4 2),
 .call (pg 11 8 false (.call 23 [9, 10])) 23 qmb,
 ao 12 (.pick 8 (.c (.bool true)) 11),
 ao 4 (.mv 12)]) (.ret))
theorem qboe : AC.ok Try.prog (TIof Try.prog) 13 0 (kret [.t 4] decB) qyx := qm (zA (qd.ok qt1) (zA (qd.ok qt1) trivial))
theorem qbq4 (Ae : Bool) (Af Ag Ah : Int) (Am : Bool) (An Ao Ap : Int) : den 0 (kret [.t 4] decB) qyx (qi [(0, .agg (qa Ae Af Ag Ah)), (1, .agg (qa Am An Ao Ap))]) (qh []) (kend (kret [.t 4] decB)) = qp3 Ae Af Ag Ah Am An Ao Ap := by
  rw [q6x]; kernel_rfl
theorem qbq5 : cFn (TIof Try.prog) Try.f24 = some ⟨13, [.t 4], scOf qyx⟩ := by kernel_rfl
def qbq6 (xs : List AV) : Option Bool := qb ((qj xs) 1).cells (qb ((qj xs) 0).cells (qp3))
def q42 {R : Type} : List AV → (AV → Option R) → Option R := entF qbj7 qbq6 AV.bool
theorem qbq7 {R : Type} : qd Try.prog 24 (q42 (R := R)) :=
  qt tabOk follows Try.func24 (by kernel_rfl) qbq5 hdeB qboe (qo (by kernel_rfl)) fun xs => qbq4 _ _ _ _ _ _ _ _
def qdh (z : AV) : Option (AV × Bool) := cond (qfn [(.st [.b, (.i .u64), (.i .u64), (.i .i64)]), (.one .b)] z) (some ((gC (tpL z) 0), aB (gC (tpL z) 1))) none
def qbs8 (r : AV × Bool) : AV := .tup [qh4 (.st [.b, (.i .u64), (.i .u64), (.i .i64)]) r.1, .bool r.2]
def q6y  (v1 v2 : Int) (Aa : Bool) (Ab Ac Ad : Int) (Aq : Bool) (Ar As At : Int) (K : Ex → Env → Mem → Option (AV × Bool)) := (fun z_v28 => K .norm (qi [(1, (.int .i64 v1)), (2, (.int .u64 v2)), (3, (.ptr 0 0)), (6, (.ptr 1 0)), (28, (.bool z_v28))]) (qh [(some (.box true (qa Aa Ab Ac Ad))), (some (.box true (qa Aq Ar As At)))]))
def qbj8 : Shp := ⟨[(1, .one (.l (.i .i64))), (2, .one (.l (.i .u64))), (3, .one (.ptr 0 0)), (6, .one (.ptr 1 0))], [.box true (lk qc), .box true (lk qc)]⟩
def qyy  (v1 v2 : Int) (Aa : Bool) (Ab Ac Ad : Int) (Aq : Bool) (Ar As At : Int) (kn : Bool → Option (AV × Bool)) : Option (AV × Bool) :=
  (oB (qhh Aa Ab Ac Ad) fun r1 => (bif ((!r1) || (decide (v1 < Ad))) then (kn true) else (oB (qjc Aa Ab Ac) fun r2 => (kn (decide (v1 > r2))))))
def qp4 := hull (qyy)
theorem q6z : qp4 = qyy := qk _
def qqz : AC (AV × Bool) :=
  .seq (.reg [ao 13 (.load true 4 3),
 .call (po 14 (.call 61 [13])) 61 qhl,
 ao 15 (.un .not 14),
 ao 16 (.mv 15),
 .grp 16 false [(pg 17 16 false (.mv 1)), (pg 18 16 false (.fa 3 3)), (pg 19 16 false (.load false 1 18)), (pg 20 16 false (.bin .lss 17 19))] 21 20,
 ao 22 (.mv 21),
 ag 23 22 false (.mv 1),
 ag 24 22 false (.fa 0 3),
 ag 25 22 false (.load true 3 24),
 .call (pg 26 22 false (.call 85 [25])) 85 qma,
 ag 27 22 false (.bin .gtr 23 26),
 ao 28 (.pick 22 (.c (.bool true)) 27)]) (.view [.sel [1, 2, 3, 6, 28] [0, 1]])
theorem qbof : AC.ok Try.prog (TIof Try.prog) 81 0 (kret [(.cell 6 true 4), .t 7] qdh) qqz := qm (zA (qd.ok qm4) (zA (qd.ok qtz) trivial))
theorem qbq8 (v1 v2 : Int) (Aa : Bool) (Ab Ac Ad : Int) (Aq : Bool) (Ar As At : Int) (K : Ex → Env → Mem → Option (AV × Bool)) : den 0 (kret [(.cell 6 true 4), .t 7] qdh) qqz (qi [(1, (.int .i64 v1)), (2, (.int .u64 v2)), (3, (.ptr 0 0)), (6, (.ptr 1 0))]) (qh [(some (.box true (qa Aa Ab Ac Ad))), (some (.box true (qa Aq Ar As At)))]) K = qp4 v1 v2 Aa Ab Ac Ad Aq Ar As At (q6y v1 v2 Aa Ab Ac Ad Aq Ar As At K) := by
  rw [q6z]; kernel_rfl
def q8d := subE (R := AV × Bool) qbj8 fun t m K => qb (bxC (m.s 1)) (qb (bxC (m.s 0)) (qp4 (gI [t 1] 0) (gI [t 2] 0))) (q6y (gI [t 1] 0) (gI [t 2] 0) (gB (bxC (m.s 0)) 0) (gI (bxC (m.s 0)) 1) (gI (bxC (m.s 0)) 2) (gI (bxC (m.s 0)) 3) (gB (bxC (m.s 1)) 0) (gI (bxC (m.s 1)) 1) (gI (bxC (m.s 1)) 2) (gI (bxC (m.s 1)) 3) K)
theorem qbq9 : qby Try.prog (TIof Try.prog) 81 0 (kret [(.cell 6 true 4), .t 7] qdh) (scOf qqz) (q8d) :=
  qex tabOk follows (qbof) (qo (by kernel_rfl)) fun t m K => qbq8 _ _ _ _ _ _ _ _ _ _ K
def q43  (v1 v2 : Int) (Aa : Bool) (Ab Ac Ad : Int) (Aq : Bool) (Ar As At : Int) (K : Ex → Env → Mem → Option (AV × Bool)) := (fun z_v42 => K .norm (qi [(1, (.int .i64 v1)), (2, (.int .u64 v2)), (3, (.ptr 0 0)), (6, (.ptr 1 0)), (42, (.bool z_v42))]) (qh [(some (.box true (qa Aa Ab Ac Ad))), (some (.box true (qa Aq Ar As At)))]))
def qbhq : Shp := ⟨[(1, .one (.l (.i .i64))), (2, .one (.l (.i .u64))), (3, .one (.ptr 0 0)), (6, .one (.ptr 1 0)), (8, .one (.l (.i .i64)))], [.box true (lk qc), .box true (lk qc)]⟩
def qph  (v1 v2 v8 : Int) (Aa : Bool) (Ab Ac Ad : Int) (Aq : Bool) (Ar As At : Int) (kn : Bool → Option (AV × Bool)) : Option (AV × Bool) :=
  (bif (decide (v8 < (64 : Int))) then (bif decide ((IntKind.u64.wrap v8) < 0) then none else (kn ((v2.fdiv (2 ^ min (IntKind.u64.wrap v8).toNat IntKind.u64.bits)) != (0 : Int)))) else (kn false))
def qt5 := hull (qph)
theorem quq : qt5 = qph := qk _
def qpi : AC (AV × Bool) :=
  .seq (.reg [ao 34 (.mv 8),
 ao 35 (.bin .lss 34 (.c (.int .i64 64))),
 ao 36 (.mv 35),
 ag 37 36 true (.mv 2),
 ag 38 36 true (.mv 8),
 ag 39 36 true (.conv (.int .u64) 38),
 ag 40 36 true (.bin .shr 37 39),
 ag 41 36 true (.bin .neq 40 (.c (.int .u64 0))),
 ao 42 (.pick 36 41 (.c (.bool false)))]) (.view [.sel [1, 2, 3, 6, 42] [0, 1]])
theorem qbj9 : AC.ok Try.prog (TIof Try.prog) 81 0 (kret [(.cell 6 true 4), .t 7] qdh) qpi := qm trivial
theorem qbog (v1 v2 v8 : Int) (Aa : Bool) (Ab Ac Ad : Int) (Aq : Bool) (Ar As At : Int) (K : Ex → Env → Mem → Option (AV × Bool)) : den 0 (kret [(.cell 6 true 4), .t 7] qdh) qpi (qi [(1, (.int .i64 v1)), (2, (.int .u64 v2)), (3, (.ptr 0 0)), (6, (.ptr 1 0)), (8, (.int .i64 v8))]) (qh [(some (.box true (qa Aa Ab Ac Ad))), (some (.box true (qa Aq Ar As At)))]) K = qt5 v1 v2 v8 Aa Ab Ac Ad Aq Ar As At (q43 v1 v2 Aa Ab Ac Ad Aq Ar As At K) := by
  rw [quq]; kernel_rfl
def q60 := subE (R := AV × Bool) qbhq fun t m K => qb (bxC (m.s 1)) (qb (bxC (m.s 0)) (qt5 (gI [t 1] 0) (gI [t 2] 0) (gI [t 8] 0))) (q43 (gI [t 1] 0) (gI [t 2] 0) (gB (bxC (m.s 0)) 0) (gI (bxC (m.s 0)) 1) (gI (bxC (m.s 0)) 2) (gI (bxC (m.s 0)) 3) (gB (bxC (m.s 1)) 0) (gI (bxC (m.s 1)) 1) (gI (bxC (m.s 1)) 2) (gI (bxC (m.s 1)) 3) K)
theorem qboh : qby Try.prog (TIof Try.prog) 81 0 (kret [(.cell 6 true 4), .t 7] qdh) (scOf qpi) (q60) :=
  qex tabOk follows (qbj9) (qo (by kernel_rfl)) fun t m K => qbog _ _ _ _ _ _ _ _ _ _ _ K
def q44  (v1 : Int) (Aa : Bool) (Ab Ac Ad : Int) (Aq : Bool) (Ar As At : Int) (K : Ex → Env → Mem → Option (AV × Bool)) := (fun z_v10 z_v11 => K .norm (qi [(1, (.int .i64 v1)), (3, (.ptr 0 0)), (6, (.ptr 1 0)), (10, (.int .u64 z_v10)), (11, (.int .u64 z_v11))]) (qh [(some (.box true (qa Aa Ab Ac Ad))), (some (.box true (qa Aq Ar As At)))]))
def qbhr : Shp := ⟨[(1, .one (.l (.i .i64))), (2, .one (.l (.i .u64))), (3, .one (.ptr 0 0)), (6, .one (.ptr 1 0)), (9, .one (.l (.i .u64))), (10, .one (.l (.i .u64))), (11, .one (.l (.i .u64)))], [.box true (lk qc), .box true (lk qc)]⟩
def qpj  (v1 v2 v9 v10 v11 : Int) (Aa : Bool) (Ab Ac Ad : Int) (Aq : Bool) (Ar As At : Int) (kn : Int → Int → Option (AV × Bool)) : Option (AV × Bool) :=
  (bif (decide (v9 ≥ (64 : Int))) then (bif decide ((IntKind.u64.wrap (v9 - (64 : Int))) < 0) then none else (kn (IntKind.u64.wrap (v2 * 2 ^ min (IntKind.u64.wrap (v9 - (64 : Int))).toNat IntKind.u64.bits)) (0 : Int))) else (bif (decide (v9 > (0 : Int))) then (bif decide ((IntKind.u64.wrap ((64 : Int) - v9)) < 0) then none else (bif decide (v9 < 0) then none else (kn (v2.fdiv (2 ^ min (IntKind.u64.wrap ((64 : Int) - v9)).toNat IntKind.u64.bits)) (IntKind.u64.wrap (v2 * 2 ^ min v9.toNat IntKind.u64.bits))))) else (kn v10 v11)))
def qij := hull (qpj)
theorem qur : qij = qpj := qk _
def qpk : AC (AV × Bool) :=
  .seq (.reg [ao 51 (.mv 9),
 ao 52 (.bin .geq 51 (.c (.int .u64 64)))]) (.cond 52 (.seq (.reg [ao 53 (.mv 2),
 ao 54 (.mv 9),
 ao 55 (.bin .sub 54 (.c (.int .u64 64))),
 ao 56 (.bin .shl 53 55),
 ao 10 (.mv 56),
 ao 11 (.mv (.c (.int .u64 0)))]) (.view [.sel [1, 3, 6, 10, 11] [0, 1]])) (.seq (.reg [ao 57 (.mv 9),
 ao 58 (.bin .gtr 57 (.c (.int .u64 0)))]) (.cond 58 (.seq (.reg [ao 59 (.mv 2),
 ao 60 (.mv 9),
 ao 61 (.bin .sub (.c (.int .u64 64)) 60),
 ao 62 (.bin .shr 59 61),
 ao 63 (.mv 2),
 ao 64 (.mv 9),
 ao 65 (.bin .shl 63 64),
 ao 10 (.mv 62),
 ao 11 (.mv 65)]) (.view [.sel [1, 3, 6, 10, 11] [0, 1]])) (.seq (.skip) (.view [.sel [1, 3, 6, 10, 11] [0, 1]])))))
theorem qbka : AC.ok Try.prog (TIof Try.prog) 81 0 (kret [(.cell 6 true 4), .t 7] qdh) qpk := qm trivial
theorem qboi (v1 v2 v9 v10 v11 : Int) (Aa : Bool) (Ab Ac Ad : Int) (Aq : Bool) (Ar As At : Int) (K : Ex → Env → Mem → Option (AV × Bool)) : den 0 (kret [(.cell 6 true 4), .t 7] qdh) qpk (qi [(1, (.int .i64 v1)), (2, (.int .u64 v2)), (3, (.ptr 0 0)), (6, (.ptr 1 0)), (9, (.int .u64 v9)), (10, (.int .u64 v10)), (11, (.int .u64 v11))]) (qh [(some (.box true (qa Aa Ab Ac Ad))), (some (.box true (qa Aq Ar As At)))]) K = qij v1 v2 v9 v10 v11 Aa Ab Ac Ad Aq Ar As At (q44 v1 Aa Ab Ac Ad Aq Ar As At K) := by
  rw [qur]; kernel_rfl
def q61 := subE (R := AV × Bool) qbhr fun t m K => qb (bxC (m.s 1)) (qb (bxC (m.s 0)) (qij (gI [t 1] 0) (gI [t 2] 0) (gI [t 9] 0) (gI [t 10] 0) (gI [t 11] 0))) (q44 (gI [t 1] 0) (gB (bxC (m.s 0)) 0) (gI (bxC (m.s 0)) 1) (gI (bxC (m.s 0)) 2) (gI (bxC (m.s 0)) 3) (gB (bxC (m.s 1)) 0) (gI (bxC (m.s 1)) 1) (gI (bxC (m.s 1)) 2) (gI (bxC (m.s 1)) 3) K)
theorem qboj : qby Try.prog (TIof Try.prog) 81 0 (kret [(.cell 6 true 4), .t 7] qdh) (scOf qpk) (q61) :=
  qex tabOk follows (qbka) (qo (by kernel_rfl)) fun t m K => qboi _ _ _ _ _ _ _ _ _ _ _ _ _ K
def qbs9 : Shp := ⟨[(0, .st (lk qc)), (1, .one (.l (.i .i64))), (2, .one (.l (.i .u64)))], []⟩
def qx8 (Ae : Bool) (Af Ag Ah v1 v2 : Int) : Option (AV × Bool) :=
  (qp4 v1 v2 Ae Af Ag Ah false (0 : Int) (0 : Int) (0 : Int) (fun v28q1 => (bif v28q1 then (some ((.agg [(.bool false), (.int .u64 (0 : Int)), (.int .u64 (0 : Int)), (.int .i64 (0 : Int))]), false)) else (qt5 v1 v2 (IntKind.i64.wrap (v1 - Ah)) Ae Af Ag Ah false (0 : Int) (0 : Int) (0 : Int) (fun v42q2 => (bif v42q2 then (some ((.agg [(.bool false), (.int .u64 (0 : Int)), (.int .u64 (0 : Int)), (.int .i64 (0 : Int))]), false)) else (oB (qjc Ae Af Ag) fun r3 => (qij v1 v2 (IntKind.u64.wrap (IntKind.i64.wrap (r3 - v1))) (0 : Int) v2 Ae Af Ag Ah false (0 : Int) (0 : Int) (0 : Int) (fun v10q4 v11q5 => (some ((.agg [(.bool Ae), (.int .u64 (qbx .or .u64 Af v10q4)), (.int .u64 (qbx .or .u64 Ag v11q5)), (.int .i64 v1)]), true)))))))))))
def qem := hull qx8
theorem q3m : qem = qx8 := qk _
def q58 : AC (AV × Bool) :=
  .seq (.reg [ao 3 (.box 0),
 ao 6 (.alloc [(.bool false), (.int .u64 0), (.int .u64 0), (.int .i64 0)]),
 ao 7 (.mv (.c (.bool false)))]) (.seq (.seq (.seq (.view [.sel [1, 2, 3, 6] [0, 1]]) (.sub (scOf qqz) q8d)) (.cond 28 (.seq (.reg [ao 29 (.build [(.bool false), (.int .u64 0), (.int .u64 0), (.int .i64 0)] []),
 an (.store 4 6 29),
 ao 7 (.mv (.c (.bool false)))]) (.ret)) (.skip))) (.seq (.seq (.reg [ao 30 (.mv 1),
 ao 31 (.fa 3 3),
 ao 32 (.load false 1 31),
 ao 33 (.bin .sub 30 32),
 ao 8 (.mv 33)]) (.seq (.seq (.view [.sel [1, 2, 3, 6, 8] [0, 1]]) (.sub (scOf qpi) q60)) (.cond 42 (.seq (.reg [ao 43 (.build [(.bool false), (.int .u64 0), (.int .u64 0), (.int .i64 0)] []),
 an (.store 4 6 43),
 ao 7 (.mv (.c (.bool false)))]) (.ret)) (.skip)))) (.seq (.reg [ao 44 (.fa 0 3),
 ao 45 (.load true 3 44),
 .call (po 46 (.call 85 [45])) 85 qma,
 ao 47 (.mv 1),
 ao 48 (.bin .sub 46 47),
 ao 49 (.conv (.int .u64) 48),
 ao 9 (.mv 49)]) (.seq (.reg [ao 50 (.mv 2),
 ao 10 (.mv (.c (.int .u64 0))),
 ao 11 (.mv 50)]) (.seq (.seq (.view [.sel [1, 2, 3, 6, 9, 10, 11] [0, 1]]) (.sub (scOf qpk) q61)) (.seq (.reg [ao 66 (.fa 0 3),
 ao 67 (.load true 3 66),
 ao 12 (.alloc [(.bool false), (.int .u64 0), (.int .u64 0)]),
 an (.store 3 12 67)]) (.seq (.reg [ao 68 (.fa 1 12),
 ao 69 (.load false 1 68),
 ao 70 (.mv 10),
 ao 71 (.bin .or 69 70),
 ao 72 (.fa 1 12),
 an (.store 1 72 71)]) (.seq (.reg [ao 73 (.fa 2 12),
 ao 74 (.load false 1 73),
 ao 75 (.mv 11),
 ao 76 (.bin .or 74 75),
 ao 77 (.fa 2 12),
 an (.store 1 77 76)]) (.seq (.reg [ao 78 (.load true 3 12),
 ao 79 (.mv 1),
 ao 80 (.build [(.bool false), (.int .u64 0), (.int .u64 0), (.int .i64 0)] [(0, (3, 78)), (3, (1, 79))]),
 an (.store 4 6 80),
 ao 7 (.mv (.c (.bool true)))]) (.ret))))))))))
theorem qbvn : AC.ok Try.prog (TIof Try.prog) 81 0 (kret [(.cell 6 true 4), .t 7] qdh) q58 := qm (zA qbq9 (zA qboh (zA (qd.ok qtz) (zA qboj trivial))))
theorem qbyl (Ae : Bool) (Af Ag Ah v1 v2 : Int) : den 0 (kret [(.cell 6 true 4), .t 7] qdh) q58 (qi [(0, .agg (qa Ae Af Ag Ah)), (1, (.int .i64 v1)), (2, (.int .u64 v2))]) (qh []) (kend (kret [(.cell 6 true 4), .t 7] qdh)) = qem Ae Af Ag Ah v1 v2 := by
  rw [q3m]; kernel_rfl
theorem qbym : cFn (TIof Try.prog) Try.f48 = some ⟨81, [(.cell 6 true 4), .t 7], scOf q58⟩ := by kernel_rfl
def qbyn (xs : List AV) : Option (AV × Bool) := qb ((qj xs) 0).cells (qem) (gI [(qj xs) 1] 0) (gI [(qj xs) 2] 0)
def qt6 {R : Type} : List AV → (AV → Option R) → Option R := entF qbs9 qbyn qbs8
theorem q59 {R : Type} : qd Try.prog 48 (qt6 (R := R)) :=
  qt tabOk follows Try.func48 (by kernel_rfl) qbym (fun z r h => by
 obtain ⟨h1, h2⟩ := qq h
 cases h2
 exact (qc9 h1).symm) qbvn (qo (by kernel_rfl)) fun xs => qbyl _ _ _ _ _ _
def qiz (z : AV) : Option (AV × AV × Bool) := cond (qfn [(.st [.b, (.i .u64), (.i .u64), (.i .i64)]), (.st [.b, (.i .u64), (.i .u64), (.i .i64)]), (.one .b)] z) (some ((gC (tpL z) 0), (gC (tpL z) 1), aB (gC (tpL z) 2))) none
def qbok (r : AV × AV × Bool) : AV := .tup [qh4 (.st [.b, (.i .u64), (.i .u64), (.i .i64)]) r.1, qh4 (.st [.b, (.i .u64), (.i .u64), (.i .i64)]) r.2.1, .bool r.2.2]
def q2m  (Aa : Bool) (Ab Ac Ad : Int) (Aq : Bool) (Ar As At : Int) (A6 : Bool) (A7 A8 A9 : Int) (Ba : Bool) (Bb Bc Bd : Int) (K : Ex → Env → Mem → Option (AV × AV × Bool)) := (fun z_v22 => K .norm (qi [(1, (.ptr 0 0)), (2, (.ptr 1 0)), (3, (.ptr 2 0)), (5, (.ptr 3 0)), (22, (.bool z_v22))]) (qh [(some (.box true (qa Aa Ab Ac Ad))), (some (.box true (qa Aq Ar As At))), (some (.box true (qa A6 A7 A8 A9))), (some (.box true (qa Ba Bb Bc Bd)))]))
def qbee : Shp := ⟨[(1, .one (.ptr 0 0)), (2, .one (.ptr 1 0)), (3, .one (.ptr 2 0)), (5, .one (.ptr 3 0)), (6, .one (.l .b))], [.box true (lk qc), .box true (lk qc), .box true (lk qc), .box true (lk qc)]⟩
def qus  (v6 Aa : Bool) (Ab Ac Ad : Int) (Aq : Bool) (Ar As At : Int) (A6 : Bool) (A7 A8 A9 : Int) (Ba : Bool) (Bb Bc Bd : Int) (kn : Bool → Option (AV × AV × Bool)) : Option (AV × AV × Bool) :=
  (bif (!v6) then (kn true) else (oB (qhh Aa Ab Ac Ad) fun r1 => (kn (!r1))))
def qq0 := hull (qus)
theorem q2n : qq0 = qus := qk _
def qoc : AC (AV × AV × Bool) :=
  .seq (.reg [ao 16 (.mv 6),
 ao 17 (.un .not 16),
 ao 18 (.mv 17),
 ag 19 18 false (.load true 4 1),
 .call (pg 20 18 false (.call 61 [19])) 61 qhl,
 ag 21 18 false (.un .not 20),
 ao 22 (.pick 18 (.c (.bool true)) 21)]) (.view [.sel [1, 2, 3, 5, 22] [0, 1, 2, 3]])
theorem qbhs : AC.ok Try.prog (TIof Try.prog) 36 0 (kret [(.cell 2 true 4), (.cell 3 true 4), .t 4] qiz) qoc := qm (zA (qd.ok qm4) trivial)
theorem qbkb (v6 Aa : Bool) (Ab Ac Ad : Int) (Aq : Bool) (Ar As At : Int) (A6 : Bool) (A7 A8 A9 : Int) (Ba : Bool) (Bb Bc Bd : Int) (K : Ex → Env → Mem → Option (AV × AV × Bool)) : den 0 (kret [(.cell 2 true 4), (.cell 3 true 4), .t 4] qiz) qoc (qi [(1, (.ptr 0 0)), (2, (.ptr 1 0)), (3, (.ptr 2 0)), (5, (.ptr 3 0)), (6, (.bool v6))]) (qh [(some (.box true (qa Aa Ab Ac Ad))), (some (.box true (qa Aq Ar As At))), (some (.box true (qa A6 A7 A8 A9))), (some (.box true (qa Ba Bb Bc Bd)))]) K = qq0 v6 Aa Ab Ac Ad Aq Ar As At A6 A7 A8 A9 Ba Bb Bc Bd (q2m Aa Ab Ac Ad Aq Ar As At A6 A7 A8 A9 Ba Bb Bc Bd K) := by
  rw [q2n]; kernel_rfl
def q45 := subE (R := AV × AV × Bool) qbee fun t m K => qb (bxC (m.s 3)) (qb (bxC (m.s 2)) (qb (bxC (m.s 1)) (qb (bxC (m.s 0)) (qq0 (gB [t 6] 0))))) (q2m (gB (bxC (m.s 0)) 0) (gI (bxC (m.s 0)) 1) (gI (bxC (m.s 0)) 2) (gI (bxC (m.s 0)) 3) (gB (bxC (m.s 1)) 0) (gI (bxC (m.s 1)) 1) (gI (bxC (m.s 1)) 2) (gI (bxC (m.s 1)) 3) (gB (bxC (m.s 2)) 0) (gI (bxC (m.s 2)) 1) (gI (bxC (m.s 2)) 2) (gI (bxC (m.s 2)) 3) (gB (bxC (m.s 3)) 0) (gI (bxC (m.s 3)) 1) (gI (bxC (m.s 3)) 2) (gI (bxC (m.s 3)) 3) K)
theorem qbkc : qby Try.prog (TIof Try.prog) 36 0 (kret [(.cell 2 true 4), (.cell 3 true 4), .t 4] qiz) (scOf qoc) (q45) :=
  qex tabOk follows (qbhs) (qo (by kernel_rfl)) fun t m K => qbkb _ _ _ _ _ _ _ _ _ _ _ _ _ _ _ _ _ K
def qbol : Shp := ⟨[(0, .st (lk qc))], []⟩
def q02 (Ae : Bool) (Af Ag Ah : Int) : Option (AV × AV × Bool) :=
  (oB (qem Ae Af Ag Ah (IntKind.i64.wrap (Ah + (1 : Int))) (0 : Int)) fun r1 => (qq0 r1.2 Ae Af Ag Ah false (0 : Int) (0 : Int) (0 : Int) false (0 : Int) (0 : Int) (0 : Int) (gB r1.1.cells 0) (gI r1.1.cells 1) (gI r1.1.cells 2) (gI r1.1.cells 3) (fun v22q2 => (bif v22q2 then (some ((.agg [(.bool false), (.int .u64 (0 : Int)), (.int .u64 (0 : Int)), (.int .i64 (0 : Int))]), (.agg [(.bool false), (.int .u64 (0 : Int)), (.int .u64 (0 : Int)), (.int .i64 (0 : Int))]), false)) else (oB (qem Ae Af Ag Ah (IntKind.i64.wrap (Ah + (1 : Int))) (1 : Int)) fun r3 => (some ((.agg [(.bool (gB r1.1.cells 0)), (.int .u64 (gI r1.1.cells 1)), (.int .u64 (gI r1.1.cells 2)), (.int .i64 (gI r1.1.cells 3))]), (.agg [(.bool (gB r3.1.cells 0)), (.int .u64 (gI r3.1.cells 1)), (.int .u64 (gI r3.1.cells 2)), (.int .i64 (gI r3.1.cells 3))]), r3.2)))))))
def qhj := hull q02
theorem q8e : qhj = q02 := qk _
def q03 : AC (AV × AV × Bool) :=
  .seq (.reg [ao 1 (.box 0),
 ao 2 (.alloc [(.bool false), (.int .u64 0), (.int .u64 0), (.int .i64 0)]),
 ao 3 (.alloc [(.bool false), (.int .u64 0), (.int .u64 0), (.int .i64 0)]),
 ao 4 (.mv (.c (.bool false)))]) (.seq (.reg [ao 9 (.load true 4 1),
 ao 10 (.fa 3 1),
 ao 11 (.load false 1 10),
 ao 12 (.bin .add 11 (.c (.int .i64 1))),
 .call (po 13 (.call 48 [9, 12, (.c (.int .u64 0))])) 48 qt6,
 ao 8 (.mv 13),
 ao 14 (.ext 8 0),
 ao 15 (.ext 8 1),
 ao 5 (.alloc [(.bool false), (.int .u64 0), (.int .u64 0), (.int .i64 0)]),
 an (.store 4 5 14),
 ao 6 (.mv 15)]) (.seq (.seq (.seq (.view [.sel [1, 2, 3, 5, 6] [0, 1, 2, 3]]) (.sub (scOf qoc) q45)) (.cond 22 (.seq (.reg [ao 23 (.build [(.bool false), (.int .u64 0), (.int .u64 0), (.int .i64 0)] []),
 ao 24 (.build [(.bool false), (.int .u64 0), (.int .u64 0), (.int .i64 0)] []),
 an (.store 4 2 23),
 an (.store 4 3 24),
 ao 4 (.mv (.c (.bool false)))]) (.ret)) (.skip))) (.seq (.reg [ao 26 (.load true 4 1),
 ao 27 (.fa 3 1),
 ao 28 (.load false 1 27),
 ao 29 (.bin .add 28 (.c (.int .i64 1))),
 .call (po 30 (.call 48 [26, 29, (.c (.int .u64 1))])) 48 qt6,
 ao 25 (.mv 30),
 ao 31 (.ext 25 0),
 ao 32 (.ext 25 1),
 ao 7 (.alloc [(.bool false), (.int .u64 0), (.int .u64 0), (.int .i64 0)]),
 an (.store 4 7 31),
 ao 6 (.mv 32)]) (.seq (.draw [] [ao 33 (.load true 4 5),
 ao 34 (.load true 4 7),
 ao 35 (.mv 6),
 an (.held [6] [((.c (.bool true)), 7), (2, 7), (3, 7)])] [an (.store 4 2 33),
 an (.store 4 3 34),
 ao 4 (.mv 35)]) (.ret)))))
theorem qbra : AC.ok Try.prog (TIof Try.prog) 36 0 (kret [(.cell 2 true 4), (.cell 3 true 4), .t 4] qiz) q03 := qm (zA (qd.ok q59) (zA qbkc (zA (qd.ok q59) (zA rfl trivial))))
theorem qbta (Ae : Bool) (Af Ag Ah : Int) : den 0 (kret [(.cell 2 true 4), (.cell 3 true 4), .t 4] qiz) q03 (qi [(0, .agg (qa Ae Af Ag Ah))]) (qh []) (kend (kret [(.cell 2 true 4), (.cell 3 true 4), .t 4] qiz)) = qhj Ae Af Ag Ah := by
  rw [q8e]; kernel_rfl
theorem qbtb : cFn (TIof Try.prog) Try.f47 = some ⟨36, [(.cell 2 true 4), (.cell 3 true 4), .t 4], scOf q03⟩ := by kernel_rfl
def qbtc (xs : List AV) : Option (AV × AV × Bool) := qb ((qj xs) 0).cells (qhj)
def qws {R : Type} : List AV → (AV → Option R) → Option R := entF qbol qbtc qbok
theorem qbaa {R : Type} : qd Try.prog 47 (qws (R := R)) :=
  qt tabOk follows Try.func47 (by kernel_rfl) qbtb (fun z r h => by
 obtain ⟨h1, h2⟩ := qq h
 cases h2
 exact (qc9 h1).symm) qbra (qo (by kernel_rfl)) fun xs => qbta _ _ _ _
end
end Go.Proofs.Ytmfghgaboaocgaa.Dn
