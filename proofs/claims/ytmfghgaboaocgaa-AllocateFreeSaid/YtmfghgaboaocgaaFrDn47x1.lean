import Derived.Test.YtmfghgaboaocgaaProg
import Derived.Test.YtmfghgaboaocgaaFrLibD
set_option linter.all false
namespace Go.Proofs.Ytmfghgaboaocgaa.Dn
open Go Go.Pev
set_option linter.unusedVariables false
set_option linter.unusedSimpArgs false
set_option maxRecDepth 100000
set_option maxHeartbeats 4000000
theorem zT : True := True.intro
theorem zA {a b : Prop} (x : a) (y : b) : a ∧ b := ⟨x, y⟩
theorem tabOk : Tab.ok (TIof Try.prog) Try.prog := fun _ _ h => h
theorem follows : Try.prog.follows .mixedOrders = true := by kernel_rfl
def q3n : Shp := ⟨[], []⟩
noncomputable section
def qp5 : Option AV :=
  (some (.agg [(.bool false), (.int .u64 (0 : Int)), (.int .u64 (256 : Int)), (.int .i64 (24 : Int))]))
def qgn := hull qp5
theorem qoz : qgn = qp5 := ql _
def qp6 : AC AV :=
  .seq (.reg [ao 0 (.alloc [(.bool false), (.int .u64 0), (.int .u64 0), (.int .i64 0)])]) (.seq (.reg [ao 1 (.build [(.bool false), (.int .u64 0), (.int .u64 0)] [(2, (1, (.c (.int .u64 256))))]),
 ao 2 (.build [(.bool false), (.int .u64 0), (.int .u64 0), (.int .i64 0)] [(0, (3, 1)), (3, (1, (.c (.int .i64 24))))]),
 an (.store 4 0 2)]) (.ret))
theorem q5x : AC.ok Try.prog (TIof Try.prog) 3 0 (kret [(.cell 0 true 4)] (decT [.b, (.i .u64), (.i .u64), (.i .i64)])) qp6 := qn trivial
theorem q63 : den 0 (kret [(.cell 0 true 4)] (decT [.b, (.i .u64), (.i .u64), (.i .i64)])) qp6 (qi []) (qh []) (kend (kret [(.cell 0 true 4)] (decT [.b, (.i .u64), (.i .u64), (.i .i64)]))) = qgn := by
  rw [qoz]; kernel_rfl
theorem q64 : cFn (TIof Try.prog) Try.f28 = some ⟨3, [(.cell 0 true 4)], scOf qp6⟩ := by kernel_rfl
def q65 (xs : List AV) : Option AV := qgn
def qkq {R : Type} : List AV → (AV → Option R) → Option R := entF q3n q65 (qmk (.st [.b, (.i .u64), (.i .u64), (.i .i64)]))
theorem qp7 {R : Type} : qe Try.prog 28 (qkq (R := R)) :=
  qb6 tabOk follows Try.func28 (by kernel_rfl) q64 hdeT q5x (qbe (by kernel_rfl)) fun xs => q63
def q5y : Shp := ⟨[], []⟩
def qrk : Option (List AV) :=
  (oB (qgn) fun r1 => (bif hd ([(.agg [(.bool (gB r1.cells 0)), (.int .u64 (gI r1.cells 1)), (.int .u64 (gI r1.cells 2)), (.int .i64 (gI r1.cells 3)), (.int .i64 (1 : Int)), (.str ([99] : List UInt8)), (.str ([] : List UInt8)), (.int .i64 (0 : Int))]), (.agg [(.bool false), (.int .u64 (0 : Int)), (.int .u64 (288 : Int)), (.int .i64 (27 : Int)), (.int .i64 (2 : Int)), (.str ([115] : List UInt8)), (.str ([] : List UInt8)), (.int .i64 (0 : Int))])] : List AV) (([(.agg [(.bool (gB r1.cells 0)), (.int .u64 (gI r1.cells 1)), (.int .u64 (gI r1.cells 2)), (.int .i64 (gI r1.cells 3)), (.int .i64 (1 : Int)), (.str ([99] : List UInt8)), (.str ([] : List UInt8)), (.int .i64 (0 : Int))]), (.agg [(.bool false), (.int .u64 (0 : Int)), (.int .u64 (288 : Int)), (.int .i64 (27 : Int)), (.int .i64 (2 : Int)), (.str ([115] : List UInt8)), (.str ([] : List UInt8)), (.int .i64 (0 : Int))])] : List AV).length) then (some ([(.agg [(.bool (gB r1.cells 0)), (.int .u64 (gI r1.cells 1)), (.int .u64 (gI r1.cells 2)), (.int .i64 (gI r1.cells 3)), (.int .i64 (1 : Int)), (.str ([99] : List UInt8)), (.str ([] : List UInt8)), (.int .i64 (0 : Int))]), (.agg [(.bool false), (.int .u64 (0 : Int)), (.int .u64 (288 : Int)), (.int .i64 (27 : Int)), (.int .i64 (2 : Int)), (.str ([115] : List UInt8)), (.str ([] : List UInt8)), (.int .i64 (0 : Int))])] : List AV)) else none))
def qka := hull qrk
theorem qw4 : qka = qrk := ql _
def qrl : AC (List AV) :=
  .seq (.reg [ao 0 (.mv (.c .nils))]) (.seq (.reg [.call (po 1 (.call 28 [])) 28 qkq,
 ao 2 (.build [(.bool false), (.int .u64 0), (.int .u64 0), (.int .i64 0), (.int .i64 0), (.str []), (.str []), (.int .i64 0)] [(0, (4, 1)), (4, (1, (.c (.int .i64 1)))), (5, (1, (.c (.str [99]))))]),
 ao 3 (.build [(.bool false), (.int .u64 0), (.int .u64 0)] [(2, (1, (.c (.int .u64 288))))]),
 ao 4 (.build [(.bool false), (.int .u64 0), (.int .u64 0), (.int .i64 0)] [(0, (3, 3)), (3, (1, (.c (.int .i64 27))))]),
 ao 5 (.build [(.bool false), (.int .u64 0), (.int .u64 0), (.int .i64 0), (.int .i64 0), (.str []), (.str []), (.int .i64 0)] [(0, (4, 4)), (4, (1, (.c (.int .i64 2)))), (5, (1, (.c (.str [115]))))]),
 ao 6 (.bsl 8 [2, 5]),
 ao 0 (.mv 6)]) (.ret))
theorem q66 : AC.ok Try.prog (TIof Try.prog) 7 0 (kret [.t 0] (decF true 8)) qrl := qn (zA (qe.ok qp7) trivial)
theorem q9t : den 0 (kret [.t 0] (decF true 8)) qrl (qi []) (qh []) (kend (kret [.t 0] (decF true 8))) = qka := by
  rw [qw4]; kernel_rfl
theorem q9u : cFn (TIof Try.prog) Try.f10 = some ⟨7, [.t 0], scOf qrl⟩ := by kernel_rfl
def q9v (xs : List AV) : Option (List AV) := qka
def qo0 {R : Type} : List AV → (AV → Option R) → Option R := entF q5y q9v (AV.fr true 8)
theorem qyl {R : Type} : qe Try.prog 10 (qo0 (R := R)) :=
  qb6 tabOk follows Try.func10 (by kernel_rfl) q9u hdeF q66 (qbe (by kernel_rfl)) fun xs => q9t
def qj : List LT := [.b, (.i .u64), (.i .u64), (.i .i64), (.i .i64), .s, .s, (.i .i64)]
def qba (x0 : Bool) (x1 x2 x3 x4 : Int) (x5 x6 : List UInt8) (x7 : Int) : List AV := [.bool x0, .int .u64 x1, .int .u64 x2, .int .i64 x3, .int .i64 x4, .str x5, .str x6, .int .i64 x7]
def qc : List LT := [.b, (.i .u64), (.i .u64), (.i .i64)]
def qa (x0 : Bool) (x1 x2 x3 : Int) : List AV := [.bool x0, .int .u64 x1, .int .u64 x2, .int .i64 x3]
def qbn {β : Type} (cs : List AV) (f : Bool → Int → Int → Int → Int → List UInt8 → List UInt8 → Int → β) : β := f (gB cs 0) (gI cs 1) (gI cs 2) (gI cs 3) (gI cs 4) (gS cs 5) (gS cs 6) (gI cs 7)
def qb {β : Type} (cs : List AV) (f : Bool → Int → Int → Int → β) : β := f (gB cs 0) (gI cs 1) (gI cs 2) (gI cs 3)
def q67 : Shp := ⟨[(0, .st (lk qj)), (1, .one (.ptr 0 0))], [.box true (lk qc)]⟩
def qym {R : Type} (KK : AV → Mem → Option R) := (fun v3 Aa Ab Ac Ad => KK (.bool v3) (qh [(some (.box true [(.bool Aa), (.int .u64 Ab), (.int .u64 Ac), (.int .i64 Ad)]))]))
def qsx {R : Type}  (Ae : Bool) (Af Ag Ah Ai : Int) (Aj Ak : List UInt8) (Al : Int) (Aa : Bool) (Ab Ac Ad : Int) (kr : Bool → Bool → Int → Int → Int → Option R) : Option R :=
  (kr ((Ae == Aa) && ((Af == Ab) && ((Ag == Ac) && ((Ah == Ad) && true)))) Aa Ab Ac Ad)
def qq1 {R : Type} := hull (qsx (R := R))
theorem qyn {R : Type} : qq1 (R := R) = qsx := ql _
def qi9 {R : Type} (KK : AV → Mem → Option R) : AC R :=
  .seq (.reg [ao 2 (.box 0),
 ao 3 (.mv (.c (.bool false)))]) (.seq (.reg [ao 4 (.fa 0 2),
 ao 5 (.load true 4 4),
 ao 6 (.load true 4 1),
 ao 7 (.eq false true [.b, (.i .u64), (.i .u64), (.i .i64)] 5 6),
 ao 3 (.mv 7)]) (.seq (.view [.sel [3] [0]]) (.ret)))
theorem q9w {R : Type} (KK : AV → Mem → Option R) : AC.ok Try.prog (TIof Try.prog) 8 1 (qbk [.t 3] KK) (qi9 KK) := qn trivial
theorem qbbn {R : Type} (KK : AV → Mem → Option R) (Ae : Bool) (Af Ag Ah Ai : Int) (Aj Ak : List UInt8) (Al : Int) (Aa : Bool) (Ab Ac Ad : Int) : den 1 (qbk [.t 3] KK) (qi9 KK) (qi [(0, .agg (qba Ae Af Ag Ah Ai Aj Ak Al)), (1, (.ptr 0 0))]) (qh [(some (.box true (qa Aa Ab Ac Ad)))]) (kend (qbk [.t 3] KK)) = qq1 Ae Af Ag Ah Ai Aj Ak Al Aa Ab Ac Ad (qym KK) := by
  rw [qyn]; kernel_rfl
theorem qbbo : cFn (TIof Try.prog) Try.f98 = some ⟨8, [.t 3], scOf (qi9 (R := Unit) (fun _ _ => none))⟩ := by kernel_rfl
theorem qbbp {R : Type} (KK : AV → Mem → Option R) : (qi9 KK).er = some (scOf (qi9 (R := Unit) (fun _ _ => none))) := by kernel_rfl
def qzm {R : Type} : List AV → Mem → (AV → Mem → Option R) → Option R := refE q67 fun xs m KK => qb (bxC (m.s 0)) (qbn ((qk xs) 0).cells (qq1)) (qym KK)
theorem qbbq {R : Type} : qit Try.prog 98 (qzm (R := R)) :=
  qsl (ac := fun KK => qi9 KK) tabOk follows Try.func98 (by kernel_rfl) qbbo (fun KK => q9w KK) (fun KK => qbbp KK) rfl fun xs m KK => qbbn KK _ _ _ _ _ _ _ _ _ _ _ _
def qby {R : Type}  (K : Ex → Env → Mem → Option R) := (fun z_b0_0 z_b0_1 z_b0_2 z_b0_3 => K (.exit 0) (qi []) (qh [(some (.box true (qa z_b0_0 z_b0_1 z_b0_2 z_b0_3)))]))
def qb2 {R : Type} (KK : AV → Mem → Option R) := (fun v4 Aa Ab Ac Ad => KK (.int .i64 v4) (qh [(some (.box true [(.bool Aa), (.int .u64 Ab), (.int .u64 Ac), (.int .i64 Ad)]))]))
def qh3 : Shp := ⟨[(0, .one (.l (.sl 8))), (1, .one (.fn 98 [(0, 0)])), (7, .one (.l (.i .i64))), (8, .one (.l (.i .i64)))], [.box true (lk qc)]⟩
def qcw (v0 : List AV) (v7 v8 : Int) (Aa : Bool) (Ab Ac Ad : Int) : Env := qi [(0, (.sl 8 v0)), (1, (.func 98 [(.ptr 0 0)])), (7, (.int .i64 v7)), (8, (.int .i64 v8))]
def qcx (v0 : List AV) (v7 v8 : Int) (Aa : Bool) (Ab Ac Ad : Int) : Mem := qh [(some (.box true (qa Aa Ab Ac Ad)))]
def qbf {R : Type}  (v0 : List AV) (v7 v8 : Int) (Aa : Bool) (Ab Ac Ad : Int) (next : Int → Bool → Int → Int → Int → Option R) (kx0 : Bool → Int → Int → Int → Option R) (kr : Int → Bool → Int → Int → Int → Option R) : Option R :=
  (bif (decide (v8 < v7)) then (oB (ixB v0 v8) fun y1 => (bif fitC qj y1.cells then (qq1 (gB y1.cells 0) (gI y1.cells 1) (gI y1.cells 2) (gI y1.cells 3) (gI y1.cells 4) (gS y1.cells 5) (gS y1.cells 6) (gI y1.cells 7) Aa Ab Ac Ad fun v3q2 b0_0q3 b0_1q4 b0_2q5 b0_3q6 => (bif v3q2 then (kr v8 b0_0q3 b0_1q4 b0_2q5 b0_3q6) else (next (IntKind.i64.wrap (v8 + (1 : Int))) b0_0q3 b0_1q4 b0_2q5 b0_3q6))) else none)) else (kx0 Aa Ab Ac Ad))
def qb7 {R : Type}  (v0 : List AV) (v7 : Int) (kx0 : Bool → Int → Int → Int → Option R) (kr : Int → Bool → Int → Int → Int → Option R) : Nat → Int → Bool → Int → Int → Int → Option R
  | 0 => (fun _ _ _ _ _ => none)
  | n + 1 => (fun v8 Aa Ab Ac Ad => qbf v0 v7 v8 Aa Ab Ac Ad (qb7 v0 v7 kx0 kr n) kx0 kr)
def qb9 {R : Type} := hull (qb7 (R := R))
theorem qek {R : Type} : qb9 (R := R) = qb7 := ql _
def qbg {R : Type} (KK : AV → Mem → Option R) : AC R :=
  .seq (.reg [ao 9 (.bin .lss 8 7)]) (.seq (.cond 9 (.skip) (.seq (.view [.sel [] [0]]) (.exit 0))) (.seq (.block 1 (.seq (.reg [ao 10 (.mv 8),
 ao 5 (.mv 10)]) (.seq (.reg [ao 11 (.mv 1),
 ao 12 (.mv 0),
 ao 13 (.mv 5),
 ao 14 (.ia 8 12 13),
 .st (.etac 14 qj),
 ao 15 (.load true 8 14),
 .st (.sel [0, 1, 5, 7, 8, 11, 15] [0]),
 .callr (po 16 (.callv 11 [15])) 98 qzm]) (.cond 16 (.seq (.reg [ao 17 (.mv 5),
 ao 4 (.mv 17)]) (.seq (.view [.sel [4] [0]]) (.ret))) (.skip))))) (.seq (.reg [ao 18 (.bin .add 8 (.c (.int .i64 1))),
 ao 8 (.mv 18)]) (.view [.sel [0, 1, 7, 8] [0]]))))
theorem qik {R : Type} (KK : AV → Mem → Option R) : AC.ok Try.prog (TIof Try.prog) 19 1 (qbk [.t 4] KK) (qbg KK) := qn (zA qbbq trivial)
theorem qh4 {R : Type} (KK : AV → Mem → Option R) (v0 : List AV) (v7 v8 : Int) (Aa : Bool) (Ab Ac Ad : Int) (K : Ex → Env → Mem → Option R) : den 1 (qbk [.t 4] KK) (qbg KK) (qcw v0 v7 v8 Aa Ab Ac Ad) (qcx v0 v7 v8 Aa Ab Ac Ad) K = qbf v0 v7 v8 Aa Ab Ac Ad (fun z_v8 z_b0_0 z_b0_1 z_b0_2 z_b0_3 => K .norm (qcw v0 v7 z_v8 z_b0_0 z_b0_1 z_b0_2 z_b0_3) (qcx v0 v7 z_v8 z_b0_0 z_b0_1 z_b0_2 z_b0_3)) (qby K) (qb2 KK) := by kernel_rfl
theorem qiu {R : Type} (KK : AV → Mem → Option R) (v0 : List AV) (v7 : Int) (K : Ex → Env → Mem → Option R) : ∀ (n : Nat) (v8 : Int) (Aa : Bool) (Ab Ac Ad : Int), qht (den 1 (qbk [.t 4] KK) (qbg KK)) n (qcw v0 v7 v8 Aa Ab Ac Ad) (qcx v0 v7 v8 Aa Ab Ac Ad) K = qb9 v0 v7 (qby K) (qb2 KK) n v8 Aa Ab Ac Ad := by
  rw [qek]
  intro n
  induction n with
  | zero => intros; rfl
  | succ n ih =>
 intro v8 Aa Ab Ac Ad
 exact (qh4 KK v0 v7 v8 Aa Ab Ac Ad (itK (den 1 (qbk [.t 4] KK) (qbg KK)) n K)).trans (congrArg (fun q => qbf v0 v7 v8 Aa Ab Ac Ad q (qby K) (qb2 KK)) (funext fun v8 => funext fun Aa => funext fun Ab => funext fun Ac => funext fun Ad => ih v8 Aa Ab Ac Ad))
def qep {R : Type} (KK : AV → Mem → Option R) := subE (R := R) qh3 fun t m K => qb (bxC (m.s 0)) (qb9 (gL [t 0] 0) (gI [t 7] 0) (qby K) (qb2 KK) FU (gI [t 8] 0))
theorem qiv {R : Type} (KK : AV → Mem → Option R) : qc9 Try.prog (TIof Try.prog) 19 1 (qbk [.t 4] KK) (.loop (scOf (qbg KK))) (qep KK) :=
  qjh tabOk follows (qik KK) (qbe (by kernel_rfl)) fun t m K => qiu KK _ _ K FU _ _ _ _ _
def qja : Shp := ⟨[(0, .one (.l (.sl 8))), (1, .one (.fn 98 [(0, 0)]))], [.box true (lk qc)]⟩
def qew {R : Type} (KK : AV → Mem → Option R) := (fun v4 Aa Ab Ac Ad => KK (.int .i64 v4) (qh [(some (.box true [(.bool Aa), (.int .u64 Ab), (.int .u64 Ac), (.int .i64 Ad)]))]))
def qc5 {R : Type}  (v0 : List AV) (Aa : Bool) (Ab Ac Ad : Int) (kr : Int → Bool → Int → Int → Int → Option R) : Option R :=
  (qb9 v0 (v0.length : Int) (fun b0_0q1 b0_1q2 b0_2q3 b0_3q4 => (kr (-1 : Int) b0_0q1 b0_1q2 b0_2q3 b0_3q4)) kr FU (0 : Int) Aa Ab Ac Ad)
def qcd {R : Type} := hull (qc5 (R := R))
theorem qex {R : Type} : qcd (R := R) = qc5 := ql _
def qbj {R : Type} (KK : AV → Mem → Option R) : AC R :=
  .seq (.reg [ao 4 (.mv (.c (.int .i64 0)))]) (.seq (.seq (.reg [ao 6 (.mv 0),
 ao 7 (.len false 6),
 ao 8 (.mv (.c (.int .i64 0)))]) (.block 0 (.seq (.view [.sel [0, 1, 7, 8] [0]]) (.sub (.loop (scOf (qbg KK))) (qep KK))))) (.seq (.reg [ao 4 (.mv (.c (.int .i64 (-1))))]) (.seq (.view [.sel [4] [0]]) (.ret))))
theorem qjm {R : Type} (KK : AV → Mem → Option R) : AC.ok Try.prog (TIof Try.prog) 19 1 (qbk [.t 4] KK) (qbj KK) := qn (zA (qiv KK) trivial)
theorem qju {R : Type} (KK : AV → Mem → Option R) (v0 : List AV) (Aa : Bool) (Ab Ac Ad : Int) : den 1 (qbk [.t 4] KK) (qbj KK) (qi [(0, (.sl 8 v0)), (1, (.func 98 [(.ptr 0 0)]))]) (qh [(some (.box true (qa Aa Ab Ac Ad)))]) (kend (qbk [.t 4] KK)) = qcd v0 Aa Ab Ac Ad (qew KK) := by
  rw [qex]; kernel_rfl
theorem qjv : cFn (TIof Try.prog) Try.f97 = some ⟨19, [.t 4], scOf (qbj (R := Unit) (fun _ _ => none))⟩ := by kernel_rfl
theorem qjw {R : Type} (KK : AV → Mem → Option R) : (qbj KK).er = some (scOf (qbj (R := Unit) (fun _ _ => none))) := by kernel_rfl
def qez {R : Type} : List AV → Mem → (AV → Mem → Option R) → Option R := refE qja fun xs m KK => qb (bxC (m.s 0)) (qcd (gL [(qk xs) 0] 0)) (qew KK)
theorem qjx {R : Type} : qit Try.prog 97 (qez (R := R)) :=
  qsl (ac := fun KK => qbj KK) tabOk follows Try.func97 (by kernel_rfl) qjv (fun KK => qjm KK) (fun KK => qjw KK) rfl fun xs m KK => qju KK _ _ _ _ _
def qbbr : Shp := ⟨[(0, .one (.l (.sl 8))), (1, .st (lk qc))], []⟩
def qvy (v0 : List AV) (Am : Bool) (An Ao Ap : Int) : Option Int :=
  (qcd v0 Am An Ao Ap fun v4q1 b0_0q2 b0_1q3 b0_2q4 b0_3q5 => (some v4q1))
def qk8 := hull qvy
theorem q02 : qk8 = qvy := ql _
def qvz : AC Int :=
  .seq (.reg [ao 3 (.box 1),
 ao 4 (.mv (.c (.int .i64 0)))]) (.seq (.reg [ao 5 (.mv 0),
 ao 6 (.mkf 98 [3]),
 .st (.sel [5, 6] [0]),
 .callr (po 7 (.call 97 [5, 6])) 97 qez,
 ao 4 (.mv 7)]) (.ret))
theorem qbdd : AC.ok Try.prog (TIof Try.prog) 8 0 (kret [.t 4] (decI .i64)) qvz := qn (zA qjx trivial)
theorem qbfj (v0 : List AV) (Am : Bool) (An Ao Ap : Int) : den 0 (kret [.t 4] (decI .i64)) qvz (qi [(0, (.sl 8 v0)), (1, .agg (qa Am An Ao Ap))]) (qh []) (kend (kret [.t 4] (decI .i64))) = qk8 v0 Am An Ao Ap := by
  rw [q02]; kernel_rfl
theorem qbfk : cFn (TIof Try.prog) Try.f63 = some ⟨8, [.t 4], scOf qvz⟩ := by kernel_rfl
def qbfl (xs : List AV) : Option Int := qb ((qk xs) 1).cells (qk8 (gL [(qk xs) 0] 0))
def qni {R : Type} : List AV → (AV → Option R) → Option R := entF qbbr qbfl (AV.int .i64)
theorem qv0 {R : Type} : qe Try.prog 63 (qni (R := R)) :=
  qb6 tabOk follows Try.func63 (by kernel_rfl) qbfk hdeI qbdd (qbe (by kernel_rfl)) fun xs => qbfj _ _ _ _ _
def qt3 (z : AV) : Option (AV × Bool) := cond (qkp [(.st [.b, (.i .u64), (.i .u64), (.i .i64), (.i .i64), .s, .s, (.i .i64)]), (.one .b)] z) (some ((gC (tpL z) 0), aB (gC (tpL z) 1))) none
def qbde (r : AV × Bool) : AV := .tup [qmk (.st [.b, (.i .u64), (.i .u64), (.i .i64), (.i .i64), .s, .s, (.i .i64)]) r.1, .bool r.2]
def qbdf : Shp := ⟨[(0, .one (.l (.sl 8))), (1, .st (lk qc))], []⟩
def qx9 (v0 : List AV) (Am : Bool) (An Ao Ap : Int) : Option (AV × Bool) :=
  (oB (qk8 v0 Am An Ao Ap) fun r1 => (bif (decide (r1 ≥ (0 : Int))) then (oB (ixB v0 r1) fun y2 => (bif fitC qj y2.cells then (some ((.agg [(.bool (gB y2.cells 0)), (.int .u64 (gI y2.cells 1)), (.int .u64 (gI y2.cells 2)), (.int .i64 (gI y2.cells 3)), (.int .i64 (gI y2.cells 4)), (.str (gS y2.cells 5)), (.str (gS y2.cells 6)), (.int .i64 (gI y2.cells 7))]), true)) else none)) else (some ((.agg [(.bool false), (.int .u64 (0 : Int)), (.int .u64 (0 : Int)), (.int .i64 (0 : Int)), (.int .i64 (0 : Int)), (.str ([] : List UInt8)), (.str ([] : List UInt8)), (.int .i64 (0 : Int))]), false))))
def qky := hull qx9
theorem q2c : qky = qx9 := ql _
def qya : AC (AV × Bool) :=
  .seq (.reg [ao 3 (.box 1),
 ao 4 (.alloc [(.bool false), (.int .u64 0), (.int .u64 0), (.int .i64 0), (.int .i64 0), (.str []), (.str []), (.int .i64 0)]),
 ao 5 (.mv (.c (.bool false)))]) (.seq (.seq (.reg [ao 7 (.mv 0),
 ao 8 (.load true 4 3),
 .call (po 9 (.call 63 [7, 8])) 63 qni,
 ao 6 (.mv 9)]) (.seq (.reg [ao 10 (.mv 6),
 ao 11 (.bin .geq 10 (.c (.int .i64 0)))]) (.cond 11 (.seq (.reg [ao 12 (.mv 0),
 ao 13 (.mv 6),
 ao 14 (.ia 8 12 13),
 .st (.etac 14 qj),
 ao 15 (.load true 8 14),
 an (.store 8 4 15),
 ao 5 (.mv (.c (.bool true)))]) (.ret)) (.skip)))) (.seq (.reg [ao 16 (.build [(.bool false), (.int .u64 0), (.int .u64 0), (.int .i64 0), (.int .i64 0), (.str []), (.str []), (.int .i64 0)] []),
 an (.store 8 4 16),
 ao 5 (.mv (.c (.bool false)))]) (.ret)))
theorem qbfm : AC.ok Try.prog (TIof Try.prog) 17 0 (kret [(.cell 4 true 8), .t 5] qt3) qya := qn (zA (qe.ok qv0) trivial)
theorem qbh6 (v0 : List AV) (Am : Bool) (An Ao Ap : Int) : den 0 (kret [(.cell 4 true 8), .t 5] qt3) qya (qi [(0, (.sl 8 v0)), (1, .agg (qa Am An Ao Ap))]) (qh []) (kend (kret [(.cell 4 true 8), .t 5] qt3)) = qky v0 Am An Ao Ap := by
  rw [q2c]; kernel_rfl
theorem qbh7 : cFn (TIof Try.prog) Try.f25 = some ⟨17, [(.cell 4 true 8), .t 5], scOf qya⟩ := by kernel_rfl
def qbh8 (xs : List AV) : Option (AV × Bool) := qb ((qk xs) 1).cells (qky (gL [(qk xs) 0] 0))
def qlm {R : Type} : List AV → (AV → Option R) → Option R := entF qbdf qbh8 qbde
theorem qsp {R : Type} : qe Try.prog 25 (qlm (R := R)) :=
  qb6 tabOk follows Try.func25 (by kernel_rfl) qbh7 (fun z r h => by
 obtain ⟨h1, h2⟩ := qm h
 cases h2
 exact (qgh h1).symm) qbfm (qbe (by kernel_rfl)) fun xs => qbh6 _ _ _ _ _
def qnj : List LT := [.b, (.i .u64), (.i .u64)]
def qh8 (x0 : Bool) (x1 x2 : Int) : List AV := [.bool x0, .int .u64 x1, .int .u64 x2]
def qkk {β : Type} (cs : List AV) (f : Bool → Int → Int → β) : β := f (gB cs 0) (gI cs 1) (gI cs 2)
def qbfn : Shp := ⟨[(0, .st (lk qnj))], []⟩
def qzn (Ae : Bool) (Af Ag : Int) : Option Bool :=
  (bif Ae then (some true) else (bif (Af == (0 : Int)) then (some (decide (Ag ≤ (4294967295 : Int)))) else (some false)))
def qq2 := hull qzn
theorem q5k : qq2 = qzn := ql _
def qzo : AC Bool :=
  .seq (.reg [ao 1 (.box 0),
 ao 2 (.mv (.c (.bool false)))]) (.seq (.reg [ao 3 (.fa 0 1),
 ao 4 (.load false 1 3),
 ao 5 (.mv 4),
 ag 6 5 false (.fa 1 1),
 ag 7 5 false (.load false 1 6),
 ag 8 5 false (.bin .eql 7 (.c (.int .u64 0))),
 ag 9 5 false (.mv 8),
 ag 10 9 true (.fa 2 1),
 ag 11 9 true (.load false 1 10),
 ag 12 9 true (.bin .leq 11 (.c (.int .u64 4294967295))),
 ag 13 5 false (.pick 9 12 (.c (.bool false))),
 ao 14 (.pick 5 (.c (.bool true)) 13),
 ao 2 (.mv 14)]) (.ret))
theorem qbh9 : AC.ok Try.prog (TIof Try.prog) 15 0 (kret [.t 2] decB) qzo := qn trivial
theorem qbjb (Ae : Bool) (Af Ag : Int) : den 0 (kret [.t 2] decB) qzo (qi [(0, .agg (qh8 Ae Af Ag))]) (qh []) (kend (kret [.t 2] decB)) = qq2 Ae Af Ag := by
  rw [q5k]; kernel_rfl
theorem qbjc : cFn (TIof Try.prog) Try.f72 = some ⟨15, [.t 2], scOf qzo⟩ := by kernel_rfl
def qbjd (xs : List AV) : Option Bool := qkk ((qk xs) 0).cells (qq2)
def qv1 {R : Type} : List AV → (AV → Option R) → Option R := entF qbfn qbjd AV.bool
theorem q68 {R : Type} : qe Try.prog 72 (qv1 (R := R)) :=
  qb6 tabOk follows Try.func72 (by kernel_rfl) qbjc hdeB qbh9 (qbe (by kernel_rfl)) fun xs => qbjb _ _ _
def q9x : Shp := ⟨[(0, .st (lk qnj))], []⟩
def qt4 (Ae : Bool) (Af Ag : Int) : Option Int :=
  (bif Ae then (some (128 : Int)) else (some (32 : Int)))
def qh9 := hull qt4
theorem qzp : qh9 = qt4 := ql _
def qt5 : AC Int :=
  .seq (.reg [ao 1 (.box 0),
 ao 2 (.mv (.c (.int .i64 0)))]) (.seq (.seq (.reg [ao 3 (.fa 0 1),
 ao 4 (.load false 1 3)]) (.cond 4 (.seq (.reg [ao 2 (.mv (.c (.int .i64 128)))]) (.ret)) (.skip))) (.seq (.reg [ao 2 (.mv (.c (.int .i64 32)))]) (.ret)))
theorem qbbs : AC.ok Try.prog (TIof Try.prog) 5 0 (kret [.t 2] (decI .i64)) qt5 := qn trivial
theorem qbdg (Ae : Bool) (Af Ag : Int) : den 0 (kret [.t 2] (decI .i64)) qt5 (qi [(0, .agg (qh8 Ae Af Ag))]) (qh []) (kend (kret [.t 2] (decI .i64))) = qh9 Ae Af Ag := by
  rw [qzp]; kernel_rfl
theorem qbdh : cFn (TIof Try.prog) Try.f85 = some ⟨5, [.t 2], scOf qt5⟩ := by kernel_rfl
def qbdi (xs : List AV) : Option Int := qkk ((qk xs) 0).cells (qh9)
def qkm {R : Type} : List AV → (AV → Option R) → Option R := entF q9x qbdi (AV.int .i64)
theorem qpp {R : Type} : qe Try.prog 85 (qkm (R := R)) :=
  qb6 tabOk follows Try.func85 (by kernel_rfl) qbdh hdeI qbbs (qbe (by kernel_rfl)) fun xs => qbdg _ _ _
def qsy (z : AV) : Option (Int × Int) := cond (qkp [(.one (.i .u64)), (.one (.i .u64))] z) (some (aI (gC (tpL z) 0), aI (gC (tpL z) 1))) none
def qbbt (r : Int × Int) : AV := .tup [.int .u64 r.1, .int .u64 r.2]
def qbbu : Shp := ⟨[(0, .one (.l .b)), (1, .one (.l (.i .i64)))], []⟩
def qq3 (v0 : Bool) (v1 : Int) : Option (Int × Int) :=
  (bif (!v0) then (bif decide ((IntKind.u64.wrap (IntKind.i64.wrap ((32 : Int) - v1))) < 0) then none else (some ((0 : Int), (IntKind.u64.wrap ((IntKind.u64.wrap ((1 : Int) * 2 ^ min (IntKind.u64.wrap (IntKind.i64.wrap ((32 : Int) - v1))).toNat IntKind.u64.bits)) - (1 : Int)))))) else (bif (decide (v1 ≥ (64 : Int))) then (bif decide ((IntKind.u64.wrap (IntKind.i64.wrap ((128 : Int) - v1))) < 0) then none else (some ((0 : Int), (IntKind.u64.wrap ((IntKind.u64.wrap ((1 : Int) * 2 ^ min (IntKind.u64.wrap (IntKind.i64.wrap ((128 : Int) - v1))).toNat IntKind.u64.bits)) - (1 : Int)))))) else (bif decide ((IntKind.u64.wrap (IntKind.i64.wrap ((64 : Int) - v1))) < 0) then none else (some ((IntKind.u64.wrap ((IntKind.u64.wrap ((1 : Int) * 2 ^ min (IntKind.u64.wrap (IntKind.i64.wrap ((64 : Int) - v1))).toNat IntKind.u64.bits)) - (1 : Int))), (18446744073709551615 : Int))))))
def qml := hull qq3
theorem q03 : qml = qq3 := ql _
def qv2 : AC (Int × Int) :=
  .seq (.reg [ao 4 (.mv (.c (.int .u64 0))),
 ao 5 (.mv (.c (.int .u64 0)))]) (.seq (.seq (.reg [ao 6 (.mv 0),
 ao 7 (.un .not 6)]) (.cond 7 (.seq (.reg [ao 8 (.mv 1),
 ao 9 (.bin .sub (.c (.int .i64 32)) 8),
 ao 10 (.conv (.int .u64) 9),
 ao 11 (.bin .shl (.c (.int .u64 1)) 10),
 ao 12 (.bin .sub 11 (.c (.int .u64 1))),
 ao 4 (.mv (.c (.int .u64 0))),
 ao 5 (.mv 12)]) (.ret)) (.skip))) (.seq (.seq (.reg [ao 13 (.mv 1),
 ao 14 (.bin .geq 13 (.c (.int .i64 64)))]) (.cond 14 (.seq (.reg [ao 15 (.mv 1),
 ao 16 (.bin .sub (.c (.int .i64 128)) 15),
 ao 17 (.conv (.int .u64) 16),
 ao 18 (.bin .shl (.c (.int .u64 1)) 17),
 ao 19 (.bin .sub 18 (.c (.int .u64 1))),
 ao 4 (.mv (.c (.int .u64 0))),
 ao 5 (.mv 19)]) (.ret)) (.skip))) (.seq (.reg [ao 20 (.mv 1),
 ao 21 (.bin .sub (.c (.int .i64 64)) 20),
 ao 22 (.conv (.int .u64) 21),
 ao 23 (.bin .shl (.c (.int .u64 1)) 22),
 ao 24 (.bin .sub 23 (.c (.int .u64 1))),
 ao 4 (.mv 24),
 ao 5 (.mv (.c (.int .u64 18446744073709551615)))]) (.ret))))
theorem qbdj : AC.ok Try.prog (TIof Try.prog) 25 0 (kret [.t 4, .t 5] qsy) qv2 := qn trivial
theorem qbfo (v0 : Bool) (v1 : Int) : den 0 (kret [.t 4, .t 5] qsy) qv2 (qi [(0, (.bool v0)), (1, (.int .i64 v1))]) (qh []) (kend (kret [.t 4, .t 5] qsy)) = qml v0 v1 := by
  rw [q03]; kernel_rfl
theorem qbfp : cFn (TIof Try.prog) Try.f71 = some ⟨25, [.t 4, .t 5], scOf qv2⟩ := by kernel_rfl
def qbfq (xs : List AV) : Option (Int × Int) := qml (gB [(qk xs) 0] 0) (gI [(qk xs) 1] 0)
def qsz {R : Type} : List AV → (AV → Option R) → Option R := entF qbbu qbfq qbbt
theorem q2d {R : Type} : qe Try.prog 71 (qsz (R := R)) :=
  qb6 tabOk follows Try.func71 (by kernel_rfl) qbfp (fun z r h => by
 obtain ⟨h1, h2⟩ := qm h
 cases h2
 exact (qgh h1).symm) qbdj (qbe (by kernel_rfl)) fun xs => qbfo _ _
def qw5  (Aa : Bool) (Ab Ac Ad : Int) (K : Ex → Env → Mem → Option Bool) := (fun z_v21 => K .norm (qi [(1, (.ptr 0 0)), (21, (.bool z_v21))]) (qh [(some (.box true (qa Aa Ab Ac Ad)))]))
def q5z : Shp := ⟨[(1, .one (.ptr 0 0))], [.box true (lk qc)]⟩
def qrm  (Aa : Bool) (Ab Ac Ad : Int) (kn : Bool → Option Bool) : Option Bool :=
  (oB (qq2 Aa Ab Ac) fun r1 => (bif (!r1) then (kn true) else (bif (decide (Ad < (0 : Int))) then (kn true) else (oB (qh9 Aa Ab Ac) fun r2 => (kn (decide (Ad > r2)))))))
def qpq := hull (qrm)
theorem qw6 : qpq = qrm := ql _
def qma : AC Bool :=
  .seq (.draw [] [ao 5 (.fa 0 1),
 ao 6 (.load true 3 5),
 .call (po 7 (.call 72 [6])) 72 qv1,
 ao 8 (.un .not 7),
 ao 9 (.mv 8),
 ag 10 9 false (.fa 3 1),
 ag 11 9 false (.load false 1 10),
 ag 12 9 false (.bin .lss 11 (.c (.int .i64 0))),
 ao 13 (.pick 9 (.c (.bool true)) 12),
 ao 14 (.mv 13),
 ag 15 14 false (.fa 3 1),
 ag 16 14 false (.load false 1 15),
 ag 17 14 false (.fa 0 1),
 ag 18 14 false (.load true 3 17),
 .call (pg 19 14 false (.call 85 [18])) 85 qkm] [ag 20 14 false (.bin .gtr 16 19),
 ao 21 (.pick 14 (.c (.bool true)) 20)]) (.view [.sel [1, 21] [0]])
theorem q69 : AC.ok Try.prog (TIof Try.prog) 45 0 (kret [.t 2] decB) qma := qn (zA (qe.ok q68) (zA (qe.ok qpp) (zA rfl trivial)))
theorem q9y (Aa : Bool) (Ab Ac Ad : Int) (K : Ex → Env → Mem → Option Bool) : den 0 (kret [.t 2] decB) qma (qi [(1, (.ptr 0 0))]) (qh [(some (.box true (qa Aa Ab Ac Ad)))]) K = qpq Aa Ab Ac Ad (qw5 Aa Ab Ac Ad K) := by
  rw [qw6]; kernel_rfl
def qyo := subE (R := Bool) q5z fun t m K => qb (bxC (m.s 0)) (qpq) (qw5 (gB (bxC (m.s 0)) 0) (gI (bxC (m.s 0)) 1) (gI (bxC (m.s 0)) 2) (gI (bxC (m.s 0)) 3) K)
theorem q9z : qc9 Try.prog (TIof Try.prog) 45 0 (kret [.t 2] decB) (scOf qma) (qyo) :=
  qi8 tabOk follows (q69) (qbe (by kernel_rfl)) fun t m K => q9y _ _ _ _ K
def qbbv : Shp := ⟨[(0, .st (lk qc))], []⟩
def qv3 (Ae : Bool) (Af Ag Ah : Int) : Option Bool :=
  (qpq Ae Af Ag Ah (fun v21q1 => (bif v21q1 then (some false) else (oB (qml Ae Ah) fun r2 => (some (((qce .and .u64 Af r2.1) == (0 : Int)) && ((qce .and .u64 Ag r2.2) == (0 : Int))))))))
def qgj := hull qv3
theorem q04 : qgj = qv3 := ql _
def qv4 : AC Bool :=
  .seq (.reg [ao 1 (.box 0),
 ao 2 (.mv (.c (.bool false)))]) (.seq (.seq (.seq (.view [.sel [1] [0]]) (.sub (scOf qma) qyo)) (.cond 21 (.seq (.reg [ao 2 (.mv (.c (.bool false)))]) (.ret)) (.skip))) (.seq (.reg [ao 23 (.fa 0 1),
 ao 24 (.fa 0 23),
 ao 25 (.load false 1 24),
 ao 26 (.fa 3 1),
 ao 27 (.load false 1 26),
 .call (po 28 (.call 71 [25, 27])) 71 qsz,
 ao 22 (.mv 28),
 ao 29 (.ext 22 0),
 ao 30 (.ext 22 1),
 ao 3 (.mv 29),
 ao 4 (.mv 30)]) (.seq (.reg [ao 31 (.fa 0 1),
 ao 32 (.fa 1 31),
 ao 33 (.load false 1 32),
 ao 34 (.mv 3),
 ao 35 (.bin .and 33 34),
 ao 36 (.bin .eql 35 (.c (.int .u64 0))),
 ao 37 (.mv 36),
 .grp 37 true [(pg 38 37 true (.fa 0 1)), (pg 39 37 true (.fa 2 38)), (pg 40 37 true (.load false 1 39)), (pg 41 37 true (.mv 4)), (pg 42 37 true (.bin .and 40 41)), (pg 43 37 true (.bin .eql 42 (.c (.int .u64 0))))] 44 43,
 ao 2 (.mv 44)]) (.ret))))
theorem qbdk : AC.ok Try.prog (TIof Try.prog) 45 0 (kret [.t 2] decB) qv4 := qn (zA q9z (zA (qe.ok q2d) trivial))
theorem qbfr (Ae : Bool) (Af Ag Ah : Int) : den 0 (kret [.t 2] decB) qv4 (qi [(0, .agg (qa Ae Af Ag Ah))]) (qh []) (kend (kret [.t 2] decB)) = qgj Ae Af Ag Ah := by
  rw [q04]; kernel_rfl
theorem qbfs : cFn (TIof Try.prog) Try.f61 = some ⟨45, [.t 2], scOf qv4⟩ := by kernel_rfl
def qbft (xs : List AV) : Option Bool := qb ((qk xs) 0).cells (qgj)
def qgo {R : Type} : List AV → (AV → Option R) → Option R := entF qbbv qbft AV.bool
theorem qkz {R : Type} : qe Try.prog 61 (qgo (R := R)) :=
  qb6 tabOk follows Try.func61 (by kernel_rfl) qbfs hdeB qbdk (qbe (by kernel_rfl)) fun xs => qbfr _ _ _ _
def qlj (z : AV) : Option (AV × Bool) := cond (qkp [(.st [.b, (.i .u64), (.i .u64), (.i .i64)]), (.one .b)] z) (some ((gC (tpL z) 0), aB (gC (tpL z) 1))) none
def qbia (r : AV × Bool) : AV := .tup [qmk (.st [.b, (.i .u64), (.i .u64), (.i .i64)]) r.1, .bool r.2]
def q05  (v1 : Int) (Aa : Bool) (Ab Ac : Int) (Aq : Bool) (Ar As At : Int) (K : Ex → Env → Mem → Option (AV × Bool)) := (fun z_v20 => K .norm (qi [(1, (.int .i64 v1)), (2, (.ptr 0 0)), (4, (.ptr 1 0)), (20, (.bool z_v20))]) (qh [(some (.box true (qh8 Aa Ab Ac))), (some (.box true (qa Aq Ar As At)))]))
def qbbw : Shp := ⟨[(1, .one (.l (.i .i64))), (2, .one (.ptr 0 0)), (4, .one (.ptr 1 0))], [.box true (lk qnj), .box true (lk qc)]⟩
def qv5  (v1 : Int) (Aa : Bool) (Ab Ac : Int) (Aq : Bool) (Ar As At : Int) (kn : Bool → Option (AV × Bool)) : Option (AV × Bool) :=
  (oB (qq2 Aa Ab Ac) fun r1 => (bif ((!r1) || (decide (v1 < (0 : Int)))) then (kn true) else (oB (qh9 Aa Ab Ac) fun r2 => (kn (decide (v1 > r2))))))
def qt6 := hull (qv5)
theorem q06 : qt6 = qv5 := ql _
def qq4 : AC (AV × Bool) :=
  .seq (.reg [ao 8 (.load true 3 2),
 .call (po 9 (.call 72 [8])) 72 qv1,
 ao 10 (.un .not 9),
 ao 11 (.mv 10),
 .grp 11 false [(pg 12 11 false (.mv 1)), (pg 13 11 false (.bin .lss 12 (.c (.int .i64 0))))] 14 13,
 ao 15 (.mv 14),
 ag 16 15 false (.mv 1),
 ag 17 15 false (.load true 3 2),
 .call (pg 18 15 false (.call 85 [17])) 85 qkm,
 ag 19 15 false (.bin .gtr 16 18),
 ao 20 (.pick 15 (.c (.bool true)) 19)]) (.view [.sel [1, 2, 4, 20] [0, 1]])
theorem qbdl : AC.ok Try.prog (TIof Try.prog) 42 0 (kret [(.cell 4 true 4), .t 5] qlj) qq4 := qn (zA (qe.ok q68) (zA (qe.ok qpp) trivial))
theorem qbfu (v1 : Int) (Aa : Bool) (Ab Ac : Int) (Aq : Bool) (Ar As At : Int) (K : Ex → Env → Mem → Option (AV × Bool)) : den 0 (kret [(.cell 4 true 4), .t 5] qlj) qq4 (qi [(1, (.int .i64 v1)), (2, (.ptr 0 0)), (4, (.ptr 1 0))]) (qh [(some (.box true (qh8 Aa Ab Ac))), (some (.box true (qa Aq Ar As At)))]) K = qt6 v1 Aa Ab Ac Aq Ar As At (q05 v1 Aa Ab Ac Aq Ar As At K) := by
  rw [q06]; kernel_rfl
def q2e := subE (R := AV × Bool) qbbw fun t m K => qb (bxC (m.s 1)) (qkk (bxC (m.s 0)) (qt6 (gI [t 1] 0))) (q05 (gI [t 1] 0) (gB (bxC (m.s 0)) 0) (gI (bxC (m.s 0)) 1) (gI (bxC (m.s 0)) 2) (gB (bxC (m.s 1)) 0) (gI (bxC (m.s 1)) 1) (gI (bxC (m.s 1)) 2) (gI (bxC (m.s 1)) 3) K)
theorem qbfv : qc9 Try.prog (TIof Try.prog) 42 0 (kret [(.cell 4 true 4), .t 5] qlj) (scOf qq4) (q2e) :=
  qi8 tabOk follows (qbdl) (qbe (by kernel_rfl)) fun t m K => qbfu _ _ _ _ _ _ _ _ K
def qbib : Shp := ⟨[(0, .st (lk qnj)), (1, .one (.l (.i .i64)))], []⟩
def q1w (Ae : Bool) (Af Ag v1 : Int) : Option (AV × Bool) :=
  (qt6 v1 Ae Af Ag false (0 : Int) (0 : Int) (0 : Int) (fun v20q1 => (bif v20q1 then (some ((.agg [(.bool false), (.int .u64 (0 : Int)), (.int .u64 (0 : Int)), (.int .i64 (0 : Int))]), false)) else (oB (qml Ae v1) fun r2 => (some ((.agg [(.bool Ae), (.int .u64 (qce .andNot .u64 Af r2.1)), (.int .u64 (qce .andNot .u64 Ag r2.2)), (.int .i64 v1)]), true))))))
def qw7 := hull q1w
theorem q7a : qw7 = q1w := ql _
def q1x : AC (AV × Bool) :=
  .seq (.reg [ao 2 (.box 0),
 ao 4 (.alloc [(.bool false), (.int .u64 0), (.int .u64 0), (.int .i64 0)]),
 ao 5 (.mv (.c (.bool false)))]) (.seq (.seq (.seq (.view [.sel [1, 2, 4] [0, 1]]) (.sub (scOf qq4) q2e)) (.cond 20 (.seq (.reg [ao 21 (.build [(.bool false), (.int .u64 0), (.int .u64 0), (.int .i64 0)] []),
 an (.store 4 4 21),
 ao 5 (.mv (.c (.bool false)))]) (.ret)) (.skip))) (.seq (.reg [ao 23 (.fa 0 2),
 ao 24 (.load false 1 23),
 ao 25 (.mv 1),
 .call (po 26 (.call 71 [24, 25])) 71 qsz,
 ao 22 (.mv 26),
 ao 27 (.ext 22 0),
 ao 28 (.ext 22 1),
 ao 6 (.mv 27),
 ao 7 (.mv 28)]) (.seq (.reg [ao 29 (.fa 1 2),
 ao 30 (.load false 1 29),
 ao 31 (.mv 6),
 ao 32 (.bin .andNot 30 31),
 ao 33 (.fa 1 2),
 an (.store 1 33 32)]) (.seq (.reg [ao 34 (.fa 2 2),
 ao 35 (.load false 1 34),
 ao 36 (.mv 7),
 ao 37 (.bin .andNot 35 36),
 ao 38 (.fa 2 2),
 an (.store 1 38 37)]) (.seq (.reg [ao 39 (.load true 3 2),
 ao 40 (.mv 1),
 ao 41 (.build [(.bool false), (.int .u64 0), (.int .u64 0), (.int .i64 0)] [(0, (3, 39)), (3, (1, 40))]),
 an (.store 4 4 41),
 ao 5 (.mv (.c (.bool true)))]) (.ret))))))
theorem qbje : AC.ok Try.prog (TIof Try.prog) 42 0 (kret [(.cell 4 true 4), .t 5] qlj) q1x := qn (zA qbfv (zA (qe.ok q2d) trivial))
theorem qbk9 (Ae : Bool) (Af Ag v1 : Int) : den 0 (kret [(.cell 4 true 4), .t 5] qlj) q1x (qi [(0, .agg (qh8 Ae Af Ag)), (1, (.int .i64 v1))]) (qh []) (kend (kret [(.cell 4 true 4), .t 5] qlj)) = qw7 Ae Af Ag v1 := by
  rw [q7a]; kernel_rfl
theorem qbla : cFn (TIof Try.prog) Try.f96 = some ⟨42, [(.cell 4 true 4), .t 5], scOf q1x⟩ := by kernel_rfl
def qblb (xs : List AV) : Option (AV × Bool) := qkk ((qk xs) 0).cells (qw7) (gI [(qk xs) 1] 0)
def q5l {R : Type} : List AV → (AV → Option R) → Option R := entF qbib qblb qbia
theorem qblc {R : Type} : qe Try.prog 96 (q5l (R := R)) :=
  qb6 tabOk follows Try.func96 (by kernel_rfl) qbla (fun z r h => by
 obtain ⟨h1, h2⟩ := qm h
 cases h2
 exact (qgh h1).symm) qbje (qbe (by kernel_rfl)) fun xs => qbk9 _ _ _ _
def q50 : Shp := ⟨[(0, .st (lk qc)), (1, .st (lk qnj))], []⟩
def qrn (Ae : Bool) (Af Ag Ah : Int) (Am : Bool) (An Ao : Int) : Option Bool :=
  (oB (qgj Ae Af Ag Ah) fun r1 => (bif ((!r1) || (!((Ae == Am) && true))) then (some false) else (oB (qw7 Am An Ao Ah) fun r2 => (some (r2.2 && (((gB r2.1.cells 0) == Ae) && (((gI r2.1.cells 1) == Af) && (((gI r2.1.cells 2) == Ag) && (((gI r2.1.cells 3) == Ah) && true)))))))))
def qln := hull qrn
theorem qw8 : qln = qrn := ql _
def qro : AC Bool :=
  .seq (.reg [ao 2 (.box 0),
 ao 3 (.box 1),
 ao 4 (.mv (.c (.bool false)))]) (.seq (.seq (.reg [ao 7 (.load true 4 2),
 .call (po 8 (.call 61 [7])) 61 qgo,
 ao 9 (.un .not 8),
 ao 10 (.mv 9),
 .grp 10 false [(pg 11 10 false (.fa 0 2)), (pg 12 10 false (.fa 0 11)), (pg 13 10 false (.load false 1 12)), (pg 14 10 false (.fa 0 3)), (pg 15 10 false (.load false 1 14)), (pg 16 10 false (.eq true false [.b] 13 15))] 17 16]) (.cond 17 (.seq (.reg [ao 4 (.mv (.c (.bool false)))]) (.ret)) (.skip))) (.seq (.reg [ao 19 (.load true 3 3),
 ao 20 (.fa 3 2),
 ao 21 (.load false 1 20),
 .call (po 22 (.call 96 [19, 21])) 96 q5l,
 ao 18 (.mv 22),
 ao 23 (.ext 18 0),
 ao 24 (.ext 18 1),
 ao 5 (.alloc [(.bool false), (.int .u64 0), (.int .u64 0), (.int .i64 0)]),
 an (.store 4 5 23),
 ao 6 (.mv 24)]) (.seq (.reg [ao 25 (.mv 6),
 ao 26 (.mv 25),
 .grp 26 true [(pg 27 26 true (.load true 4 5)), (pg 28 26 true (.load true 4 2)), (pg 29 26 true (.eq false true [.b, (.i .u64), (.i .u64), (.i .i64)] 27 28))] 30 29,
 ao 4 (.mv 30)]) (.ret))))
theorem q7b : AC.ok Try.prog (TIof Try.prog) 31 0 (kret [.t 4] decB) qro := qn (zA (qe.ok qkz) (zA (qe.ok qblc) trivial))
theorem q90 (Ae : Bool) (Af Ag Ah : Int) (Am : Bool) (An Ao : Int) : den 0 (kret [.t 4] decB) qro (qi [(0, .agg (qa Ae Af Ag Ah)), (1, .agg (qh8 Am An Ao))]) (qh []) (kend (kret [.t 4] decB)) = qln Ae Af Ag Ah Am An Ao := by
  rw [qw8]; kernel_rfl
theorem q91 : cFn (TIof Try.prog) Try.f62 = some ⟨31, [.t 4], scOf qro⟩ := by kernel_rfl
def q92 (xs : List AV) : Option Bool := qkk ((qk xs) 1).cells (qb ((qk xs) 0).cells (qln))
def qvj {R : Type} : List AV → (AV → Option R) → Option R := entF q50 q92 AV.bool
theorem q93 {R : Type} : qe Try.prog 62 (qvj (R := R)) :=
  qb6 tabOk follows Try.func62 (by kernel_rfl) q91 hdeB q7b (qbe (by kernel_rfl)) fun xs => q90 _ _ _ _ _ _ _
def q94 : Shp := ⟨[(0, .st (lk qc)), (1, .st (lk qc))], []⟩
def qt7 (Ae : Bool) (Af Ag Ah : Int) (Am : Bool) (An Ao Ap : Int) : Option Bool :=
  (oB (qgj Ae Af Ag Ah) fun r1 => (bif r1 then (oB (qgj Am An Ao Ap) fun r2 => (bif (r2 && (decide (Ah ≥ Ap))) then (oB (qln Am An Ao Ap Ae Af Ag) fun r3 => (some r3)) else (some false))) else (some false)))
def qfs := hull qt7
theorem qzq : qfs = qt7 := ql _
def qt8 : AC Bool :=
  .seq (.reg [ao 2 (.box 0),
 ao 3 (.box 1),
 ao 4 (.mv (.c (.bool false)))]) (.seq (.reg [ao 5 (.load true 4 2),
 .call (po 6 (.call 61 [5])) 61 qgo,
 ao 7 (.mv 6),
 ag 8 7 true (.load true 4 3),
 .call (pg 9 7 true (.call 61 [8])) 61 qgo,
 ao 10 (.pick 7 9 (.c (.bool false))),
 ao 11 (.mv 10),
 .grp 11 true [(pg 12 11 true (.fa 3 2)), (pg 13 11 true (.load false 1 12)), (pg 14 11 true (.fa 3 3)), (pg 15 11 true (.load false 1 14)), (pg 16 11 true (.bin .geq 13 15))] 17 16,
 ao 18 (.mv 17),
 ag 19 18 true (.load true 4 3),
 ag 20 18 true (.fa 0 2),
 ag 21 18 true (.load true 3 20),
 .call (pg 22 18 true (.call 62 [19, 21])) 62 qvj,
 ao 23 (.pick 18 22 (.c (.bool false))),
 ao 4 (.mv 23)]) (.ret))
theorem qbbx : AC.ok Try.prog (TIof Try.prog) 24 0 (kret [.t 4] decB) qt8 := qn (zA (qe.ok qkz) (zA (qe.ok qkz) (zA (qe.ok q93) trivial)))
theorem qbdm (Ae : Bool) (Af Ag Ah : Int) (Am : Bool) (An Ao Ap : Int) : den 0 (kret [.t 4] decB) qt8 (qi [(0, .agg (qa Ae Af Ag Ah)), (1, .agg (qa Am An Ao Ap))]) (qh []) (kend (kret [.t 4] decB)) = qfs Ae Af Ag Ah Am An Ao Ap := by
  rw [qzq]; kernel_rfl
theorem qbdn : cFn (TIof Try.prog) Try.f23 = some ⟨24, [.t 4], scOf qt8⟩ := by kernel_rfl
def qbdo (xs : List AV) : Option Bool := qb ((qk xs) 1).cells (qb ((qk xs) 0).cells (qfs))
def qf3 {R : Type} : List AV → (AV → Option R) → Option R := entF q94 qbdo AV.bool
theorem qkb {R : Type} : qe Try.prog 23 (qf3 (R := R)) :=
  qb6 tabOk follows Try.func23 (by kernel_rfl) qbdn hdeB qbbx (qbe (by kernel_rfl)) fun xs => qbdm _ _ _ _ _ _ _ _
def qjn  (K : Ex → Env → Mem → Option Bool) := (fun (_ : Unit) => K (.exit 0) (qi []) (qh []))
def q1y : Shp := ⟨[(0, .one (.l (.sl 8))), (3, .one (.l (.i .i64)))], []⟩
def qmm (v0 : List AV) (v3 : Int) : Env := qi [(0, (.sl 8 v0)), (3, (.int .i64 v3))]
def qmn (v0 : List AV) (v3 : Int) : Mem := qh []
def qfu  (v0 : List AV) (v3 : Int) (next : Int → Option Bool) (kx0 : Unit → Option Bool) : Option Bool :=
  (bif (decide (v3 < (v0.length : Int))) then (oB (ixB v0 v3) fun y1 => (bif fitC qj y1.cells then (bif (decide (((gS y1.cells 5).length : Int) > (100 : Int))) then (some false) else (oB (ixB v0 v3) fun y2 => (bif fitC qj y2.cells then (bif (decide (((gS y2.cells 6).length : Int) > (100 : Int))) then (some false) else (next (IntKind.i64.wrap (v3 + (1 : Int))))) else none))) else none)) else (kx0 ()))
def qkr  (v0 : List AV) (kx0 : Unit → Option Bool) : Nat → Int → Option Bool
  | 0 => (fun _ => none)
  | n + 1 => (fun v3 => qfu v0 v3 (qkr v0 kx0 n) kx0)
def qlo := hull (qkr)
theorem qtj : qlo = qkr := ql _
def qfv : AC Bool :=
  .seq (.seq (.reg [ao 7 (.mv 3),
 ao 8 (.mv 0),
 ao 9 (.len false 8),
 ao 10 (.bin .lss 7 9)]) (.cond 10 (.skip) (.seq (.view [.sel [] []]) (.exit 0)))) (.seq (.block 1 (.seq (.reg [ao 13 (.mv 0),
 ao 14 (.mv 3),
 ao 15 (.ia 8 13 14),
 .st (.etac 15 qj),
 ao 16 (.fa 5 15),
 ao 17 (.load false 1 16),
 ao 18 (.len true 17),
 ao 19 (.bin .gtr 18 (.c (.int .i64 100))),
 ao 20 (.mv 19),
 ag 21 20 false (.mv 0),
 ag 22 20 false (.mv 3),
 ag 23 20 false (.ia 8 21 22),
 .stg 20 false (.etac 23 qj),
 ag 24 20 false (.fa 6 23),
 ag 25 20 false (.load false 1 24),
 ag 26 20 false (.len true 25),
 ag 27 20 false (.bin .gtr 26 (.c (.int .i64 100))),
 ao 28 (.pick 20 (.c (.bool true)) 27)]) (.cond 28 (.seq (.reg [ao 2 (.mv (.c (.bool false)))]) (.ret)) (.skip)))) (.seq (.reg [ao 11 (.mv 3),
 ao 12 (.bin .add 11 (.c (.int .i64 1))),
 ao 3 (.mv 12)]) (.view [.sel [0, 3] []])))
theorem q2f : AC.ok Try.prog (TIof Try.prog) 29 0 (kret [.t 2] decB) qfv := qn trivial
theorem q1z (v0 : List AV) (v3 : Int) (K : Ex → Env → Mem → Option Bool) : den 0 (kret [.t 2] decB) qfv (qmm v0 v3) (qmn v0 v3) K = qfu v0 v3 (fun z_v3 => K .norm (qmm v0 z_v3) (qmn v0 z_v3)) (qjn K) := by kernel_rfl
theorem q3o (v0 : List AV) (K : Ex → Env → Mem → Option Bool) : ∀ (n : Nat) (v3 : Int), qht (den 0 (kret [.t 2] decB) qfv) n (qmm v0 v3) (qmn v0 v3) K = qlo v0 (qjn K) n v3 := by
  rw [qtj]
  intro n
  induction n with
  | zero => intros; rfl
  | succ n ih =>
 intro v3
 exact (q1z v0 v3 (itK (den 0 (kret [.t 2] decB) qfv) n K)).trans (congrArg (fun q => qfu v0 v3 q (qjn K)) (funext fun v3 => ih v3))
def qt9 := subE (R := Bool) q1y fun t m K => qlo (gL [t 0] 0) (qjn K) FU (gI [t 3] 0)
theorem q3p : qc9 Try.prog (TIof Try.prog) 29 0 (kret [.t 2] decB) (.loop (scOf qfv)) (qt9) :=
  qjh tabOk follows (q2f) (qbe (by kernel_rfl)) fun t m K => q3o _ K FU _
def q7c : Shp := ⟨[(0, .one (.l (.sl 8)))], []⟩
def qs0 (v0 : List AV) : Option Bool :=
  (bif (decide ((v0.length : Int) > (40 : Int))) then (some false) else (qlo v0 (fun (_ : Unit) => (some true)) FU (0 : Int)))
def qmo := hull qs0
theorem qyp : qmo = qs0 := ql _
def qs1 : AC Bool :=
  .seq (.reg [ao 2 (.mv (.c (.bool false)))]) (.seq (.seq (.reg [ao 4 (.mv 0),
 ao 5 (.len false 4),
 ao 6 (.bin .gtr 5 (.c (.int .i64 40)))]) (.cond 6 (.seq (.reg [ao 2 (.mv (.c (.bool false)))]) (.ret)) (.skip))) (.seq (.seq (.reg [ao 3 (.mv (.c (.int .i64 0)))]) (.block 0 (.seq (.view [.sel [0, 3] []]) (.sub (.loop (scOf qfv)) qt9)))) (.seq (.reg [ao 2 (.mv (.c (.bool true)))]) (.ret))))
theorem q95 : AC.ok Try.prog (TIof Try.prog) 29 0 (kret [.t 2] decB) qs1 := qn (zA q3p trivial)
theorem qbby (v0 : List AV) : den 0 (kret [.t 2] decB) qs1 (qi [(0, (.sl 8 v0))]) (qh []) (kend (kret [.t 2] decB)) = qmo v0 := by
  rw [qyp]; kernel_rfl
theorem qbbz : cFn (TIof Try.prog) Try.f11 = some ⟨29, [.t 2], scOf qs1⟩ := by kernel_rfl
def qbb0 (xs : List AV) : Option Bool := qmo (gL [(qk xs) 0] 0)
def qw9 {R : Type} : List AV → (AV → Option R) → Option R := entF q7c qbb0 AV.bool
theorem qbb1 {R : Type} : qe Try.prog 11 (qw9 (R := R)) :=
  qb6 tabOk follows Try.func11 (by kernel_rfl) qbbz hdeB q95 (qbe (by kernel_rfl)) fun xs => qbby _
def q51 : Shp := ⟨[(0, .st (lk qc))], []⟩
def qrp (Ae : Bool) (Af Ag Ah : Int) : Option Int :=
  (bif Ae then (some (128 : Int)) else (some (32 : Int)))
def qlp := hull qrp
theorem qxa : qlp = qrp := ql _
def qrq : AC Int :=
  .seq (.reg [ao 1 (.box 0),
 ao 2 (.mv (.c (.int .i64 0)))]) (.seq (.seq (.reg [ao 3 (.fa 0 1),
 ao 4 (.fa 0 3),
 ao 5 (.load false 1 4)]) (.cond 5 (.seq (.reg [ao 2 (.mv (.c (.int .i64 128)))]) (.ret)) (.skip))) (.seq (.reg [ao 2 (.mv (.c (.int .i64 32)))]) (.ret)))
theorem q7d : AC.ok Try.prog (TIof Try.prog) 6 0 (kret [.t 2] (decI .i64)) qrq := qn trivial
theorem q96 (Ae : Bool) (Af Ag Ah : Int) : den 0 (kret [.t 2] (decI .i64)) qrq (qi [(0, .agg (qa Ae Af Ag Ah))]) (qh []) (kend (kret [.t 2] (decI .i64))) = qlp Ae Af Ag Ah := by
  rw [qxa]; kernel_rfl
theorem q97 : cFn (TIof Try.prog) Try.f41 = some ⟨6, [.t 2], scOf qrq⟩ := by kernel_rfl
def q98 (xs : List AV) : Option Int := qb ((qk xs) 0).cells (qlp)
def qvk {R : Type} : List AV → (AV → Option R) → Option R := entF q51 q98 (AV.int .i64)
theorem q99 {R : Type} : qe Try.prog 41 (qvk (R := R)) :=
  qb6 tabOk follows Try.func41 (by kernel_rfl) q97 hdeI q7d (qbe (by kernel_rfl)) fun xs => q96 _ _ _ _
def qbdp : Shp := ⟨[(0, .st (lk qc)), (1, .st (lk qc))], []⟩
def qyb (Ae : Bool) (Af Ag Ah : Int) (Am : Bool) (An Ao Ap : Int) : Option Bool :=
  (bif (decide (Ah > Ap)) then (oB (qfs Ae Af Ag Ah Am An Ao Ap) fun r1 => (some r1)) else (some false))
def ql3 := hull qyb
theorem q2g : ql3 = qyb := ql _
def qyc : AC Bool :=
  .seq (.reg [ao 2 (.box 0),
 ao 3 (.box 1),
 ao 4 (.mv (.c (.bool false)))]) (.seq (.reg [ao 5 (.fa 3 2),
 ao 6 (.load false 1 5),
 ao 7 (.fa 3 3),
 ao 8 (.load false 1 7),
 ao 9 (.bin .gtr 6 8),
 ao 10 (.mv 9),
 ag 11 10 true (.load true 4 2),
 ag 12 10 true (.load true 4 3),
 .call (pg 13 10 true (.call 23 [11, 12])) 23 qf3,
 ao 14 (.pick 10 13 (.c (.bool false))),
 ao 4 (.mv 14)]) (.ret))
theorem qbfw : AC.ok Try.prog (TIof Try.prog) 15 0 (kret [.t 4] decB) qyc := qn (zA (qe.ok qkb) trivial)
theorem qbic (Ae : Bool) (Af Ag Ah : Int) (Am : Bool) (An Ao Ap : Int) : den 0 (kret [.t 4] decB) qyc (qi [(0, .agg (qa Ae Af Ag Ah)), (1, .agg (qa Am An Ao Ap))]) (qh []) (kend (kret [.t 4] decB)) = ql3 Ae Af Ag Ah Am An Ao Ap := by
  rw [q2g]; kernel_rfl
theorem qbid : cFn (TIof Try.prog) Try.f83 = some ⟨15, [.t 4], scOf qyc⟩ := by kernel_rfl
def qbie (xs : List AV) : Option Bool := qb ((qk xs) 1).cells (qb ((qk xs) 0).cells (ql3))
def qpr {R : Type} : List AV → (AV → Option R) → Option R := entF qbdp qbie AV.bool
theorem qyd {R : Type} : qe Try.prog 83 (qpr (R := R)) :=
  qb6 tabOk follows Try.func83 (by kernel_rfl) qbid hdeB qbfw (qbe (by kernel_rfl)) fun xs => qbic _ _ _ _ _ _ _ _
def q7e : Shp := ⟨[(0, .st (lk qc)), (1, .st (lk qc))], []⟩
def qs2 (Ae : Bool) (Af Ag Ah : Int) (Am : Bool) (An Ao Ap : Int) : Option Bool :=
  (oB (qfs Ae Af Ag Ah Am An Ao Ap) fun r1 => (bif r1 then (some true) else (oB (qfs Am An Ao Ap Ae Af Ag Ah) fun r2 => (some r2))))
def qk0 := hull qs2
theorem qyq : qk0 = qs2 := ql _
def qs3 : AC Bool :=
  .seq (.reg [ao 2 (.box 0),
 ao 3 (.box 1),
 ao 4 (.mv (.c (.bool false)))]) (.seq (.reg [ao 5 (.load true 4 2),
 ao 6 (.load true 4 3),
 .call (po 7 (.call 23 [5, 6])) 23 qf3,
 ao 8 (.mv 7),
 ag 9 8 false (.load true 4 3),
 ag 10 8 false (.load true 4 2),
 .call (pg 11 8 false (.call 23 [9, 10])) 23 qf3,
 ao 12 (.pick 8 (.c (.bool true)) 11),
 ao 4 (.mv 12)]) (.ret))
theorem qbaa : AC.ok Try.prog (TIof Try.prog) 13 0 (kret [.t 4] decB) qs3 := qn (zA (qe.ok qkb) (zA (qe.ok qkb) trivial))
theorem qbb2 (Ae : Bool) (Af Ag Ah : Int) (Am : Bool) (An Ao Ap : Int) : den 0 (kret [.t 4] decB) qs3 (qi [(0, .agg (qa Ae Af Ag Ah)), (1, .agg (qa Am An Ao Ap))]) (qh []) (kend (kret [.t 4] decB)) = qk0 Ae Af Ag Ah Am An Ao Ap := by
  rw [qyq]; kernel_rfl
theorem qbb3 : cFn (TIof Try.prog) Try.f24 = some ⟨13, [.t 4], scOf qs3⟩ := by kernel_rfl
def qbb4 (xs : List AV) : Option Bool := qb ((qk xs) 1).cells (qb ((qk xs) 0).cells (qk0))
def qp8 {R : Type} : List AV → (AV → Option R) → Option R := entF q7e qbb4 AV.bool
theorem qzr {R : Type} : qe Try.prog 24 (qp8 (R := R)) :=
  qb6 tabOk follows Try.func24 (by kernel_rfl) qbb3 hdeB qbaa (qbe (by kernel_rfl)) fun xs => qbb2 _ _ _ _ _ _ _ _
def qdb (z : AV) : Option (AV × Bool) := cond (qkp [(.st [.b, (.i .u64), (.i .u64), (.i .i64)]), (.one .b)] z) (some ((gC (tpL z) 0), aB (gC (tpL z) 1))) none
def qbdq (r : AV × Bool) : AV := .tup [qmk (.st [.b, (.i .u64), (.i .u64), (.i .i64)]) r.1, .bool r.2]
def qyr  (v1 v2 : Int) (Aa : Bool) (Ab Ac Ad : Int) (Aq : Bool) (Ar As At : Int) (K : Ex → Env → Mem → Option (AV × Bool)) := (fun z_v28 => K .norm (qi [(1, (.int .i64 v1)), (2, (.int .u64 v2)), (3, (.ptr 0 0)), (6, (.ptr 1 0)), (28, (.bool z_v28))]) (qh [(some (.box true (qa Aa Ab Ac Ad))), (some (.box true (qa Aq Ar As At)))]))
def q7f : Shp := ⟨[(1, .one (.l (.i .i64))), (2, .one (.l (.i .u64))), (3, .one (.ptr 0 0)), (6, .one (.ptr 1 0))], [.box true (lk qc), .box true (lk qc)]⟩
def qs4  (v1 v2 : Int) (Aa : Bool) (Ab Ac Ad : Int) (Aq : Bool) (Ar As At : Int) (kn : Bool → Option (AV × Bool)) : Option (AV × Bool) :=
  (oB (qgj Aa Ab Ac Ad) fun r1 => (bif ((!r1) || (decide (v1 < Ad))) then (kn true) else (oB (qh9 Aa Ab Ac) fun r2 => (kn (decide (v1 > r2))))))
def qmp := hull (qs4)
theorem qys : qmp = qs4 := ql _
def qnk : AC (AV × Bool) :=
  .seq (.reg [ao 13 (.load true 4 3),
 .call (po 14 (.call 61 [13])) 61 qgo,
 ao 15 (.un .not 14),
 ao 16 (.mv 15),
 .grp 16 false [(pg 17 16 false (.mv 1)), (pg 18 16 false (.fa 3 3)), (pg 19 16 false (.load false 1 18)), (pg 20 16 false (.bin .lss 17 19))] 21 20,
 ao 22 (.mv 21),
 ag 23 22 false (.mv 1),
 ag 24 22 false (.fa 0 3),
 ag 25 22 false (.load true 3 24),
 .call (pg 26 22 false (.call 85 [25])) 85 qkm,
 ag 27 22 false (.bin .gtr 23 26),
 ao 28 (.pick 22 (.c (.bool true)) 27)]) (.view [.sel [1, 2, 3, 6, 28] [0, 1]])
theorem qbab : AC.ok Try.prog (TIof Try.prog) 81 0 (kret [(.cell 6 true 4), .t 7] qdb) qnk := qn (zA (qe.ok qkz) (zA (qe.ok qpp) trivial))
theorem qbb5 (v1 v2 : Int) (Aa : Bool) (Ab Ac Ad : Int) (Aq : Bool) (Ar As At : Int) (K : Ex → Env → Mem → Option (AV × Bool)) : den 0 (kret [(.cell 6 true 4), .t 7] qdb) qnk (qi [(1, (.int .i64 v1)), (2, (.int .u64 v2)), (3, (.ptr 0 0)), (6, (.ptr 1 0))]) (qh [(some (.box true (qa Aa Ab Ac Ad))), (some (.box true (qa Aq Ar As At)))]) K = qmp v1 v2 Aa Ab Ac Ad Aq Ar As At (qyr v1 v2 Aa Ab Ac Ad Aq Ar As At K) := by
  rw [qys]; kernel_rfl
def qzs := subE (R := AV × Bool) q7f fun t m K => qb (bxC (m.s 1)) (qb (bxC (m.s 0)) (qmp (gI [t 1] 0) (gI [t 2] 0))) (qyr (gI [t 1] 0) (gI [t 2] 0) (gB (bxC (m.s 0)) 0) (gI (bxC (m.s 0)) 1) (gI (bxC (m.s 0)) 2) (gI (bxC (m.s 0)) 3) (gB (bxC (m.s 1)) 0) (gI (bxC (m.s 1)) 1) (gI (bxC (m.s 1)) 2) (gI (bxC (m.s 1)) 3) K)
theorem qbb6 : qc9 Try.prog (TIof Try.prog) 81 0 (kret [(.cell 6 true 4), .t 7] qdb) (scOf qnk) (qzs) :=
  qi8 tabOk follows (qbab) (qbe (by kernel_rfl)) fun t m K => qbb5 _ _ _ _ _ _ _ _ _ _ K
def qxb  (v1 v2 : Int) (Aa : Bool) (Ab Ac Ad : Int) (Aq : Bool) (Ar As At : Int) (K : Ex → Env → Mem → Option (AV × Bool)) := (fun z_v42 => K .norm (qi [(1, (.int .i64 v1)), (2, (.int .u64 v2)), (3, (.ptr 0 0)), (6, (.ptr 1 0)), (42, (.bool z_v42))]) (qh [(some (.box true (qa Aa Ab Ac Ad))), (some (.box true (qa Aq Ar As At)))]))
def q52 : Shp := ⟨[(1, .one (.l (.i .i64))), (2, .one (.l (.i .u64))), (3, .one (.ptr 0 0)), (6, .one (.ptr 1 0)), (8, .one (.l (.i .i64)))], [.box true (lk qc), .box true (lk qc)]⟩
def qmb  (v1 v2 v8 : Int) (Aa : Bool) (Ab Ac Ad : Int) (Aq : Bool) (Ar As At : Int) (kn : Bool → Option (AV × Bool)) : Option (AV × Bool) :=
  (bif (decide (v8 < (64 : Int))) then (bif decide ((IntKind.u64.wrap v8) < 0) then none else (kn ((v2.fdiv (2 ^ min (IntKind.u64.wrap v8).toNat IntKind.u64.bits)) != (0 : Int)))) else (kn false))
def qps := hull (qmb)
theorem qp9 : qps = qmb := ql _
def qmc : AC (AV × Bool) :=
  .seq (.reg [ao 34 (.mv 8),
 ao 35 (.bin .lss 34 (.c (.int .i64 64))),
 ao 36 (.mv 35),
 ag 37 36 true (.mv 2),
 ag 38 36 true (.mv 8),
 ag 39 36 true (.conv (.int .u64) 38),
 ag 40 36 true (.bin .shr 37 39),
 ag 41 36 true (.bin .neq 40 (.c (.int .u64 0))),
 ao 42 (.pick 36 41 (.c (.bool false)))]) (.view [.sel [1, 2, 3, 6, 42] [0, 1]])
theorem q7g : AC.ok Try.prog (TIof Try.prog) 81 0 (kret [(.cell 6 true 4), .t 7] qdb) qmc := qn trivial
theorem qbac (v1 v2 v8 : Int) (Aa : Bool) (Ab Ac Ad : Int) (Aq : Bool) (Ar As At : Int) (K : Ex → Env → Mem → Option (AV × Bool)) : den 0 (kret [(.cell 6 true 4), .t 7] qdb) qmc (qi [(1, (.int .i64 v1)), (2, (.int .u64 v2)), (3, (.ptr 0 0)), (6, (.ptr 1 0)), (8, (.int .i64 v8))]) (qh [(some (.box true (qa Aa Ab Ac Ad))), (some (.box true (qa Aq Ar As At)))]) K = qps v1 v2 v8 Aa Ab Ac Ad Aq Ar As At (qxb v1 v2 Aa Ab Ac Ad Aq Ar As At K) := by
  rw [qp9]; kernel_rfl
def qyt := subE (R := AV × Bool) q52 fun t m K => qb (bxC (m.s 1)) (qb (bxC (m.s 0)) (qps (gI [t 1] 0) (gI [t 2] 0) (gI [t 8] 0))) (qxb (gI [t 1] 0) (gI [t 2] 0) (gB (bxC (m.s 0)) 0) (gI (bxC (m.s 0)) 1) (gI (bxC (m.s 0)) 2) (gI (bxC (m.s 0)) 3) (gB (bxC (m.s 1)) 0) (gI (bxC (m.s 1)) 1) (gI (bxC (m.s 1)) 2) (gI (bxC (m.s 1)) 3) K)
theorem qbad : qc9 Try.prog (TIof Try.prog) 81 0 (kret [(.cell 6 true 4), .t 7] qdb) (scOf qmc) (qyt) :=
  qi8 tabOk follows (q7g) (qbe (by kernel_rfl)) fun t m K => qbac _ _ _ _ _ _ _ _ _ _ _ K
def qxc  (v1 : Int) (Aa : Bool) (Ab Ac Ad : Int) (Aq : Bool) (Ar As At : Int) (K : Ex → Env → Mem → Option (AV × Bool)) := (fun z_v10 z_v11 => K .norm (qi [(1, (.int .i64 v1)), (3, (.ptr 0 0)), (6, (.ptr 1 0)), (10, (.int .u64 z_v10)), (11, (.int .u64 z_v11))]) (qh [(some (.box true (qa Aa Ab Ac Ad))), (some (.box true (qa Aq Ar As At)))]))
def q53 : Shp := ⟨[(1, .one (.l (.i .i64))), (2, .one (.l (.i .u64))), (3, .one (.ptr 0 0)), (6, .one (.ptr 1 0)), (9, .one (.l (.i .u64))), (10, .one (.l (.i .u64))), (11, .one (.l (.i .u64)))], [.box true (lk qc), .box true (lk qc)]⟩
def qmd  (v1 v2 v9 v10 v11 : Int) (Aa : Bool) (Ab Ac Ad : Int) (Aq : Bool) (Ar As At : Int) (kn : Int → Int → Option (AV × Bool)) : Option (AV × Bool) :=
  (bif (decide (v9 ≥ (64 : Int))) then (bif decide ((IntKind.u64.wrap (v9 - (64 : Int))) < 0) then none else (kn (IntKind.u64.wrap (v2 * 2 ^ min (IntKind.u64.wrap (v9 - (64 : Int))).toNat IntKind.u64.bits)) (0 : Int))) else (bif (decide (v9 > (0 : Int))) then (bif decide ((IntKind.u64.wrap ((64 : Int) - v9)) < 0) then none else (bif decide (v9 < 0) then none else (kn (v2.fdiv (2 ^ min (IntKind.u64.wrap ((64 : Int) - v9)).toNat IntKind.u64.bits)) (IntKind.u64.wrap (v2 * 2 ^ min v9.toNat IntKind.u64.bits))))) else (kn v10 v11)))
def qhg := hull (qmd)
theorem qqa : qhg = qmd := ql _
def qme : AC (AV × Bool) :=
  .seq (.reg [ao 51 (.mv 9),
 ao 52 (.bin .geq 51 (.c (.int .u64 64)))]) (.cond 52 (.seq (.reg [ao 53 (.mv 2),
 ao 54 (.mv 9),
 ao 55 (.bin .sub 54 (.c (.int .u64 64))),
 ao 56 (.bin .shl 53 55),
 ao 10 (.mv 56),
 ao 11 (.mv (.c (.int .u64 0)))]) (.view [.sel [1, 3, 6, 10, 11] [0, 1]])) (.seq (.reg [ao 57 (.mv 9),
 ao 58 (.bin .gtr 57 (.c (.int .u64 0)))]) (.cond 58 (.seq (.reg [ao 59 (.mv 2),
 ao 60 (.mv 9),
 ao 61 (.bin .sub (.c (.int .u64 64)) 60),
 ao 62 (.bin .shr 59 61),
 ao 63 (.mv 2),
 ao 64 (.mv 9),
 ao 65 (.bin .shl 63 64),
 ao 10 (.mv 62),
 ao 11 (.mv 65)]) (.view [.sel [1, 3, 6, 10, 11] [0, 1]])) (.seq (.skip) (.view [.sel [1, 3, 6, 10, 11] [0, 1]])))))
theorem q7h : AC.ok Try.prog (TIof Try.prog) 81 0 (kret [(.cell 6 true 4), .t 7] qdb) qme := qn trivial
theorem qbae (v1 v2 v9 v10 v11 : Int) (Aa : Bool) (Ab Ac Ad : Int) (Aq : Bool) (Ar As At : Int) (K : Ex → Env → Mem → Option (AV × Bool)) : den 0 (kret [(.cell 6 true 4), .t 7] qdb) qme (qi [(1, (.int .i64 v1)), (2, (.int .u64 v2)), (3, (.ptr 0 0)), (6, (.ptr 1 0)), (9, (.int .u64 v9)), (10, (.int .u64 v10)), (11, (.int .u64 v11))]) (qh [(some (.box true (qa Aa Ab Ac Ad))), (some (.box true (qa Aq Ar As At)))]) K = qhg v1 v2 v9 v10 v11 Aa Ab Ac Ad Aq Ar As At (qxc v1 Aa Ab Ac Ad Aq Ar As At K) := by
  rw [qqa]; kernel_rfl
def qyu := subE (R := AV × Bool) q53 fun t m K => qb (bxC (m.s 1)) (qb (bxC (m.s 0)) (qhg (gI [t 1] 0) (gI [t 2] 0) (gI [t 9] 0) (gI [t 10] 0) (gI [t 11] 0))) (qxc (gI [t 1] 0) (gB (bxC (m.s 0)) 0) (gI (bxC (m.s 0)) 1) (gI (bxC (m.s 0)) 2) (gI (bxC (m.s 0)) 3) (gB (bxC (m.s 1)) 0) (gI (bxC (m.s 1)) 1) (gI (bxC (m.s 1)) 2) (gI (bxC (m.s 1)) 3) K)
theorem qbaf : qc9 Try.prog (TIof Try.prog) 81 0 (kret [(.cell 6 true 4), .t 7] qdb) (scOf qme) (qyu) :=
  qi8 tabOk follows (q7h) (qbe (by kernel_rfl)) fun t m K => qbae _ _ _ _ _ _ _ _ _ _ _ _ _ K
def qbdr : Shp := ⟨[(0, .st (lk qc)), (1, .one (.l (.i .i64))), (2, .one (.l (.i .u64)))], []⟩
def qsq (Ae : Bool) (Af Ag Ah v1 v2 : Int) : Option (AV × Bool) :=
  (qmp v1 v2 Ae Af Ag Ah false (0 : Int) (0 : Int) (0 : Int) (fun v28q1 => (bif v28q1 then (some ((.agg [(.bool false), (.int .u64 (0 : Int)), (.int .u64 (0 : Int)), (.int .i64 (0 : Int))]), false)) else (qps v1 v2 (IntKind.i64.wrap (v1 - Ah)) Ae Af Ag Ah false (0 : Int) (0 : Int) (0 : Int) (fun v42q2 => (bif v42q2 then (some ((.agg [(.bool false), (.int .u64 (0 : Int)), (.int .u64 (0 : Int)), (.int .i64 (0 : Int))]), false)) else (oB (qh9 Ae Af Ag) fun r3 => (qhg v1 v2 (IntKind.u64.wrap (IntKind.i64.wrap (r3 - v1))) (0 : Int) v2 Ae Af Ag Ah false (0 : Int) (0 : Int) (0 : Int) (fun v10q4 v11q5 => (some ((.agg [(.bool Ae), (.int .u64 (qce .or .u64 Af v10q4)), (.int .u64 (qce .or .u64 Ag v11q5)), (.int .i64 v1)]), true)))))))))))
def qee := hull qsq
theorem qv6 : qee = qsq := ql _
def qye : AC (AV × Bool) :=
  .seq (.reg [ao 3 (.box 0),
 ao 6 (.alloc [(.bool false), (.int .u64 0), (.int .u64 0), (.int .i64 0)]),
 ao 7 (.mv (.c (.bool false)))]) (.seq (.seq (.seq (.view [.sel [1, 2, 3, 6] [0, 1]]) (.sub (scOf qnk) qzs)) (.cond 28 (.seq (.reg [ao 29 (.build [(.bool false), (.int .u64 0), (.int .u64 0), (.int .i64 0)] []),
 an (.store 4 6 29),
 ao 7 (.mv (.c (.bool false)))]) (.ret)) (.skip))) (.seq (.seq (.reg [ao 30 (.mv 1),
 ao 31 (.fa 3 3),
 ao 32 (.load false 1 31),
 ao 33 (.bin .sub 30 32),
 ao 8 (.mv 33)]) (.seq (.seq (.view [.sel [1, 2, 3, 6, 8] [0, 1]]) (.sub (scOf qmc) qyt)) (.cond 42 (.seq (.reg [ao 43 (.build [(.bool false), (.int .u64 0), (.int .u64 0), (.int .i64 0)] []),
 an (.store 4 6 43),
 ao 7 (.mv (.c (.bool false)))]) (.ret)) (.skip)))) (.seq (.reg [ao 44 (.fa 0 3),
 ao 45 (.load true 3 44),
 .call (po 46 (.call 85 [45])) 85 qkm,
 ao 47 (.mv 1),
 ao 48 (.bin .sub 46 47),
 ao 49 (.conv (.int .u64) 48),
 ao 9 (.mv 49)]) (.seq (.reg [ao 50 (.mv 2),
 ao 10 (.mv (.c (.int .u64 0))),
 ao 11 (.mv 50)]) (.seq (.seq (.view [.sel [1, 2, 3, 6, 9, 10, 11] [0, 1]]) (.sub (scOf qme) qyu)) (.seq (.reg [ao 66 (.fa 0 3),
 ao 67 (.load true 3 66),
 ao 12 (.alloc [(.bool false), (.int .u64 0), (.int .u64 0)]),
 an (.store 3 12 67)]) (.seq (.reg [ao 68 (.fa 1 12),
 ao 69 (.load false 1 68),
 ao 70 (.mv 10),
 ao 71 (.bin .or 69 70),
 ao 72 (.fa 1 12),
 an (.store 1 72 71)]) (.seq (.reg [ao 73 (.fa 2 12),
 ao 74 (.load false 1 73),
 ao 75 (.mv 11),
 ao 76 (.bin .or 74 75),
 ao 77 (.fa 2 12),
 an (.store 1 77 76)]) (.seq (.reg [ao 78 (.load true 3 12),
 ao 79 (.mv 1),
 ao 80 (.build [(.bool false), (.int .u64 0), (.int .u64 0), (.int .i64 0)] [(0, (3, 78)), (3, (1, 79))]),
 an (.store 4 6 80),
 ao 7 (.mv (.c (.bool true)))]) (.ret))))))))))
theorem qbfx : AC.ok Try.prog (TIof Try.prog) 81 0 (kret [(.cell 6 true 4), .t 7] qdb) qye := qn (zA qbb6 (zA qbad (zA (qe.ok qpp) (zA qbaf trivial))))
theorem qbif (Ae : Bool) (Af Ag Ah v1 v2 : Int) : den 0 (kret [(.cell 6 true 4), .t 7] qdb) qye (qi [(0, .agg (qa Ae Af Ag Ah)), (1, (.int .i64 v1)), (2, (.int .u64 v2))]) (qh []) (kend (kret [(.cell 6 true 4), .t 7] qdb)) = qee Ae Af Ag Ah v1 v2 := by
  rw [qv6]; kernel_rfl
theorem qbig : cFn (TIof Try.prog) Try.f48 = some ⟨81, [(.cell 6 true 4), .t 7], scOf qye⟩ := by kernel_rfl
def qbih (xs : List AV) : Option (AV × Bool) := qb ((qk xs) 0).cells (qee) (gI [(qk xs) 1] 0) (gI [(qk xs) 2] 0)
def qpt {R : Type} : List AV → (AV → Option R) → Option R := entF qbdr qbih qbdq
theorem qyf {R : Type} : qe Try.prog 48 (qpt (R := R)) :=
  qb6 tabOk follows Try.func48 (by kernel_rfl) qbig (fun z r h => by
 obtain ⟨h1, h2⟩ := qm h
 cases h2
 exact (qgh h1).symm) qbfx (qbe (by kernel_rfl)) fun xs => qbif _ _ _ _ _ _
def qhw (z : AV) : Option (AV × AV × Bool) := cond (qkp [(.st [.b, (.i .u64), (.i .u64), (.i .i64)]), (.st [.b, (.i .u64), (.i .u64), (.i .i64)]), (.one .b)] z) (some ((gC (tpL z) 0), (gC (tpL z) 1), aB (gC (tpL z) 2))) none
def qbag (r : AV × AV × Bool) : AV := .tup [qmk (.st [.b, (.i .u64), (.i .u64), (.i .i64)]) r.1, qmk (.st [.b, (.i .u64), (.i .u64), (.i .i64)]) r.2.1, .bool r.2.2]
def qvl  (Aa : Bool) (Ab Ac Ad : Int) (Aq : Bool) (Ar As At : Int) (Au : Bool) (Av Aw Ax : Int) (Ay : Bool) (Az A0 A1 : Int) (K : Ex → Env → Mem → Option (AV × AV × Bool)) := (fun z_v22 => K .norm (qi [(1, (.ptr 0 0)), (2, (.ptr 1 0)), (3, (.ptr 2 0)), (5, (.ptr 3 0)), (22, (.bool z_v22))]) (qh [(some (.box true (qa Aa Ab Ac Ad))), (some (.box true (qa Aq Ar As At))), (some (.box true (qa Au Av Aw Ax))), (some (.box true (qa Ay Az A0 A1)))]))
def q3q : Shp := ⟨[(1, .one (.ptr 0 0)), (2, .one (.ptr 1 0)), (3, .one (.ptr 2 0)), (5, .one (.ptr 3 0)), (6, .one (.l .b))], [.box true (lk qc), .box true (lk qc), .box true (lk qc), .box true (lk qc)]⟩
def qqb  (v6 Aa : Bool) (Ab Ac Ad : Int) (Aq : Bool) (Ar As At : Int) (Au : Bool) (Av Aw Ax : Int) (Ay : Bool) (Az A0 A1 : Int) (kn : Bool → Option (AV × AV × Bool)) : Option (AV × AV × Bool) :=
  (bif (!v6) then (kn true) else (oB (qgj Aa Ab Ac Ad) fun r1 => (kn (!r1))))
def qnl := hull (qqb)
theorem qvm : qnl = qqb := ql _
def qlq : AC (AV × AV × Bool) :=
  .seq (.reg [ao 16 (.mv 6),
 ao 17 (.un .not 16),
 ao 18 (.mv 17),
 ag 19 18 false (.load true 4 1),
 .call (pg 20 18 false (.call 61 [19])) 61 qgo,
 ag 21 18 false (.un .not 20),
 ao 22 (.pick 18 (.c (.bool true)) 21)]) (.view [.sel [1, 2, 3, 5, 22] [0, 1, 2, 3]])
theorem q54 : AC.ok Try.prog (TIof Try.prog) 36 0 (kret [(.cell 2 true 4), (.cell 3 true 4), .t 4] qhw) qlq := qn (zA (qe.ok qkz) trivial)
theorem q7i (v6 Aa : Bool) (Ab Ac Ad : Int) (Aq : Bool) (Ar As At : Int) (Au : Bool) (Av Aw Ax : Int) (Ay : Bool) (Az A0 A1 : Int) (K : Ex → Env → Mem → Option (AV × AV × Bool)) : den 0 (kret [(.cell 2 true 4), (.cell 3 true 4), .t 4] qhw) qlq (qi [(1, (.ptr 0 0)), (2, (.ptr 1 0)), (3, (.ptr 2 0)), (5, (.ptr 3 0)), (6, (.bool v6))]) (qh [(some (.box true (qa Aa Ab Ac Ad))), (some (.box true (qa Aq Ar As At))), (some (.box true (qa Au Av Aw Ax))), (some (.box true (qa Ay Az A0 A1)))]) K = qnl v6 Aa Ab Ac Ad Aq Ar As At Au Av Aw Ax Ay Az A0 A1 (qvl Aa Ab Ac Ad Aq Ar As At Au Av Aw Ax Ay Az A0 A1 K) := by
  rw [qvm]; kernel_rfl
def qxd := subE (R := AV × AV × Bool) q3q fun t m K => qb (bxC (m.s 3)) (qb (bxC (m.s 2)) (qb (bxC (m.s 1)) (qb (bxC (m.s 0)) (qnl (gB [t 6] 0))))) (qvl (gB (bxC (m.s 0)) 0) (gI (bxC (m.s 0)) 1) (gI (bxC (m.s 0)) 2) (gI (bxC (m.s 0)) 3) (gB (bxC (m.s 1)) 0) (gI (bxC (m.s 1)) 1) (gI (bxC (m.s 1)) 2) (gI (bxC (m.s 1)) 3) (gB (bxC (m.s 2)) 0) (gI (bxC (m.s 2)) 1) (gI (bxC (m.s 2)) 2) (gI (bxC (m.s 2)) 3) (gB (bxC (m.s 3)) 0) (gI (bxC (m.s 3)) 1) (gI (bxC (m.s 3)) 2) (gI (bxC (m.s 3)) 3) K)
theorem q7j : qc9 Try.prog (TIof Try.prog) 36 0 (kret [(.cell 2 true 4), (.cell 3 true 4), .t 4] qhw) (scOf qlq) (qxd) :=
  qi8 tabOk follows (q54) (qbe (by kernel_rfl)) fun t m K => q7i _ _ _ _ _ _ _ _ _ _ _ _ _ _ _ _ _ K
def qbah : Shp := ⟨[(0, .st (lk qc))], []⟩
def qua (Ae : Bool) (Af Ag Ah : Int) : Option (AV × AV × Bool) :=
  (oB (qee Ae Af Ag Ah (IntKind.i64.wrap (Ah + (1 : Int))) (0 : Int)) fun r1 => (qnl r1.2 Ae Af Ag Ah false (0 : Int) (0 : Int) (0 : Int) false (0 : Int) (0 : Int) (0 : Int) (gB r1.1.cells 0) (gI r1.1.cells 1) (gI r1.1.cells 2) (gI r1.1.cells 3) (fun v22q2 => (bif v22q2 then (some ((.agg [(.bool false), (.int .u64 (0 : Int)), (.int .u64 (0 : Int)), (.int .i64 (0 : Int))]), (.agg [(.bool false), (.int .u64 (0 : Int)), (.int .u64 (0 : Int)), (.int .i64 (0 : Int))]), false)) else (oB (qee Ae Af Ag Ah (IntKind.i64.wrap (Ah + (1 : Int))) (1 : Int)) fun r3 => (some ((.agg [(.bool (gB r1.1.cells 0)), (.int .u64 (gI r1.1.cells 1)), (.int .u64 (gI r1.1.cells 2)), (.int .i64 (gI r1.1.cells 3))]), (.agg [(.bool (gB r3.1.cells 0)), (.int .u64 (gI r3.1.cells 1)), (.int .u64 (gI r3.1.cells 2)), (.int .i64 (gI r3.1.cells 3))]), r3.2)))))))
def qgl := hull qua
theorem qzt : qgl = qua := ql _
def qub : AC (AV × AV × Bool) :=
  .seq (.reg [ao 1 (.box 0),
 ao 2 (.alloc [(.bool false), (.int .u64 0), (.int .u64 0), (.int .i64 0)]),
 ao 3 (.alloc [(.bool false), (.int .u64 0), (.int .u64 0), (.int .i64 0)]),
 ao 4 (.mv (.c (.bool false)))]) (.seq (.reg [ao 9 (.load true 4 1),
 ao 10 (.fa 3 1),
 ao 11 (.load false 1 10),
 ao 12 (.bin .add 11 (.c (.int .i64 1))),
 .call (po 13 (.call 48 [9, 12, (.c (.int .u64 0))])) 48 qpt,
 ao 8 (.mv 13),
 ao 14 (.ext 8 0),
 ao 15 (.ext 8 1),
 ao 5 (.alloc [(.bool false), (.int .u64 0), (.int .u64 0), (.int .i64 0)]),
 an (.store 4 5 14),
 ao 6 (.mv 15)]) (.seq (.seq (.seq (.view [.sel [1, 2, 3, 5, 6] [0, 1, 2, 3]]) (.sub (scOf qlq) qxd)) (.cond 22 (.seq (.reg [ao 23 (.build [(.bool false), (.int .u64 0), (.int .u64 0), (.int .i64 0)] []),
 ao 24 (.build [(.bool false), (.int .u64 0), (.int .u64 0), (.int .i64 0)] []),
 an (.store 4 2 23),
 an (.store 4 3 24),
 ao 4 (.mv (.c (.bool false)))]) (.ret)) (.skip))) (.seq (.reg [ao 26 (.load true 4 1),
 ao 27 (.fa 3 1),
 ao 28 (.load false 1 27),
 ao 29 (.bin .add 28 (.c (.int .i64 1))),
 .call (po 30 (.call 48 [26, 29, (.c (.int .u64 1))])) 48 qpt,
 ao 25 (.mv 30),
 ao 31 (.ext 25 0),
 ao 32 (.ext 25 1),
 ao 7 (.alloc [(.bool false), (.int .u64 0), (.int .u64 0), (.int .i64 0)]),
 an (.store 4 7 31),
 ao 6 (.mv 32)]) (.seq (.draw [] [ao 33 (.load true 4 5),
 ao 34 (.load true 4 7),
 ao 35 (.mv 6),
 an (.held [6] [((.c (.bool true)), 7), (2, 7), (3, 7)])] [an (.store 4 2 33),
 an (.store 4 3 34),
 ao 4 (.mv 35)]) (.ret)))))
theorem qbb7 : AC.ok Try.prog (TIof Try.prog) 36 0 (kret [(.cell 2 true 4), (.cell 3 true 4), .t 4] qhw) qub := qn (zA (qe.ok qyf) (zA q7j (zA (qe.ok qyf) (zA rfl trivial))))
theorem qbds (Ae : Bool) (Af Ag Ah : Int) : den 0 (kret [(.cell 2 true 4), (.cell 3 true 4), .t 4] qhw) qub (qi [(0, .agg (qa Ae Af Ag Ah))]) (qh []) (kend (kret [(.cell 2 true 4), (.cell 3 true 4), .t 4] qhw)) = qgl Ae Af Ag Ah := by
  rw [qzt]; kernel_rfl
theorem qbdt : cFn (TIof Try.prog) Try.f47 = some ⟨36, [(.cell 2 true 4), (.cell 3 true 4), .t 4], scOf qub⟩ := by kernel_rfl
def qbdu (xs : List AV) : Option (AV × AV × Bool) := qb ((qk xs) 0).cells (qgl)
def qrr {R : Type} : List AV → (AV → Option R) → Option R := entF qbah qbdu qbag
theorem q07 {R : Type} : qe Try.prog 47 (qrr (R := R)) :=
  qb6 tabOk follows Try.func47 (by kernel_rfl) qbdt (fun z r h => by
 obtain ⟨h1, h2⟩ := qm h
 cases h2
 exact (qgh h1).symm) qbb7 (qbe (by kernel_rfl)) fun xs => qbds _ _ _ _
end
end Go.Proofs.Ytmfghgaboaocgaa.Dn
