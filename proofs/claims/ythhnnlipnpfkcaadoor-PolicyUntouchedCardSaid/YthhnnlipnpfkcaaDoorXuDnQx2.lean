import Derived.Test.YthhnnlipnpfkcaaDoorProg
import Derived.Test.YthhnnlipnpfkcaaDoorXuLibC
import Derived.Test.YthhnnlipnpfkcaaDoorXuDnQx1
set_option linter.all false
namespace Go.Proofs.YthhnnlipnpfkcaaDoor.Dn
open Go Go.Pev
set_option linter.unusedVariables false
set_option linter.unusedSimpArgs false
set_option maxRecDepth 100000
set_option maxHeartbeats 4000000
def dec_rdata_host (z : AV) : Option Bool := cond (fitRV (.one .b) z) (some (aB z)) none
def enc_rdata_host (r : Bool) : AV := .bool r
def shp_rdata_host : Shp := ⟨[(0, .one (.l .s))], []⟩
noncomputable def rdata_host_i (v0 : List UInt8) : Option Bool :=
  (oB (dname_Valid v0) fun r1 => (bif r1 then (oB (strings_HasPrefix v0 ([42] : List UInt8)) fun r2 => (some (!r2))) else (some false)))
noncomputable def rdata_host := hull rdata_host_i
theorem rdata_host_eq : rdata_host = rdata_host_i := hull_eq _
noncomputable def a_rdata_host : AC Bool :=
  .seq (.reg [.op ⟨(some 2), (.mv (.c (.bool false))), none⟩]) (.seq (.reg [.op ⟨(some 3), (.mv (.t 0)), none⟩,
    .call ⟨(some 4), (.call 31 [(.t 3)]), none⟩ 31 ent_dname_Valid,
    .op ⟨(some 5), (.mv (.t 4)), none⟩,
    .op ⟨(some 6), (.mv (.t 0)), (some (5, true))⟩,
    .call ⟨(some 7), (.call 83 [(.t 6), (.c (.str [42]))]), (some (5, true))⟩ 83 ent_strings_HasPrefix,
    .op ⟨(some 8), (.un .not (.t 7)), (some (5, true))⟩,
    .op ⟨(some 9), (.pick (.t 5) (.t 8) (.c (.bool false))), none⟩,
    .op ⟨(some 2), (.mv (.t 9)), none⟩]) (.ret))
theorem ok_rdata_host : AC.ok Tryd.prog (TIof Tryd.prog) 10 0 (kret [(.t 2)] dec_rdata_host) a_rdata_host := (And.intro True.intro (And.intro (And.intro (EntOkB.ok k_dname_Valid) (And.intro (EntOkB.ok k_strings_HasPrefix) True.intro)) True.intro))
theorem t_rdata_host (v0 : List UInt8) : den 0 (kret [(.t 2)] dec_rdata_host) a_rdata_host (envOf [(0, (.str v0))]) (memOf []) (kend (kret [(.t 2)] dec_rdata_host)) = rdata_host v0 := by
  rw [rdata_host_eq]; kernel_rfl
theorem c_rdata_host : cFn (TIof Tryd.prog) Tryd.f71 = some ⟨10, [(.t 2)], scOf a_rdata_host⟩ := by kernel_rfl
noncomputable def ent_rdata_host {R : Type} (xs : List AV) (K : AV → Option R) : Option R := chk (fitS shp_rdata_host (entry xs) Mem.none) (oB (rdata_host (gS [(entry xs) 0] 0)) fun r => K (enc_rdata_host r))
theorem k_rdata_host {R : Type} : EntOkB Tryd.prog 71 (ent_rdata_host (R := R)) :=
  ent_of (F := fun xs => rdata_host (gS [(entry xs) 0] 0)) (enc := enc_rdata_host) tabOk follows Tryd.func71 (by kernel_rfl) c_rdata_host (fun z r h => by
    obtain ⟨h1, h2⟩ := cond_some h
    cases h2
    exact (etaRV_eq h1).symm) ok_rdata_host (er_of (by kernel_rfl)) shp_rdata_host (fun xs => t_rdata_host (gS [(entry xs) 0] 0)) (fun xs K r h => by
    unfold ent_rdata_host at h
    exact ⟨(chk_some h).1, oB_some (chk_some h).2⟩)

def dec_serial_Valid (z : AV) : Option Bool := cond (fitRV (.one .b) z) (some (aB z)) none
def enc_serial_Valid (r : Bool) : AV := .bool r
def shp_serial_Valid : Shp := ⟨[(0, .one (.l (.i .i64)))], []⟩
noncomputable def serial_Valid_i (v0 : Int) : Option Bool :=
  (some ((decide (v0 ≥ (0 : Int))) && (decide (v0 < (4294967296 : Int)))))
noncomputable def serial_Valid := hull serial_Valid_i
theorem serial_Valid_eq : serial_Valid = serial_Valid_i := hull_eq _
noncomputable def a_serial_Valid : AC Bool :=
  .seq (.reg [.op ⟨(some 2), (.mv (.c (.bool false))), none⟩]) (.seq (.reg [.op ⟨(some 3), (.mv (.t 0)), none⟩,
    .op ⟨(some 4), (.bin .geq (.t 3) (.c (.int .i64 0))), none⟩,
    .op ⟨(some 5), (.mv (.t 4)), none⟩,
    .grp 5 true [⟨(some 6), (.mv (.t 0)), (some (5, true))⟩, ⟨(some 7), (.bin .lss (.t 6) (.c (.int .i64 4294967296))), (some (5, true))⟩] 8 (.t 7),
    .op ⟨(some 2), (.mv (.t 8)), none⟩]) (.ret))
theorem ok_serial_Valid : AC.ok Tryd.prog (TIof Tryd.prog) 9 0 (kret [(.t 2)] dec_serial_Valid) a_serial_Valid := (And.intro True.intro (And.intro True.intro True.intro))
theorem t_serial_Valid (v0 : Int) : den 0 (kret [(.t 2)] dec_serial_Valid) a_serial_Valid (envOf [(0, (.int .i64 v0))]) (memOf []) (kend (kret [(.t 2)] dec_serial_Valid)) = serial_Valid v0 := by
  rw [serial_Valid_eq]; kernel_rfl
theorem c_serial_Valid : cFn (TIof Tryd.prog) Tryd.f72 = some ⟨9, [(.t 2)], scOf a_serial_Valid⟩ := by kernel_rfl
noncomputable def ent_serial_Valid {R : Type} (xs : List AV) (K : AV → Option R) : Option R := chk (fitS shp_serial_Valid (entry xs) Mem.none) (oB (serial_Valid (gI [(entry xs) 0] 0)) fun r => K (enc_serial_Valid r))
theorem k_serial_Valid {R : Type} : EntOkB Tryd.prog 72 (ent_serial_Valid (R := R)) :=
  ent_of (F := fun xs => serial_Valid (gI [(entry xs) 0] 0)) (enc := enc_serial_Valid) tabOk follows Tryd.func72 (by kernel_rfl) c_serial_Valid (fun z r h => by
    obtain ⟨h1, h2⟩ := cond_some h
    cases h2
    exact (etaRV_eq h1).symm) ok_serial_Valid (er_of (by kernel_rfl)) shp_serial_Valid (fun xs => t_serial_Valid (gI [(entry xs) 0] 0)) (fun xs K r h => by
    unfold ent_serial_Valid at h
    exact ⟨(chk_some h).1, oB_some (chk_some h).2⟩)

def dec_rdata_within (z : AV) : Option Bool := cond (fitRV (.one .b) z) (some (aB z)) none
def enc_rdata_within (r : Bool) : AV := .bool r
def shp_rdata_within : Shp := ⟨[(0, .one (.l (.i .i64))), (1, .one (.l (.i .i64)))], []⟩
noncomputable def rdata_within_i (v0 : Int) (v1 : Int) : Option Bool :=
  (some ((decide (v0 ≥ (0 : Int))) && (decide (v0 ≤ v1))))
noncomputable def rdata_within := hull rdata_within_i
theorem rdata_within_eq : rdata_within = rdata_within_i := hull_eq _
noncomputable def a_rdata_within : AC Bool :=
  .seq (.reg [.op ⟨(some 4), (.mv (.c (.bool false))), none⟩]) (.seq (.reg [.op ⟨(some 5), (.mv (.t 0)), none⟩,
    .op ⟨(some 6), (.bin .geq (.t 5) (.c (.int .i64 0))), none⟩,
    .op ⟨(some 7), (.mv (.t 6)), none⟩,
    .grp 7 true [⟨(some 8), (.mv (.t 0)), (some (7, true))⟩, ⟨(some 9), (.mv (.t 1)), (some (7, true))⟩, ⟨(some 10), (.bin .leq (.t 8) (.t 9)), (some (7, true))⟩] 11 (.t 10),
    .op ⟨(some 4), (.mv (.t 11)), none⟩]) (.ret))
theorem ok_rdata_within : AC.ok Tryd.prog (TIof Tryd.prog) 12 0 (kret [(.t 4)] dec_rdata_within) a_rdata_within := (And.intro True.intro (And.intro True.intro True.intro))
theorem t_rdata_within (v0 : Int) (v1 : Int) : den 0 (kret [(.t 4)] dec_rdata_within) a_rdata_within (envOf [(0, (.int .i64 v0)), (1, (.int .i64 v1))]) (memOf []) (kend (kret [(.t 4)] dec_rdata_within)) = rdata_within v0 v1 := by
  rw [rdata_within_eq]; kernel_rfl
theorem c_rdata_within : cFn (TIof Tryd.prog) Tryd.f73 = some ⟨12, [(.t 4)], scOf a_rdata_within⟩ := by kernel_rfl
noncomputable def ent_rdata_within {R : Type} (xs : List AV) (K : AV → Option R) : Option R := chk (fitS shp_rdata_within (entry xs) Mem.none) (oB (rdata_within (gI [(entry xs) 0] 0) (gI [(entry xs) 1] 0)) fun r => K (enc_rdata_within r))
theorem k_rdata_within {R : Type} : EntOkB Tryd.prog 73 (ent_rdata_within (R := R)) :=
  ent_of (F := fun xs => rdata_within (gI [(entry xs) 0] 0) (gI [(entry xs) 1] 0)) (enc := enc_rdata_within) tabOk follows Tryd.func73 (by kernel_rfl) c_rdata_within (fun z r h => by
    obtain ⟨h1, h2⟩ := cond_some h
    cases h2
    exact (etaRV_eq h1).symm) ok_rdata_within (er_of (by kernel_rfl)) shp_rdata_within (fun xs => t_rdata_within (gI [(entry xs) 0] 0) (gI [(entry xs) 1] 0)) (fun xs K r h => by
    unfold ent_rdata_within at h
    exact ⟨(chk_some h).1, oB_some (chk_some h).2⟩)

def dec_rdata_long (z : AV) : Option Bool := cond (fitRV (.one .b) z) (some (aB z)) none
def enc_rdata_long (r : Bool) : AV := .bool r
def shp_rdata_long : Shp := ⟨[(0, .one (.l .s))], []⟩
noncomputable def rdata_long_i (v0 : List UInt8) : Option Bool :=
  (some ((decide ((v0.length : Int) ≥ (1 : Int))) && (decide ((v0.length : Int) ≤ (255 : Int)))))
noncomputable def rdata_long := hull rdata_long_i
theorem rdata_long_eq : rdata_long = rdata_long_i := hull_eq _
noncomputable def a_rdata_long : AC Bool :=
  .seq (.reg [.op ⟨(some 2), (.mv (.c (.bool false))), none⟩]) (.seq (.reg [.op ⟨(some 3), (.mv (.t 0)), none⟩,
    .op ⟨(some 4), (.len true (.t 3)), none⟩,
    .op ⟨(some 5), (.bin .geq (.t 4) (.c (.int .i64 1))), none⟩,
    .op ⟨(some 6), (.mv (.t 5)), none⟩,
    .grp 6 true [⟨(some 7), (.mv (.t 0)), (some (6, true))⟩, ⟨(some 8), (.len true (.t 7)), (some (6, true))⟩, ⟨(some 9), (.bin .leq (.t 8) (.c (.int .i64 255))), (some (6, true))⟩] 10 (.t 9),
    .op ⟨(some 2), (.mv (.t 10)), none⟩]) (.ret))
theorem ok_rdata_long : AC.ok Tryd.prog (TIof Tryd.prog) 11 0 (kret [(.t 2)] dec_rdata_long) a_rdata_long := (And.intro True.intro (And.intro True.intro True.intro))
theorem t_rdata_long (v0 : List UInt8) : den 0 (kret [(.t 2)] dec_rdata_long) a_rdata_long (envOf [(0, (.str v0))]) (memOf []) (kend (kret [(.t 2)] dec_rdata_long)) = rdata_long v0 := by
  rw [rdata_long_eq]; kernel_rfl
theorem c_rdata_long : cFn (TIof Tryd.prog) Tryd.f74 = some ⟨11, [(.t 2)], scOf a_rdata_long⟩ := by kernel_rfl
noncomputable def ent_rdata_long {R : Type} (xs : List AV) (K : AV → Option R) : Option R := chk (fitS shp_rdata_long (entry xs) Mem.none) (oB (rdata_long (gS [(entry xs) 0] 0)) fun r => K (enc_rdata_long r))
theorem k_rdata_long {R : Type} : EntOkB Tryd.prog 74 (ent_rdata_long (R := R)) :=
  ent_of (F := fun xs => rdata_long (gS [(entry xs) 0] 0)) (enc := enc_rdata_long) tabOk follows Tryd.func74 (by kernel_rfl) c_rdata_long (fun z r h => by
    obtain ⟨h1, h2⟩ := cond_some h
    cases h2
    exact (etaRV_eq h1).symm) ok_rdata_long (er_of (by kernel_rfl)) shp_rdata_long (fun xs => t_rdata_long (gS [(entry xs) 0] 0)) (fun xs K r h => by
    unfold ent_rdata_long at h
    exact ⟨(chk_some h).1, oB_some (chk_some h).2⟩)

def dec_rdata_all (z : AV) : Option Int := cond (fitRV (.one (.i .u64)) z) (some (aI z)) none
def enc_rdata_all (r : Int) : AV := .int .u64 r
def shp_rdata_all_L8 : Shp := ⟨[(1, .one (.l (.i .u64))), (4, .one (.l (.sl 3))), (5, .one (.l (.i .i64))), (6, .one (.l (.i .i64)))], []⟩
noncomputable def rdata_all_L8_b  (v1 : Int) (v4 : List AV) (v5 : Int) (v6 : Int) (next : Int → Int → Option Int) (kx0 : Int → Option Int) : Option Int :=
  (bif (decide (v6 < v5)) then (oB (ixB v4 v6) fun y1 => (bif fitC T_rdata_kind y1.cells then (bif decide ((gI y1.cells 0) < 0) then none else (next (ibits .or .u64 v1 (IntKind.u64.wrap ((1 : Int) * 2 ^ min (gI y1.cells 0).toNat IntKind.u64.bits))) (IntKind.i64.wrap (v6 + (1 : Int))))) else none)) else (kx0 v1))
noncomputable def rdata_all_L8_i  (v4 : List AV) (v5 : Int) (kx0 : Int → Option Int) : Nat → Int → Int → Option Int
  | 0 => (fun _ _ => none)
  | n + 1 => (fun v1 v6 => rdata_all_L8_b v1 v4 v5 v6 (rdata_all_L8_i v4 v5 kx0 n) kx0)
noncomputable def rdata_all_L8 := hull (rdata_all_L8_i)
theorem rdata_all_L8_eq : rdata_all_L8 = rdata_all_L8_i := hull_eq _
noncomputable def a_rdata_all_L8 : AC Int :=
  .seq (.reg [.op ⟨(some 7), (.bin .lss (.t 6) (.t 5)), none⟩]) (.seq (.cond (.t 7) (.skip) (.seq (.view [.sel [1] []]) (.exit 0))) (.seq (.block 1 (.seq (.reg [.op ⟨(some 8), (.ia 3 (.t 4) (.t 6)), none⟩,
    .st (.etac 8 T_rdata_kind),
    .op ⟨(some 9), (.load true 3 (.t 8)), none⟩,
    .op ⟨(some 3), (.alloc [(.int .i64 0), (.str []), (.str [])]), none⟩,
    .op ⟨none, (.store 3 (.t 3) (.t 9)), none⟩]) (.reg [.op ⟨(some 10), (.mv (.t 1)), none⟩,
    .op ⟨(some 11), (.fa 0 (.t 3)), none⟩,
    .op ⟨(some 12), (.load false 1 (.t 11)), none⟩,
    .op ⟨(some 13), (.bin .shl (.c (.int .u64 1)) (.t 12)), none⟩,
    .op ⟨(some 14), (.bin .or (.t 10) (.t 13)), none⟩,
    .op ⟨(some 1), (.mv (.t 14)), none⟩]))) (.seq (.reg [.op ⟨(some 15), (.bin .add (.t 6) (.c (.int .i64 1))), none⟩,
    .op ⟨(some 6), (.mv (.t 15)), none⟩]) (.view [.sel [1, 4, 5, 6] []]))))
theorem ok_rdata_all_L8 : AC.ok Tryd.prog (TIof Tryd.prog) 17 0 (kret [(.t 0)] dec_rdata_all) a_rdata_all_L8 := (And.intro True.intro (And.intro (And.intro True.intro (And.intro True.intro True.intro)) (And.intro (And.intro True.intro True.intro) (And.intro True.intro True.intro))))
theorem t_rdata_all_L8_b (v1 : Int) (v4 : List AV) (v5 : Int) (v6 : Int) (K : Ex → Env → Mem → Option Int) : den 0 (kret [(.t 0)] dec_rdata_all) a_rdata_all_L8 (envOf [(1, (.int .u64 v1)), (4, (.sl 3 v4)), (5, (.int .i64 v5)), (6, (.int .i64 v6))]) (memOf []) K = rdata_all_L8_b v1 v4 v5 v6 (fun z_v1 z_v6 => K .norm (envOf [(1, (.int .u64 z_v1)), (4, (.sl 3 v4)), (5, (.int .i64 v5)), (6, (.int .i64 z_v6))]) (memOf [])) (fun z_v1 => K (.exit 0) (envOf [(1, (.int .u64 z_v1))]) (memOf [])) := by kernel_rfl
theorem t_rdata_all_L8 (v4 : List AV) (v5 : Int) (K : Ex → Env → Mem → Option Int) : ∀ (n : Nat) (v1 : Int) (v6 : Int), iterD (den 0 (kret [(.t 0)] dec_rdata_all) a_rdata_all_L8) n (envOf [(1, (.int .u64 v1)), (4, (.sl 3 v4)), (5, (.int .i64 v5)), (6, (.int .i64 v6))]) (memOf []) K = rdata_all_L8 v4 v5 (fun z_v1 => K (.exit 0) (envOf [(1, (.int .u64 z_v1))]) (memOf [])) n v1 v6 := by
  rw [rdata_all_L8_eq]
  intro n
  induction n with
  | zero => intros; rfl
  | succ n ih =>
    intro v1 v6
    exact (t_rdata_all_L8_b v1 v4 v5 v6 (itK (den 0 (kret [(.t 0)] dec_rdata_all) a_rdata_all_L8) n K)).trans (congrArg (fun q => rdata_all_L8_b v1 v4 v5 v6 q (fun z_v1 => K (.exit 0) (envOf [(1, (.int .u64 z_v1))]) (memOf []))) (funext fun v1 => funext fun v6 => ih v1 v6))
noncomputable def s_rdata_all_L8 : Env → Mem → (Ex → Env → Mem → Option Int) → Option Int := fun t m K => chk (fitS0 shp_rdata_all_L8 t m) (cond (hdS shp_rdata_all_L8 t m) (rdata_all_L8 (gL [t 4] 0) (gI [t 5] 0) (fun z_v1 => K (.exit 0) (envOf [(1, (.int .u64 z_v1))]) (memOf [])) FU (gI [t 1] 0) (gI [t 6] 0)) none)
theorem o_rdata_all_L8 : SubOk Tryd.prog (TIof Tryd.prog) 17 0 (kret [(.t 0)] dec_rdata_all) (.loop (scOf a_rdata_all_L8)) s_rdata_all_L8 :=
  loop_of tabOk follows ok_rdata_all_L8 (er_of (by kernel_rfl)) shp_rdata_all_L8 (fun t m K => congrArg (fun z => chk (fitS0 shp_rdata_all_L8 t m) (cond (hdS shp_rdata_all_L8 t m) z none)) (t_rdata_all_L8 (gL [t 4] 0) (gI [t 5] 0) K FU (gI [t 1] 0) (gI [t 6] 0)).symm)
def shp_rdata_all : Shp := ⟨[], []⟩
noncomputable def rdata_all_i : Option Int :=
  (oB (rdata_kinds) fun r1 => (rdata_all_L8 r1 (r1.length : Int) (fun v1q2 => (some v1q2)) FU (0 : Int) (0 : Int)))
noncomputable def rdata_all := hull rdata_all_i
theorem rdata_all_eq : rdata_all = rdata_all_i := hull_eq _
noncomputable def a_rdata_all : AC Int :=
  .seq (.reg [.op ⟨(some 0), (.mv (.c (.int .u64 0))), none⟩]) (.seq (.reg [.op ⟨(some 1), (.mv (.c (.int .u64 0))), none⟩]) (.seq (.seq (.reg [.callc ⟨(some 4), (.call 82 []), none⟩ 82 ent_rdata_kinds,
    .op ⟨(some 5), (.len false (.t 4)), none⟩,
    .op ⟨(some 6), (.mv (.c (.int .i64 0))), none⟩]) (.block 0 (.seq (.view [.sel [1, 4, 5, 6] []]) (.sub (.loop (scOf a_rdata_all_L8)) s_rdata_all_L8)))) (.seq (.reg [.op ⟨(some 16), (.mv (.t 1)), none⟩,
    .op ⟨(some 0), (.mv (.t 16)), none⟩]) (.ret))))
theorem ok_rdata_all : AC.ok Tryd.prog (TIof Tryd.prog) 17 0 (kret [(.t 0)] dec_rdata_all) a_rdata_all := (And.intro True.intro (And.intro True.intro (And.intro (And.intro (And.intro (EntOkB.ok k_rdata_kinds) True.intro) (And.intro True.intro o_rdata_all_L8)) (And.intro True.intro True.intro))))
theorem t_rdata_all : den 0 (kret [(.t 0)] dec_rdata_all) a_rdata_all (envOf []) (memOf []) (kend (kret [(.t 0)] dec_rdata_all)) = rdata_all := by
  rw [rdata_all_eq]; kernel_rfl
theorem c_rdata_all : cFn (TIof Tryd.prog) Tryd.f75 = some ⟨17, [(.t 0)], scOf a_rdata_all⟩ := by kernel_rfl
noncomputable def ent_rdata_all {R : Type} (xs : List AV) (K : AV → Option R) : Option R := chk (fitS shp_rdata_all (entry xs) Mem.none) (oB (rdata_all) fun r => K (enc_rdata_all r))
theorem k_rdata_all {R : Type} : EntOkB Tryd.prog 75 (ent_rdata_all (R := R)) :=
  ent_of (F := fun xs => rdata_all) (enc := enc_rdata_all) tabOk follows Tryd.func75 (by kernel_rfl) c_rdata_all (fun z r h => by
    obtain ⟨h1, h2⟩ := cond_some h
    cases h2
    exact (etaRV_eq h1).symm) ok_rdata_all (er_of (by kernel_rfl)) shp_rdata_all (fun xs => t_rdata_all) (fun xs K r h => by
    unfold ent_rdata_all at h
    exact ⟨(chk_some h).1, oB_some (chk_some h).2⟩)

def dec_rdata_Valid (z : AV) : Option Bool := cond (fitRV (.one .b) z) (some (aB z)) none
def enc_rdata_Valid (r : Bool) : AV := .bool r
def shp_rdata_Valid_J7 : Shp := ⟨[(0, .one (.l (.i .i64))), (3, .one (.ptr 0 0)), (5, .one (.l (.i .i64)))], [.box true [(.l .b), (.l (.i .u64)), (.l (.i .u64)), (.l .s), (.l .s), (.l .s), (.l (.i .i64)), (.l (.i .i64)), (.l (.i .i64)), (.l (.i .i64)), (.l (.i .i64)), (.l (.i .i64)), (.l (.i .u64))]]⟩
noncomputable def rdata_Valid_J7_i  (v0 : Int) (v5 : Int) (b0_0 : Bool) (b0_1 : Int) (b0_2 : Int) (b0_3 : List UInt8) (b0_4 : List UInt8) (b0_5 : List UInt8) (b0_6 : Int) (b0_7 : Int) (b0_8 : Int) (b0_9 : Int) (b0_10 : Int) (b0_11 : Int) (b0_12 : Int) (kn : Bool → Option Bool) : Option Bool :=
  (bif (v5 == (1 : Int)) then (kn true) else (kn (v5 == (28 : Int))))
noncomputable def rdata_Valid_J7 := hull (rdata_Valid_J7_i)
theorem rdata_Valid_J7_eq : rdata_Valid_J7 = rdata_Valid_J7_i := hull_eq _
noncomputable def a_rdata_Valid_J7 : AC Bool :=
  .seq (.reg [.op ⟨(some 7), (.bin .eql (.t 5) (.c (.int .i64 1))), none⟩,
    .op ⟨(some 6), (.mv (.t 7)), none⟩]) (.cond (.t 6) (.seq (.skip) (.view [.sel [0, 3, 5, 6] [0]])) (.seq (.reg [.op ⟨(some 8), (.bin .eql (.t 5) (.c (.int .i64 28))), none⟩,
    .op ⟨(some 6), (.mv (.t 8)), none⟩]) (.view [.sel [0, 3, 5, 6] [0]])))
theorem ok_rdata_Valid_J7 : AC.ok Tryd.prog (TIof Tryd.prog) 324 0 (kret [(.t 4)] dec_rdata_Valid) a_rdata_Valid_J7 := (And.intro True.intro (And.intro (And.intro True.intro True.intro) (And.intro True.intro True.intro)))
theorem t_rdata_Valid_J7 (v0 : Int) (v5 : Int) (b0_0 : Bool) (b0_1 : Int) (b0_2 : Int) (b0_3 : List UInt8) (b0_4 : List UInt8) (b0_5 : List UInt8) (b0_6 : Int) (b0_7 : Int) (b0_8 : Int) (b0_9 : Int) (b0_10 : Int) (b0_11 : Int) (b0_12 : Int) (K : Ex → Env → Mem → Option Bool) : den 0 (kret [(.t 4)] dec_rdata_Valid) a_rdata_Valid_J7 (envOf [(0, (.int .i64 v0)), (3, (.ptr 0 0)), (5, (.int .i64 v5))]) (memOf [(some (.box true [(.bool b0_0), (.int .u64 b0_1), (.int .u64 b0_2), (.str b0_3), (.str b0_4), (.str b0_5), (.int .i64 b0_6), (.int .i64 b0_7), (.int .i64 b0_8), (.int .i64 b0_9), (.int .i64 b0_10), (.int .i64 b0_11), (.int .u64 b0_12)]))]) K = rdata_Valid_J7 v0 v5 b0_0 b0_1 b0_2 b0_3 b0_4 b0_5 b0_6 b0_7 b0_8 b0_9 b0_10 b0_11 b0_12 (fun z_v6 => K .norm (envOf [(0, (.int .i64 v0)), (3, (.ptr 0 0)), (5, (.int .i64 v5)), (6, (.bool z_v6))]) (memOf [(some (.box true [(.bool b0_0), (.int .u64 b0_1), (.int .u64 b0_2), (.str b0_3), (.str b0_4), (.str b0_5), (.int .i64 b0_6), (.int .i64 b0_7), (.int .i64 b0_8), (.int .i64 b0_9), (.int .i64 b0_10), (.int .i64 b0_11), (.int .u64 b0_12)]))])) := by
  rw [rdata_Valid_J7_eq]; kernel_rfl
noncomputable def s_rdata_Valid_J7 : Env → Mem → (Ex → Env → Mem → Option Bool) → Option Bool := fun t m K => chk (fitS0 shp_rdata_Valid_J7 t m) (cond (hdS shp_rdata_Valid_J7 t m) (rdata_Valid_J7 (gI [t 0] 0) (gI [t 5] 0) (gB (bxC (m.s 0)) 0) (gI (bxC (m.s 0)) 1) (gI (bxC (m.s 0)) 2) (gS (bxC (m.s 0)) 3) (gS (bxC (m.s 0)) 4) (gS (bxC (m.s 0)) 5) (gI (bxC (m.s 0)) 6) (gI (bxC (m.s 0)) 7) (gI (bxC (m.s 0)) 8) (gI (bxC (m.s 0)) 9) (gI (bxC (m.s 0)) 10) (gI (bxC (m.s 0)) 11) (gI (bxC (m.s 0)) 12) (fun z_v6 => K .norm (envOf [(0, (.int .i64 (gI [t 0] 0))), (3, (.ptr 0 0)), (5, (.int .i64 (gI [t 5] 0))), (6, (.bool z_v6))]) (memOf [(some (.box true [(.bool (gB (bxC (m.s 0)) 0)), (.int .u64 (gI (bxC (m.s 0)) 1)), (.int .u64 (gI (bxC (m.s 0)) 2)), (.str (gS (bxC (m.s 0)) 3)), (.str (gS (bxC (m.s 0)) 4)), (.str (gS (bxC (m.s 0)) 5)), (.int .i64 (gI (bxC (m.s 0)) 6)), (.int .i64 (gI (bxC (m.s 0)) 7)), (.int .i64 (gI (bxC (m.s 0)) 8)), (.int .i64 (gI (bxC (m.s 0)) 9)), (.int .i64 (gI (bxC (m.s 0)) 10)), (.int .i64 (gI (bxC (m.s 0)) 11)), (.int .u64 (gI (bxC (m.s 0)) 12))]))]))) none)
theorem o_rdata_Valid_J7 : SubOk Tryd.prog (TIof Tryd.prog) 324 0 (kret [(.t 4)] dec_rdata_Valid) (scOf a_rdata_Valid_J7) s_rdata_Valid_J7 :=
  sub_of tabOk follows ok_rdata_Valid_J7 (er_of (by kernel_rfl)) shp_rdata_Valid_J7 (fun t m K => congrArg (fun z => chk (fitS0 shp_rdata_Valid_J7 t m) (cond (hdS shp_rdata_Valid_J7 t m) z none)) (t_rdata_Valid_J7 (gI [t 0] 0) (gI [t 5] 0) (gB (bxC (m.s 0)) 0) (gI (bxC (m.s 0)) 1) (gI (bxC (m.s 0)) 2) (gS (bxC (m.s 0)) 3) (gS (bxC (m.s 0)) 4) (gS (bxC (m.s 0)) 5) (gI (bxC (m.s 0)) 6) (gI (bxC (m.s 0)) 7) (gI (bxC (m.s 0)) 8) (gI (bxC (m.s 0)) 9) (gI (bxC (m.s 0)) 10) (gI (bxC (m.s 0)) 11) (gI (bxC (m.s 0)) 12) K).symm)
def shp_rdata_Valid_J17 : Shp := ⟨[(3, .one (.ptr 0 0)), (5, .one (.l (.i .i64)))], [.box true [(.l .b), (.l (.i .u64)), (.l (.i .u64)), (.l .s), (.l .s), (.l .s), (.l (.i .i64)), (.l (.i .i64)), (.l (.i .i64)), (.l (.i .i64)), (.l (.i .i64)), (.l (.i .i64)), (.l (.i .u64))]]⟩
noncomputable def rdata_Valid_J17_i  (v5 : Int) (b0_0 : Bool) (b0_1 : Int) (b0_2 : Int) (b0_3 : List UInt8) (b0_4 : List UInt8) (b0_5 : List UInt8) (b0_6 : Int) (b0_7 : Int) (b0_8 : Int) (b0_9 : Int) (b0_10 : Int) (b0_11 : Int) (b0_12 : Int) (kn : Bool → Option Bool) : Option Bool :=
  (bif (v5 == (2 : Int)) then (kn true) else (bif (v5 == (5 : Int)) then (kn true) else (bif (v5 == (12 : Int)) then (kn true) else (kn (v5 == (39 : Int))))))
noncomputable def rdata_Valid_J17 := hull (rdata_Valid_J17_i)
theorem rdata_Valid_J17_eq : rdata_Valid_J17 = rdata_Valid_J17_i := hull_eq _
noncomputable def a_rdata_Valid_J17 : AC Bool :=
  .seq (.reg [.op ⟨(some 28), (.bin .eql (.t 5) (.c (.int .i64 2))), none⟩,
    .op ⟨(some 27), (.mv (.t 28)), none⟩]) (.cond (.t 27) (.seq (.skip) (.view [.sel [3, 5, 27] [0]])) (.seq (.reg [.op ⟨(some 29), (.bin .eql (.t 5) (.c (.int .i64 5))), none⟩,
    .op ⟨(some 27), (.mv (.t 29)), none⟩]) (.cond (.t 27) (.seq (.skip) (.view [.sel [3, 5, 27] [0]])) (.seq (.reg [.op ⟨(some 30), (.bin .eql (.t 5) (.c (.int .i64 12))), none⟩,
    .op ⟨(some 27), (.mv (.t 30)), none⟩]) (.cond (.t 27) (.seq (.skip) (.view [.sel [3, 5, 27] [0]])) (.seq (.reg [.op ⟨(some 31), (.bin .eql (.t 5) (.c (.int .i64 39))), none⟩,
    .op ⟨(some 27), (.mv (.t 31)), none⟩]) (.view [.sel [3, 5, 27] [0]])))))))
theorem ok_rdata_Valid_J17 : AC.ok Tryd.prog (TIof Tryd.prog) 324 0 (kret [(.t 4)] dec_rdata_Valid) a_rdata_Valid_J17 := (And.intro True.intro (And.intro (And.intro True.intro True.intro) (And.intro True.intro (And.intro (And.intro True.intro True.intro) (And.intro True.intro (And.intro (And.intro True.intro True.intro) (And.intro True.intro True.intro)))))))
theorem t_rdata_Valid_J17 (v5 : Int) (b0_0 : Bool) (b0_1 : Int) (b0_2 : Int) (b0_3 : List UInt8) (b0_4 : List UInt8) (b0_5 : List UInt8) (b0_6 : Int) (b0_7 : Int) (b0_8 : Int) (b0_9 : Int) (b0_10 : Int) (b0_11 : Int) (b0_12 : Int) (K : Ex → Env → Mem → Option Bool) : den 0 (kret [(.t 4)] dec_rdata_Valid) a_rdata_Valid_J17 (envOf [(3, (.ptr 0 0)), (5, (.int .i64 v5))]) (memOf [(some (.box true [(.bool b0_0), (.int .u64 b0_1), (.int .u64 b0_2), (.str b0_3), (.str b0_4), (.str b0_5), (.int .i64 b0_6), (.int .i64 b0_7), (.int .i64 b0_8), (.int .i64 b0_9), (.int .i64 b0_10), (.int .i64 b0_11), (.int .u64 b0_12)]))]) K = rdata_Valid_J17 v5 b0_0 b0_1 b0_2 b0_3 b0_4 b0_5 b0_6 b0_7 b0_8 b0_9 b0_10 b0_11 b0_12 (fun z_v27 => K .norm (envOf [(3, (.ptr 0 0)), (5, (.int .i64 v5)), (27, (.bool z_v27))]) (memOf [(some (.box true [(.bool b0_0), (.int .u64 b0_1), (.int .u64 b0_2), (.str b0_3), (.str b0_4), (.str b0_5), (.int .i64 b0_6), (.int .i64 b0_7), (.int .i64 b0_8), (.int .i64 b0_9), (.int .i64 b0_10), (.int .i64 b0_11), (.int .u64 b0_12)]))])) := by
  rw [rdata_Valid_J17_eq]; kernel_rfl
noncomputable def s_rdata_Valid_J17 : Env → Mem → (Ex → Env → Mem → Option Bool) → Option Bool := fun t m K => chk (fitS0 shp_rdata_Valid_J17 t m) (cond (hdS shp_rdata_Valid_J17 t m) (rdata_Valid_J17 (gI [t 5] 0) (gB (bxC (m.s 0)) 0) (gI (bxC (m.s 0)) 1) (gI (bxC (m.s 0)) 2) (gS (bxC (m.s 0)) 3) (gS (bxC (m.s 0)) 4) (gS (bxC (m.s 0)) 5) (gI (bxC (m.s 0)) 6) (gI (bxC (m.s 0)) 7) (gI (bxC (m.s 0)) 8) (gI (bxC (m.s 0)) 9) (gI (bxC (m.s 0)) 10) (gI (bxC (m.s 0)) 11) (gI (bxC (m.s 0)) 12) (fun z_v27 => K .norm (envOf [(3, (.ptr 0 0)), (5, (.int .i64 (gI [t 5] 0))), (27, (.bool z_v27))]) (memOf [(some (.box true [(.bool (gB (bxC (m.s 0)) 0)), (.int .u64 (gI (bxC (m.s 0)) 1)), (.int .u64 (gI (bxC (m.s 0)) 2)), (.str (gS (bxC (m.s 0)) 3)), (.str (gS (bxC (m.s 0)) 4)), (.str (gS (bxC (m.s 0)) 5)), (.int .i64 (gI (bxC (m.s 0)) 6)), (.int .i64 (gI (bxC (m.s 0)) 7)), (.int .i64 (gI (bxC (m.s 0)) 8)), (.int .i64 (gI (bxC (m.s 0)) 9)), (.int .i64 (gI (bxC (m.s 0)) 10)), (.int .i64 (gI (bxC (m.s 0)) 11)), (.int .u64 (gI (bxC (m.s 0)) 12))]))]))) none)
theorem o_rdata_Valid_J17 : SubOk Tryd.prog (TIof Tryd.prog) 324 0 (kret [(.t 4)] dec_rdata_Valid) (scOf a_rdata_Valid_J17) s_rdata_Valid_J17 :=
  sub_of tabOk follows ok_rdata_Valid_J17 (er_of (by kernel_rfl)) shp_rdata_Valid_J17 (fun t m K => congrArg (fun z => chk (fitS0 shp_rdata_Valid_J17 t m) (cond (hdS shp_rdata_Valid_J17 t m) z none)) (t_rdata_Valid_J17 (gI [t 5] 0) (gB (bxC (m.s 0)) 0) (gI (bxC (m.s 0)) 1) (gI (bxC (m.s 0)) 2) (gS (bxC (m.s 0)) 3) (gS (bxC (m.s 0)) 4) (gS (bxC (m.s 0)) 5) (gI (bxC (m.s 0)) 6) (gI (bxC (m.s 0)) 7) (gI (bxC (m.s 0)) 8) (gI (bxC (m.s 0)) 9) (gI (bxC (m.s 0)) 10) (gI (bxC (m.s 0)) 11) (gI (bxC (m.s 0)) 12) K).symm)
def shp_rdata_Valid_J38 : Shp := ⟨[(3, .one (.ptr 0 0))], [.box true [(.l .b), (.l (.i .u64)), (.l (.i .u64)), (.l .s), (.l .s), (.l .s), (.l (.i .i64)), (.l (.i .i64)), (.l (.i .i64)), (.l (.i .i64)), (.l (.i .i64)), (.l (.i .i64)), (.l (.i .u64))]]⟩
noncomputable def rdata_Valid_J38_i  (b0_0 : Bool) (b0_1 : Int) (b0_2 : Int) (b0_3 : List UInt8) (b0_4 : List UInt8) (b0_5 : List UInt8) (b0_6 : Int) (b0_7 : Int) (b0_8 : Int) (b0_9 : Int) (b0_10 : Int) (b0_11 : Int) (b0_12 : Int) (kn : Bool → Option Bool) : Option Bool :=
  (bif ((b0_0 == false) && ((b0_1 == (0 : Int)) && ((b0_2 == (0 : Int)) && ((b0_3 == b0_3) && ((b0_4 == b0_4) && ((b0_5 == ([] : List UInt8)) && ((b0_6 == b0_6) && ((b0_7 == b0_7) && ((b0_8 == b0_8) && ((b0_9 == b0_9) && ((b0_10 == b0_10) && ((b0_11 == (0 : Int)) && ((b0_12 == (0 : Int)) && true))))))))))))) then (oB (rdata_host b0_3) fun r1 => (bif r1 then (oB (rdata_host b0_4) fun r2 => (bif r2 then (oB (serial_Valid b0_6) fun r3 => (bif r3 then (oB (rdata_within b0_7 (2147483647 : Int)) fun r4 => (bif r4 then (oB (rdata_within b0_8 (2147483647 : Int)) fun r5 => (bif r5 then (oB (rdata_within b0_9 (2147483647 : Int)) fun r6 => (bif r6 then (oB (rdata_within b0_10 (2147483647 : Int)) fun r7 => (kn r7)) else (kn false))) else (kn false))) else (kn false))) else (kn false))) else (kn false))) else (kn false))) else (kn false))
noncomputable def rdata_Valid_J38 := hull (rdata_Valid_J38_i)
theorem rdata_Valid_J38_eq : rdata_Valid_J38 = rdata_Valid_J38_i := hull_eq _
noncomputable def a_rdata_Valid_J38 : AC Bool :=
  .seq (.reg [.op ⟨(some 44), (.load true 13 (.t 3)), none⟩,
    .op ⟨(some 45), (.fa 3 (.t 3)), none⟩,
    .op ⟨(some 46), (.load false 1 (.t 45)), none⟩,
    .op ⟨(some 47), (.fa 4 (.t 3)), none⟩,
    .op ⟨(some 48), (.load false 1 (.t 47)), none⟩,
    .op ⟨(some 49), (.fa 6 (.t 3)), none⟩,
    .op ⟨(some 50), (.load false 1 (.t 49)), none⟩,
    .op ⟨(some 51), (.fa 7 (.t 3)), none⟩,
    .op ⟨(some 52), (.load false 1 (.t 51)), none⟩,
    .op ⟨(some 53), (.fa 8 (.t 3)), none⟩,
    .op ⟨(some 54), (.load false 1 (.t 53)), none⟩,
    .op ⟨(some 55), (.fa 9 (.t 3)), none⟩,
    .op ⟨(some 56), (.load false 1 (.t 55)), none⟩,
    .op ⟨(some 57), (.fa 10 (.t 3)), none⟩,
    .op ⟨(some 58), (.load false 1 (.t 57)), none⟩,
    .op ⟨(some 59), (.build [(.bool false), (.int .u64 0), (.int .u64 0), (.str []), (.str []), (.str []), (.int .i64 0), (.int .i64 0), (.int .i64 0), (.int .i64 0), (.int .i64 0), (.int .i64 0), (.int .u64 0)] [(3, (1, (.t 46))), (4, (1, (.t 48))), (6, (1, (.t 50))), (7, (1, (.t 52))), (8, (1, (.t 54))), (9, (1, (.t 56))), (10, (1, (.t 58)))]), none⟩,
    .op ⟨(some 60), (.eq false true [.b, (.i .u64), (.i .u64), .s, .s, .s, (.i .i64), (.i .i64), (.i .i64), (.i .i64), (.i .i64), (.i .i64), (.i .u64)] (.t 44) (.t 59)), none⟩,
    .op ⟨(some 61), (.mv (.t 60)), none⟩,
    .op ⟨(some 62), (.fa 3 (.t 3)), (some (61, true))⟩,
    .op ⟨(some 63), (.load false 1 (.t 62)), (some (61, true))⟩,
    .call ⟨(some 64), (.call 71 [(.t 63)]), (some (61, true))⟩ 71 ent_rdata_host,
    .op ⟨(some 65), (.pick (.t 61) (.t 64) (.c (.bool false))), none⟩,
    .op ⟨(some 66), (.mv (.t 65)), none⟩,
    .op ⟨(some 67), (.fa 4 (.t 3)), (some (66, true))⟩,
    .op ⟨(some 68), (.load false 1 (.t 67)), (some (66, true))⟩,
    .call ⟨(some 69), (.call 71 [(.t 68)]), (some (66, true))⟩ 71 ent_rdata_host,
    .op ⟨(some 70), (.pick (.t 66) (.t 69) (.c (.bool false))), none⟩,
    .op ⟨(some 71), (.mv (.t 70)), none⟩,
    .op ⟨(some 72), (.fa 6 (.t 3)), (some (71, true))⟩,
    .op ⟨(some 73), (.load false 1 (.t 72)), (some (71, true))⟩,
    .call ⟨(some 74), (.call 72 [(.t 73)]), (some (71, true))⟩ 72 ent_serial_Valid,
    .op ⟨(some 75), (.pick (.t 71) (.t 74) (.c (.bool false))), none⟩,
    .op ⟨(some 76), (.mv (.t 75)), none⟩,
    .op ⟨(some 77), (.fa 7 (.t 3)), (some (76, true))⟩,
    .op ⟨(some 78), (.load false 1 (.t 77)), (some (76, true))⟩,
    .call ⟨(some 79), (.call 73 [(.t 78), (.c (.int .i64 2147483647))]), (some (76, true))⟩ 73 ent_rdata_within,
    .op ⟨(some 80), (.pick (.t 76) (.t 79) (.c (.bool false))), none⟩,
    .op ⟨(some 81), (.mv (.t 80)), none⟩,
    .op ⟨(some 82), (.fa 8 (.t 3)), (some (81, true))⟩,
    .op ⟨(some 83), (.load false 1 (.t 82)), (some (81, true))⟩,
    .call ⟨(some 84), (.call 73 [(.t 83), (.c (.int .i64 2147483647))]), (some (81, true))⟩ 73 ent_rdata_within,
    .op ⟨(some 85), (.pick (.t 81) (.t 84) (.c (.bool false))), none⟩,
    .op ⟨(some 86), (.mv (.t 85)), none⟩,
    .op ⟨(some 87), (.fa 9 (.t 3)), (some (86, true))⟩,
    .op ⟨(some 88), (.load false 1 (.t 87)), (some (86, true))⟩,
    .call ⟨(some 89), (.call 73 [(.t 88), (.c (.int .i64 2147483647))]), (some (86, true))⟩ 73 ent_rdata_within,
    .op ⟨(some 90), (.pick (.t 86) (.t 89) (.c (.bool false))), none⟩,
    .op ⟨(some 91), (.mv (.t 90)), none⟩,
    .op ⟨(some 92), (.fa 10 (.t 3)), (some (91, true))⟩,
    .op ⟨(some 93), (.load false 1 (.t 92)), (some (91, true))⟩,
    .call ⟨(some 94), (.call 73 [(.t 93), (.c (.int .i64 2147483647))]), (some (91, true))⟩ 73 ent_rdata_within,
    .op ⟨(some 95), (.pick (.t 91) (.t 94) (.c (.bool false))), none⟩,
    .op ⟨(some 4), (.mv (.t 95)), none⟩]) (.view [.sel [4] []])
theorem ok_rdata_Valid_J38 : AC.ok Tryd.prog (TIof Tryd.prog) 324 0 (kret [(.t 4)] dec_rdata_Valid) a_rdata_Valid_J38 := (And.intro (And.intro (EntOkB.ok k_rdata_host) (And.intro (EntOkB.ok k_rdata_host) (And.intro (EntOkB.ok k_serial_Valid) (And.intro (EntOkB.ok k_rdata_within) (And.intro (EntOkB.ok k_rdata_within) (And.intro (EntOkB.ok k_rdata_within) (And.intro (EntOkB.ok k_rdata_within) True.intro))))))) True.intro)
theorem t_rdata_Valid_J38 (b0_0 : Bool) (b0_1 : Int) (b0_2 : Int) (b0_3 : List UInt8) (b0_4 : List UInt8) (b0_5 : List UInt8) (b0_6 : Int) (b0_7 : Int) (b0_8 : Int) (b0_9 : Int) (b0_10 : Int) (b0_11 : Int) (b0_12 : Int) (K : Ex → Env → Mem → Option Bool) : den 0 (kret [(.t 4)] dec_rdata_Valid) a_rdata_Valid_J38 (envOf [(3, (.ptr 0 0))]) (memOf [(some (.box true [(.bool b0_0), (.int .u64 b0_1), (.int .u64 b0_2), (.str b0_3), (.str b0_4), (.str b0_5), (.int .i64 b0_6), (.int .i64 b0_7), (.int .i64 b0_8), (.int .i64 b0_9), (.int .i64 b0_10), (.int .i64 b0_11), (.int .u64 b0_12)]))]) K = rdata_Valid_J38 b0_0 b0_1 b0_2 b0_3 b0_4 b0_5 b0_6 b0_7 b0_8 b0_9 b0_10 b0_11 b0_12 (fun z_v4 => K .norm (envOf [(4, (.bool z_v4))]) (memOf [])) := by
  rw [rdata_Valid_J38_eq]; kernel_rfl
noncomputable def s_rdata_Valid_J38 : Env → Mem → (Ex → Env → Mem → Option Bool) → Option Bool := fun t m K => chk (fitS0 shp_rdata_Valid_J38 t m) (cond (hdS shp_rdata_Valid_J38 t m) (rdata_Valid_J38 (gB (bxC (m.s 0)) 0) (gI (bxC (m.s 0)) 1) (gI (bxC (m.s 0)) 2) (gS (bxC (m.s 0)) 3) (gS (bxC (m.s 0)) 4) (gS (bxC (m.s 0)) 5) (gI (bxC (m.s 0)) 6) (gI (bxC (m.s 0)) 7) (gI (bxC (m.s 0)) 8) (gI (bxC (m.s 0)) 9) (gI (bxC (m.s 0)) 10) (gI (bxC (m.s 0)) 11) (gI (bxC (m.s 0)) 12) (fun z_v4 => K .norm (envOf [(4, (.bool z_v4))]) (memOf []))) none)
theorem o_rdata_Valid_J38 : SubOk Tryd.prog (TIof Tryd.prog) 324 0 (kret [(.t 4)] dec_rdata_Valid) (scOf a_rdata_Valid_J38) s_rdata_Valid_J38 :=
  sub_of tabOk follows ok_rdata_Valid_J38 (er_of (by kernel_rfl)) shp_rdata_Valid_J38 (fun t m K => congrArg (fun z => chk (fitS0 shp_rdata_Valid_J38 t m) (cond (hdS shp_rdata_Valid_J38 t m) z none)) (t_rdata_Valid_J38 (gB (bxC (m.s 0)) 0) (gI (bxC (m.s 0)) 1) (gI (bxC (m.s 0)) 2) (gS (bxC (m.s 0)) 3) (gS (bxC (m.s 0)) 4) (gS (bxC (m.s 0)) 5) (gI (bxC (m.s 0)) 6) (gI (bxC (m.s 0)) 7) (gI (bxC (m.s 0)) 8) (gI (bxC (m.s 0)) 9) (gI (bxC (m.s 0)) 10) (gI (bxC (m.s 0)) 11) (gI (bxC (m.s 0)) 12) K).symm)
def shp_rdata_Valid_J68 : Shp := ⟨[(3, .one (.ptr 0 0))], [.box true [(.l .b), (.l (.i .u64)), (.l (.i .u64)), (.l .s), (.l .s), (.l .s), (.l (.i .i64)), (.l (.i .i64)), (.l (.i .i64)), (.l (.i .i64)), (.l (.i .i64)), (.l (.i .i64)), (.l (.i .u64))]]⟩
noncomputable def rdata_Valid_J68_i  (b0_0 : Bool) (b0_1 : Int) (b0_2 : Int) (b0_3 : List UInt8) (b0_4 : List UInt8) (b0_5 : List UInt8) (b0_6 : Int) (b0_7 : Int) (b0_8 : Int) (b0_9 : Int) (b0_10 : Int) (b0_11 : Int) (b0_12 : Int) (kn : Bool → Option Bool) : Option Bool :=
  (bif ((b0_0 == false) && ((b0_1 == (0 : Int)) && ((b0_2 == (0 : Int)) && ((b0_3 == b0_3) && ((b0_4 == ([] : List UInt8)) && ((b0_5 == b0_5) && ((b0_6 == b0_6) && ((b0_7 == b0_7) && ((b0_8 == b0_8) && ((b0_9 == b0_9) && ((b0_10 == b0_10) && ((b0_11 == b0_11) && ((b0_12 == (0 : Int)) && true))))))))))))) then (oB (rdata_long b0_5) fun r1 => (bif r1 then (oB (rdata_host b0_3) fun r2 => (bif r2 then (oB (rdata_Known b0_6) fun r3 => (bif (r3 && (b0_6 != (46 : Int))) then (oB (rdata_within b0_7 (127 : Int)) fun r4 => (bif r4 then (oB (rdata_within b0_8 (2147483647 : Int)) fun r5 => (bif r5 then (oB (rdata_within b0_9 (4294967295 : Int)) fun r6 => (bif r6 then (oB (rdata_within b0_10 (4294967295 : Int)) fun r7 => (bif r7 then (oB (rdata_within b0_11 (65535 : Int)) fun r8 => (kn r8)) else (kn false))) else (kn false))) else (kn false))) else (kn false))) else (kn false))) else (kn false))) else (kn false))) else (kn false))
noncomputable def rdata_Valid_J68 := hull (rdata_Valid_J68_i)
theorem rdata_Valid_J68_eq : rdata_Valid_J68 = rdata_Valid_J68_i := hull_eq _
noncomputable def a_rdata_Valid_J68 : AC Bool :=
  .seq (.reg [.op ⟨(some 196), (.load true 13 (.t 3)), none⟩,
    .op ⟨(some 197), (.fa 6 (.t 3)), none⟩,
    .op ⟨(some 198), (.load false 1 (.t 197)), none⟩,
    .op ⟨(some 199), (.fa 7 (.t 3)), none⟩,
    .op ⟨(some 200), (.load false 1 (.t 199)), none⟩,
    .op ⟨(some 201), (.fa 8 (.t 3)), none⟩,
    .op ⟨(some 202), (.load false 1 (.t 201)), none⟩,
    .op ⟨(some 203), (.fa 9 (.t 3)), none⟩,
    .op ⟨(some 204), (.load false 1 (.t 203)), none⟩,
    .op ⟨(some 205), (.fa 10 (.t 3)), none⟩,
    .op ⟨(some 206), (.load false 1 (.t 205)), none⟩,
    .op ⟨(some 207), (.fa 11 (.t 3)), none⟩,
    .op ⟨(some 208), (.load false 1 (.t 207)), none⟩,
    .op ⟨(some 209), (.fa 3 (.t 3)), none⟩,
    .op ⟨(some 210), (.load false 1 (.t 209)), none⟩,
    .op ⟨(some 211), (.fa 5 (.t 3)), none⟩,
    .op ⟨(some 212), (.load false 1 (.t 211)), none⟩,
    .op ⟨(some 213), (.build [(.bool false), (.int .u64 0), (.int .u64 0), (.str []), (.str []), (.str []), (.int .i64 0), (.int .i64 0), (.int .i64 0), (.int .i64 0), (.int .i64 0), (.int .i64 0), (.int .u64 0)] [(6, (1, (.t 198))), (7, (1, (.t 200))), (8, (1, (.t 202))), (9, (1, (.t 204))), (10, (1, (.t 206))), (11, (1, (.t 208))), (3, (1, (.t 210))), (5, (1, (.t 212)))]), none⟩,
    .op ⟨(some 214), (.eq false true [.b, (.i .u64), (.i .u64), .s, .s, .s, (.i .i64), (.i .i64), (.i .i64), (.i .i64), (.i .i64), (.i .i64), (.i .u64)] (.t 196) (.t 213)), none⟩,
    .op ⟨(some 215), (.mv (.t 214)), none⟩,
    .op ⟨(some 216), (.fa 5 (.t 3)), (some (215, true))⟩,
    .op ⟨(some 217), (.load false 1 (.t 216)), (some (215, true))⟩,
    .call ⟨(some 218), (.call 74 [(.t 217)]), (some (215, true))⟩ 74 ent_rdata_long,
    .op ⟨(some 219), (.pick (.t 215) (.t 218) (.c (.bool false))), none⟩,
    .op ⟨(some 220), (.mv (.t 219)), none⟩,
    .op ⟨(some 221), (.fa 3 (.t 3)), (some (220, true))⟩,
    .op ⟨(some 222), (.load false 1 (.t 221)), (some (220, true))⟩,
    .call ⟨(some 223), (.call 71 [(.t 222)]), (some (220, true))⟩ 71 ent_rdata_host,
    .op ⟨(some 224), (.pick (.t 220) (.t 223) (.c (.bool false))), none⟩,
    .op ⟨(some 225), (.mv (.t 224)), none⟩,
    .op ⟨(some 226), (.fa 6 (.t 3)), (some (225, true))⟩,
    .op ⟨(some 227), (.load false 1 (.t 226)), (some (225, true))⟩,
    .call ⟨(some 228), (.call 62 [(.t 227)]), (some (225, true))⟩ 62 ent_rdata_Known,
    .op ⟨(some 229), (.pick (.t 225) (.t 228) (.c (.bool false))), none⟩,
    .op ⟨(some 230), (.mv (.t 229)), none⟩,
    .grp 230 true [⟨(some 231), (.fa 6 (.t 3)), (some (230, true))⟩, ⟨(some 232), (.load false 1 (.t 231)), (some (230, true))⟩, ⟨(some 233), (.bin .neq (.t 232) (.c (.int .i64 46))), (some (230, true))⟩] 234 (.t 233),
    .op ⟨(some 235), (.mv (.t 234)), none⟩,
    .op ⟨(some 236), (.fa 7 (.t 3)), (some (235, true))⟩,
    .op ⟨(some 237), (.load false 1 (.t 236)), (some (235, true))⟩,
    .call ⟨(some 238), (.call 73 [(.t 237), (.c (.int .i64 127))]), (some (235, true))⟩ 73 ent_rdata_within,
    .op ⟨(some 239), (.pick (.t 235) (.t 238) (.c (.bool false))), none⟩,
    .op ⟨(some 240), (.mv (.t 239)), none⟩,
    .op ⟨(some 241), (.fa 8 (.t 3)), (some (240, true))⟩,
    .op ⟨(some 242), (.load false 1 (.t 241)), (some (240, true))⟩,
    .call ⟨(some 243), (.call 73 [(.t 242), (.c (.int .i64 2147483647))]), (some (240, true))⟩ 73 ent_rdata_within,
    .op ⟨(some 244), (.pick (.t 240) (.t 243) (.c (.bool false))), none⟩,
    .op ⟨(some 245), (.mv (.t 244)), none⟩,
    .op ⟨(some 246), (.fa 9 (.t 3)), (some (245, true))⟩,
    .op ⟨(some 247), (.load false 1 (.t 246)), (some (245, true))⟩,
    .call ⟨(some 248), (.call 73 [(.t 247), (.c (.int .i64 4294967295))]), (some (245, true))⟩ 73 ent_rdata_within,
    .op ⟨(some 249), (.pick (.t 245) (.t 248) (.c (.bool false))), none⟩,
    .op ⟨(some 250), (.mv (.t 249)), none⟩,
    .op ⟨(some 251), (.fa 10 (.t 3)), (some (250, true))⟩,
    .op ⟨(some 252), (.load false 1 (.t 251)), (some (250, true))⟩,
    .call ⟨(some 253), (.call 73 [(.t 252), (.c (.int .i64 4294967295))]), (some (250, true))⟩ 73 ent_rdata_within,
    .op ⟨(some 254), (.pick (.t 250) (.t 253) (.c (.bool false))), none⟩,
    .op ⟨(some 255), (.mv (.t 254)), none⟩,
    .op ⟨(some 256), (.fa 11 (.t 3)), (some (255, true))⟩,
    .op ⟨(some 257), (.load false 1 (.t 256)), (some (255, true))⟩,
    .call ⟨(some 258), (.call 73 [(.t 257), (.c (.int .i64 65535))]), (some (255, true))⟩ 73 ent_rdata_within,
    .op ⟨(some 259), (.pick (.t 255) (.t 258) (.c (.bool false))), none⟩,
    .op ⟨(some 4), (.mv (.t 259)), none⟩]) (.view [.sel [4] []])
theorem ok_rdata_Valid_J68 : AC.ok Tryd.prog (TIof Tryd.prog) 324 0 (kret [(.t 4)] dec_rdata_Valid) a_rdata_Valid_J68 := (And.intro (And.intro (EntOkB.ok k_rdata_long) (And.intro (EntOkB.ok k_rdata_host) (And.intro (EntOkB.ok k_rdata_Known) (And.intro (EntOkB.ok k_rdata_within) (And.intro (EntOkB.ok k_rdata_within) (And.intro (EntOkB.ok k_rdata_within) (And.intro (EntOkB.ok k_rdata_within) (And.intro (EntOkB.ok k_rdata_within) True.intro)))))))) True.intro)
theorem t_rdata_Valid_J68 (b0_0 : Bool) (b0_1 : Int) (b0_2 : Int) (b0_3 : List UInt8) (b0_4 : List UInt8) (b0_5 : List UInt8) (b0_6 : Int) (b0_7 : Int) (b0_8 : Int) (b0_9 : Int) (b0_10 : Int) (b0_11 : Int) (b0_12 : Int) (K : Ex → Env → Mem → Option Bool) : den 0 (kret [(.t 4)] dec_rdata_Valid) a_rdata_Valid_J68 (envOf [(3, (.ptr 0 0))]) (memOf [(some (.box true [(.bool b0_0), (.int .u64 b0_1), (.int .u64 b0_2), (.str b0_3), (.str b0_4), (.str b0_5), (.int .i64 b0_6), (.int .i64 b0_7), (.int .i64 b0_8), (.int .i64 b0_9), (.int .i64 b0_10), (.int .i64 b0_11), (.int .u64 b0_12)]))]) K = rdata_Valid_J68 b0_0 b0_1 b0_2 b0_3 b0_4 b0_5 b0_6 b0_7 b0_8 b0_9 b0_10 b0_11 b0_12 (fun z_v4 => K .norm (envOf [(4, (.bool z_v4))]) (memOf [])) := by
  rw [rdata_Valid_J68_eq]; kernel_rfl
noncomputable def s_rdata_Valid_J68 : Env → Mem → (Ex → Env → Mem → Option Bool) → Option Bool := fun t m K => chk (fitS0 shp_rdata_Valid_J68 t m) (cond (hdS shp_rdata_Valid_J68 t m) (rdata_Valid_J68 (gB (bxC (m.s 0)) 0) (gI (bxC (m.s 0)) 1) (gI (bxC (m.s 0)) 2) (gS (bxC (m.s 0)) 3) (gS (bxC (m.s 0)) 4) (gS (bxC (m.s 0)) 5) (gI (bxC (m.s 0)) 6) (gI (bxC (m.s 0)) 7) (gI (bxC (m.s 0)) 8) (gI (bxC (m.s 0)) 9) (gI (bxC (m.s 0)) 10) (gI (bxC (m.s 0)) 11) (gI (bxC (m.s 0)) 12) (fun z_v4 => K .norm (envOf [(4, (.bool z_v4))]) (memOf []))) none)
theorem o_rdata_Valid_J68 : SubOk Tryd.prog (TIof Tryd.prog) 324 0 (kret [(.t 4)] dec_rdata_Valid) (scOf a_rdata_Valid_J68) s_rdata_Valid_J68 :=
  sub_of tabOk follows ok_rdata_Valid_J68 (er_of (by kernel_rfl)) shp_rdata_Valid_J68 (fun t m K => congrArg (fun z => chk (fitS0 shp_rdata_Valid_J68 t m) (cond (hdS shp_rdata_Valid_J68 t m) z none)) (t_rdata_Valid_J68 (gB (bxC (m.s 0)) 0) (gI (bxC (m.s 0)) 1) (gI (bxC (m.s 0)) 2) (gS (bxC (m.s 0)) 3) (gS (bxC (m.s 0)) 4) (gS (bxC (m.s 0)) 5) (gI (bxC (m.s 0)) 6) (gI (bxC (m.s 0)) 7) (gI (bxC (m.s 0)) 8) (gI (bxC (m.s 0)) 9) (gI (bxC (m.s 0)) 10) (gI (bxC (m.s 0)) 11) (gI (bxC (m.s 0)) 12) K).symm)
def shp_rdata_Valid_J80 : Shp := ⟨[(3, .one (.ptr 0 0))], [.box true [(.l .b), (.l (.i .u64)), (.l (.i .u64)), (.l .s), (.l .s), (.l .s), (.l (.i .i64)), (.l (.i .i64)), (.l (.i .i64)), (.l (.i .i64)), (.l (.i .i64)), (.l (.i .i64)), (.l (.i .u64))]]⟩
noncomputable def rdata_Valid_J80_i  (b0_0 : Bool) (b0_1 : Int) (b0_2 : Int) (b0_3 : List UInt8) (b0_4 : List UInt8) (b0_5 : List UInt8) (b0_6 : Int) (b0_7 : Int) (b0_8 : Int) (b0_9 : Int) (b0_10 : Int) (b0_11 : Int) (b0_12 : Int) (kn : Bool → Option Bool) : Option Bool :=
  (bif ((b0_0 == false) && ((b0_1 == (0 : Int)) && ((b0_2 == (0 : Int)) && ((b0_3 == ([] : List UInt8)) && ((b0_4 == ([] : List UInt8)) && ((b0_5 == b0_5) && ((b0_6 == b0_6) && ((b0_7 == b0_7) && ((b0_8 == b0_8) && ((b0_9 == (0 : Int)) && ((b0_10 == (0 : Int)) && ((b0_11 == (0 : Int)) && ((b0_12 == (0 : Int)) && true))))))))))))) then (oB (rdata_long b0_5) fun r1 => (bif r1 then (bif (b0_6 == (256 : Int)) then (bif (b0_7 == (3 : Int)) then (oB (rdata_within b0_8 (255 : Int)) fun r2 => (kn r2)) else (kn false)) else (bif ((b0_6 == (257 : Int)) && (b0_7 == (3 : Int))) then (oB (rdata_within b0_8 (255 : Int)) fun r3 => (kn r3)) else (kn false))) else (kn false))) else (kn false))
noncomputable def rdata_Valid_J80 := hull (rdata_Valid_J80_i)
theorem rdata_Valid_J80_eq : rdata_Valid_J80 = rdata_Valid_J80_i := hull_eq _
noncomputable def a_rdata_Valid_J80 : AC Bool :=
  .seq (.reg [.op ⟨(some 288), (.load true 13 (.t 3)), none⟩,
    .op ⟨(some 289), (.fa 6 (.t 3)), none⟩,
    .op ⟨(some 290), (.load false 1 (.t 289)), none⟩,
    .op ⟨(some 291), (.fa 7 (.t 3)), none⟩,
    .op ⟨(some 292), (.load false 1 (.t 291)), none⟩,
    .op ⟨(some 293), (.fa 8 (.t 3)), none⟩,
    .op ⟨(some 294), (.load false 1 (.t 293)), none⟩,
    .op ⟨(some 295), (.fa 5 (.t 3)), none⟩,
    .op ⟨(some 296), (.load false 1 (.t 295)), none⟩,
    .op ⟨(some 297), (.build [(.bool false), (.int .u64 0), (.int .u64 0), (.str []), (.str []), (.str []), (.int .i64 0), (.int .i64 0), (.int .i64 0), (.int .i64 0), (.int .i64 0), (.int .i64 0), (.int .u64 0)] [(6, (1, (.t 290))), (7, (1, (.t 292))), (8, (1, (.t 294))), (5, (1, (.t 296)))]), none⟩,
    .op ⟨(some 298), (.eq false true [.b, (.i .u64), (.i .u64), .s, .s, .s, (.i .i64), (.i .i64), (.i .i64), (.i .i64), (.i .i64), (.i .i64), (.i .u64)] (.t 288) (.t 297)), none⟩,
    .op ⟨(some 299), (.mv (.t 298)), none⟩,
    .op ⟨(some 300), (.fa 5 (.t 3)), (some (299, true))⟩,
    .op ⟨(some 301), (.load false 1 (.t 300)), (some (299, true))⟩,
    .call ⟨(some 302), (.call 74 [(.t 301)]), (some (299, true))⟩ 74 ent_rdata_long,
    .op ⟨(some 303), (.pick (.t 299) (.t 302) (.c (.bool false))), none⟩,
    .op ⟨(some 304), (.mv (.t 303)), none⟩,
    .op ⟨(some 305), (.fa 6 (.t 3)), (some (304, true))⟩,
    .op ⟨(some 306), (.load false 1 (.t 305)), (some (304, true))⟩,
    .op ⟨(some 307), (.bin .eql (.t 306) (.c (.int .i64 256))), (some (304, true))⟩,
    .op ⟨(some 308), (.mv (.t 307)), (some (304, true))⟩,
    .op ⟨(some 309), (.fa 6 (.t 3)), (some (308, false))⟩,
    .op ⟨(some 310), (.load false 1 (.t 309)), (some (308, false))⟩,
    .op ⟨(some 311), (.bin .eql (.t 310) (.c (.int .i64 257))), (some (308, false))⟩,
    .op ⟨(some 312), (.pick (.t 308) (.c (.bool true)) (.t 311)), (some (304, true))⟩,
    .op ⟨(some 313), (.pick (.t 304) (.t 312) (.c (.bool false))), none⟩,
    .op ⟨(some 314), (.mv (.t 313)), none⟩,
    .grp 314 true [⟨(some 315), (.fa 7 (.t 3)), (some (314, true))⟩, ⟨(some 316), (.load false 1 (.t 315)), (some (314, true))⟩, ⟨(some 317), (.bin .eql (.t 316) (.c (.int .i64 3))), (some (314, true))⟩] 318 (.t 317),
    .op ⟨(some 319), (.mv (.t 318)), none⟩,
    .op ⟨(some 320), (.fa 8 (.t 3)), (some (319, true))⟩,
    .op ⟨(some 321), (.load false 1 (.t 320)), (some (319, true))⟩,
    .call ⟨(some 322), (.call 73 [(.t 321), (.c (.int .i64 255))]), (some (319, true))⟩ 73 ent_rdata_within,
    .op ⟨(some 323), (.pick (.t 319) (.t 322) (.c (.bool false))), none⟩,
    .op ⟨(some 4), (.mv (.t 323)), none⟩]) (.view [.sel [4] []])
theorem ok_rdata_Valid_J80 : AC.ok Tryd.prog (TIof Tryd.prog) 324 0 (kret [(.t 4)] dec_rdata_Valid) a_rdata_Valid_J80 := (And.intro (And.intro (EntOkB.ok k_rdata_long) (And.intro (EntOkB.ok k_rdata_within) True.intro)) True.intro)
theorem t_rdata_Valid_J80 (b0_0 : Bool) (b0_1 : Int) (b0_2 : Int) (b0_3 : List UInt8) (b0_4 : List UInt8) (b0_5 : List UInt8) (b0_6 : Int) (b0_7 : Int) (b0_8 : Int) (b0_9 : Int) (b0_10 : Int) (b0_11 : Int) (b0_12 : Int) (K : Ex → Env → Mem → Option Bool) : den 0 (kret [(.t 4)] dec_rdata_Valid) a_rdata_Valid_J80 (envOf [(3, (.ptr 0 0))]) (memOf [(some (.box true [(.bool b0_0), (.int .u64 b0_1), (.int .u64 b0_2), (.str b0_3), (.str b0_4), (.str b0_5), (.int .i64 b0_6), (.int .i64 b0_7), (.int .i64 b0_8), (.int .i64 b0_9), (.int .i64 b0_10), (.int .i64 b0_11), (.int .u64 b0_12)]))]) K = rdata_Valid_J80 b0_0 b0_1 b0_2 b0_3 b0_4 b0_5 b0_6 b0_7 b0_8 b0_9 b0_10 b0_11 b0_12 (fun z_v4 => K .norm (envOf [(4, (.bool z_v4))]) (memOf [])) := by
  rw [rdata_Valid_J80_eq]; kernel_rfl
noncomputable def s_rdata_Valid_J80 : Env → Mem → (Ex → Env → Mem → Option Bool) → Option Bool := fun t m K => chk (fitS0 shp_rdata_Valid_J80 t m) (cond (hdS shp_rdata_Valid_J80 t m) (rdata_Valid_J80 (gB (bxC (m.s 0)) 0) (gI (bxC (m.s 0)) 1) (gI (bxC (m.s 0)) 2) (gS (bxC (m.s 0)) 3) (gS (bxC (m.s 0)) 4) (gS (bxC (m.s 0)) 5) (gI (bxC (m.s 0)) 6) (gI (bxC (m.s 0)) 7) (gI (bxC (m.s 0)) 8) (gI (bxC (m.s 0)) 9) (gI (bxC (m.s 0)) 10) (gI (bxC (m.s 0)) 11) (gI (bxC (m.s 0)) 12) (fun z_v4 => K .norm (envOf [(4, (.bool z_v4))]) (memOf []))) none)
theorem o_rdata_Valid_J80 : SubOk Tryd.prog (TIof Tryd.prog) 324 0 (kret [(.t 4)] dec_rdata_Valid) (scOf a_rdata_Valid_J80) s_rdata_Valid_J80 :=
  sub_of tabOk follows ok_rdata_Valid_J80 (er_of (by kernel_rfl)) shp_rdata_Valid_J80 (fun t m K => congrArg (fun z => chk (fitS0 shp_rdata_Valid_J80 t m) (cond (hdS shp_rdata_Valid_J80 t m) z none)) (t_rdata_Valid_J80 (gB (bxC (m.s 0)) 0) (gI (bxC (m.s 0)) 1) (gI (bxC (m.s 0)) 2) (gS (bxC (m.s 0)) 3) (gS (bxC (m.s 0)) 4) (gS (bxC (m.s 0)) 5) (gI (bxC (m.s 0)) 6) (gI (bxC (m.s 0)) 7) (gI (bxC (m.s 0)) 8) (gI (bxC (m.s 0)) 9) (gI (bxC (m.s 0)) 10) (gI (bxC (m.s 0)) 11) (gI (bxC (m.s 0)) 12) K).symm)
def shp_rdata_Valid : Shp := ⟨[(0, .one (.l (.i .i64))), (1, .st [(.l .b), (.l (.i .u64)), (.l (.i .u64)), (.l .s), (.l .s), (.l .s), (.l (.i .i64)), (.l (.i .i64)), (.l (.i .i64)), (.l (.i .i64)), (.l (.i .i64)), (.l (.i .i64)), (.l (.i .u64))])], []⟩
noncomputable def rdata_Valid_i (v0 : Int) (v1_0 : Bool) (v1_1 : Int) (v1_2 : Int) (v1_3 : List UInt8) (v1_4 : List UInt8) (v1_5 : List UInt8) (v1_6 : Int) (v1_7 : Int) (v1_8 : Int) (v1_9 : Int) (v1_10 : Int) (v1_11 : Int) (v1_12 : Int) : Option Bool :=
  (rdata_Valid_J7 v0 v0 v1_0 v1_1 v1_2 v1_3 v1_4 v1_5 v1_6 v1_7 v1_8 v1_9 v1_10 v1_11 v1_12 (fun v6q1 => (bif v6q1 then (bif ((v1_0 == v1_0) && ((v1_1 == v1_1) && ((v1_2 == v1_2) && ((v1_3 == ([] : List UInt8)) && ((v1_4 == ([] : List UInt8)) && ((v1_5 == ([] : List UInt8)) && ((v1_6 == (0 : Int)) && ((v1_7 == (0 : Int)) && ((v1_8 == (0 : Int)) && ((v1_9 == (0 : Int)) && ((v1_10 == (0 : Int)) && ((v1_11 == (0 : Int)) && ((v1_12 == (0 : Int)) && true))))))))))))) then (oB (addr_Valid v1_0 v1_1 v1_2) fun r2 => (some (r2 && ((v1_0 == (v0 == (28 : Int))) && true)))) else (some false)) else (rdata_Valid_J17 v0 v1_0 v1_1 v1_2 v1_3 v1_4 v1_5 v1_6 v1_7 v1_8 v1_9 v1_10 v1_11 v1_12 (fun v27q3 => (bif v27q3 then (bif ((v1_0 == false) && ((v1_1 == (0 : Int)) && ((v1_2 == (0 : Int)) && ((v1_3 == v1_3) && ((v1_4 == ([] : List UInt8)) && ((v1_5 == ([] : List UInt8)) && ((v1_6 == (0 : Int)) && ((v1_7 == (0 : Int)) && ((v1_8 == (0 : Int)) && ((v1_9 == (0 : Int)) && ((v1_10 == (0 : Int)) && ((v1_11 == (0 : Int)) && ((v1_12 == (0 : Int)) && true))))))))))))) then (oB (rdata_host v1_3) fun r4 => (some r4)) else (some false)) else (bif (v0 == (6 : Int)) then (rdata_Valid_J38 v1_0 v1_1 v1_2 v1_3 v1_4 v1_5 v1_6 v1_7 v1_8 v1_9 v1_10 v1_11 v1_12 (fun v4q5 => (some v4q5))) else (bif (v0 == (15 : Int)) then (bif ((v1_0 == false) && ((v1_1 == (0 : Int)) && ((v1_2 == (0 : Int)) && ((v1_3 == v1_3) && ((v1_4 == ([] : List UInt8)) && ((v1_5 == ([] : List UInt8)) && ((v1_6 == v1_6) && ((v1_7 == (0 : Int)) && ((v1_8 == (0 : Int)) && ((v1_9 == (0 : Int)) && ((v1_10 == (0 : Int)) && ((v1_11 == (0 : Int)) && ((v1_12 == (0 : Int)) && true))))))))))))) then (oB (rdata_host v1_3) fun r6 => (bif r6 then (oB (rdata_within v1_6 (65535 : Int)) fun r7 => (some r7)) else (some false))) else (some false)) else (bif (v0 == (16 : Int)) then (some (((v1_0 == false) && ((v1_1 == (0 : Int)) && ((v1_2 == (0 : Int)) && ((v1_3 == ([] : List UInt8)) && ((v1_4 == ([] : List UInt8)) && ((v1_5 == v1_5) && ((v1_6 == (0 : Int)) && ((v1_7 == (0 : Int)) && ((v1_8 == (0 : Int)) && ((v1_9 == (0 : Int)) && ((v1_10 == (0 : Int)) && ((v1_11 == (0 : Int)) && ((v1_12 == (0 : Int)) && true))))))))))))) && (decide ((v1_5.length : Int) ≤ (255 : Int))))) else (bif (v0 == (33 : Int)) then (bif ((v1_0 == false) && ((v1_1 == (0 : Int)) && ((v1_2 == (0 : Int)) && ((v1_3 == v1_3) && ((v1_4 == ([] : List UInt8)) && ((v1_5 == ([] : List UInt8)) && ((v1_6 == v1_6) && ((v1_7 == v1_7) && ((v1_8 == v1_8) && ((v1_9 == (0 : Int)) && ((v1_10 == (0 : Int)) && ((v1_11 == (0 : Int)) && ((v1_12 == (0 : Int)) && true))))))))))))) then (oB (rdata_host v1_3) fun r8 => (bif r8 then (oB (rdata_within v1_6 (65535 : Int)) fun r9 => (bif r9 then (oB (rdata_within v1_7 (65535 : Int)) fun r10 => (bif r10 then (oB (rdata_within v1_8 (65535 : Int)) fun r11 => (some r11)) else (some false))) else (some false))) else (some false))) else (some false)) else (bif (v0 == (43 : Int)) then (bif ((v1_0 == false) && ((v1_1 == (0 : Int)) && ((v1_2 == (0 : Int)) && ((v1_3 == ([] : List UInt8)) && ((v1_4 == ([] : List UInt8)) && ((v1_5 == v1_5) && ((v1_6 == v1_6) && ((v1_7 == v1_7) && ((v1_8 == v1_8) && ((v1_9 == (0 : Int)) && ((v1_10 == (0 : Int)) && ((v1_11 == (0 : Int)) && ((v1_12 == (0 : Int)) && true))))))))))))) then (oB (rdata_long v1_5) fun r12 => (bif r12 then (oB (rdata_within v1_6 (65535 : Int)) fun r13 => (bif r13 then (oB (rdata_within v1_7 (255 : Int)) fun r14 => (bif r14 then (oB (rdata_within v1_8 (255 : Int)) fun r15 => (some r15)) else (some false))) else (some false))) else (some false))) else (some false)) else (bif (v0 == (46 : Int)) then (rdata_Valid_J68 v1_0 v1_1 v1_2 v1_3 v1_4 v1_5 v1_6 v1_7 v1_8 v1_9 v1_10 v1_11 v1_12 (fun v4q16 => (some v4q16))) else (bif (v0 == (47 : Int)) then (bif ((v1_0 == false) && ((v1_1 == (0 : Int)) && ((v1_2 == (0 : Int)) && ((v1_3 == v1_3) && ((v1_4 == ([] : List UInt8)) && ((v1_5 == ([] : List UInt8)) && ((v1_6 == (0 : Int)) && ((v1_7 == (0 : Int)) && ((v1_8 == (0 : Int)) && ((v1_9 == (0 : Int)) && ((v1_10 == (0 : Int)) && ((v1_11 == (0 : Int)) && ((v1_12 == v1_12) && true))))))))))))) then (oB (dname_Valid v1_3) fun r17 => (bif r17 then (bif (v1_12 != (0 : Int)) then (oB (rdata_all) fun r18 => (some ((ibits .andNot .u64 v1_12 r18) == (0 : Int)))) else (some false)) else (some false))) else (some false)) else (bif (v0 == (48 : Int)) then (rdata_Valid_J80 v1_0 v1_1 v1_2 v1_3 v1_4 v1_5 v1_6 v1_7 v1_8 v1_9 v1_10 v1_11 v1_12 (fun v4q19 => (some v4q19))) else (some false)))))))))))))))
noncomputable def rdata_Valid := hull rdata_Valid_i
theorem rdata_Valid_eq : rdata_Valid = rdata_Valid_i := hull_eq _
noncomputable def a_rdata_Valid : AC Bool :=
  .seq (.reg [.op ⟨(some 3), (.box (.t 1)), none⟩,
    .op ⟨(some 4), (.mv (.c (.bool false))), none⟩]) (.seq (.seq (.reg [.op ⟨(some 5), (.mv (.t 0)), none⟩]) (.block 0 (.seq (.seq (.view [.sel [0, 3, 5] [0]]) (.sub (scOf a_rdata_Valid_J7) s_rdata_Valid_J7)) (.cond (.t 6) (.seq (.reg [.op ⟨(some 9), (.load true 13 (.t 3)), none⟩,
    .op ⟨(some 10), (.fa 0 (.t 3)), none⟩,
    .op ⟨(some 11), (.load true 3 (.t 10)), none⟩,
    .op ⟨(some 12), (.build [(.bool false), (.int .u64 0), (.int .u64 0), (.str []), (.str []), (.str []), (.int .i64 0), (.int .i64 0), (.int .i64 0), (.int .i64 0), (.int .i64 0), (.int .i64 0), (.int .u64 0)] [(0, (3, (.t 11)))]), none⟩,
    .op ⟨(some 13), (.eq false true [.b, (.i .u64), (.i .u64), .s, .s, .s, (.i .i64), (.i .i64), (.i .i64), (.i .i64), (.i .i64), (.i .i64), (.i .u64)] (.t 9) (.t 12)), none⟩,
    .op ⟨(some 14), (.mv (.t 13)), none⟩,
    .op ⟨(some 15), (.fa 0 (.t 3)), (some (14, true))⟩,
    .op ⟨(some 16), (.load true 3 (.t 15)), (some (14, true))⟩,
    .call ⟨(some 17), (.call 59 [(.t 16)]), (some (14, true))⟩ 59 ent_addr_Valid,
    .op ⟨(some 18), (.pick (.t 14) (.t 17) (.c (.bool false))), none⟩,
    .op ⟨(some 19), (.mv (.t 18)), none⟩,
    .grp 19 true [⟨(some 20), (.fa 0 (.t 3)), (some (19, true))⟩, ⟨(some 21), (.fa 0 (.t 20)), (some (19, true))⟩, ⟨(some 22), (.load false 1 (.t 21)), (some (19, true))⟩, ⟨(some 23), (.mv (.t 0)), (some (19, true))⟩, ⟨(some 24), (.bin .eql (.t 23) (.c (.int .i64 28))), (some (19, true))⟩, ⟨(some 25), (.eq false false [.b] (.t 22) (.t 24)), (some (19, true))⟩] 26 (.t 25),
    .op ⟨(some 4), (.mv (.t 26)), none⟩]) (.ret)) (.seq (.seq (.view [.sel [3, 5] [0]]) (.sub (scOf a_rdata_Valid_J17) s_rdata_Valid_J17)) (.cond (.t 27) (.seq (.reg [.op ⟨(some 32), (.load true 13 (.t 3)), none⟩,
    .op ⟨(some 33), (.fa 3 (.t 3)), none⟩,
    .op ⟨(some 34), (.load false 1 (.t 33)), none⟩,
    .op ⟨(some 35), (.build [(.bool false), (.int .u64 0), (.int .u64 0), (.str []), (.str []), (.str []), (.int .i64 0), (.int .i64 0), (.int .i64 0), (.int .i64 0), (.int .i64 0), (.int .i64 0), (.int .u64 0)] [(3, (1, (.t 34)))]), none⟩,
    .op ⟨(some 36), (.eq false true [.b, (.i .u64), (.i .u64), .s, .s, .s, (.i .i64), (.i .i64), (.i .i64), (.i .i64), (.i .i64), (.i .i64), (.i .u64)] (.t 32) (.t 35)), none⟩,
    .op ⟨(some 37), (.mv (.t 36)), none⟩,
    .op ⟨(some 38), (.fa 3 (.t 3)), (some (37, true))⟩,
    .op ⟨(some 39), (.load false 1 (.t 38)), (some (37, true))⟩,
    .call ⟨(some 40), (.call 71 [(.t 39)]), (some (37, true))⟩ 71 ent_rdata_host,
    .op ⟨(some 41), (.pick (.t 37) (.t 40) (.c (.bool false))), none⟩,
    .op ⟨(some 4), (.mv (.t 41)), none⟩]) (.ret)) (.seq (.reg [.op ⟨(some 43), (.bin .eql (.t 5) (.c (.int .i64 6))), none⟩,
    .op ⟨(some 42), (.mv (.t 43)), none⟩]) (.cond (.t 42) (.seq (.seq (.view [.sel [3] [0]]) (.sub (scOf a_rdata_Valid_J38) s_rdata_Valid_J38)) (.ret)) (.seq (.reg [.op ⟨(some 97), (.bin .eql (.t 5) (.c (.int .i64 15))), none⟩,
    .op ⟨(some 96), (.mv (.t 97)), none⟩]) (.cond (.t 96) (.seq (.reg [.op ⟨(some 98), (.load true 13 (.t 3)), none⟩,
    .op ⟨(some 99), (.fa 6 (.t 3)), none⟩,
    .op ⟨(some 100), (.load false 1 (.t 99)), none⟩,
    .op ⟨(some 101), (.fa 3 (.t 3)), none⟩,
    .op ⟨(some 102), (.load false 1 (.t 101)), none⟩,
    .op ⟨(some 103), (.build [(.bool false), (.int .u64 0), (.int .u64 0), (.str []), (.str []), (.str []), (.int .i64 0), (.int .i64 0), (.int .i64 0), (.int .i64 0), (.int .i64 0), (.int .i64 0), (.int .u64 0)] [(6, (1, (.t 100))), (3, (1, (.t 102)))]), none⟩,
    .op ⟨(some 104), (.eq false true [.b, (.i .u64), (.i .u64), .s, .s, .s, (.i .i64), (.i .i64), (.i .i64), (.i .i64), (.i .i64), (.i .i64), (.i .u64)] (.t 98) (.t 103)), none⟩,
    .op ⟨(some 105), (.mv (.t 104)), none⟩,
    .op ⟨(some 106), (.fa 3 (.t 3)), (some (105, true))⟩,
    .op ⟨(some 107), (.load false 1 (.t 106)), (some (105, true))⟩,
    .call ⟨(some 108), (.call 71 [(.t 107)]), (some (105, true))⟩ 71 ent_rdata_host,
    .op ⟨(some 109), (.pick (.t 105) (.t 108) (.c (.bool false))), none⟩,
    .op ⟨(some 110), (.mv (.t 109)), none⟩,
    .op ⟨(some 111), (.fa 6 (.t 3)), (some (110, true))⟩,
    .op ⟨(some 112), (.load false 1 (.t 111)), (some (110, true))⟩,
    .call ⟨(some 113), (.call 73 [(.t 112), (.c (.int .i64 65535))]), (some (110, true))⟩ 73 ent_rdata_within,
    .op ⟨(some 114), (.pick (.t 110) (.t 113) (.c (.bool false))), none⟩,
    .op ⟨(some 4), (.mv (.t 114)), none⟩]) (.ret)) (.seq (.reg [.op ⟨(some 116), (.bin .eql (.t 5) (.c (.int .i64 16))), none⟩,
    .op ⟨(some 115), (.mv (.t 116)), none⟩]) (.cond (.t 115) (.seq (.reg [.op ⟨(some 117), (.load true 13 (.t 3)), none⟩,
    .op ⟨(some 118), (.fa 5 (.t 3)), none⟩,
    .op ⟨(some 119), (.load false 1 (.t 118)), none⟩,
    .op ⟨(some 120), (.build [(.bool false), (.int .u64 0), (.int .u64 0), (.str []), (.str []), (.str []), (.int .i64 0), (.int .i64 0), (.int .i64 0), (.int .i64 0), (.int .i64 0), (.int .i64 0), (.int .u64 0)] [(5, (1, (.t 119)))]), none⟩,
    .op ⟨(some 121), (.eq false true [.b, (.i .u64), (.i .u64), .s, .s, .s, (.i .i64), (.i .i64), (.i .i64), (.i .i64), (.i .i64), (.i .i64), (.i .u64)] (.t 117) (.t 120)), none⟩,
    .op ⟨(some 122), (.mv (.t 121)), none⟩,
    .grp 122 true [⟨(some 123), (.fa 5 (.t 3)), (some (122, true))⟩, ⟨(some 124), (.load false 1 (.t 123)), (some (122, true))⟩, ⟨(some 125), (.len true (.t 124)), (some (122, true))⟩, ⟨(some 126), (.bin .leq (.t 125) (.c (.int .i64 255))), (some (122, true))⟩] 127 (.t 126),
    .op ⟨(some 4), (.mv (.t 127)), none⟩]) (.ret)) (.seq (.reg [.op ⟨(some 129), (.bin .eql (.t 5) (.c (.int .i64 33))), none⟩,
    .op ⟨(some 128), (.mv (.t 129)), none⟩]) (.cond (.t 128) (.seq (.reg [.op ⟨(some 130), (.load true 13 (.t 3)), none⟩,
    .op ⟨(some 131), (.fa 6 (.t 3)), none⟩,
    .op ⟨(some 132), (.load false 1 (.t 131)), none⟩,
    .op ⟨(some 133), (.fa 7 (.t 3)), none⟩,
    .op ⟨(some 134), (.load false 1 (.t 133)), none⟩,
    .op ⟨(some 135), (.fa 8 (.t 3)), none⟩,
    .op ⟨(some 136), (.load false 1 (.t 135)), none⟩,
    .op ⟨(some 137), (.fa 3 (.t 3)), none⟩,
    .op ⟨(some 138), (.load false 1 (.t 137)), none⟩,
    .op ⟨(some 139), (.build [(.bool false), (.int .u64 0), (.int .u64 0), (.str []), (.str []), (.str []), (.int .i64 0), (.int .i64 0), (.int .i64 0), (.int .i64 0), (.int .i64 0), (.int .i64 0), (.int .u64 0)] [(6, (1, (.t 132))), (7, (1, (.t 134))), (8, (1, (.t 136))), (3, (1, (.t 138)))]), none⟩,
    .op ⟨(some 140), (.eq false true [.b, (.i .u64), (.i .u64), .s, .s, .s, (.i .i64), (.i .i64), (.i .i64), (.i .i64), (.i .i64), (.i .i64), (.i .u64)] (.t 130) (.t 139)), none⟩,
    .op ⟨(some 141), (.mv (.t 140)), none⟩,
    .op ⟨(some 142), (.fa 3 (.t 3)), (some (141, true))⟩,
    .op ⟨(some 143), (.load false 1 (.t 142)), (some (141, true))⟩,
    .call ⟨(some 144), (.call 71 [(.t 143)]), (some (141, true))⟩ 71 ent_rdata_host,
    .op ⟨(some 145), (.pick (.t 141) (.t 144) (.c (.bool false))), none⟩,
    .op ⟨(some 146), (.mv (.t 145)), none⟩,
    .op ⟨(some 147), (.fa 6 (.t 3)), (some (146, true))⟩,
    .op ⟨(some 148), (.load false 1 (.t 147)), (some (146, true))⟩,
    .call ⟨(some 149), (.call 73 [(.t 148), (.c (.int .i64 65535))]), (some (146, true))⟩ 73 ent_rdata_within,
    .op ⟨(some 150), (.pick (.t 146) (.t 149) (.c (.bool false))), none⟩,
    .op ⟨(some 151), (.mv (.t 150)), none⟩,
    .op ⟨(some 152), (.fa 7 (.t 3)), (some (151, true))⟩,
    .op ⟨(some 153), (.load false 1 (.t 152)), (some (151, true))⟩,
    .call ⟨(some 154), (.call 73 [(.t 153), (.c (.int .i64 65535))]), (some (151, true))⟩ 73 ent_rdata_within,
    .op ⟨(some 155), (.pick (.t 151) (.t 154) (.c (.bool false))), none⟩,
    .op ⟨(some 156), (.mv (.t 155)), none⟩,
    .op ⟨(some 157), (.fa 8 (.t 3)), (some (156, true))⟩,
    .op ⟨(some 158), (.load false 1 (.t 157)), (some (156, true))⟩,
    .call ⟨(some 159), (.call 73 [(.t 158), (.c (.int .i64 65535))]), (some (156, true))⟩ 73 ent_rdata_within,
    .op ⟨(some 160), (.pick (.t 156) (.t 159) (.c (.bool false))), none⟩,
    .op ⟨(some 4), (.mv (.t 160)), none⟩]) (.ret)) (.seq (.reg [.op ⟨(some 162), (.bin .eql (.t 5) (.c (.int .i64 43))), none⟩,
    .op ⟨(some 161), (.mv (.t 162)), none⟩]) (.cond (.t 161) (.seq (.reg [.op ⟨(some 163), (.load true 13 (.t 3)), none⟩,
    .op ⟨(some 164), (.fa 6 (.t 3)), none⟩,
    .op ⟨(some 165), (.load false 1 (.t 164)), none⟩,
    .op ⟨(some 166), (.fa 7 (.t 3)), none⟩,
    .op ⟨(some 167), (.load false 1 (.t 166)), none⟩,
    .op ⟨(some 168), (.fa 8 (.t 3)), none⟩,
    .op ⟨(some 169), (.load false 1 (.t 168)), none⟩,
    .op ⟨(some 170), (.fa 5 (.t 3)), none⟩,
    .op ⟨(some 171), (.load false 1 (.t 170)), none⟩,
    .op ⟨(some 172), (.build [(.bool false), (.int .u64 0), (.int .u64 0), (.str []), (.str []), (.str []), (.int .i64 0), (.int .i64 0), (.int .i64 0), (.int .i64 0), (.int .i64 0), (.int .i64 0), (.int .u64 0)] [(6, (1, (.t 165))), (7, (1, (.t 167))), (8, (1, (.t 169))), (5, (1, (.t 171)))]), none⟩,
    .op ⟨(some 173), (.eq false true [.b, (.i .u64), (.i .u64), .s, .s, .s, (.i .i64), (.i .i64), (.i .i64), (.i .i64), (.i .i64), (.i .i64), (.i .u64)] (.t 163) (.t 172)), none⟩,
    .op ⟨(some 174), (.mv (.t 173)), none⟩,
    .op ⟨(some 175), (.fa 5 (.t 3)), (some (174, true))⟩,
    .op ⟨(some 176), (.load false 1 (.t 175)), (some (174, true))⟩,
    .call ⟨(some 177), (.call 74 [(.t 176)]), (some (174, true))⟩ 74 ent_rdata_long,
    .op ⟨(some 178), (.pick (.t 174) (.t 177) (.c (.bool false))), none⟩,
    .op ⟨(some 179), (.mv (.t 178)), none⟩,
    .op ⟨(some 180), (.fa 6 (.t 3)), (some (179, true))⟩,
    .op ⟨(some 181), (.load false 1 (.t 180)), (some (179, true))⟩,
    .call ⟨(some 182), (.call 73 [(.t 181), (.c (.int .i64 65535))]), (some (179, true))⟩ 73 ent_rdata_within,
    .op ⟨(some 183), (.pick (.t 179) (.t 182) (.c (.bool false))), none⟩,
    .op ⟨(some 184), (.mv (.t 183)), none⟩,
    .op ⟨(some 185), (.fa 7 (.t 3)), (some (184, true))⟩,
    .op ⟨(some 186), (.load false 1 (.t 185)), (some (184, true))⟩,
    .call ⟨(some 187), (.call 73 [(.t 186), (.c (.int .i64 255))]), (some (184, true))⟩ 73 ent_rdata_within,
    .op ⟨(some 188), (.pick (.t 184) (.t 187) (.c (.bool false))), none⟩,
    .op ⟨(some 189), (.mv (.t 188)), none⟩,
    .op ⟨(some 190), (.fa 8 (.t 3)), (some (189, true))⟩,
    .op ⟨(some 191), (.load false 1 (.t 190)), (some (189, true))⟩,
    .call ⟨(some 192), (.call 73 [(.t 191), (.c (.int .i64 255))]), (some (189, true))⟩ 73 ent_rdata_within,
    .op ⟨(some 193), (.pick (.t 189) (.t 192) (.c (.bool false))), none⟩,
    .op ⟨(some 4), (.mv (.t 193)), none⟩]) (.ret)) (.seq (.reg [.op ⟨(some 195), (.bin .eql (.t 5) (.c (.int .i64 46))), none⟩,
    .op ⟨(some 194), (.mv (.t 195)), none⟩]) (.cond (.t 194) (.seq (.seq (.view [.sel [3] [0]]) (.sub (scOf a_rdata_Valid_J68) s_rdata_Valid_J68)) (.ret)) (.seq (.reg [.op ⟨(some 261), (.bin .eql (.t 5) (.c (.int .i64 47))), none⟩,
    .op ⟨(some 260), (.mv (.t 261)), none⟩]) (.cond (.t 260) (.seq (.draw [] [.op ⟨(some 262), (.load true 13 (.t 3)), none⟩,
    .op ⟨(some 263), (.fa 3 (.t 3)), none⟩,
    .op ⟨(some 264), (.load false 1 (.t 263)), none⟩,
    .op ⟨(some 265), (.fa 12 (.t 3)), none⟩,
    .op ⟨(some 266), (.load false 1 (.t 265)), none⟩,
    .op ⟨(some 267), (.build [(.bool false), (.int .u64 0), (.int .u64 0), (.str []), (.str []), (.str []), (.int .i64 0), (.int .i64 0), (.int .i64 0), (.int .i64 0), (.int .i64 0), (.int .i64 0), (.int .u64 0)] [(3, (1, (.t 264))), (12, (1, (.t 266)))]), none⟩,
    .op ⟨(some 268), (.eq false true [.b, (.i .u64), (.i .u64), .s, .s, .s, (.i .i64), (.i .i64), (.i .i64), (.i .i64), (.i .i64), (.i .i64), (.i .u64)] (.t 262) (.t 267)), none⟩,
    .op ⟨(some 269), (.mv (.t 268)), none⟩,
    .op ⟨(some 270), (.fa 3 (.t 3)), (some (269, true))⟩,
    .op ⟨(some 271), (.load false 1 (.t 270)), (some (269, true))⟩,
    .call ⟨(some 272), (.call 31 [(.t 271)]), (some (269, true))⟩ 31 ent_dname_Valid,
    .op ⟨(some 273), (.pick (.t 269) (.t 272) (.c (.bool false))), none⟩,
    .op ⟨(some 274), (.mv (.t 273)), none⟩,
    .op ⟨(some 275), (.fa 12 (.t 3)), (some (274, true))⟩,
    .op ⟨(some 276), (.load false 1 (.t 275)), (some (274, true))⟩,
    .op ⟨(some 277), (.bin .neq (.t 276) (.c (.int .u64 0))), (some (274, true))⟩,
    .op ⟨(some 278), (.pick (.t 274) (.t 277) (.c (.bool false))), none⟩,
    .op ⟨(some 279), (.mv (.t 278)), none⟩,
    .op ⟨(some 280), (.fa 12 (.t 3)), (some (279, true))⟩,
    .op ⟨(some 281), (.load false 1 (.t 280)), (some (279, true))⟩,
    .call ⟨(some 282), (.call 75 []), (some (279, true))⟩ 75 ent_rdata_all] [.op ⟨(some 283), (.bin .andNot (.t 281) (.t 282)), (some (279, true))⟩,
    .op ⟨(some 284), (.bin .eql (.t 283) (.c (.int .u64 0))), (some (279, true))⟩,
    .op ⟨(some 285), (.pick (.t 279) (.t 284) (.c (.bool false))), none⟩,
    .op ⟨(some 4), (.mv (.t 285)), none⟩]) (.ret)) (.seq (.reg [.op ⟨(some 287), (.bin .eql (.t 5) (.c (.int .i64 48))), none⟩,
    .op ⟨(some 286), (.mv (.t 287)), none⟩]) (.cond (.t 286) (.seq (.seq (.view [.sel [3] [0]]) (.sub (scOf a_rdata_Valid_J80) s_rdata_Valid_J80)) (.ret)) (.skip))))))))))))))))))))))) (.seq (.reg [.op ⟨(some 4), (.mv (.c (.bool false))), none⟩]) (.ret)))
theorem ok_rdata_Valid : AC.ok Tryd.prog (TIof Tryd.prog) 324 0 (kret [(.t 4)] dec_rdata_Valid) a_rdata_Valid := (And.intro True.intro (And.intro (And.intro True.intro (And.intro (And.intro True.intro o_rdata_Valid_J7) (And.intro (And.intro (And.intro (EntOkB.ok k_addr_Valid) True.intro) True.intro) (And.intro (And.intro True.intro o_rdata_Valid_J17) (And.intro (And.intro (And.intro (EntOkB.ok k_rdata_host) True.intro) True.intro) (And.intro True.intro (And.intro (And.intro (And.intro True.intro o_rdata_Valid_J38) True.intro) (And.intro True.intro (And.intro (And.intro (And.intro (EntOkB.ok k_rdata_host) (And.intro (EntOkB.ok k_rdata_within) True.intro)) True.intro) (And.intro True.intro (And.intro (And.intro True.intro True.intro) (And.intro True.intro (And.intro (And.intro (And.intro (EntOkB.ok k_rdata_host) (And.intro (EntOkB.ok k_rdata_within) (And.intro (EntOkB.ok k_rdata_within) (And.intro (EntOkB.ok k_rdata_within) True.intro)))) True.intro) (And.intro True.intro (And.intro (And.intro (And.intro (EntOkB.ok k_rdata_long) (And.intro (EntOkB.ok k_rdata_within) (And.intro (EntOkB.ok k_rdata_within) (And.intro (EntOkB.ok k_rdata_within) True.intro)))) True.intro) (And.intro True.intro (And.intro (And.intro (And.intro True.intro o_rdata_Valid_J68) True.intro) (And.intro True.intro (And.intro (And.intro (And.intro (And.intro (EntOkB.ok k_dname_Valid) (And.intro (EntOkB.ok k_rdata_all) True.intro)) (And.intro True.intro rfl)) True.intro) (And.intro True.intro (And.intro (And.intro (And.intro True.intro o_rdata_Valid_J80) True.intro) True.intro))))))))))))))))))))) (And.intro True.intro True.intro)))
theorem t_rdata_Valid (v0 : Int) (v1_0 : Bool) (v1_1 : Int) (v1_2 : Int) (v1_3 : List UInt8) (v1_4 : List UInt8) (v1_5 : List UInt8) (v1_6 : Int) (v1_7 : Int) (v1_8 : Int) (v1_9 : Int) (v1_10 : Int) (v1_11 : Int) (v1_12 : Int) : den 0 (kret [(.t 4)] dec_rdata_Valid) a_rdata_Valid (envOf [(0, (.int .i64 v0)), (1, (.agg [(.bool v1_0), (.int .u64 v1_1), (.int .u64 v1_2), (.str v1_3), (.str v1_4), (.str v1_5), (.int .i64 v1_6), (.int .i64 v1_7), (.int .i64 v1_8), (.int .i64 v1_9), (.int .i64 v1_10), (.int .i64 v1_11), (.int .u64 v1_12)]))]) (memOf []) (kend (kret [(.t 4)] dec_rdata_Valid)) = rdata_Valid v0 v1_0 v1_1 v1_2 v1_3 v1_4 v1_5 v1_6 v1_7 v1_8 v1_9 v1_10 v1_11 v1_12 := by
  rw [rdata_Valid_eq]; kernel_rfl
theorem c_rdata_Valid : cFn (TIof Tryd.prog) Tryd.f63 = some ⟨324, [(.t 4)], scOf a_rdata_Valid⟩ := by kernel_rfl
noncomputable def ent_rdata_Valid {R : Type} (xs : List AV) (K : AV → Option R) : Option R := chk (fitS shp_rdata_Valid (entry xs) Mem.none) (oB (rdata_Valid (gI [(entry xs) 0] 0) (gB ((entry xs) 1).cells 0) (gI ((entry xs) 1).cells 1) (gI ((entry xs) 1).cells 2) (gS ((entry xs) 1).cells 3) (gS ((entry xs) 1).cells 4) (gS ((entry xs) 1).cells 5) (gI ((entry xs) 1).cells 6) (gI ((entry xs) 1).cells 7) (gI ((entry xs) 1).cells 8) (gI ((entry xs) 1).cells 9) (gI ((entry xs) 1).cells 10) (gI ((entry xs) 1).cells 11) (gI ((entry xs) 1).cells 12)) fun r => K (enc_rdata_Valid r))
theorem k_rdata_Valid {R : Type} : EntOkB Tryd.prog 63 (ent_rdata_Valid (R := R)) :=
  ent_of (F := fun xs => rdata_Valid (gI [(entry xs) 0] 0) (gB ((entry xs) 1).cells 0) (gI ((entry xs) 1).cells 1) (gI ((entry xs) 1).cells 2) (gS ((entry xs) 1).cells 3) (gS ((entry xs) 1).cells 4) (gS ((entry xs) 1).cells 5) (gI ((entry xs) 1).cells 6) (gI ((entry xs) 1).cells 7) (gI ((entry xs) 1).cells 8) (gI ((entry xs) 1).cells 9) (gI ((entry xs) 1).cells 10) (gI ((entry xs) 1).cells 11) (gI ((entry xs) 1).cells 12)) (enc := enc_rdata_Valid) tabOk follows Tryd.func63 (by kernel_rfl) c_rdata_Valid (fun z r h => by
    obtain ⟨h1, h2⟩ := cond_some h
    cases h2
    exact (etaRV_eq h1).symm) ok_rdata_Valid (er_of (by kernel_rfl)) shp_rdata_Valid (fun xs => t_rdata_Valid (gI [(entry xs) 0] 0) (gB ((entry xs) 1).cells 0) (gI ((entry xs) 1).cells 1) (gI ((entry xs) 1).cells 2) (gS ((entry xs) 1).cells 3) (gS ((entry xs) 1).cells 4) (gS ((entry xs) 1).cells 5) (gI ((entry xs) 1).cells 6) (gI ((entry xs) 1).cells 7) (gI ((entry xs) 1).cells 8) (gI ((entry xs) 1).cells 9) (gI ((entry xs) 1).cells 10) (gI ((entry xs) 1).cells 11) (gI ((entry xs) 1).cells 12)) (fun xs K r h => by
    unfold ent_rdata_Valid at h
    exact ⟨(chk_some h).1, oB_some (chk_some h).2⟩)

def dec_rrset_Valid (z : AV) : Option Bool := cond (fitRV (.one .b) z) (some (aB z)) none
def enc_rrset_Valid (r : Bool) : AV := .bool r
def shp_rrset_Valid : Shp := ⟨[(0, .st [(.l .s), (.l (.i .i64)), (.l (.i .i64)), (.l .b), (.l (.i .u64)), (.l (.i .u64)), (.l .s), (.l .s), (.l .s), (.l (.i .i64)), (.l (.i .i64)), (.l (.i .i64)), (.l (.i .i64)), (.l (.i .i64)), (.l (.i .i64)), (.l (.i .u64))])], []⟩
noncomputable def rrset_Valid_i (v0_0 : List UInt8) (v0_1 : Int) (v0_2 : Int) (v0_3 : Bool) (v0_4 : Int) (v0_5 : Int) (v0_6 : List UInt8) (v0_7 : List UInt8) (v0_8 : List UInt8) (v0_9 : Int) (v0_10 : Int) (v0_11 : Int) (v0_12 : Int) (v0_13 : Int) (v0_14 : Int) (v0_15 : Int) : Option Bool :=
  (oB (dname_Valid v0_0) fun r1 => (bif r1 then (oB (rdata_Known v0_1) fun r2 => (bif ((r2 && (decide (v0_2 ≥ (0 : Int)))) && (decide (v0_2 ≤ (2147483647 : Int)))) then (oB (rdata_Valid v0_1 v0_3 v0_4 v0_5 v0_6 v0_7 v0_8 v0_9 v0_10 v0_11 v0_12 v0_13 v0_14 v0_15) fun r3 => (some r3)) else (some false))) else (some false)))
noncomputable def rrset_Valid := hull rrset_Valid_i
theorem rrset_Valid_eq : rrset_Valid = rrset_Valid_i := hull_eq _
noncomputable def a_rrset_Valid : AC Bool :=
  .seq (.reg [.op ⟨(some 1), (.box (.t 0)), none⟩,
    .op ⟨(some 2), (.mv (.c (.bool false))), none⟩]) (.seq (.reg [.op ⟨(some 3), (.fa 0 (.t 1)), none⟩,
    .op ⟨(some 4), (.load false 1 (.t 3)), none⟩,
    .call ⟨(some 5), (.call 31 [(.t 4)]), none⟩ 31 ent_dname_Valid,
    .op ⟨(some 6), (.mv (.t 5)), none⟩,
    .op ⟨(some 7), (.fa 1 (.t 1)), (some (6, true))⟩,
    .op ⟨(some 8), (.load false 1 (.t 7)), (some (6, true))⟩,
    .call ⟨(some 9), (.call 62 [(.t 8)]), (some (6, true))⟩ 62 ent_rdata_Known,
    .op ⟨(some 10), (.pick (.t 6) (.t 9) (.c (.bool false))), none⟩,
    .op ⟨(some 11), (.mv (.t 10)), none⟩,
    .grp 11 true [⟨(some 12), (.fa 2 (.t 1)), (some (11, true))⟩, ⟨(some 13), (.load false 1 (.t 12)), (some (11, true))⟩, ⟨(some 14), (.bin .geq (.t 13) (.c (.int .i64 0))), (some (11, true))⟩] 15 (.t 14),
    .op ⟨(some 16), (.mv (.t 15)), none⟩,
    .grp 16 true [⟨(some 17), (.fa 2 (.t 1)), (some (16, true))⟩, ⟨(some 18), (.load false 1 (.t 17)), (some (16, true))⟩, ⟨(some 19), (.bin .leq (.t 18) (.c (.int .i64 2147483647))), (some (16, true))⟩] 20 (.t 19),
    .op ⟨(some 21), (.mv (.t 20)), none⟩,
    .op ⟨(some 22), (.fa 1 (.t 1)), (some (21, true))⟩,
    .op ⟨(some 23), (.load false 1 (.t 22)), (some (21, true))⟩,
    .op ⟨(some 24), (.fa 3 (.t 1)), (some (21, true))⟩,
    .op ⟨(some 25), (.load true 13 (.t 24)), (some (21, true))⟩,
    .call ⟨(some 26), (.call 63 [(.t 23), (.t 25)]), (some (21, true))⟩ 63 ent_rdata_Valid,
    .op ⟨(some 27), (.pick (.t 21) (.t 26) (.c (.bool false))), none⟩,
    .op ⟨(some 2), (.mv (.t 27)), none⟩]) (.ret))
theorem ok_rrset_Valid : AC.ok Tryd.prog (TIof Tryd.prog) 28 0 (kret [(.t 2)] dec_rrset_Valid) a_rrset_Valid := (And.intro True.intro (And.intro (And.intro (EntOkB.ok k_dname_Valid) (And.intro (EntOkB.ok k_rdata_Known) (And.intro (EntOkB.ok k_rdata_Valid) True.intro))) True.intro))
theorem t_rrset_Valid (v0_0 : List UInt8) (v0_1 : Int) (v0_2 : Int) (v0_3 : Bool) (v0_4 : Int) (v0_5 : Int) (v0_6 : List UInt8) (v0_7 : List UInt8) (v0_8 : List UInt8) (v0_9 : Int) (v0_10 : Int) (v0_11 : Int) (v0_12 : Int) (v0_13 : Int) (v0_14 : Int) (v0_15 : Int) : den 0 (kret [(.t 2)] dec_rrset_Valid) a_rrset_Valid (envOf [(0, (.agg [(.str v0_0), (.int .i64 v0_1), (.int .i64 v0_2), (.bool v0_3), (.int .u64 v0_4), (.int .u64 v0_5), (.str v0_6), (.str v0_7), (.str v0_8), (.int .i64 v0_9), (.int .i64 v0_10), (.int .i64 v0_11), (.int .i64 v0_12), (.int .i64 v0_13), (.int .i64 v0_14), (.int .u64 v0_15)]))]) (memOf []) (kend (kret [(.t 2)] dec_rrset_Valid)) = rrset_Valid v0_0 v0_1 v0_2 v0_3 v0_4 v0_5 v0_6 v0_7 v0_8 v0_9 v0_10 v0_11 v0_12 v0_13 v0_14 v0_15 := by
  rw [rrset_Valid_eq]; kernel_rfl
theorem c_rrset_Valid : cFn (TIof Tryd.prog) Tryd.f44 = some ⟨28, [(.t 2)], scOf a_rrset_Valid⟩ := by kernel_rfl
noncomputable def ent_rrset_Valid {R : Type} (xs : List AV) (K : AV → Option R) : Option R := chk (fitS shp_rrset_Valid (entry xs) Mem.none) (oB (rrset_Valid (gS ((entry xs) 0).cells 0) (gI ((entry xs) 0).cells 1) (gI ((entry xs) 0).cells 2) (gB ((entry xs) 0).cells 3) (gI ((entry xs) 0).cells 4) (gI ((entry xs) 0).cells 5) (gS ((entry xs) 0).cells 6) (gS ((entry xs) 0).cells 7) (gS ((entry xs) 0).cells 8) (gI ((entry xs) 0).cells 9) (gI ((entry xs) 0).cells 10) (gI ((entry xs) 0).cells 11) (gI ((entry xs) 0).cells 12) (gI ((entry xs) 0).cells 13) (gI ((entry xs) 0).cells 14) (gI ((entry xs) 0).cells 15)) fun r => K (enc_rrset_Valid r))
theorem k_rrset_Valid {R : Type} : EntOkB Tryd.prog 44 (ent_rrset_Valid (R := R)) :=
  ent_of (F := fun xs => rrset_Valid (gS ((entry xs) 0).cells 0) (gI ((entry xs) 0).cells 1) (gI ((entry xs) 0).cells 2) (gB ((entry xs) 0).cells 3) (gI ((entry xs) 0).cells 4) (gI ((entry xs) 0).cells 5) (gS ((entry xs) 0).cells 6) (gS ((entry xs) 0).cells 7) (gS ((entry xs) 0).cells 8) (gI ((entry xs) 0).cells 9) (gI ((entry xs) 0).cells 10) (gI ((entry xs) 0).cells 11) (gI ((entry xs) 0).cells 12) (gI ((entry xs) 0).cells 13) (gI ((entry xs) 0).cells 14) (gI ((entry xs) 0).cells 15)) (enc := enc_rrset_Valid) tabOk follows Tryd.func44 (by kernel_rfl) c_rrset_Valid (fun z r h => by
    obtain ⟨h1, h2⟩ := cond_some h
    cases h2
    exact (etaRV_eq h1).symm) ok_rrset_Valid (er_of (by kernel_rfl)) shp_rrset_Valid (fun xs => t_rrset_Valid (gS ((entry xs) 0).cells 0) (gI ((entry xs) 0).cells 1) (gI ((entry xs) 0).cells 2) (gB ((entry xs) 0).cells 3) (gI ((entry xs) 0).cells 4) (gI ((entry xs) 0).cells 5) (gS ((entry xs) 0).cells 6) (gS ((entry xs) 0).cells 7) (gS ((entry xs) 0).cells 8) (gI ((entry xs) 0).cells 9) (gI ((entry xs) 0).cells 10) (gI ((entry xs) 0).cells 11) (gI ((entry xs) 0).cells 12) (gI ((entry xs) 0).cells 13) (gI ((entry xs) 0).cells 14) (gI ((entry xs) 0).cells 15)) (fun xs K r h => by
    unfold ent_rrset_Valid at h
    exact ⟨(chk_some h).1, oB_some (chk_some h).2⟩)

def dec_policy_right_1 (z : AV) : Option Bool := cond (fitRV (.one .b) z) (some (aB z)) none
def enc_policy_right_1 (r : Bool) : AV := .bool r
def shp_policy_right_1 : Shp := ⟨[(0, .st [(.l .s), (.l (.i .i64)), (.l (.i .i64)), (.l .b), (.l (.i .u64)), (.l (.i .u64)), (.l .s), (.l .s), (.l .s), (.l (.i .i64)), (.l (.i .i64)), (.l (.i .i64)), (.l (.i .i64)), (.l (.i .i64)), (.l (.i .i64)), (.l (.i .u64))])], []⟩
noncomputable def policy_right_1_i (v0_0 : List UInt8) (v0_1 : Int) (v0_2 : Int) (v0_3 : Bool) (v0_4 : Int) (v0_5 : Int) (v0_6 : List UInt8) (v0_7 : List UInt8) (v0_8 : List UInt8) (v0_9 : Int) (v0_10 : Int) (v0_11 : Int) (v0_12 : Int) (v0_13 : Int) (v0_14 : Int) (v0_15 : Int) : Option Bool :=
  (bif (!(v0_0 == ([46] : List UInt8))) then (some true) else (oB (rrset_Valid v0_0 v0_1 v0_2 v0_3 v0_4 v0_5 v0_6 v0_7 v0_8 v0_9 v0_10 v0_11 v0_12 v0_13 v0_14 v0_15) fun r1 => (some (!r1))))
noncomputable def policy_right_1 := hull policy_right_1_i
theorem policy_right_1_eq : policy_right_1 = policy_right_1_i := hull_eq _
noncomputable def a_policy_right_1 : AC Bool :=
  .seq (.reg [.op ⟨(some 1), (.box (.t 0)), none⟩,
    .op ⟨(some 2), (.mv (.c (.bool false))), none⟩]) (.seq (.reg [.op ⟨(some 3), (.fa 0 (.t 1)), none⟩,
    .op ⟨(some 4), (.load false 1 (.t 3)), none⟩,
    .op ⟨(some 5), (.bin .neq (.t 4) (.c (.str [46]))), none⟩,
    .op ⟨(some 6), (.mv (.t 5)), none⟩,
    .op ⟨(some 7), (.load true 16 (.t 1)), (some (6, false))⟩,
    .call ⟨(some 8), (.call 44 [(.t 7)]), (some (6, false))⟩ 44 ent_rrset_Valid,
    .op ⟨(some 9), (.un .not (.t 8)), (some (6, false))⟩,
    .op ⟨(some 10), (.pick (.t 6) (.c (.bool true)) (.t 9)), none⟩,
    .op ⟨(some 2), (.mv (.t 10)), none⟩]) (.ret))
theorem ok_policy_right_1 : AC.ok Tryd.prog (TIof Tryd.prog) 11 0 (kret [(.t 2)] dec_policy_right_1) a_policy_right_1 := (And.intro True.intro (And.intro (And.intro (EntOkB.ok k_rrset_Valid) True.intro) True.intro))
theorem t_policy_right_1 (v0_0 : List UInt8) (v0_1 : Int) (v0_2 : Int) (v0_3 : Bool) (v0_4 : Int) (v0_5 : Int) (v0_6 : List UInt8) (v0_7 : List UInt8) (v0_8 : List UInt8) (v0_9 : Int) (v0_10 : Int) (v0_11 : Int) (v0_12 : Int) (v0_13 : Int) (v0_14 : Int) (v0_15 : Int) : den 0 (kret [(.t 2)] dec_policy_right_1) a_policy_right_1 (envOf [(0, (.agg [(.str v0_0), (.int .i64 v0_1), (.int .i64 v0_2), (.bool v0_3), (.int .u64 v0_4), (.int .u64 v0_5), (.str v0_6), (.str v0_7), (.str v0_8), (.int .i64 v0_9), (.int .i64 v0_10), (.int .i64 v0_11), (.int .i64 v0_12), (.int .i64 v0_13), (.int .i64 v0_14), (.int .u64 v0_15)]))]) (memOf []) (kend (kret [(.t 2)] dec_policy_right_1)) = policy_right_1 v0_0 v0_1 v0_2 v0_3 v0_4 v0_5 v0_6 v0_7 v0_8 v0_9 v0_10 v0_11 v0_12 v0_13 v0_14 v0_15 := by
  rw [policy_right_1_eq]; kernel_rfl
theorem c_policy_right_1 : cFn (TIof Tryd.prog) Tryd.f43 = some ⟨11, [(.t 2)], scOf a_policy_right_1⟩ := by kernel_rfl
noncomputable def ent_policy_right_1 {R : Type} (xs : List AV) (K : AV → Option R) : Option R := chk (fitS shp_policy_right_1 (entry xs) Mem.none) (oB (policy_right_1 (gS ((entry xs) 0).cells 0) (gI ((entry xs) 0).cells 1) (gI ((entry xs) 0).cells 2) (gB ((entry xs) 0).cells 3) (gI ((entry xs) 0).cells 4) (gI ((entry xs) 0).cells 5) (gS ((entry xs) 0).cells 6) (gS ((entry xs) 0).cells 7) (gS ((entry xs) 0).cells 8) (gI ((entry xs) 0).cells 9) (gI ((entry xs) 0).cells 10) (gI ((entry xs) 0).cells 11) (gI ((entry xs) 0).cells 12) (gI ((entry xs) 0).cells 13) (gI ((entry xs) 0).cells 14) (gI ((entry xs) 0).cells 15)) fun r => K (enc_policy_right_1 r))
theorem k_policy_right_1 {R : Type} : EntOkB Tryd.prog 43 (ent_policy_right_1 (R := R)) :=
  ent_of (F := fun xs => policy_right_1 (gS ((entry xs) 0).cells 0) (gI ((entry xs) 0).cells 1) (gI ((entry xs) 0).cells 2) (gB ((entry xs) 0).cells 3) (gI ((entry xs) 0).cells 4) (gI ((entry xs) 0).cells 5) (gS ((entry xs) 0).cells 6) (gS ((entry xs) 0).cells 7) (gS ((entry xs) 0).cells 8) (gI ((entry xs) 0).cells 9) (gI ((entry xs) 0).cells 10) (gI ((entry xs) 0).cells 11) (gI ((entry xs) 0).cells 12) (gI ((entry xs) 0).cells 13) (gI ((entry xs) 0).cells 14) (gI ((entry xs) 0).cells 15)) (enc := enc_policy_right_1) tabOk follows Tryd.func43 (by kernel_rfl) c_policy_right_1 (fun z r h => by
    obtain ⟨h1, h2⟩ := cond_some h
    cases h2
    exact (etaRV_eq h1).symm) ok_policy_right_1 (er_of (by kernel_rfl)) shp_policy_right_1 (fun xs => t_policy_right_1 (gS ((entry xs) 0).cells 0) (gI ((entry xs) 0).cells 1) (gI ((entry xs) 0).cells 2) (gB ((entry xs) 0).cells 3) (gI ((entry xs) 0).cells 4) (gI ((entry xs) 0).cells 5) (gS ((entry xs) 0).cells 6) (gS ((entry xs) 0).cells 7) (gS ((entry xs) 0).cells 8) (gI ((entry xs) 0).cells 9) (gI ((entry xs) 0).cells 10) (gI ((entry xs) 0).cells 11) (gI ((entry xs) 0).cells 12) (gI ((entry xs) 0).cells 13) (gI ((entry xs) 0).cells 14) (gI ((entry xs) 0).cells 15)) (fun xs K r h => by
    unfold ent_policy_right_1 at h
    exact ⟨(chk_some h).1, oB_some (chk_some h).2⟩)

def dec_slices_IndexFunc_api_Record_api_Record__policy_right_1 (z : AV) : Option Int := cond (fitRV (.one (.i .i64)) z) (some (aI z)) none
def enc_slices_IndexFunc_api_Record_api_Record__policy_right_1 (r : Int) : AV := .int .i64 r
def shp_slices_IndexFunc_api_Record_api_Record__policy_right_1_L6 : Shp := ⟨[(0, .one (.l (.sl 16))), (1, .one (.fn 43 [])), (7, .one (.l (.i .i64))), (8, .one (.l (.i .i64)))], []⟩
noncomputable def slices_IndexFunc_api_Record_api_Record__policy_right_1_L6_b  (v0 : List AV) (v7 : Int) (v8 : Int) (next : Int → Option Int) (kx0 : Unit → Option Int) : Option Int :=
  (bif (decide (v8 < v7)) then (oB (ixB v0 v8) fun y1 => (bif fitC T_api_Record y1.cells then (oB (policy_right_1 (gS y1.cells 0) (gI y1.cells 1) (gI y1.cells 2) (gB y1.cells 3) (gI y1.cells 4) (gI y1.cells 5) (gS y1.cells 6) (gS y1.cells 7) (gS y1.cells 8) (gI y1.cells 9) (gI y1.cells 10) (gI y1.cells 11) (gI y1.cells 12) (gI y1.cells 13) (gI y1.cells 14) (gI y1.cells 15)) fun r2 => (bif r2 then (some v8) else (next (IntKind.i64.wrap (v8 + (1 : Int)))))) else none)) else (kx0 ()))
noncomputable def slices_IndexFunc_api_Record_api_Record__policy_right_1_L6_i  (v0 : List AV) (v7 : Int) (kx0 : Unit → Option Int) : Nat → Int → Option Int
  | 0 => (fun _ => none)
  | n + 1 => (fun v8 => slices_IndexFunc_api_Record_api_Record__policy_right_1_L6_b v0 v7 v8 (slices_IndexFunc_api_Record_api_Record__policy_right_1_L6_i v0 v7 kx0 n) kx0)
noncomputable def slices_IndexFunc_api_Record_api_Record__policy_right_1_L6 := hull (slices_IndexFunc_api_Record_api_Record__policy_right_1_L6_i)
theorem slices_IndexFunc_api_Record_api_Record__policy_right_1_L6_eq : slices_IndexFunc_api_Record_api_Record__policy_right_1_L6 = slices_IndexFunc_api_Record_api_Record__policy_right_1_L6_i := hull_eq _
noncomputable def a_slices_IndexFunc_api_Record_api_Record__policy_right_1_L6 : AC Int :=
  .seq (.reg [.op ⟨(some 9), (.bin .lss (.t 8) (.t 7)), none⟩]) (.seq (.cond (.t 9) (.skip) (.seq (.view [.sel [] []]) (.exit 0))) (.seq (.block 1 (.seq (.reg [.op ⟨(some 10), (.mv (.t 8)), none⟩,
    .op ⟨(some 5), (.mv (.t 10)), none⟩]) (.seq (.reg [.op ⟨(some 11), (.mv (.t 1)), none⟩,
    .op ⟨(some 12), (.mv (.t 0)), none⟩,
    .op ⟨(some 13), (.mv (.t 5)), none⟩,
    .op ⟨(some 14), (.ia 16 (.t 12) (.t 13)), none⟩,
    .st (.etac 14 T_api_Record),
    .op ⟨(some 15), (.load true 16 (.t 14)), none⟩,
    .call ⟨(some 16), (.callv (.t 11) [(.t 15)]), none⟩ 43 ent_policy_right_1]) (.cond (.t 16) (.seq (.reg [.op ⟨(some 17), (.mv (.t 5)), none⟩,
    .op ⟨(some 4), (.mv (.t 17)), none⟩]) (.ret)) (.skip))))) (.seq (.reg [.op ⟨(some 18), (.bin .add (.t 8) (.c (.int .i64 1))), none⟩,
    .op ⟨(some 8), (.mv (.t 18)), none⟩]) (.view [.sel [0, 1, 7, 8] []]))))
theorem ok_slices_IndexFunc_api_Record_api_Record__policy_right_1_L6 : AC.ok Tryd.prog (TIof Tryd.prog) 19 0 (kret [(.t 4)] dec_slices_IndexFunc_api_Record_api_Record__policy_right_1) a_slices_IndexFunc_api_Record_api_Record__policy_right_1_L6 := (And.intro True.intro (And.intro (And.intro True.intro (And.intro True.intro True.intro)) (And.intro (And.intro True.intro (And.intro (And.intro (EntOkB.ok k_policy_right_1) True.intro) (And.intro (And.intro True.intro True.intro) True.intro))) (And.intro True.intro True.intro))))
theorem t_slices_IndexFunc_api_Record_api_Record__policy_right_1_L6_b (v0 : List AV) (v7 : Int) (v8 : Int) (K : Ex → Env → Mem → Option Int) : den 0 (kret [(.t 4)] dec_slices_IndexFunc_api_Record_api_Record__policy_right_1) a_slices_IndexFunc_api_Record_api_Record__policy_right_1_L6 (envOf [(0, (.sl 16 v0)), (1, (.func 43 [])), (7, (.int .i64 v7)), (8, (.int .i64 v8))]) (memOf []) K = slices_IndexFunc_api_Record_api_Record__policy_right_1_L6_b v0 v7 v8 (fun z_v8 => K .norm (envOf [(0, (.sl 16 v0)), (1, (.func 43 [])), (7, (.int .i64 v7)), (8, (.int .i64 z_v8))]) (memOf [])) (fun _ => K (.exit 0) (envOf []) (memOf [])) := by kernel_rfl
theorem t_slices_IndexFunc_api_Record_api_Record__policy_right_1_L6 (v0 : List AV) (v7 : Int) (K : Ex → Env → Mem → Option Int) : ∀ (n : Nat) (v8 : Int), iterD (den 0 (kret [(.t 4)] dec_slices_IndexFunc_api_Record_api_Record__policy_right_1) a_slices_IndexFunc_api_Record_api_Record__policy_right_1_L6) n (envOf [(0, (.sl 16 v0)), (1, (.func 43 [])), (7, (.int .i64 v7)), (8, (.int .i64 v8))]) (memOf []) K = slices_IndexFunc_api_Record_api_Record__policy_right_1_L6 v0 v7 (fun _ => K (.exit 0) (envOf []) (memOf [])) n v8 := by
  rw [slices_IndexFunc_api_Record_api_Record__policy_right_1_L6_eq]
  intro n
  induction n with
  | zero => intros; rfl
  | succ n ih =>
    intro v8
    exact (t_slices_IndexFunc_api_Record_api_Record__policy_right_1_L6_b v0 v7 v8 (itK (den 0 (kret [(.t 4)] dec_slices_IndexFunc_api_Record_api_Record__policy_right_1) a_slices_IndexFunc_api_Record_api_Record__policy_right_1_L6) n K)).trans (congrArg (fun q => slices_IndexFunc_api_Record_api_Record__policy_right_1_L6_b v0 v7 v8 q (fun _ => K (.exit 0) (envOf []) (memOf []))) (funext fun v8 => ih v8))
noncomputable def s_slices_IndexFunc_api_Record_api_Record__policy_right_1_L6 : Env → Mem → (Ex → Env → Mem → Option Int) → Option Int := fun t m K => chk (fitS0 shp_slices_IndexFunc_api_Record_api_Record__policy_right_1_L6 t m) (cond (hdS shp_slices_IndexFunc_api_Record_api_Record__policy_right_1_L6 t m) (slices_IndexFunc_api_Record_api_Record__policy_right_1_L6 (gL [t 0] 0) (gI [t 7] 0) (fun _ => K (.exit 0) (envOf []) (memOf [])) FU (gI [t 8] 0)) none)
theorem o_slices_IndexFunc_api_Record_api_Record__policy_right_1_L6 : SubOk Tryd.prog (TIof Tryd.prog) 19 0 (kret [(.t 4)] dec_slices_IndexFunc_api_Record_api_Record__policy_right_1) (.loop (scOf a_slices_IndexFunc_api_Record_api_Record__policy_right_1_L6)) s_slices_IndexFunc_api_Record_api_Record__policy_right_1_L6 :=
  loop_of tabOk follows ok_slices_IndexFunc_api_Record_api_Record__policy_right_1_L6 (er_of (by kernel_rfl)) shp_slices_IndexFunc_api_Record_api_Record__policy_right_1_L6 (fun t m K => congrArg (fun z => chk (fitS0 shp_slices_IndexFunc_api_Record_api_Record__policy_right_1_L6 t m) (cond (hdS shp_slices_IndexFunc_api_Record_api_Record__policy_right_1_L6 t m) z none)) (t_slices_IndexFunc_api_Record_api_Record__policy_right_1_L6 (gL [t 0] 0) (gI [t 7] 0) K FU (gI [t 8] 0)).symm)
def shp_slices_IndexFunc_api_Record_api_Record__policy_right_1 : Shp := ⟨[(0, .one (.l (.sl 16))), (1, .one (.fn 43 []))], []⟩
noncomputable def slices_IndexFunc_api_Record_api_Record__policy_right_1_i (v0 : List AV) : Option Int :=
  (slices_IndexFunc_api_Record_api_Record__policy_right_1_L6 v0 (v0.length : Int) (fun (_ : Unit) => (some (-1 : Int))) FU (0 : Int))
noncomputable def slices_IndexFunc_api_Record_api_Record__policy_right_1 := hull slices_IndexFunc_api_Record_api_Record__policy_right_1_i
theorem slices_IndexFunc_api_Record_api_Record__policy_right_1_eq : slices_IndexFunc_api_Record_api_Record__policy_right_1 = slices_IndexFunc_api_Record_api_Record__policy_right_1_i := hull_eq _
noncomputable def a_slices_IndexFunc_api_Record_api_Record__policy_right_1 : AC Int :=
  .seq (.reg [.op ⟨(some 4), (.mv (.c (.int .i64 0))), none⟩]) (.seq (.seq (.reg [.op ⟨(some 6), (.mv (.t 0)), none⟩,
    .op ⟨(some 7), (.len false (.t 6)), none⟩,
    .op ⟨(some 8), (.mv (.c (.int .i64 0))), none⟩]) (.block 0 (.seq (.view [.sel [0, 1, 7, 8] []]) (.sub (.loop (scOf a_slices_IndexFunc_api_Record_api_Record__policy_right_1_L6)) s_slices_IndexFunc_api_Record_api_Record__policy_right_1_L6)))) (.seq (.reg [.op ⟨(some 4), (.mv (.c (.int .i64 (-1)))), none⟩]) (.ret)))
theorem ok_slices_IndexFunc_api_Record_api_Record__policy_right_1 : AC.ok Tryd.prog (TIof Tryd.prog) 19 0 (kret [(.t 4)] dec_slices_IndexFunc_api_Record_api_Record__policy_right_1) a_slices_IndexFunc_api_Record_api_Record__policy_right_1 := (And.intro True.intro (And.intro (And.intro True.intro (And.intro True.intro o_slices_IndexFunc_api_Record_api_Record__policy_right_1_L6)) (And.intro True.intro True.intro)))
theorem t_slices_IndexFunc_api_Record_api_Record__policy_right_1 (v0 : List AV) : den 0 (kret [(.t 4)] dec_slices_IndexFunc_api_Record_api_Record__policy_right_1) a_slices_IndexFunc_api_Record_api_Record__policy_right_1 (envOf [(0, (.sl 16 v0)), (1, (.func 43 []))]) (memOf []) (kend (kret [(.t 4)] dec_slices_IndexFunc_api_Record_api_Record__policy_right_1)) = slices_IndexFunc_api_Record_api_Record__policy_right_1 v0 := by
  rw [slices_IndexFunc_api_Record_api_Record__policy_right_1_eq]; kernel_rfl
theorem c_slices_IndexFunc_api_Record_api_Record__policy_right_1 : cFn (TIof Tryd.prog) Tryd.f55 = some ⟨19, [(.t 4)], scOf a_slices_IndexFunc_api_Record_api_Record__policy_right_1⟩ := by kernel_rfl
noncomputable def ent_slices_IndexFunc_api_Record_api_Record__policy_right_1 {R : Type} (xs : List AV) (K : AV → Option R) : Option R := chk (fitS shp_slices_IndexFunc_api_Record_api_Record__policy_right_1 (entry xs) Mem.none) (oB (slices_IndexFunc_api_Record_api_Record__policy_right_1 (gL [(entry xs) 0] 0)) fun r => K (enc_slices_IndexFunc_api_Record_api_Record__policy_right_1 r))
theorem k_slices_IndexFunc_api_Record_api_Record__policy_right_1 {R : Type} : EntOkB Tryd.prog 55 (ent_slices_IndexFunc_api_Record_api_Record__policy_right_1 (R := R)) :=
  ent_of (F := fun xs => slices_IndexFunc_api_Record_api_Record__policy_right_1 (gL [(entry xs) 0] 0)) (enc := enc_slices_IndexFunc_api_Record_api_Record__policy_right_1) tabOk follows Tryd.func55 (by kernel_rfl) c_slices_IndexFunc_api_Record_api_Record__policy_right_1 (fun z r h => by
    obtain ⟨h1, h2⟩ := cond_some h
    cases h2
    exact (etaRV_eq h1).symm) ok_slices_IndexFunc_api_Record_api_Record__policy_right_1 (er_of (by kernel_rfl)) shp_slices_IndexFunc_api_Record_api_Record__policy_right_1 (fun xs => t_slices_IndexFunc_api_Record_api_Record__policy_right_1 (gL [(entry xs) 0] 0)) (fun xs K r h => by
    unfold ent_slices_IndexFunc_api_Record_api_Record__policy_right_1 at h
    exact ⟨(chk_some h).1, oB_some (chk_some h).2⟩)

def dec_slices_ContainsFunc_api_Record_api_Record__policy_right_1 (z : AV) : Option Bool := cond (fitRV (.one .b) z) (some (aB z)) none
def enc_slices_ContainsFunc_api_Record_api_Record__policy_right_1 (r : Bool) : AV := .bool r
def shp_slices_ContainsFunc_api_Record_api_Record__policy_right_1 : Shp := ⟨[(0, .one (.l (.sl 16))), (1, .one (.fn 43 []))], []⟩
noncomputable def slices_ContainsFunc_api_Record_api_Record__policy_right_1_i (v0 : List AV) : Option Bool :=
  (oB (slices_IndexFunc_api_Record_api_Record__policy_right_1 v0) fun r1 => (some (decide (r1 ≥ (0 : Int)))))
noncomputable def slices_ContainsFunc_api_Record_api_Record__policy_right_1 := hull slices_ContainsFunc_api_Record_api_Record__policy_right_1_i
theorem slices_ContainsFunc_api_Record_api_Record__policy_right_1_eq : slices_ContainsFunc_api_Record_api_Record__policy_right_1 = slices_ContainsFunc_api_Record_api_Record__policy_right_1_i := hull_eq _
noncomputable def a_slices_ContainsFunc_api_Record_api_Record__policy_right_1 : AC Bool :=
  .seq (.reg [.op ⟨(some 4), (.mv (.c (.bool false))), none⟩]) (.seq (.reg [.op ⟨(some 5), (.mv (.t 0)), none⟩,
    .op ⟨(some 6), (.mv (.t 1)), none⟩,
    .call ⟨(some 7), (.call 55 [(.t 5), (.t 6)]), none⟩ 55 ent_slices_IndexFunc_api_Record_api_Record__policy_right_1,
    .op ⟨(some 8), (.bin .geq (.t 7) (.c (.int .i64 0))), none⟩,
    .op ⟨(some 4), (.mv (.t 8)), none⟩]) (.ret))
theorem ok_slices_ContainsFunc_api_Record_api_Record__policy_right_1 : AC.ok Tryd.prog (TIof Tryd.prog) 9 0 (kret [(.t 4)] dec_slices_ContainsFunc_api_Record_api_Record__policy_right_1) a_slices_ContainsFunc_api_Record_api_Record__policy_right_1 := (And.intro True.intro (And.intro (And.intro (EntOkB.ok k_slices_IndexFunc_api_Record_api_Record__policy_right_1) True.intro) True.intro))
theorem t_slices_ContainsFunc_api_Record_api_Record__policy_right_1 (v0 : List AV) : den 0 (kret [(.t 4)] dec_slices_ContainsFunc_api_Record_api_Record__policy_right_1) a_slices_ContainsFunc_api_Record_api_Record__policy_right_1 (envOf [(0, (.sl 16 v0)), (1, (.func 43 []))]) (memOf []) (kend (kret [(.t 4)] dec_slices_ContainsFunc_api_Record_api_Record__policy_right_1)) = slices_ContainsFunc_api_Record_api_Record__policy_right_1 v0 := by
  rw [slices_ContainsFunc_api_Record_api_Record__policy_right_1_eq]; kernel_rfl
theorem c_slices_ContainsFunc_api_Record_api_Record__policy_right_1 : cFn (TIof Tryd.prog) Tryd.f36 = some ⟨9, [(.t 4)], scOf a_slices_ContainsFunc_api_Record_api_Record__policy_right_1⟩ := by kernel_rfl
noncomputable def ent_slices_ContainsFunc_api_Record_api_Record__policy_right_1 {R : Type} (xs : List AV) (K : AV → Option R) : Option R := chk (fitS shp_slices_ContainsFunc_api_Record_api_Record__policy_right_1 (entry xs) Mem.none) (oB (slices_ContainsFunc_api_Record_api_Record__policy_right_1 (gL [(entry xs) 0] 0)) fun r => K (enc_slices_ContainsFunc_api_Record_api_Record__policy_right_1 r))
theorem k_slices_ContainsFunc_api_Record_api_Record__policy_right_1 {R : Type} : EntOkB Tryd.prog 36 (ent_slices_ContainsFunc_api_Record_api_Record__policy_right_1 (R := R)) :=
  ent_of (F := fun xs => slices_ContainsFunc_api_Record_api_Record__policy_right_1 (gL [(entry xs) 0] 0)) (enc := enc_slices_ContainsFunc_api_Record_api_Record__policy_right_1) tabOk follows Tryd.func36 (by kernel_rfl) c_slices_ContainsFunc_api_Record_api_Record__policy_right_1 (fun z r h => by
    obtain ⟨h1, h2⟩ := cond_some h
    cases h2
    exact (etaRV_eq h1).symm) ok_slices_ContainsFunc_api_Record_api_Record__policy_right_1 (er_of (by kernel_rfl)) shp_slices_ContainsFunc_api_Record_api_Record__policy_right_1 (fun xs => t_slices_ContainsFunc_api_Record_api_Record__policy_right_1 (gL [(entry xs) 0] 0)) (fun xs K r h => by
    unfold ent_slices_ContainsFunc_api_Record_api_Record__policy_right_1 at h
    exact ⟨(chk_some h).1, oB_some (chk_some h).2⟩)

def dec_policy_right (z : AV) : Option Int := cond (fitRV (.one (.i .i64)) z) (some (aI z)) none
def enc_policy_right (r : Int) : AV := .int .i64 r
def shp_policy_right_J13 : Shp := ⟨[(1, .one (.ptr 0 0)), (3, .one (.l .b))], [.box true [(.l (.i .i64)), (.l .s), (.l .b), (.l (.i .u64)), (.l (.i .u64)), (.l (.i .i64)), (.l (.i .i64)), (.l (.sl 16))]]⟩
noncomputable def policy_right_J13_i  (v3 : Bool) (b0_0 : Int) (b0_1 : List UInt8) (b0_2 : Bool) (b0_3 : Int) (b0_4 : Int) (b0_5 : Int) (b0_6 : Int) (b0_7 : List AV) (kn : Bool → Option Int) : Option Int :=
  (bif ((!v3) && (!(b0_1 == ([] : List UInt8)))) then (kn true) else (bif v3 then (bif (!((b0_2 == false) && ((b0_3 == (0 : Int)) && ((b0_4 == (0 : Int)) && ((b0_5 == (0 : Int)) && true))))) then (kn true) else (bif (b0_6 != (4 : Int)) then (kn (decide ((b0_7.length : Int) > (0 : Int)))) else (kn false))) else (bif (b0_6 != (4 : Int)) then (kn (decide ((b0_7.length : Int) > (0 : Int)))) else (kn false))))
noncomputable def policy_right_J13 := hull (policy_right_J13_i)
theorem policy_right_J13_eq : policy_right_J13 = policy_right_J13_i := hull_eq _
noncomputable def a_policy_right_J13 : AC Int :=
  .seq (.reg [.op ⟨(some 32), (.mv (.t 3)), none⟩,
    .op ⟨(some 33), (.un .not (.t 32)), none⟩,
    .op ⟨(some 34), (.mv (.t 33)), none⟩,
    .grp 34 true [⟨(some 35), (.fa 1 (.t 1)), (some (34, true))⟩, ⟨(some 36), (.load false 1 (.t 35)), (some (34, true))⟩, ⟨(some 37), (.bin .neq (.t 36) (.c (.str []))), (some (34, true))⟩] 38 (.t 37),
    .op ⟨(some 39), (.mv (.t 38)), none⟩,
    .op ⟨(some 40), (.mv (.t 3)), (some (39, false))⟩,
    .op ⟨(some 41), (.mv (.t 40)), (some (39, false))⟩,
    .op ⟨(some 42), (.fa 2 (.t 1)), (some (41, true))⟩,
    .op ⟨(some 43), (.load true 4 (.t 42)), (some (41, true))⟩,
    .op ⟨(some 44), (.build [(.bool false), (.int .u64 0), (.int .u64 0), (.int .i64 0)] []), (some (41, true))⟩,
    .op ⟨(some 45), (.eq true true [.b, (.i .u64), (.i .u64), (.i .i64)] (.t 43) (.t 44)), (some (41, true))⟩,
    .op ⟨(some 46), (.pick (.t 41) (.t 45) (.c (.bool false))), (some (39, false))⟩,
    .op ⟨(some 47), (.pick (.t 39) (.c (.bool true)) (.t 46)), none⟩,
    .op ⟨(some 48), (.mv (.t 47)), none⟩,
    .op ⟨(some 49), (.fa 6 (.t 1)), (some (48, false))⟩,
    .op ⟨(some 50), (.load false 1 (.t 49)), (some (48, false))⟩,
    .op ⟨(some 51), (.bin .neq (.t 50) (.c (.int .i64 4))), (some (48, false))⟩,
    .op ⟨(some 52), (.mv (.t 51)), (some (48, false))⟩,
    .op ⟨(some 53), (.fa 7 (.t 1)), (some (52, true))⟩,
    .op ⟨(some 54), (.load false 1 (.t 53)), (some (52, true))⟩,
    .op ⟨(some 55), (.len false (.t 54)), (some (52, true))⟩,
    .op ⟨(some 56), (.bin .gtr (.t 55) (.c (.int .i64 0))), (some (52, true))⟩,
    .op ⟨(some 57), (.pick (.t 52) (.t 56) (.c (.bool false))), (some (48, false))⟩,
    .op ⟨(some 58), (.pick (.t 48) (.c (.bool true)) (.t 57)), none⟩,
    .op ⟨(some 31), (.mv (.t 58)), none⟩]) (.view [.sel [1, 3, 31] [0]])
theorem ok_policy_right_J13 : AC.ok Tryd.prog (TIof Tryd.prog) 95 0 (kret [(.t 2)] dec_policy_right) a_policy_right_J13 := (And.intro True.intro True.intro)
theorem t_policy_right_J13 (v3 : Bool) (b0_0 : Int) (b0_1 : List UInt8) (b0_2 : Bool) (b0_3 : Int) (b0_4 : Int) (b0_5 : Int) (b0_6 : Int) (b0_7 : List AV) (K : Ex → Env → Mem → Option Int) : den 0 (kret [(.t 2)] dec_policy_right) a_policy_right_J13 (envOf [(1, (.ptr 0 0)), (3, (.bool v3))]) (memOf [(some (.box true [(.int .i64 b0_0), (.str b0_1), (.bool b0_2), (.int .u64 b0_3), (.int .u64 b0_4), (.int .i64 b0_5), (.int .i64 b0_6), (.sl 16 b0_7)]))]) K = policy_right_J13 v3 b0_0 b0_1 b0_2 b0_3 b0_4 b0_5 b0_6 b0_7 (fun z_v31 => K .norm (envOf [(1, (.ptr 0 0)), (3, (.bool v3)), (31, (.bool z_v31))]) (memOf [(some (.box true [(.int .i64 b0_0), (.str b0_1), (.bool b0_2), (.int .u64 b0_3), (.int .u64 b0_4), (.int .i64 b0_5), (.int .i64 b0_6), (.sl 16 b0_7)]))])) := by
  rw [policy_right_J13_eq]; kernel_rfl
noncomputable def s_policy_right_J13 : Env → Mem → (Ex → Env → Mem → Option Int) → Option Int := fun t m K => chk (fitS0 shp_policy_right_J13 t m) (cond (hdS shp_policy_right_J13 t m) (policy_right_J13 (gB [t 3] 0) (gI (bxC (m.s 0)) 0) (gS (bxC (m.s 0)) 1) (gB (bxC (m.s 0)) 2) (gI (bxC (m.s 0)) 3) (gI (bxC (m.s 0)) 4) (gI (bxC (m.s 0)) 5) (gI (bxC (m.s 0)) 6) (gL (bxC (m.s 0)) 7) (fun z_v31 => K .norm (envOf [(1, (.ptr 0 0)), (3, (.bool (gB [t 3] 0))), (31, (.bool z_v31))]) (memOf [(some (.box true [(.int .i64 (gI (bxC (m.s 0)) 0)), (.str (gS (bxC (m.s 0)) 1)), (.bool (gB (bxC (m.s 0)) 2)), (.int .u64 (gI (bxC (m.s 0)) 3)), (.int .u64 (gI (bxC (m.s 0)) 4)), (.int .i64 (gI (bxC (m.s 0)) 5)), (.int .i64 (gI (bxC (m.s 0)) 6)), (.sl 16 (gL (bxC (m.s 0)) 7))]))]))) none)
theorem o_policy_right_J13 : SubOk Tryd.prog (TIof Tryd.prog) 95 0 (kret [(.t 2)] dec_policy_right) (scOf a_policy_right_J13) s_policy_right_J13 :=
  sub_of tabOk follows ok_policy_right_J13 (er_of (by kernel_rfl)) shp_policy_right_J13 (fun t m K => congrArg (fun z => chk (fitS0 shp_policy_right_J13 t m) (cond (hdS shp_policy_right_J13 t m) z none)) (t_policy_right_J13 (gB [t 3] 0) (gI (bxC (m.s 0)) 0) (gS (bxC (m.s 0)) 1) (gB (bxC (m.s 0)) 2) (gI (bxC (m.s 0)) 3) (gI (bxC (m.s 0)) 4) (gI (bxC (m.s 0)) 5) (gI (bxC (m.s 0)) 6) (gL (bxC (m.s 0)) 7) K).symm)
def shp_policy_right_J19 : Shp := ⟨[(1, .one (.ptr 0 0)), (3, .one (.l .b))], [.box true [(.l (.i .i64)), (.l .s), (.l .b), (.l (.i .u64)), (.l (.i .u64)), (.l (.i .i64)), (.l (.i .i64)), (.l (.sl 16))]]⟩
noncomputable def policy_right_J19_i  (v3 : Bool) (b0_0 : Int) (b0_1 : List UInt8) (b0_2 : Bool) (b0_3 : Int) (b0_4 : Int) (b0_5 : Int) (b0_6 : Int) (b0_7 : List AV) (kn : Bool → Option Int) : Option Int :=
  (bif v3 then (oB (dname_Valid b0_1) fun r1 => (kn (!r1))) else (kn false))
noncomputable def policy_right_J19 := hull (policy_right_J19_i)
theorem policy_right_J19_eq : policy_right_J19 = policy_right_J19_i := hull_eq _
noncomputable def a_policy_right_J19 : AC Int :=
  .seq (.reg [.op ⟨(some 60), (.mv (.t 3)), none⟩,
    .op ⟨(some 61), (.mv (.t 60)), none⟩,
    .op ⟨(some 62), (.fa 1 (.t 1)), (some (61, true))⟩,
    .op ⟨(some 63), (.load false 1 (.t 62)), (some (61, true))⟩,
    .call ⟨(some 64), (.call 31 [(.t 63)]), (some (61, true))⟩ 31 ent_dname_Valid,
    .op ⟨(some 65), (.un .not (.t 64)), (some (61, true))⟩,
    .op ⟨(some 66), (.pick (.t 61) (.t 65) (.c (.bool false))), none⟩,
    .op ⟨(some 59), (.mv (.t 66)), none⟩]) (.view [.sel [1, 3, 59] [0]])
theorem ok_policy_right_J19 : AC.ok Tryd.prog (TIof Tryd.prog) 95 0 (kret [(.t 2)] dec_policy_right) a_policy_right_J19 := (And.intro (And.intro (EntOkB.ok k_dname_Valid) True.intro) True.intro)
theorem t_policy_right_J19 (v3 : Bool) (b0_0 : Int) (b0_1 : List UInt8) (b0_2 : Bool) (b0_3 : Int) (b0_4 : Int) (b0_5 : Int) (b0_6 : Int) (b0_7 : List AV) (K : Ex → Env → Mem → Option Int) : den 0 (kret [(.t 2)] dec_policy_right) a_policy_right_J19 (envOf [(1, (.ptr 0 0)), (3, (.bool v3))]) (memOf [(some (.box true [(.int .i64 b0_0), (.str b0_1), (.bool b0_2), (.int .u64 b0_3), (.int .u64 b0_4), (.int .i64 b0_5), (.int .i64 b0_6), (.sl 16 b0_7)]))]) K = policy_right_J19 v3 b0_0 b0_1 b0_2 b0_3 b0_4 b0_5 b0_6 b0_7 (fun z_v59 => K .norm (envOf [(1, (.ptr 0 0)), (3, (.bool v3)), (59, (.bool z_v59))]) (memOf [(some (.box true [(.int .i64 b0_0), (.str b0_1), (.bool b0_2), (.int .u64 b0_3), (.int .u64 b0_4), (.int .i64 b0_5), (.int .i64 b0_6), (.sl 16 b0_7)]))])) := by
  rw [policy_right_J19_eq]; kernel_rfl
noncomputable def s_policy_right_J19 : Env → Mem → (Ex → Env → Mem → Option Int) → Option Int := fun t m K => chk (fitS0 shp_policy_right_J19 t m) (cond (hdS shp_policy_right_J19 t m) (policy_right_J19 (gB [t 3] 0) (gI (bxC (m.s 0)) 0) (gS (bxC (m.s 0)) 1) (gB (bxC (m.s 0)) 2) (gI (bxC (m.s 0)) 3) (gI (bxC (m.s 0)) 4) (gI (bxC (m.s 0)) 5) (gI (bxC (m.s 0)) 6) (gL (bxC (m.s 0)) 7) (fun z_v59 => K .norm (envOf [(1, (.ptr 0 0)), (3, (.bool (gB [t 3] 0))), (59, (.bool z_v59))]) (memOf [(some (.box true [(.int .i64 (gI (bxC (m.s 0)) 0)), (.str (gS (bxC (m.s 0)) 1)), (.bool (gB (bxC (m.s 0)) 2)), (.int .u64 (gI (bxC (m.s 0)) 3)), (.int .u64 (gI (bxC (m.s 0)) 4)), (.int .i64 (gI (bxC (m.s 0)) 5)), (.int .i64 (gI (bxC (m.s 0)) 6)), (.sl 16 (gL (bxC (m.s 0)) 7))]))]))) none)
theorem o_policy_right_J19 : SubOk Tryd.prog (TIof Tryd.prog) 95 0 (kret [(.t 2)] dec_policy_right) (scOf a_policy_right_J19) s_policy_right_J19 :=
  sub_of tabOk follows ok_policy_right_J19 (er_of (by kernel_rfl)) shp_policy_right_J19 (fun t m K => congrArg (fun z => chk (fitS0 shp_policy_right_J19 t m) (cond (hdS shp_policy_right_J19 t m) z none)) (t_policy_right_J19 (gB [t 3] 0) (gI (bxC (m.s 0)) 0) (gS (bxC (m.s 0)) 1) (gB (bxC (m.s 0)) 2) (gI (bxC (m.s 0)) 3) (gI (bxC (m.s 0)) 4) (gI (bxC (m.s 0)) 5) (gI (bxC (m.s 0)) 6) (gL (bxC (m.s 0)) 7) K).symm)
def shp_policy_right_J25 : Shp := ⟨[(1, .one (.ptr 0 0)), (3, .one (.l .b))], [.box true [(.l (.i .i64)), (.l .s), (.l .b), (.l (.i .u64)), (.l (.i .u64)), (.l (.i .i64)), (.l (.i .i64)), (.l (.sl 16))]]⟩
noncomputable def policy_right_J25_i  (v3 : Bool) (b0_0 : Int) (b0_1 : List UInt8) (b0_2 : Bool) (b0_3 : Int) (b0_4 : Int) (b0_5 : Int) (b0_6 : Int) (b0_7 : List AV) (kn : Bool → Option Int) : Option Int :=
  (bif (!v3) then (oB (prefix_Valid b0_2 b0_3 b0_4 b0_5) fun r1 => (kn (!r1))) else (kn false))
noncomputable def policy_right_J25 := hull (policy_right_J25_i)
theorem policy_right_J25_eq : policy_right_J25 = policy_right_J25_i := hull_eq _
noncomputable def a_policy_right_J25 : AC Int :=
  .seq (.reg [.op ⟨(some 68), (.mv (.t 3)), none⟩,
    .op ⟨(some 69), (.un .not (.t 68)), none⟩,
    .op ⟨(some 70), (.mv (.t 69)), none⟩,
    .op ⟨(some 71), (.fa 2 (.t 1)), (some (70, true))⟩,
    .op ⟨(some 72), (.load true 4 (.t 71)), (some (70, true))⟩,
    .call ⟨(some 73), (.call 42 [(.t 72)]), (some (70, true))⟩ 42 ent_prefix_Valid,
    .op ⟨(some 74), (.un .not (.t 73)), (some (70, true))⟩,
    .op ⟨(some 75), (.pick (.t 70) (.t 74) (.c (.bool false))), none⟩,
    .op ⟨(some 67), (.mv (.t 75)), none⟩]) (.view [.sel [1, 67] [0]])
theorem ok_policy_right_J25 : AC.ok Tryd.prog (TIof Tryd.prog) 95 0 (kret [(.t 2)] dec_policy_right) a_policy_right_J25 := (And.intro (And.intro (EntOkB.ok k_prefix_Valid) True.intro) True.intro)
theorem t_policy_right_J25 (v3 : Bool) (b0_0 : Int) (b0_1 : List UInt8) (b0_2 : Bool) (b0_3 : Int) (b0_4 : Int) (b0_5 : Int) (b0_6 : Int) (b0_7 : List AV) (K : Ex → Env → Mem → Option Int) : den 0 (kret [(.t 2)] dec_policy_right) a_policy_right_J25 (envOf [(1, (.ptr 0 0)), (3, (.bool v3))]) (memOf [(some (.box true [(.int .i64 b0_0), (.str b0_1), (.bool b0_2), (.int .u64 b0_3), (.int .u64 b0_4), (.int .i64 b0_5), (.int .i64 b0_6), (.sl 16 b0_7)]))]) K = policy_right_J25 v3 b0_0 b0_1 b0_2 b0_3 b0_4 b0_5 b0_6 b0_7 (fun z_v67 => K .norm (envOf [(1, (.ptr 0 0)), (67, (.bool z_v67))]) (memOf [(some (.box true [(.int .i64 b0_0), (.str b0_1), (.bool b0_2), (.int .u64 b0_3), (.int .u64 b0_4), (.int .i64 b0_5), (.int .i64 b0_6), (.sl 16 b0_7)]))])) := by
  rw [policy_right_J25_eq]; kernel_rfl
noncomputable def s_policy_right_J25 : Env → Mem → (Ex → Env → Mem → Option Int) → Option Int := fun t m K => chk (fitS0 shp_policy_right_J25 t m) (cond (hdS shp_policy_right_J25 t m) (policy_right_J25 (gB [t 3] 0) (gI (bxC (m.s 0)) 0) (gS (bxC (m.s 0)) 1) (gB (bxC (m.s 0)) 2) (gI (bxC (m.s 0)) 3) (gI (bxC (m.s 0)) 4) (gI (bxC (m.s 0)) 5) (gI (bxC (m.s 0)) 6) (gL (bxC (m.s 0)) 7) (fun z_v67 => K .norm (envOf [(1, (.ptr 0 0)), (67, (.bool z_v67))]) (memOf [(some (.box true [(.int .i64 (gI (bxC (m.s 0)) 0)), (.str (gS (bxC (m.s 0)) 1)), (.bool (gB (bxC (m.s 0)) 2)), (.int .u64 (gI (bxC (m.s 0)) 3)), (.int .u64 (gI (bxC (m.s 0)) 4)), (.int .i64 (gI (bxC (m.s 0)) 5)), (.int .i64 (gI (bxC (m.s 0)) 6)), (.sl 16 (gL (bxC (m.s 0)) 7))]))]))) none)
theorem o_policy_right_J25 : SubOk Tryd.prog (TIof Tryd.prog) 95 0 (kret [(.t 2)] dec_policy_right) (scOf a_policy_right_J25) s_policy_right_J25 :=
  sub_of tabOk follows ok_policy_right_J25 (er_of (by kernel_rfl)) shp_policy_right_J25 (fun t m K => congrArg (fun z => chk (fitS0 shp_policy_right_J25 t m) (cond (hdS shp_policy_right_J25 t m) z none)) (t_policy_right_J25 (gB [t 3] 0) (gI (bxC (m.s 0)) 0) (gS (bxC (m.s 0)) 1) (gB (bxC (m.s 0)) 2) (gI (bxC (m.s 0)) 3) (gI (bxC (m.s 0)) 4) (gI (bxC (m.s 0)) 5) (gI (bxC (m.s 0)) 6) (gL (bxC (m.s 0)) 7) K).symm)
def shp_policy_right : Shp := ⟨[(0, .st [(.l (.i .i64)), (.l .s), (.l .b), (.l (.i .u64)), (.l (.i .u64)), (.l (.i .i64)), (.l (.i .i64)), (.l (.sl 16))])], []⟩
noncomputable def policy_right_i (v0_0 : Int) (v0_1 : List UInt8) (v0_2 : Bool) (v0_3 : Int) (v0_4 : Int) (v0_5 : Int) (v0_6 : Int) (v0_7 : List AV) : Option Int :=
  (bif ((((decide (v0_0 < (1 : Int))) || (decide (v0_0 > (3 : Int)))) || (decide (v0_6 < (1 : Int)))) || (decide (v0_6 > (5 : Int)))) then (some (1 : Int)) else (policy_right_J13 ((v0_0 == (1 : Int)) || (v0_0 == (2 : Int))) v0_0 v0_1 v0_2 v0_3 v0_4 v0_5 v0_6 v0_7 (fun v31q1 => (bif v31q1 then (some (1 : Int)) else (policy_right_J19 ((v0_0 == (1 : Int)) || (v0_0 == (2 : Int))) v0_0 v0_1 v0_2 v0_3 v0_4 v0_5 v0_6 v0_7 (fun v59q2 => (bif v59q2 then (some (2 : Int)) else (policy_right_J25 ((v0_0 == (1 : Int)) || (v0_0 == (2 : Int))) v0_0 v0_1 v0_2 v0_3 v0_4 v0_5 v0_6 v0_7 (fun v67q3 => (bif v67q3 then (some (3 : Int)) else (bif (v0_6 != (4 : Int)) then (some (0 : Int)) else (bif ((decide ((v0_7.length : Int) < (1 : Int))) || (decide ((v0_7.length : Int) > (64 : Int)))) then (some (5 : Int)) else (oB (slices_ContainsFunc_api_Record_api_Record__policy_right_1 v0_7) fun r4 => (bif r4 then (some (5 : Int)) else (some (0 : Int))))))))))))))))
noncomputable def policy_right := hull policy_right_i
theorem policy_right_eq : policy_right = policy_right_i := hull_eq _
noncomputable def a_policy_right : AC Int :=
  .seq (.reg [.op ⟨(some 1), (.box (.t 0)), none⟩,
    .op ⟨(some 2), (.mv (.c (.int .i64 0))), none⟩]) (.seq (.reg [.op ⟨(some 4), (.fa 0 (.t 1)), none⟩,
    .op ⟨(some 5), (.load false 1 (.t 4)), none⟩,
    .op ⟨(some 6), (.bin .eql (.t 5) (.c (.int .i64 1))), none⟩,
    .op ⟨(some 7), (.mv (.t 6)), none⟩,
    .grp 7 false [⟨(some 8), (.fa 0 (.t 1)), (some (7, false))⟩, ⟨(some 9), (.load false 1 (.t 8)), (some (7, false))⟩, ⟨(some 10), (.bin .eql (.t 9) (.c (.int .i64 2))), (some (7, false))⟩] 11 (.t 10),
    .op ⟨(some 3), (.mv (.t 11)), none⟩]) (.seq (.block 0 (.seq (.reg [.op ⟨(some 13), (.fa 0 (.t 1)), none⟩,
    .op ⟨(some 14), (.load false 1 (.t 13)), none⟩,
    .op ⟨(some 15), (.bin .lss (.t 14) (.c (.int .i64 1))), none⟩,
    .op ⟨(some 16), (.mv (.t 15)), none⟩,
    .grp 16 false [⟨(some 17), (.fa 0 (.t 1)), (some (16, false))⟩, ⟨(some 18), (.load false 1 (.t 17)), (some (16, false))⟩, ⟨(some 19), (.bin .gtr (.t 18) (.c (.int .i64 3))), (some (16, false))⟩] 20 (.t 19),
    .op ⟨(some 21), (.mv (.t 20)), none⟩,
    .grp 21 false [⟨(some 22), (.fa 6 (.t 1)), (some (21, false))⟩, ⟨(some 23), (.load false 1 (.t 22)), (some (21, false))⟩, ⟨(some 24), (.bin .lss (.t 23) (.c (.int .i64 1))), (some (21, false))⟩] 25 (.t 24),
    .op ⟨(some 26), (.mv (.t 25)), none⟩,
    .grp 26 false [⟨(some 27), (.fa 6 (.t 1)), (some (26, false))⟩, ⟨(some 28), (.load false 1 (.t 27)), (some (26, false))⟩, ⟨(some 29), (.bin .gtr (.t 28) (.c (.int .i64 5))), (some (26, false))⟩] 30 (.t 29),
    .op ⟨(some 12), (.mv (.t 30)), none⟩]) (.cond (.t 12) (.seq (.reg [.op ⟨(some 2), (.mv (.c (.int .i64 1))), none⟩]) (.ret)) (.seq (.seq (.view [.sel [1, 3] [0]]) (.sub (scOf a_policy_right_J13) s_policy_right_J13)) (.cond (.t 31) (.seq (.reg [.op ⟨(some 2), (.mv (.c (.int .i64 1))), none⟩]) (.ret)) (.seq (.seq (.view [.sel [1, 3] [0]]) (.sub (scOf a_policy_right_J19) s_policy_right_J19)) (.cond (.t 59) (.seq (.reg [.op ⟨(some 2), (.mv (.c (.int .i64 2))), none⟩]) (.ret)) (.seq (.seq (.view [.sel [1, 3] [0]]) (.sub (scOf a_policy_right_J25) s_policy_right_J25)) (.cond (.t 67) (.seq (.reg [.op ⟨(some 2), (.mv (.c (.int .i64 3))), none⟩]) (.ret)) (.seq (.reg [.op ⟨(some 77), (.fa 6 (.t 1)), none⟩,
    .op ⟨(some 78), (.load false 1 (.t 77)), none⟩,
    .op ⟨(some 79), (.bin .neq (.t 78) (.c (.int .i64 4))), none⟩,
    .op ⟨(some 76), (.mv (.t 79)), none⟩]) (.cond (.t 76) (.seq (.reg [.op ⟨(some 2), (.mv (.c (.int .i64 0))), none⟩]) (.ret)) (.seq (.reg [.op ⟨(some 81), (.fa 7 (.t 1)), none⟩,
    .op ⟨(some 82), (.load false 1 (.t 81)), none⟩,
    .op ⟨(some 83), (.len false (.t 82)), none⟩,
    .op ⟨(some 84), (.bin .lss (.t 83) (.c (.int .i64 1))), none⟩,
    .op ⟨(some 85), (.mv (.t 84)), none⟩,
    .grp 85 false [⟨(some 86), (.fa 7 (.t 1)), (some (85, false))⟩, ⟨(some 87), (.load false 1 (.t 86)), (some (85, false))⟩, ⟨(some 88), (.len false (.t 87)), (some (85, false))⟩, ⟨(some 89), (.bin .gtr (.t 88) (.c (.int .i64 64))), (some (85, false))⟩] 90 (.t 89),
    .op ⟨(some 80), (.mv (.t 90)), none⟩]) (.cond (.t 80) (.seq (.reg [.op ⟨(some 2), (.mv (.c (.int .i64 5))), none⟩]) (.ret)) (.seq (.reg [.op ⟨(some 92), (.fa 7 (.t 1)), none⟩,
    .op ⟨(some 93), (.load false 1 (.t 92)), none⟩,
    .call ⟨(some 94), (.call 36 [(.t 93), (.c (.func 43 []))]), none⟩ 36 ent_slices_ContainsFunc_api_Record_api_Record__policy_right_1,
    .op ⟨(some 91), (.mv (.t 94)), none⟩]) (.cond (.t 91) (.seq (.reg [.op ⟨(some 2), (.mv (.c (.int .i64 5))), none⟩]) (.ret)) (.skip)))))))))))))))) (.seq (.reg [.op ⟨(some 2), (.mv (.c (.int .i64 0))), none⟩]) (.ret))))
theorem ok_policy_right : AC.ok Tryd.prog (TIof Tryd.prog) 95 0 (kret [(.t 2)] dec_policy_right) a_policy_right := (And.intro True.intro (And.intro True.intro (And.intro (And.intro True.intro (And.intro (And.intro True.intro True.intro) (And.intro (And.intro True.intro o_policy_right_J13) (And.intro (And.intro True.intro True.intro) (And.intro (And.intro True.intro o_policy_right_J19) (And.intro (And.intro True.intro True.intro) (And.intro (And.intro True.intro o_policy_right_J25) (And.intro (And.intro True.intro True.intro) (And.intro True.intro (And.intro (And.intro True.intro True.intro) (And.intro True.intro (And.intro (And.intro True.intro True.intro) (And.intro (And.intro (EntOkB.ok k_slices_ContainsFunc_api_Record_api_Record__policy_right_1) True.intro) (And.intro (And.intro True.intro True.intro) True.intro)))))))))))))) (And.intro True.intro True.intro))))
theorem t_policy_right (v0_0 : Int) (v0_1 : List UInt8) (v0_2 : Bool) (v0_3 : Int) (v0_4 : Int) (v0_5 : Int) (v0_6 : Int) (v0_7 : List AV) : den 0 (kret [(.t 2)] dec_policy_right) a_policy_right (envOf [(0, (.agg [(.int .i64 v0_0), (.str v0_1), (.bool v0_2), (.int .u64 v0_3), (.int .u64 v0_4), (.int .i64 v0_5), (.int .i64 v0_6), (.sl 16 v0_7)]))]) (memOf []) (kend (kret [(.t 2)] dec_policy_right)) = policy_right v0_0 v0_1 v0_2 v0_3 v0_4 v0_5 v0_6 v0_7 := by
  rw [policy_right_eq]; kernel_rfl
theorem c_policy_right : cFn (TIof Tryd.prog) Tryd.f26 = some ⟨95, [(.t 2)], scOf a_policy_right⟩ := by kernel_rfl
noncomputable def ent_policy_right {R : Type} (xs : List AV) (K : AV → Option R) : Option R := chk (fitS shp_policy_right (entry xs) Mem.none) (oB (policy_right (gI ((entry xs) 0).cells 0) (gS ((entry xs) 0).cells 1) (gB ((entry xs) 0).cells 2) (gI ((entry xs) 0).cells 3) (gI ((entry xs) 0).cells 4) (gI ((entry xs) 0).cells 5) (gI ((entry xs) 0).cells 6) (gL ((entry xs) 0).cells 7)) fun r => K (enc_policy_right r))
theorem k_policy_right {R : Type} : EntOkB Tryd.prog 26 (ent_policy_right (R := R)) :=
  ent_of (F := fun xs => policy_right (gI ((entry xs) 0).cells 0) (gS ((entry xs) 0).cells 1) (gB ((entry xs) 0).cells 2) (gI ((entry xs) 0).cells 3) (gI ((entry xs) 0).cells 4) (gI ((entry xs) 0).cells 5) (gI ((entry xs) 0).cells 6) (gL ((entry xs) 0).cells 7)) (enc := enc_policy_right) tabOk follows Tryd.func26 (by kernel_rfl) c_policy_right (fun z r h => by
    obtain ⟨h1, h2⟩ := cond_some h
    cases h2
    exact (etaRV_eq h1).symm) ok_policy_right (er_of (by kernel_rfl)) shp_policy_right (fun xs => t_policy_right (gI ((entry xs) 0).cells 0) (gS ((entry xs) 0).cells 1) (gB ((entry xs) 0).cells 2) (gI ((entry xs) 0).cells 3) (gI ((entry xs) 0).cells 4) (gI ((entry xs) 0).cells 5) (gI ((entry xs) 0).cells 6) (gL ((entry xs) 0).cells 7)) (fun xs K r h => by
    unfold ent_policy_right at h
    exact ⟨(chk_some h).1, oB_some (chk_some h).2⟩)

def dec_policy_Check (z : AV) : Option Int := cond (fitRV (.one (.i .i64)) z) (some (aI z)) none
def enc_policy_Check (r : Int) : AV := .int .i64 r
def shp_policy_Check_L14 : Shp := ⟨[(9, .one (.l (.sl 8))), (10, .one (.l (.i .i64))), (11, .one (.l (.i .i64)))], []⟩
noncomputable def policy_Check_L14_b  (v9 : List AV) (v10 : Int) (v11 : Int) (next : Int → Option Int) (kx0 : Unit → Option Int) : Option Int :=
  (bif (decide (v11 < v10)) then (oB (ixB v9 v11) fun y1 => (bif fitC T_api_Rule y1.cells then (oB (policy_right (gI y1.cells 0) (gS y1.cells 1) (gB y1.cells 2) (gI y1.cells 3) (gI y1.cells 4) (gI y1.cells 5) (gI y1.cells 6) (gL y1.cells 7)) fun r2 => (bif (r2 != (0 : Int)) then (some r2) else (next (IntKind.i64.wrap (v11 + (1 : Int)))))) else none)) else (kx0 ()))
noncomputable def policy_Check_L14_i  (v9 : List AV) (v10 : Int) (kx0 : Unit → Option Int) : Nat → Int → Option Int
  | 0 => (fun _ => none)
  | n + 1 => (fun v11 => policy_Check_L14_b v9 v10 v11 (policy_Check_L14_i v9 v10 kx0 n) kx0)
noncomputable def policy_Check_L14 := hull (policy_Check_L14_i)
theorem policy_Check_L14_eq : policy_Check_L14 = policy_Check_L14_i := hull_eq _
noncomputable def a_policy_Check_L14 : AC Int :=
  .seq (.reg [.op ⟨(some 12), (.bin .lss (.t 11) (.t 10)), none⟩]) (.seq (.cond (.t 12) (.skip) (.seq (.view [.sel [] []]) (.exit 0))) (.seq (.block 1 (.seq (.reg [.op ⟨(some 13), (.ia 8 (.t 9) (.t 11)), none⟩,
    .st (.etac 13 T_api_Rule),
    .op ⟨(some 14), (.load true 8 (.t 13)), none⟩,
    .op ⟨(some 4), (.alloc [(.int .i64 0), (.str []), (.bool false), (.int .u64 0), (.int .u64 0), (.int .i64 0), (.int .i64 0), .nils]), none⟩,
    .op ⟨none, (.store 8 (.t 4) (.t 14)), none⟩]) (.seq (.reg [.op ⟨(some 15), (.load true 8 (.t 4)), none⟩,
    .call ⟨(some 16), (.call 26 [(.t 15)]), none⟩ 26 ent_policy_right,
    .op ⟨(some 5), (.mv (.t 16)), none⟩]) (.seq (.reg [.op ⟨(some 17), (.mv (.t 5)), none⟩,
    .op ⟨(some 18), (.bin .neq (.t 17) (.c (.int .i64 0))), none⟩]) (.cond (.t 18) (.seq (.reg [.op ⟨(some 19), (.mv (.t 5)), none⟩,
    .op ⟨(some 2), (.mv (.t 19)), none⟩]) (.ret)) (.skip)))))) (.seq (.reg [.op ⟨(some 20), (.bin .add (.t 11) (.c (.int .i64 1))), none⟩,
    .op ⟨(some 11), (.mv (.t 20)), none⟩]) (.view [.sel [9, 10, 11] []]))))
theorem ok_policy_Check_L14 : AC.ok Tryd.prog (TIof Tryd.prog) 21 0 (kret [(.t 2)] dec_policy_Check) a_policy_Check_L14 := (And.intro True.intro (And.intro (And.intro True.intro (And.intro True.intro True.intro)) (And.intro (And.intro True.intro (And.intro (And.intro (EntOkB.ok k_policy_right) True.intro) (And.intro True.intro (And.intro (And.intro True.intro True.intro) True.intro)))) (And.intro True.intro True.intro))))
theorem t_policy_Check_L14_b (v9 : List AV) (v10 : Int) (v11 : Int) (K : Ex → Env → Mem → Option Int) : den 0 (kret [(.t 2)] dec_policy_Check) a_policy_Check_L14 (envOf [(9, (.sl 8 v9)), (10, (.int .i64 v10)), (11, (.int .i64 v11))]) (memOf []) K = policy_Check_L14_b v9 v10 v11 (fun z_v11 => K .norm (envOf [(9, (.sl 8 v9)), (10, (.int .i64 v10)), (11, (.int .i64 z_v11))]) (memOf [])) (fun _ => K (.exit 0) (envOf []) (memOf [])) := by kernel_rfl
theorem t_policy_Check_L14 (v9 : List AV) (v10 : Int) (K : Ex → Env → Mem → Option Int) : ∀ (n : Nat) (v11 : Int), iterD (den 0 (kret [(.t 2)] dec_policy_Check) a_policy_Check_L14) n (envOf [(9, (.sl 8 v9)), (10, (.int .i64 v10)), (11, (.int .i64 v11))]) (memOf []) K = policy_Check_L14 v9 v10 (fun _ => K (.exit 0) (envOf []) (memOf [])) n v11 := by
  rw [policy_Check_L14_eq]
  intro n
  induction n with
  | zero => intros; rfl
  | succ n ih =>
    intro v11
    exact (t_policy_Check_L14_b v9 v10 v11 (itK (den 0 (kret [(.t 2)] dec_policy_Check) a_policy_Check_L14) n K)).trans (congrArg (fun q => policy_Check_L14_b v9 v10 v11 q (fun _ => K (.exit 0) (envOf []) (memOf []))) (funext fun v11 => ih v11))
noncomputable def s_policy_Check_L14 : Env → Mem → (Ex → Env → Mem → Option Int) → Option Int := fun t m K => chk (fitS0 shp_policy_Check_L14 t m) (cond (hdS shp_policy_Check_L14 t m) (policy_Check_L14 (gL [t 9] 0) (gI [t 10] 0) (fun _ => K (.exit 0) (envOf []) (memOf [])) FU (gI [t 11] 0)) none)
theorem o_policy_Check_L14 : SubOk Tryd.prog (TIof Tryd.prog) 21 0 (kret [(.t 2)] dec_policy_Check) (.loop (scOf a_policy_Check_L14)) s_policy_Check_L14 :=
  loop_of tabOk follows ok_policy_Check_L14 (er_of (by kernel_rfl)) shp_policy_Check_L14 (fun t m K => congrArg (fun z => chk (fitS0 shp_policy_Check_L14 t m) (cond (hdS shp_policy_Check_L14 t m) z none)) (t_policy_Check_L14 (gL [t 9] 0) (gI [t 10] 0) K FU (gI [t 11] 0)).symm)
def shp_policy_Check : Shp := ⟨[(0, .one (.l (.sl 8)))], []⟩
noncomputable def policy_Check_i (v0 : List AV) : Option Int :=
  (bif (decide ((v0.length : Int) > (64 : Int))) then (some (9 : Int)) else (policy_Check_L14 v0 (v0.length : Int) (fun (_ : Unit) => (some (0 : Int))) FU (0 : Int)))
noncomputable def policy_Check := hull policy_Check_i
theorem policy_Check_eq : policy_Check = policy_Check_i := hull_eq _
noncomputable def a_policy_Check : AC Int :=
  .seq (.reg [.op ⟨(some 2), (.mv (.c (.int .i64 0))), none⟩]) (.seq (.seq (.reg [.op ⟨(some 6), (.mv (.t 0)), none⟩,
    .op ⟨(some 7), (.len false (.t 6)), none⟩,
    .op ⟨(some 8), (.bin .gtr (.t 7) (.c (.int .i64 64))), none⟩]) (.cond (.t 8) (.seq (.reg [.op ⟨(some 2), (.mv (.c (.int .i64 9))), none⟩]) (.ret)) (.skip))) (.seq (.seq (.reg [.op ⟨(some 9), (.mv (.t 0)), none⟩,
    .op ⟨(some 10), (.len false (.t 9)), none⟩,
    .op ⟨(some 11), (.mv (.c (.int .i64 0))), none⟩]) (.block 0 (.seq (.view [.sel [9, 10, 11] []]) (.sub (.loop (scOf a_policy_Check_L14)) s_policy_Check_L14)))) (.seq (.reg [.op ⟨(some 2), (.mv (.c (.int .i64 0))), none⟩]) (.ret))))
theorem ok_policy_Check : AC.ok Tryd.prog (TIof Tryd.prog) 21 0 (kret [(.t 2)] dec_policy_Check) a_policy_Check := (And.intro True.intro (And.intro (And.intro True.intro (And.intro (And.intro True.intro True.intro) True.intro)) (And.intro (And.intro True.intro (And.intro True.intro o_policy_Check_L14)) (And.intro True.intro True.intro))))
theorem t_policy_Check (v0 : List AV) : den 0 (kret [(.t 2)] dec_policy_Check) a_policy_Check (envOf [(0, (.sl 8 v0))]) (memOf []) (kend (kret [(.t 2)] dec_policy_Check)) = policy_Check v0 := by
  rw [policy_Check_eq]; kernel_rfl
theorem c_policy_Check : cFn (TIof Tryd.prog) Tryd.f13 = some ⟨21, [(.t 2)], scOf a_policy_Check⟩ := by kernel_rfl
noncomputable def ent_policy_Check {R : Type} (xs : List AV) (K : AV → Option R) : Option R := chk (fitS shp_policy_Check (entry xs) Mem.none) (oB (policy_Check (gL [(entry xs) 0] 0)) fun r => K (enc_policy_Check r))
theorem k_policy_Check {R : Type} : EntOkB Tryd.prog 13 (ent_policy_Check (R := R)) :=
  ent_of (F := fun xs => policy_Check (gL [(entry xs) 0] 0)) (enc := enc_policy_Check) tabOk follows Tryd.func13 (by kernel_rfl) c_policy_Check (fun z r h => by
    obtain ⟨h1, h2⟩ := cond_some h
    cases h2
    exact (etaRV_eq h1).symm) ok_policy_Check (er_of (by kernel_rfl)) shp_policy_Check (fun xs => t_policy_Check (gL [(entry xs) 0] 0)) (fun xs K r h => by
    unfold ent_policy_Check at h
    exact ⟨(chk_some h).1, oB_some (chk_some h).2⟩)

def dec_ddilaw26_awake (z : AV) : Option Bool := cond (fitRV (.one .b) z) (some (aB z)) none
def enc_ddilaw26_awake (r : Bool) : AV := .bool r
def shp_ddilaw26_awake : Shp := ⟨[], []⟩
noncomputable def ddilaw26_awake_i : Option Bool :=
  (oB (ddilaw26_refuse) fun r1 => (oB (policy_Apply r1 (5 : Int) (0 : Int) (0 : Int) false false false false false false false false (0 : Int) ([97, 46] : List UInt8) (1 : Int) ([] : List AV) ([] : List AV) ([] : List AV) (9 : Int) (0 : Int) (0 : Int) false false false false false false false false (0 : Int) ([] : List UInt8) (0 : Int) ([] : List AV) ([] : List AV) ([] : List AV)) fun r2 => (bif ((((gI r2.cells 0) == (5 : Int)) && ((gI r2.cells 2) == (5 : Int))) && (gB r2.cells 3)) then (oB (ddilaw26_refuse) fun r3 => (oB (policy_Check r3) fun r4 => (some (r4 == (0 : Int))))) else (some false))))
noncomputable def ddilaw26_awake := hull ddilaw26_awake_i
theorem ddilaw26_awake_eq : ddilaw26_awake = ddilaw26_awake_i := hull_eq _
noncomputable def a_ddilaw26_awake : AC Bool :=
  .seq (.reg [.op ⟨(some 0), (.mv (.c (.bool false))), none⟩]) (.seq (.reg [.op ⟨(some 3), (.build [(.str []), (.int .i64 0)] [(0, (1, (.c (.str [97, 46])))), (1, (1, (.c (.int .i64 1))))]), none⟩,
    .op ⟨(some 4), (.build [(.int .i64 0), (.int .i64 0), (.int .i64 0), (.bool false), (.bool false), (.bool false), (.bool false), (.bool false), (.bool false), (.bool false), (.bool false), (.int .i64 0), (.str []), (.int .i64 0), .nils, .nils, .nils] [(0, (1, (.c (.int .i64 5)))), (12, (2, (.t 3)))]), none⟩,
    .op ⟨(some 1), (.alloc [(.int .i64 0), (.int .i64 0), (.int .i64 0), (.bool false), (.bool false), (.bool false), (.bool false), (.bool false), (.bool false), (.bool false), (.bool false), (.int .i64 0), (.str []), (.int .i64 0), .nils, .nils, .nils]), none⟩,
    .op ⟨none, (.store 17 (.t 1) (.t 4)), none⟩]) (.seq (.draw [] [.call ⟨(some 5), (.call 14 []), none⟩ 14 ent_ddilaw26_refuse,
    .op ⟨(some 6), (.load true 17 (.t 1)), none⟩,
    .op ⟨(some 7), (.build [(.int .i64 0), (.int .i64 0), (.int .i64 0), (.bool false), (.bool false), (.bool false), (.bool false), (.bool false), (.bool false), (.bool false), (.bool false), (.int .i64 0), (.str []), (.int .i64 0), .nils, .nils, .nils] [(0, (1, (.c (.int .i64 9))))]), none⟩,
    .call ⟨(some 8), (.call 18 [(.t 5), (.t 6), (.t 7)]), none⟩ 18 ent_policy_Apply,
    .op ⟨none, (.held [] []), none⟩] [.op ⟨(some 2), (.alloc [(.int .i64 0), (.int .i64 0), (.int .i64 0), (.bool false), (.bool false), (.bool false), (.bool false), (.bool false), (.bool false), (.bool false), (.bool false), (.int .i64 0), (.str []), (.int .i64 0), .nils, .nils, .nils]), none⟩,
    .op ⟨none, (.store 17 (.t 2) (.t 8)), none⟩]) (.seq (.reg [.op ⟨(some 9), (.fa 0 (.t 2)), none⟩,
    .op ⟨(some 10), (.load false 1 (.t 9)), none⟩,
    .op ⟨(some 11), (.bin .eql (.t 10) (.c (.int .i64 5))), none⟩,
    .op ⟨(some 12), (.mv (.t 11)), none⟩,
    .grp 12 true [⟨(some 13), (.fa 2 (.t 2)), (some (12, true))⟩, ⟨(some 14), (.load false 1 (.t 13)), (some (12, true))⟩, ⟨(some 15), (.bin .eql (.t 14) (.c (.int .i64 5))), (some (12, true))⟩] 16 (.t 15),
    .op ⟨(some 17), (.mv (.t 16)), none⟩,
    .grp 17 true [⟨(some 18), (.fa 3 (.t 2)), (some (17, true))⟩, ⟨(some 19), (.load false 1 (.t 18)), (some (17, true))⟩] 20 (.t 19),
    .op ⟨(some 21), (.mv (.t 20)), none⟩,
    .callc ⟨(some 22), (.call 14 []), (some (21, true))⟩ 14 ent_ddilaw26_refuse,
    .call ⟨(some 23), (.call 13 [(.t 22)]), (some (21, true))⟩ 13 ent_policy_Check,
    .op ⟨(some 24), (.bin .eql (.t 23) (.c (.int .i64 0))), (some (21, true))⟩,
    .op ⟨(some 25), (.pick (.t 21) (.t 24) (.c (.bool false))), none⟩,
    .op ⟨(some 0), (.mv (.t 25)), none⟩]) (.ret))))
theorem ok_ddilaw26_awake : AC.ok Tryd.prog (TIof Tryd.prog) 26 0 (kret [(.t 0)] dec_ddilaw26_awake) a_ddilaw26_awake := (And.intro True.intro (And.intro True.intro (And.intro (And.intro (And.intro (EntOkB.ok k_ddilaw26_refuse) (And.intro (EntOkB.ok k_policy_Apply) True.intro)) (And.intro True.intro rfl)) (And.intro (And.intro (EntOkB.ok k_ddilaw26_refuse) (And.intro (EntOkB.ok k_policy_Check) True.intro)) True.intro))))
theorem t_ddilaw26_awake : den 0 (kret [(.t 0)] dec_ddilaw26_awake) a_ddilaw26_awake (envOf []) (memOf []) (kend (kret [(.t 0)] dec_ddilaw26_awake)) = ddilaw26_awake := by
  rw [ddilaw26_awake_eq]; kernel_rfl
theorem c_ddilaw26_awake : cFn (TIof Tryd.prog) Tryd.f16 = some ⟨26, [(.t 0)], scOf a_ddilaw26_awake⟩ := by kernel_rfl
noncomputable def ent_ddilaw26_awake {R : Type} (xs : List AV) (K : AV → Option R) : Option R := chk (fitS shp_ddilaw26_awake (entry xs) Mem.none) (oB (ddilaw26_awake) fun r => K (enc_ddilaw26_awake r))
theorem k_ddilaw26_awake {R : Type} : EntOkB Tryd.prog 16 (ent_ddilaw26_awake (R := R)) :=
  ent_of (F := fun xs => ddilaw26_awake) (enc := enc_ddilaw26_awake) tabOk follows Tryd.func16 (by kernel_rfl) c_ddilaw26_awake (fun z r h => by
    obtain ⟨h1, h2⟩ := cond_some h
    cases h2
    exact (etaRV_eq h1).symm) ok_ddilaw26_awake (er_of (by kernel_rfl)) shp_ddilaw26_awake (fun xs => t_ddilaw26_awake) (fun xs K r h => by
    unfold ent_ddilaw26_awake at h
    exact ⟨(chk_some h).1, oB_some (chk_some h).2⟩)

def dec_ddilaw26_small (z : AV) : Option Bool := cond (fitRV (.one .b) z) (some (aB z)) none
def enc_ddilaw26_small (r : Bool) : AV := .bool r
def shp_ddilaw26_small_J25 : Shp := ⟨[(0, .one (.l (.sl 8))), (3, .one (.l (.i .i64)))], []⟩
noncomputable def ddilaw26_small_J25_i  (v0 : List AV) (v3 : Int) (kn : Bool → Option Bool) : Option Bool :=
  (oB (ixB v0 v3) fun y1 => (bif fitC T_api_Rule y1.cells then (bif (decide (((gS y1.cells 1).length : Int) > (300 : Int))) then (kn true) else (oB (ixB v0 v3) fun y2 => (bif fitC T_api_Rule y2.cells then (kn (decide (((gL y2.cells 7).length : Int) > (70 : Int)))) else none))) else none))
noncomputable def ddilaw26_small_J25 := hull (ddilaw26_small_J25_i)
theorem ddilaw26_small_J25_eq : ddilaw26_small_J25 = ddilaw26_small_J25_i := hull_eq _
noncomputable def a_ddilaw26_small_J25 : AC Bool :=
  .seq (.reg [.op ⟨(some 15), (.mv (.t 0)), none⟩,
    .op ⟨(some 16), (.mv (.t 3)), none⟩,
    .op ⟨(some 17), (.ia 8 (.t 15) (.t 16)), none⟩,
    .st (.etac 17 T_api_Rule),
    .op ⟨(some 18), (.fa 1 (.t 17)), none⟩,
    .op ⟨(some 19), (.load false 1 (.t 18)), none⟩,
    .op ⟨(some 20), (.len true (.t 19)), none⟩,
    .op ⟨(some 21), (.bin .gtr (.t 20) (.c (.int .i64 300))), none⟩,
    .op ⟨(some 22), (.mv (.t 21)), none⟩,
    .op ⟨(some 23), (.mv (.t 0)), (some (22, false))⟩,
    .op ⟨(some 24), (.mv (.t 3)), (some (22, false))⟩,
    .op ⟨(some 25), (.ia 8 (.t 23) (.t 24)), (some (22, false))⟩,
    .stg 22 false (.etac 25 T_api_Rule),
    .op ⟨(some 26), (.fa 7 (.t 25)), (some (22, false))⟩,
    .op ⟨(some 27), (.load false 1 (.t 26)), (some (22, false))⟩,
    .op ⟨(some 28), (.len false (.t 27)), (some (22, false))⟩,
    .op ⟨(some 29), (.bin .gtr (.t 28) (.c (.int .i64 70))), (some (22, false))⟩,
    .op ⟨(some 30), (.pick (.t 22) (.c (.bool true)) (.t 29)), none⟩]) (.view [.sel [0, 3, 30] []])
theorem ok_ddilaw26_small_J25 : AC.ok Tryd.prog (TIof Tryd.prog) 74 0 (kret [(.t 2)] dec_ddilaw26_small) a_ddilaw26_small_J25 := (And.intro True.intro True.intro)
theorem t_ddilaw26_small_J25 (v0 : List AV) (v3 : Int) (K : Ex → Env → Mem → Option Bool) : den 0 (kret [(.t 2)] dec_ddilaw26_small) a_ddilaw26_small_J25 (envOf [(0, (.sl 8 v0)), (3, (.int .i64 v3))]) (memOf []) K = ddilaw26_small_J25 v0 v3 (fun z_v30 => K .norm (envOf [(0, (.sl 8 v0)), (3, (.int .i64 v3)), (30, (.bool z_v30))]) (memOf [])) := by
  rw [ddilaw26_small_J25_eq]; kernel_rfl
noncomputable def s_ddilaw26_small_J25 : Env → Mem → (Ex → Env → Mem → Option Bool) → Option Bool := fun t m K => chk (fitS0 shp_ddilaw26_small_J25 t m) (cond (hdS shp_ddilaw26_small_J25 t m) (ddilaw26_small_J25 (gL [t 0] 0) (gI [t 3] 0) (fun z_v30 => K .norm (envOf [(0, (.sl 8 (gL [t 0] 0))), (3, (.int .i64 (gI [t 3] 0))), (30, (.bool z_v30))]) (memOf []))) none)
theorem o_ddilaw26_small_J25 : SubOk Tryd.prog (TIof Tryd.prog) 74 0 (kret [(.t 2)] dec_ddilaw26_small) (scOf a_ddilaw26_small_J25) s_ddilaw26_small_J25 :=
  sub_of tabOk follows ok_ddilaw26_small_J25 (er_of (by kernel_rfl)) shp_ddilaw26_small_J25 (fun t m K => congrArg (fun z => chk (fitS0 shp_ddilaw26_small_J25 t m) (cond (hdS shp_ddilaw26_small_J25 t m) z none)) (t_ddilaw26_small_J25 (gL [t 0] 0) (gI [t 3] 0) K).symm)
def shp_ddilaw26_small_L34 : Shp := ⟨[(0, .one (.l (.sl 8))), (3, .one (.l (.i .i64))), (4, .one (.l (.i .i64)))], []⟩
noncomputable def ddilaw26_small_L34_b  (v0 : List AV) (v3 : Int) (v4 : Int) (next : Int → Option Bool) (kx2 : Unit → Option Bool) : Option Bool :=
  (oB (ixB v0 v3) fun y1 => (bif fitC T_api_Rule y1.cells then (bif (decide (v4 < ((gL y1.cells 7).length : Int))) then (oB (ixB v0 v3) fun y2 => (bif fitC T_api_Rule y2.cells then (oB (ixB (gL y2.cells 7) v4) fun y3 => (bif fitC T_api_Record y3.cells then (bif ((((decide (((gS y3.cells 0).length : Int) > (300 : Int))) || (decide (((gS y3.cells 6).length : Int) > (300 : Int)))) || (decide (((gS y3.cells 7).length : Int) > (300 : Int)))) || (decide (((gS y3.cells 8).length : Int) > (300 : Int)))) then (some false) else (next (IntKind.i64.wrap (v4 + (1 : Int))))) else none)) else none)) else (kx2 ())) else none))
noncomputable def ddilaw26_small_L34_i  (v0 : List AV) (v3 : Int) (kx2 : Unit → Option Bool) : Nat → Int → Option Bool
  | 0 => (fun _ => none)
  | n + 1 => (fun v4 => ddilaw26_small_L34_b v0 v3 v4 (ddilaw26_small_L34_i v0 v3 kx2 n) kx2)
noncomputable def ddilaw26_small_L34 := hull (ddilaw26_small_L34_i)
theorem ddilaw26_small_L34_eq : ddilaw26_small_L34 = ddilaw26_small_L34_i := hull_eq _
noncomputable def a_ddilaw26_small_L34 : AC Bool :=
  .seq (.seq (.reg [.op ⟨(some 31), (.mv (.t 4)), none⟩,
    .op ⟨(some 32), (.mv (.t 0)), none⟩,
    .op ⟨(some 33), (.mv (.t 3)), none⟩,
    .op ⟨(some 34), (.ia 8 (.t 32) (.t 33)), none⟩,
    .st (.etac 34 T_api_Rule),
    .op ⟨(some 35), (.fa 7 (.t 34)), none⟩,
    .op ⟨(some 36), (.load false 1 (.t 35)), none⟩,
    .op ⟨(some 37), (.len false (.t 36)), none⟩,
    .op ⟨(some 38), (.bin .lss (.t 31) (.t 37)), none⟩]) (.cond (.t 38) (.skip) (.seq (.view [.sel [0, 3] []]) (.exit 2)))) (.seq (.block 3 (.seq (.reg [.op ⟨(some 41), (.mv (.t 0)), none⟩,
    .op ⟨(some 42), (.mv (.t 3)), none⟩,
    .op ⟨(some 43), (.ia 8 (.t 41) (.t 42)), none⟩,
    .st (.etac 43 T_api_Rule),
    .op ⟨(some 44), (.fa 7 (.t 43)), none⟩,
    .op ⟨(some 45), (.load false 1 (.t 44)), none⟩,
    .op ⟨(some 46), (.mv (.t 4)), none⟩,
    .op ⟨(some 47), (.ia 16 (.t 45) (.t 46)), none⟩,
    .st (.etac 47 T_api_Record),
    .op ⟨(some 48), (.load true 16 (.t 47)), none⟩,
    .op ⟨(some 5), (.alloc [(.str []), (.int .i64 0), (.int .i64 0), (.bool false), (.int .u64 0), (.int .u64 0), (.str []), (.str []), (.str []), (.int .i64 0), (.int .i64 0), (.int .i64 0), (.int .i64 0), (.int .i64 0), (.int .i64 0), (.int .u64 0)]), none⟩,
    .op ⟨none, (.store 16 (.t 5) (.t 48)), none⟩]) (.seq (.reg [.op ⟨(some 49), (.fa 0 (.t 5)), none⟩,
    .op ⟨(some 50), (.load false 1 (.t 49)), none⟩,
    .op ⟨(some 51), (.len true (.t 50)), none⟩,
    .op ⟨(some 52), (.bin .gtr (.t 51) (.c (.int .i64 300))), none⟩,
    .op ⟨(some 53), (.mv (.t 52)), none⟩,
    .grp 53 false [⟨(some 54), (.fa 3 (.t 5)), (some (53, false))⟩, ⟨(some 55), (.fa 3 (.t 54)), (some (53, false))⟩, ⟨(some 56), (.load false 1 (.t 55)), (some (53, false))⟩, ⟨(some 57), (.len true (.t 56)), (some (53, false))⟩, ⟨(some 58), (.bin .gtr (.t 57) (.c (.int .i64 300))), (some (53, false))⟩] 59 (.t 58),
    .op ⟨(some 60), (.mv (.t 59)), none⟩,
    .grp 60 false [⟨(some 61), (.fa 3 (.t 5)), (some (60, false))⟩, ⟨(some 62), (.fa 4 (.t 61)), (some (60, false))⟩, ⟨(some 63), (.load false 1 (.t 62)), (some (60, false))⟩, ⟨(some 64), (.len true (.t 63)), (some (60, false))⟩, ⟨(some 65), (.bin .gtr (.t 64) (.c (.int .i64 300))), (some (60, false))⟩] 66 (.t 65),
    .op ⟨(some 67), (.mv (.t 66)), none⟩,
    .grp 67 false [⟨(some 68), (.fa 3 (.t 5)), (some (67, false))⟩, ⟨(some 69), (.fa 5 (.t 68)), (some (67, false))⟩, ⟨(some 70), (.load false 1 (.t 69)), (some (67, false))⟩, ⟨(some 71), (.len true (.t 70)), (some (67, false))⟩, ⟨(some 72), (.bin .gtr (.t 71) (.c (.int .i64 300))), (some (67, false))⟩] 73 (.t 72)]) (.cond (.t 73) (.seq (.reg [.op ⟨(some 2), (.mv (.c (.bool false))), none⟩]) (.ret)) (.skip))))) (.seq (.reg [.op ⟨(some 39), (.mv (.t 4)), none⟩,
    .op ⟨(some 40), (.bin .add (.t 39) (.c (.int .i64 1))), none⟩,
    .op ⟨(some 4), (.mv (.t 40)), none⟩]) (.view [.sel [0, 3, 4] []])))
theorem ok_ddilaw26_small_L34 : AC.ok Tryd.prog (TIof Tryd.prog) 74 0 (kret [(.t 2)] dec_ddilaw26_small) a_ddilaw26_small_L34 := (And.intro (And.intro True.intro (And.intro True.intro (And.intro True.intro True.intro))) (And.intro (And.intro True.intro (And.intro True.intro (And.intro (And.intro True.intro True.intro) True.intro))) (And.intro True.intro True.intro)))
theorem t_ddilaw26_small_L34_b (v0 : List AV) (v3 : Int) (v4 : Int) (K : Ex → Env → Mem → Option Bool) : den 0 (kret [(.t 2)] dec_ddilaw26_small) a_ddilaw26_small_L34 (envOf [(0, (.sl 8 v0)), (3, (.int .i64 v3)), (4, (.int .i64 v4))]) (memOf []) K = ddilaw26_small_L34_b v0 v3 v4 (fun z_v4 => K .norm (envOf [(0, (.sl 8 v0)), (3, (.int .i64 v3)), (4, (.int .i64 z_v4))]) (memOf [])) (fun _ => K (.exit 2) (envOf [(0, (.sl 8 v0)), (3, (.int .i64 v3))]) (memOf [])) := by kernel_rfl
theorem t_ddilaw26_small_L34 (v0 : List AV) (v3 : Int) (K : Ex → Env → Mem → Option Bool) : ∀ (n : Nat) (v4 : Int), iterD (den 0 (kret [(.t 2)] dec_ddilaw26_small) a_ddilaw26_small_L34) n (envOf [(0, (.sl 8 v0)), (3, (.int .i64 v3)), (4, (.int .i64 v4))]) (memOf []) K = ddilaw26_small_L34 v0 v3 (fun _ => K (.exit 2) (envOf [(0, (.sl 8 v0)), (3, (.int .i64 v3))]) (memOf [])) n v4 := by
  rw [ddilaw26_small_L34_eq]
  intro n
  induction n with
  | zero => intros; rfl
  | succ n ih =>
    intro v4
    exact (t_ddilaw26_small_L34_b v0 v3 v4 (itK (den 0 (kret [(.t 2)] dec_ddilaw26_small) a_ddilaw26_small_L34) n K)).trans (congrArg (fun q => ddilaw26_small_L34_b v0 v3 v4 q (fun _ => K (.exit 2) (envOf [(0, (.sl 8 v0)), (3, (.int .i64 v3))]) (memOf []))) (funext fun v4 => ih v4))
noncomputable def s_ddilaw26_small_L34 : Env → Mem → (Ex → Env → Mem → Option Bool) → Option Bool := fun t m K => chk (fitS0 shp_ddilaw26_small_L34 t m) (cond (hdS shp_ddilaw26_small_L34 t m) (ddilaw26_small_L34 (gL [t 0] 0) (gI [t 3] 0) (fun _ => K (.exit 2) (envOf [(0, (.sl 8 (gL [t 0] 0))), (3, (.int .i64 (gI [t 3] 0)))]) (memOf [])) FU (gI [t 4] 0)) none)
theorem o_ddilaw26_small_L34 : SubOk Tryd.prog (TIof Tryd.prog) 74 0 (kret [(.t 2)] dec_ddilaw26_small) (.loop (scOf a_ddilaw26_small_L34)) s_ddilaw26_small_L34 :=
  loop_of tabOk follows ok_ddilaw26_small_L34 (er_of (by kernel_rfl)) shp_ddilaw26_small_L34 (fun t m K => congrArg (fun z => chk (fitS0 shp_ddilaw26_small_L34 t m) (cond (hdS shp_ddilaw26_small_L34 t m) z none)) (t_ddilaw26_small_L34 (gL [t 0] 0) (gI [t 3] 0) K FU (gI [t 4] 0)).symm)
def shp_ddilaw26_small_L14 : Shp := ⟨[(0, .one (.l (.sl 8))), (3, .one (.l (.i .i64)))], []⟩
noncomputable def ddilaw26_small_L14_b  (v0 : List AV) (v3 : Int) (next : Int → Option Bool) (kx0 : Unit → Option Bool) : Option Bool :=
  (bif (decide (v3 < (v0.length : Int))) then (ddilaw26_small_J25 v0 v3 (fun v30q1 => (bif v30q1 then (some false) else (ddilaw26_small_L34 v0 v3 (fun (_ : Unit) => (next (IntKind.i64.wrap (v3 + (1 : Int))))) FU (0 : Int))))) else (kx0 ()))
noncomputable def ddilaw26_small_L14_i  (v0 : List AV) (kx0 : Unit → Option Bool) : Nat → Int → Option Bool
  | 0 => (fun _ => none)
  | n + 1 => (fun v3 => ddilaw26_small_L14_b v0 v3 (ddilaw26_small_L14_i v0 kx0 n) kx0)
noncomputable def ddilaw26_small_L14 := hull (ddilaw26_small_L14_i)
theorem ddilaw26_small_L14_eq : ddilaw26_small_L14 = ddilaw26_small_L14_i := hull_eq _
noncomputable def a_ddilaw26_small_L14 : AC Bool :=
  .seq (.seq (.reg [.op ⟨(some 9), (.mv (.t 3)), none⟩,
    .op ⟨(some 10), (.mv (.t 0)), none⟩,
    .op ⟨(some 11), (.len false (.t 10)), none⟩,
    .op ⟨(some 12), (.bin .lss (.t 9) (.t 11)), none⟩]) (.cond (.t 12) (.skip) (.seq (.view [.sel [] []]) (.exit 0)))) (.seq (.block 1 (.seq (.seq (.seq (.view [.sel [0, 3] []]) (.sub (scOf a_ddilaw26_small_J25) s_ddilaw26_small_J25)) (.cond (.t 30) (.seq (.reg [.op ⟨(some 2), (.mv (.c (.bool false))), none⟩]) (.ret)) (.skip))) (.seq (.reg [.op ⟨(some 4), (.mv (.c (.int .i64 0))), none⟩]) (.block 2 (.seq (.view [.sel [0, 3, 4] []]) (.sub (.loop (scOf a_ddilaw26_small_L34)) s_ddilaw26_small_L34)))))) (.seq (.reg [.op ⟨(some 13), (.mv (.t 3)), none⟩,
    .op ⟨(some 14), (.bin .add (.t 13) (.c (.int .i64 1))), none⟩,
    .op ⟨(some 3), (.mv (.t 14)), none⟩]) (.view [.sel [0, 3] []])))
theorem ok_ddilaw26_small_L14 : AC.ok Tryd.prog (TIof Tryd.prog) 74 0 (kret [(.t 2)] dec_ddilaw26_small) a_ddilaw26_small_L14 := (And.intro (And.intro True.intro (And.intro True.intro (And.intro True.intro True.intro))) (And.intro (And.intro (And.intro (And.intro True.intro o_ddilaw26_small_J25) (And.intro (And.intro True.intro True.intro) True.intro)) (And.intro True.intro (And.intro True.intro o_ddilaw26_small_L34))) (And.intro True.intro True.intro)))
theorem t_ddilaw26_small_L14_b (v0 : List AV) (v3 : Int) (K : Ex → Env → Mem → Option Bool) : den 0 (kret [(.t 2)] dec_ddilaw26_small) a_ddilaw26_small_L14 (envOf [(0, (.sl 8 v0)), (3, (.int .i64 v3))]) (memOf []) K = ddilaw26_small_L14_b v0 v3 (fun z_v3 => K .norm (envOf [(0, (.sl 8 v0)), (3, (.int .i64 z_v3))]) (memOf [])) (fun _ => K (.exit 0) (envOf []) (memOf [])) := by kernel_rfl
theorem t_ddilaw26_small_L14 (v0 : List AV) (K : Ex → Env → Mem → Option Bool) : ∀ (n : Nat) (v3 : Int), iterD (den 0 (kret [(.t 2)] dec_ddilaw26_small) a_ddilaw26_small_L14) n (envOf [(0, (.sl 8 v0)), (3, (.int .i64 v3))]) (memOf []) K = ddilaw26_small_L14 v0 (fun _ => K (.exit 0) (envOf []) (memOf [])) n v3 := by
  rw [ddilaw26_small_L14_eq]
  intro n
  induction n with
  | zero => intros; rfl
  | succ n ih =>
    intro v3
    exact (t_ddilaw26_small_L14_b v0 v3 (itK (den 0 (kret [(.t 2)] dec_ddilaw26_small) a_ddilaw26_small_L14) n K)).trans (congrArg (fun q => ddilaw26_small_L14_b v0 v3 q (fun _ => K (.exit 0) (envOf []) (memOf []))) (funext fun v3 => ih v3))
noncomputable def s_ddilaw26_small_L14 : Env → Mem → (Ex → Env → Mem → Option Bool) → Option Bool := fun t m K => chk (fitS0 shp_ddilaw26_small_L14 t m) (cond (hdS shp_ddilaw26_small_L14 t m) (ddilaw26_small_L14 (gL [t 0] 0) (fun _ => K (.exit 0) (envOf []) (memOf [])) FU (gI [t 3] 0)) none)
theorem o_ddilaw26_small_L14 : SubOk Tryd.prog (TIof Tryd.prog) 74 0 (kret [(.t 2)] dec_ddilaw26_small) (.loop (scOf a_ddilaw26_small_L14)) s_ddilaw26_small_L14 :=
  loop_of tabOk follows ok_ddilaw26_small_L14 (er_of (by kernel_rfl)) shp_ddilaw26_small_L14 (fun t m K => congrArg (fun z => chk (fitS0 shp_ddilaw26_small_L14 t m) (cond (hdS shp_ddilaw26_small_L14 t m) z none)) (t_ddilaw26_small_L14 (gL [t 0] 0) K FU (gI [t 3] 0)).symm)
def shp_ddilaw26_small : Shp := ⟨[(0, .one (.l (.sl 8)))], []⟩
noncomputable def ddilaw26_small_i (v0 : List AV) : Option Bool :=
  (bif (decide ((v0.length : Int) > (100 : Int))) then (some false) else (ddilaw26_small_L14 v0 (fun (_ : Unit) => (some true)) FU (0 : Int)))
noncomputable def ddilaw26_small := hull ddilaw26_small_i
theorem ddilaw26_small_eq : ddilaw26_small = ddilaw26_small_i := hull_eq _
noncomputable def a_ddilaw26_small : AC Bool :=
  .seq (.reg [.op ⟨(some 2), (.mv (.c (.bool false))), none⟩]) (.seq (.seq (.reg [.op ⟨(some 6), (.mv (.t 0)), none⟩,
    .op ⟨(some 7), (.len false (.t 6)), none⟩,
    .op ⟨(some 8), (.bin .gtr (.t 7) (.c (.int .i64 100))), none⟩]) (.cond (.t 8) (.seq (.reg [.op ⟨(some 2), (.mv (.c (.bool false))), none⟩]) (.ret)) (.skip))) (.seq (.seq (.reg [.op ⟨(some 3), (.mv (.c (.int .i64 0))), none⟩]) (.block 0 (.seq (.view [.sel [0, 3] []]) (.sub (.loop (scOf a_ddilaw26_small_L14)) s_ddilaw26_small_L14)))) (.seq (.reg [.op ⟨(some 2), (.mv (.c (.bool true))), none⟩]) (.ret))))
theorem ok_ddilaw26_small : AC.ok Tryd.prog (TIof Tryd.prog) 74 0 (kret [(.t 2)] dec_ddilaw26_small) a_ddilaw26_small := (And.intro True.intro (And.intro (And.intro True.intro (And.intro (And.intro True.intro True.intro) True.intro)) (And.intro (And.intro True.intro (And.intro True.intro o_ddilaw26_small_L14)) (And.intro True.intro True.intro))))
theorem t_ddilaw26_small (v0 : List AV) : den 0 (kret [(.t 2)] dec_ddilaw26_small) a_ddilaw26_small (envOf [(0, (.sl 8 v0))]) (memOf []) (kend (kret [(.t 2)] dec_ddilaw26_small)) = ddilaw26_small v0 := by
  rw [ddilaw26_small_eq]; kernel_rfl
theorem c_ddilaw26_small : cFn (TIof Tryd.prog) Tryd.f9 = some ⟨74, [(.t 2)], scOf a_ddilaw26_small⟩ := by kernel_rfl
noncomputable def ent_ddilaw26_small {R : Type} (xs : List AV) (K : AV → Option R) : Option R := chk (fitS shp_ddilaw26_small (entry xs) Mem.none) (oB (ddilaw26_small (gL [(entry xs) 0] 0)) fun r => K (enc_ddilaw26_small r))
theorem k_ddilaw26_small {R : Type} : EntOkB Tryd.prog 9 (ent_ddilaw26_small (R := R)) :=
  ent_of (F := fun xs => ddilaw26_small (gL [(entry xs) 0] 0)) (enc := enc_ddilaw26_small) tabOk follows Tryd.func9 (by kernel_rfl) c_ddilaw26_small (fun z r h => by
    obtain ⟨h1, h2⟩ := cond_some h
    cases h2
    exact (etaRV_eq h1).symm) ok_ddilaw26_small (er_of (by kernel_rfl)) shp_ddilaw26_small (fun xs => t_ddilaw26_small (gL [(entry xs) 0] 0)) (fun xs K r h => by
    unfold ent_ddilaw26_small at h
    exact ⟨(chk_some h).1, oB_some (chk_some h).2⟩)

end Go.Proofs.YthhnnlipnpfkcaaDoor.Dn

