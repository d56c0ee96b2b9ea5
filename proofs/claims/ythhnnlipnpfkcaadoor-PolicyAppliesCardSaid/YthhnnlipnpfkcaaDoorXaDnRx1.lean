import Derived.Test.YthhnnlipnpfkcaaDoorProg
import Derived.Test.YthhnnlipnpfkcaaDoorXaLibC
set_option linter.all false
namespace Go.Proofs.YthhnnlipnpfkcaaDoor.Dn
open Go Go.Pev
set_option linter.unusedVariables false
set_option linter.unusedSimpArgs false
set_option maxRecDepth 100000
set_option maxHeartbeats 4000000
theorem zT : True := True.intro
theorem zA {a b : Prop} (x : a) (y : b) : a ∧ b := ⟨x, y⟩
theorem tabOk : Tab.ok (TIof Tryd.prog) Tryd.prog := fun _ _ h => h
theorem follows : Tryd.prog.follows .mixedOrders = true := by kernel_rfl
def dec_ddilaw26_refuse (z : AV) : Option (List AV) := cond (fitRV (.one (.fr true 8)) z) (some (aL z)) none
def enc_ddilaw26_refuse (r : (List AV)) : AV := .fr true 8 r
def shp_ddilaw26_refuse : Shp := ⟨[], []⟩
noncomputable def ddilaw26_refuse_i : Option (List AV) :=
  (bif hd ([(.agg [(.int .i64 (1 : Int)), (.str ([97, 46] : List UInt8)), (.bool false), (.int .u64 (0 : Int)), (.int .u64 (0 : Int)), (.int .i64 (0 : Int)), (.int .i64 (5 : Int)), .nils])] : List AV) (([(.agg [(.int .i64 (1 : Int)), (.str ([97, 46] : List UInt8)), (.bool false), (.int .u64 (0 : Int)), (.int .u64 (0 : Int)), (.int .i64 (0 : Int)), (.int .i64 (5 : Int)), .nils])] : List AV).length) then (some ([(.agg [(.int .i64 (1 : Int)), (.str ([97, 46] : List UInt8)), (.bool false), (.int .u64 (0 : Int)), (.int .u64 (0 : Int)), (.int .i64 (0 : Int)), (.int .i64 (5 : Int)), .nils])] : List AV)) else none)
noncomputable def ddilaw26_refuse := hull ddilaw26_refuse_i
theorem ddilaw26_refuse_eq : ddilaw26_refuse = ddilaw26_refuse_i := hull_eq _
noncomputable def a_ddilaw26_refuse : AC (List AV) :=
  .seq (.reg [.op ⟨some 0, (.mv (.c .nils)), none⟩]) (.seq (.reg [.op ⟨some 1, (.build [(.int .i64 0), (.str []), (.bool false), (.int .u64 0), (.int .u64 0), (.int .i64 0), (.int .i64 0), .nils] [(0, (1, (.c (.int .i64 1)))), (1, (1, (.c (.str [97, 46])))), (6, (1, (.c (.int .i64 5))))]), none⟩,
 .op ⟨some 2, (.bsl 8 [.t 1]), none⟩,
 .op ⟨some 0, (.mv (.t 2)), none⟩]) (.ret))
theorem ok_ddilaw26_refuse : AC.ok Tryd.prog (TIof Tryd.prog) 3 0 (kret [.t 0] dec_ddilaw26_refuse) a_ddilaw26_refuse := (zA zT (zA zT zT))
theorem t_ddilaw26_refuse : den 0 (kret [.t 0] dec_ddilaw26_refuse) a_ddilaw26_refuse (envOf []) (memOf []) (kend (kret [.t 0] dec_ddilaw26_refuse)) = ddilaw26_refuse := by
  rw [ddilaw26_refuse_eq]; kernel_rfl
theorem c_ddilaw26_refuse : cFn (TIof Tryd.prog) Tryd.f14 = some ⟨3, [.t 0], scOf a_ddilaw26_refuse⟩ := by kernel_rfl
noncomputable def ent_ddilaw26_refuse {R : Type} (xs : List AV) (K : AV → Option R) : Option R := chk (fitS shp_ddilaw26_refuse (entry xs) Mem.none) (oB (ddilaw26_refuse) fun r => K (enc_ddilaw26_refuse r))
theorem k_ddilaw26_refuse {R : Type} : EntOkB Tryd.prog 14 (ent_ddilaw26_refuse (R := R)) :=
  ent_of (F := fun xs => ddilaw26_refuse) (enc := enc_ddilaw26_refuse) tabOk follows Tryd.func14 (by kernel_rfl) c_ddilaw26_refuse (fun z r h => by
 obtain ⟨h1, h2⟩ := cond_some h
 cases h2
 exact (etaRV_eq h1).symm) ok_ddilaw26_refuse (er_of (by kernel_rfl)) shp_ddilaw26_refuse (fun xs => t_ddilaw26_refuse) (fun xs K r h => by
 unfold ent_ddilaw26_refuse at h
 exact ⟨(chk_some h).1, oB_some (chk_some h).2⟩)
def T_api_Rule : List LT := [(.i .i64), .s, .b, (.i .u64), (.i .u64), (.i .i64), (.i .i64), (.sl 16)]
def dec_stringslite_HasSuffix (z : AV) : Option Bool := cond (fitRV (.one .b) z) (some (aB z)) none
def enc_stringslite_HasSuffix (r : Bool) : AV := .bool r
def shp_stringslite_HasSuffix : Shp := ⟨[(0, .one (.l .s)), (1, .one (.l .s))], []⟩
noncomputable def stringslite_HasSuffix_i (v0 : List UInt8) (v1 : List UInt8) : Option Bool :=
  (bif (decide ((v0.length : Int) ≥ (v1.length : Int))) then (oB (cutI v0 (some (IntKind.i64.wrap ((v0.length : Int) - (v1.length : Int)))) none) fun s1 => (some (s1 == v1))) else (some false))
noncomputable def stringslite_HasSuffix := hull stringslite_HasSuffix_i
theorem stringslite_HasSuffix_eq : stringslite_HasSuffix = stringslite_HasSuffix_i := hull_eq _
noncomputable def a_stringslite_HasSuffix : AC Bool :=
  .seq (.reg [.op ⟨some 4, (.mv (.c (.bool false))), none⟩]) (.seq (.reg [.op ⟨some 5, (.mv (.t 0)), none⟩,
 .op ⟨some 6, (.len true (.t 5)), none⟩,
 .op ⟨some 7, (.mv (.t 1)), none⟩,
 .op ⟨some 8, (.len true (.t 7)), none⟩,
 .op ⟨some 9, (.bin .geq (.t 6) (.t 8)), none⟩,
 .op ⟨some 10, (.mv (.t 9)), none⟩,
 .op ⟨some 11, (.mv (.t 0)), (some (10, true))⟩,
 .op ⟨some 12, (.mv (.t 0)), (some (10, true))⟩,
 .op ⟨some 13, (.len true (.t 12)), (some (10, true))⟩,
 .op ⟨some 14, (.mv (.t 1)), (some (10, true))⟩,
 .op ⟨some 15, (.len true (.t 14)), (some (10, true))⟩,
 .op ⟨some 16, (.bin .sub (.t 13) (.t 15)), (some (10, true))⟩,
 .op ⟨some 17, (.slcs (.t 11) (some (.t 16)) none), (some (10, true))⟩,
 .op ⟨some 18, (.mv (.t 1)), (some (10, true))⟩,
 .op ⟨some 19, (.bin .eql (.t 17) (.t 18)), (some (10, true))⟩,
 .op ⟨some 20, (.pick (.t 10) (.t 19) (.c (.bool false))), none⟩,
 .op ⟨some 4, (.mv (.t 20)), none⟩]) (.ret))
theorem ok_stringslite_HasSuffix : AC.ok Tryd.prog (TIof Tryd.prog) 21 0 (kret [.t 4] dec_stringslite_HasSuffix) a_stringslite_HasSuffix := (zA zT (zA zT zT))
theorem t_stringslite_HasSuffix (v0 : List UInt8) (v1 : List UInt8) : den 0 (kret [.t 4] dec_stringslite_HasSuffix) a_stringslite_HasSuffix (envOf [(0, (.str v0)), (1, (.str v1))]) (memOf []) (kend (kret [.t 4] dec_stringslite_HasSuffix)) = stringslite_HasSuffix v0 v1 := by
  rw [stringslite_HasSuffix_eq]; kernel_rfl
theorem c_stringslite_HasSuffix : cFn (TIof Tryd.prog) Tryd.f66 = some ⟨21, [.t 4], scOf a_stringslite_HasSuffix⟩ := by kernel_rfl
noncomputable def ent_stringslite_HasSuffix {R : Type} (xs : List AV) (K : AV → Option R) : Option R := chk (fitS shp_stringslite_HasSuffix (entry xs) Mem.none) (oB (stringslite_HasSuffix (gS [(entry xs) 0] 0) (gS [(entry xs) 1] 0)) fun r => K (enc_stringslite_HasSuffix r))
theorem k_stringslite_HasSuffix {R : Type} : EntOkB Tryd.prog 66 (ent_stringslite_HasSuffix (R := R)) :=
  ent_of (F := fun xs => stringslite_HasSuffix (gS [(entry xs) 0] 0) (gS [(entry xs) 1] 0)) (enc := enc_stringslite_HasSuffix) tabOk follows Tryd.func66 (by kernel_rfl) c_stringslite_HasSuffix (fun z r h => by
 obtain ⟨h1, h2⟩ := cond_some h
 cases h2
 exact (etaRV_eq h1).symm) ok_stringslite_HasSuffix (er_of (by kernel_rfl)) shp_stringslite_HasSuffix (fun xs => t_stringslite_HasSuffix (gS [(entry xs) 0] 0) (gS [(entry xs) 1] 0)) (fun xs K r h => by
 unfold ent_stringslite_HasSuffix at h
 exact ⟨(chk_some h).1, oB_some (chk_some h).2⟩)
def dec_strings_HasSuffix (z : AV) : Option Bool := cond (fitRV (.one .b) z) (some (aB z)) none
def enc_strings_HasSuffix (r : Bool) : AV := .bool r
def shp_strings_HasSuffix : Shp := ⟨[(0, .one (.l .s)), (1, .one (.l .s))], []⟩
noncomputable def strings_HasSuffix_i (v0 : List UInt8) (v1 : List UInt8) : Option Bool :=
  (oB (stringslite_HasSuffix v0 v1) fun r1 => (some r1))
noncomputable def strings_HasSuffix := hull strings_HasSuffix_i
theorem strings_HasSuffix_eq : strings_HasSuffix = strings_HasSuffix_i := hull_eq _
noncomputable def a_strings_HasSuffix : AC Bool :=
  .seq (.reg [.op ⟨some 4, (.mv (.c (.bool false))), none⟩]) (.seq (.reg [.op ⟨some 5, (.mv (.t 0)), none⟩,
 .op ⟨some 6, (.mv (.t 1)), none⟩,
 .call ⟨some 7, (.call 66 [.t 5, .t 6]), none⟩ 66 ent_stringslite_HasSuffix,
 .op ⟨some 4, (.mv (.t 7)), none⟩]) (.ret))
theorem ok_strings_HasSuffix : AC.ok Tryd.prog (TIof Tryd.prog) 8 0 (kret [.t 4] dec_strings_HasSuffix) a_strings_HasSuffix := (zA zT (zA (zA (EntOkB.ok k_stringslite_HasSuffix) zT) zT))
theorem t_strings_HasSuffix (v0 : List UInt8) (v1 : List UInt8) : den 0 (kret [.t 4] dec_strings_HasSuffix) a_strings_HasSuffix (envOf [(0, (.str v0)), (1, (.str v1))]) (memOf []) (kend (kret [.t 4] dec_strings_HasSuffix)) = strings_HasSuffix v0 v1 := by
  rw [strings_HasSuffix_eq]; kernel_rfl
theorem c_strings_HasSuffix : cFn (TIof Tryd.prog) Tryd.f51 = some ⟨8, [.t 4], scOf a_strings_HasSuffix⟩ := by kernel_rfl
noncomputable def ent_strings_HasSuffix {R : Type} (xs : List AV) (K : AV → Option R) : Option R := chk (fitS shp_strings_HasSuffix (entry xs) Mem.none) (oB (strings_HasSuffix (gS [(entry xs) 0] 0) (gS [(entry xs) 1] 0)) fun r => K (enc_strings_HasSuffix r))
theorem k_strings_HasSuffix {R : Type} : EntOkB Tryd.prog 51 (ent_strings_HasSuffix (R := R)) :=
  ent_of (F := fun xs => strings_HasSuffix (gS [(entry xs) 0] 0) (gS [(entry xs) 1] 0)) (enc := enc_strings_HasSuffix) tabOk follows Tryd.func51 (by kernel_rfl) c_strings_HasSuffix (fun z r h => by
 obtain ⟨h1, h2⟩ := cond_some h
 cases h2
 exact (etaRV_eq h1).symm) ok_strings_HasSuffix (er_of (by kernel_rfl)) shp_strings_HasSuffix (fun xs => t_strings_HasSuffix (gS [(entry xs) 0] 0) (gS [(entry xs) 1] 0)) (fun xs K r h => by
 unfold ent_strings_HasSuffix at h
 exact ⟨(chk_some h).1, oB_some (chk_some h).2⟩)
theorem k_hCountByte {R : Type} : EntOk Tryd.prog 80 (ent_hCountByte (R := R)) := k_countByte Tryd.func80 (by kernel_rfl) (by kernel_rfl) (by kernel_rfl) (by kernel_rfl)
theorem k_hIndexByte {R : Type} : EntOk Tryd.prog 97 (ent_hIndexByte (R := R)) := k_indexByte Tryd.func97 (by kernel_rfl) (by kernel_rfl) (by kernel_rfl) (by kernel_rfl)
def dec_stringslite_IndexByte (z : AV) : Option Int := cond (fitRV (.one (.i .i64)) z) (some (aI z)) none
def enc_stringslite_IndexByte (r : Int) : AV := .int .i64 r
def shp_stringslite_IndexByte : Shp := ⟨[(0, .one (.l .s)), (1, .one (.l (.i .u8)))], []⟩
noncomputable def stringslite_IndexByte_i (v0 : List UInt8) (v1 : Int) : Option Int :=
  (oB (hIndexByte v0 v1) fun r1 => (some r1))
noncomputable def stringslite_IndexByte := hull stringslite_IndexByte_i
theorem stringslite_IndexByte_eq : stringslite_IndexByte = stringslite_IndexByte_i := hull_eq _
noncomputable def a_stringslite_IndexByte : AC Int :=
  .seq (.reg [.op ⟨some 4, (.mv (.c (.int .i64 0))), none⟩]) (.seq (.reg [.op ⟨some 5, (.mv (.t 0)), none⟩,
 .op ⟨some 6, (.mv (.t 1)), none⟩,
 .call ⟨some 7, (.call 97 [.t 5, .t 6]), none⟩ 97 ent_hIndexByte,
 .op ⟨some 4, (.mv (.t 7)), none⟩]) (.ret))
theorem ok_stringslite_IndexByte : AC.ok Tryd.prog (TIof Tryd.prog) 8 0 (kret [.t 4] dec_stringslite_IndexByte) a_stringslite_IndexByte := (zA zT (zA (zA k_hIndexByte zT) zT))
theorem t_stringslite_IndexByte (v0 : List UInt8) (v1 : Int) : den 0 (kret [.t 4] dec_stringslite_IndexByte) a_stringslite_IndexByte (envOf [(0, (.str v0)), (1, (.int .u8 v1))]) (memOf []) (kend (kret [.t 4] dec_stringslite_IndexByte)) = stringslite_IndexByte v0 v1 := by
  rw [stringslite_IndexByte_eq]; kernel_rfl
theorem c_stringslite_IndexByte : cFn (TIof Tryd.prog) Tryd.f92 = some ⟨8, [.t 4], scOf a_stringslite_IndexByte⟩ := by kernel_rfl
noncomputable def ent_stringslite_IndexByte {R : Type} (xs : List AV) (K : AV → Option R) : Option R := chk (fitS shp_stringslite_IndexByte (entry xs) Mem.none) (oB (stringslite_IndexByte (gS [(entry xs) 0] 0) (gI [(entry xs) 1] 0)) fun r => K (enc_stringslite_IndexByte r))
theorem k_stringslite_IndexByte {R : Type} : EntOkB Tryd.prog 92 (ent_stringslite_IndexByte (R := R)) :=
  ent_of (F := fun xs => stringslite_IndexByte (gS [(entry xs) 0] 0) (gI [(entry xs) 1] 0)) (enc := enc_stringslite_IndexByte) tabOk follows Tryd.func92 (by kernel_rfl) c_stringslite_IndexByte (fun z r h => by
 obtain ⟨h1, h2⟩ := cond_some h
 cases h2
 exact (etaRV_eq h1).symm) ok_stringslite_IndexByte (er_of (by kernel_rfl)) shp_stringslite_IndexByte (fun xs => t_stringslite_IndexByte (gS [(entry xs) 0] 0) (gI [(entry xs) 1] 0)) (fun xs K r h => by
 unfold ent_stringslite_IndexByte at h
 exact ⟨(chk_some h).1, oB_some (chk_some h).2⟩)
def dec_stringslite_Index (z : AV) : Option Int := cond (fitRV (.one (.i .i64)) z) (some (aI z)) none
def enc_stringslite_Index (r : Int) : AV := .int .i64 r
def shp_stringslite_Index : Shp := ⟨[(0, .one (.l .s)), (1, .one (.l .s))], []⟩
noncomputable def stringslite_Index_i (v0 : List UInt8) (v1 : List UInt8) : Option Int :=
  (bif (((v1.length : Int) == (0 : Int)) || (v1 == v0)) then (some (0 : Int)) else (bif ((v1.length : Int) == (1 : Int)) then (oB (ixB v1 (0 : Int)) fun c1 => (oB (stringslite_IndexByte v0 (c1.toNat : Int)) fun r2 => (some r2))) else (bif (decide ((v1.length : Int) ≥ (v0.length : Int))) then (some (-1 : Int)) else none)))
noncomputable def stringslite_Index := hull stringslite_Index_i
theorem stringslite_Index_eq : stringslite_Index = stringslite_Index_i := hull_eq _
noncomputable def a_stringslite_Index : AC Int :=
  .seq (.reg [.op ⟨some 4, (.mv (.c (.int .i64 0))), none⟩]) (.seq (.reg [.op ⟨some 14, (.mv (.t 1)), none⟩,
 .op ⟨some 15, (.len true (.t 14)), none⟩,
 .op ⟨some 5, (.mv (.t 15)), none⟩]) (.seq (.block 0 (.seq (.reg [.op ⟨some 17, (.mv (.t 5)), none⟩,
 .op ⟨some 18, (.bin .eql (.t 17) (.c (.int .i64 0))), none⟩,
 .op ⟨some 19, (.mv (.t 18)), none⟩,
 .grp 19 false [⟨some 20, (.mv (.t 1)), (some (19, false))⟩, ⟨some 21, (.mv (.t 0)), (some (19, false))⟩, ⟨some 22, (.bin .eql (.t 20) (.t 21)), (some (19, false))⟩] 23 (.t 22),
 .op ⟨some 16, (.mv (.t 23)), none⟩]) (.cond (.t 16) (.seq (.reg [.op ⟨some 4, (.mv (.c (.int .i64 0))), none⟩]) (.ret)) (.seq (.reg [.op ⟨some 25, (.mv (.t 5)), none⟩,
 .op ⟨some 26, (.bin .eql (.t 25) (.c (.int .i64 1))), none⟩,
 .op ⟨some 24, (.mv (.t 26)), none⟩]) (.cond (.t 24) (.seq (.reg [.op ⟨some 27, (.mv (.t 0)), none⟩,
 .op ⟨some 28, (.mv (.t 1)), none⟩,
 .op ⟨some 29, (.ixs (.t 28) (.c (.int .i64 0))), none⟩,
 .call ⟨some 30, (.call 92 [.t 27, .t 29]), none⟩ 92 ent_stringslite_IndexByte,
 .op ⟨some 4, (.mv (.t 30)), none⟩]) (.ret)) (.seq (.reg [.op ⟨some 32, (.mv (.t 5)), none⟩,
 .op ⟨some 33, (.mv (.t 0)), none⟩,
 .op ⟨some 34, (.len true (.t 33)), none⟩,
 .op ⟨some 35, (.bin .geq (.t 32) (.t 34)), none⟩,
 .op ⟨some 31, (.mv (.t 35)), none⟩]) (.cond (.t 31) (.seq (.reg [.op ⟨some 4, (.mv (.c (.int .i64 (-1)))), none⟩]) (.ret)) (.seq (.reg [.op ⟨some 37, (.mv (.t 5)), none⟩,
 .op ⟨some 38, .stuck, none⟩,
 .op ⟨some 39, (.bin .leq (.t 37) (.t 38)), none⟩,
 .op ⟨some 40, (.mv (.t 39)), none⟩,
 .op ⟨some 41, (.mv (.t 0)), (some (40, true))⟩,
 .op ⟨some 42, (.len true (.t 41)), (some (40, true))⟩,
 .op ⟨some 43, (.bin .leq (.t 42) (.c (.int .i64 64))), (some (40, true))⟩,
 .op ⟨some 44, (.pick (.t 40) (.t 43) (.c (.bool false))), none⟩,
 .op ⟨some 36, (.mv (.t 44)), none⟩]) (.cond (.t 36) (.seq (.reg [.op ⟨some 45, (.mv (.t 0)), none⟩,
 .op ⟨some 46, (.mv (.t 1)), none⟩,
 .op ⟨some 47, (.call 93 [.t 45, .t 46]), none⟩,
 .op ⟨some 4, (.mv (.t 47)), none⟩]) (.ret)) (.skip)))))))))) (.seq (.reg [.op ⟨some 48, (.mv (.t 1)), none⟩,
 .op ⟨some 49, (.ixs (.t 48) (.c (.int .i64 0))), none⟩,
 .op ⟨some 6, (.mv (.t 49)), none⟩]) (.seq (.reg [.op ⟨some 50, (.mv (.t 1)), none⟩,
 .op ⟨some 51, (.ixs (.t 50) (.c (.int .i64 1))), none⟩,
 .op ⟨some 7, (.mv (.t 51)), none⟩]) (.seq (.reg [.op ⟨some 8, (.mv (.c (.int .i64 0))), none⟩]) (.seq (.reg [.op ⟨some 52, (.mv (.t 0)), none⟩,
 .op ⟨some 53, (.len true (.t 52)), none⟩,
 .op ⟨some 54, (.mv (.t 5)), none⟩,
 .op ⟨some 55, (.bin .sub (.t 53) (.t 54)), none⟩,
 .op ⟨some 56, (.bin .add (.t 55) (.c (.int .i64 1))), none⟩,
 .op ⟨some 9, (.mv (.t 56)), none⟩]) (.seq (.reg [.op ⟨some 10, (.mv (.c (.int .i64 0))), none⟩]) (.seq (.block 1 (.sub (.loop (.seq (.seq (.reg [⟨some 57, (.mv (.t 8)), none⟩, ⟨some 58, (.mv (.t 9)), none⟩, ⟨some 59, (.bin .lss (.t 57) (.t 58)), none⟩]) (.cond (.t 59) .skip (.exit 1))) (.block 2 (.seq (.seq (.reg [⟨some 60, (.mv (.t 0)), none⟩, ⟨some 61, (.mv (.t 8)), none⟩, ⟨some 62, (.ixs (.t 60) (.t 61)), none⟩, ⟨some 63, (.mv (.t 6)), none⟩, ⟨some 64, (.bin .neq (.t 62) (.t 63)), none⟩]) (.cond (.t 64) (.seq (.reg [⟨some 65, (.mv (.t 0)), none⟩, ⟨some 66, (.mv (.t 8)), none⟩, ⟨some 67, (.bin .add (.t 66) (.c (.int .i64 1))), none⟩, ⟨some 68, (.mv (.t 9)), none⟩, ⟨some 69, (.slcs (.t 65) (some (.t 67)) (some (.t 68))), none⟩, ⟨some 70, (.mv (.t 6)), none⟩, ⟨some 71, (.call 92 [.t 69, .t 70]), none⟩, ⟨some 11, (.mv (.t 71)), none⟩]) (.seq (.seq (.reg [⟨some 72, (.mv (.t 11)), none⟩, ⟨some 73, (.bin .lss (.t 72) (.c (.int .i64 0))), none⟩]) (.cond (.t 73) (.seq (.reg [⟨some 4, (.mv (.c (.int .i64 (-1)))), none⟩]) .ret) .skip)) (.reg [⟨some 74, (.mv (.t 8)), none⟩, ⟨some 75, (.mv (.t 11)), none⟩, ⟨some 76, (.bin .add (.t 75) (.c (.int .i64 1))), none⟩, ⟨some 77, (.bin .add (.t 74) (.t 76)), none⟩, ⟨some 8, (.mv (.t 77)), none⟩]))) .skip)) (.seq (.seq (.reg [⟨some 78, (.mv (.t 0)), none⟩, ⟨some 79, (.mv (.t 8)), none⟩, ⟨some 80, (.bin .add (.t 79) (.c (.int .i64 1))), none⟩, ⟨some 81, (.ixs (.t 78) (.t 80)), none⟩, ⟨some 82, (.mv (.t 7)), none⟩, ⟨some 83, (.bin .eql (.t 81) (.t 82)), none⟩, ⟨some 84, (.mv (.t 83)), none⟩, ⟨some 85, (.mv (.t 0)), (some (84, true))⟩, ⟨some 86, (.mv (.t 8)), (some (84, true))⟩, ⟨some 87, (.mv (.t 8)), (some (84, true))⟩, ⟨some 88, (.mv (.t 5)), (some (84, true))⟩, ⟨some 89, (.bin .add (.t 87) (.t 88)), (some (84, true))⟩, ⟨some 90, (.slcs (.t 85) (some (.t 86)) (some (.t 89))), (some (84, true))⟩, ⟨some 91, (.mv (.t 1)), (some (84, true))⟩, ⟨some 92, (.bin .eql (.t 90) (.t 91)), (some (84, true))⟩, ⟨some 93, (.pick (.t 84) (.t 92) (.c (.bool false))), none⟩]) (.cond (.t 93) (.seq (.reg [⟨some 94, (.mv (.t 8)), none⟩, ⟨some 4, (.mv (.t 94)), none⟩]) .ret) .skip)) (.seq (.reg [⟨some 95, (.mv (.t 8)), none⟩, ⟨some 96, (.bin .add (.t 95) (.c (.int .i64 1))), none⟩, ⟨some 8, (.mv (.t 96)), none⟩]) (.seq (.reg [⟨some 97, (.mv (.t 10)), none⟩, ⟨some 98, (.bin .add (.t 97) (.c (.int .i64 1))), none⟩, ⟨some 10, (.mv (.t 98)), none⟩]) (.seq (.reg [⟨some 99, (.mv (.t 5)), none⟩, ⟨some 100, .stuck, none⟩, ⟨some 101, (.bin .leq (.t 99) (.t 100)), none⟩, ⟨some 102, (.mv (.t 101)), none⟩, ⟨some 103, (.mv (.t 10)), (some (102, true))⟩, ⟨some 104, (.mv (.t 8)), (some (102, true))⟩, ⟨some 105, (.call 94 [.t 104]), (some (102, true))⟩, ⟨some 106, (.bin .gtr (.t 103) (.t 105)), (some (102, true))⟩, ⟨some 107, (.pick (.t 102) (.t 106) (.c (.bool false))), none⟩]) (.cond (.t 107) (.seq (.reg [⟨some 108, (.mv (.t 0)), none⟩, ⟨some 109, (.mv (.t 8)), none⟩, ⟨some 110, (.slcs (.t 108) (some (.t 109)) none), none⟩, ⟨some 111, (.mv (.t 1)), none⟩, ⟨some 112, (.call 93 [.t 110, .t 111]), none⟩, ⟨some 12, (.mv (.t 112)), none⟩]) (.seq (.seq (.reg [⟨some 113, (.mv (.t 12)), none⟩, ⟨some 114, (.bin .geq (.t 113) (.c (.int .i64 0))), none⟩]) (.cond (.t 114) (.seq (.reg [⟨some 115, (.mv (.t 12)), none⟩, ⟨some 116, (.mv (.t 8)), none⟩, ⟨some 117, (.bin .add (.t 115) (.t 116)), none⟩, ⟨some 4, (.mv (.t 117)), none⟩]) .ret) .skip)) (.seq (.reg [⟨some 4, (.mv (.c (.int .i64 (-1)))), none⟩]) .ret))) (.seq (.reg [⟨some 118, (.mv (.t 5)), none⟩, ⟨some 119, .stuck, none⟩, ⟨some 120, (.bin .gtr (.t 118) (.t 119)), none⟩, ⟨some 121, (.mv (.t 120)), none⟩, ⟨some 122, (.mv (.t 10)), (some (121, true))⟩, ⟨some 123, (.mv (.t 8)), (some (121, true))⟩, ⟨some 124, (.bin .shr (.t 123) (.c (.int .u64 4))), (some (121, true))⟩, ⟨some 125, (.bin .add (.c (.int .i64 4)) (.t 124)), (some (121, true))⟩, ⟨some 126, (.bin .geq (.t 122) (.t 125)), (some (121, true))⟩, ⟨some 127, (.pick (.t 121) (.t 126) (.c (.bool false))), none⟩, ⟨some 128, (.mv (.t 127)), none⟩, ⟨some 129, (.mv (.t 8)), (some (128, true))⟩, ⟨some 130, (.mv (.t 9)), (some (128, true))⟩, ⟨some 131, (.bin .lss (.t 129) (.t 130)), (some (128, true))⟩, ⟨some 132, (.pick (.t 128) (.t 131) (.c (.bool false))), none⟩]) (.cond (.t 132) (.seq (.reg [⟨some 133, (.mv (.t 0)), none⟩, ⟨some 134, (.mv (.t 8)), none⟩, ⟨some 135, (.slcs (.t 133) (some (.t 134)) none), none⟩, ⟨some 136, (.mv (.t 1)), none⟩, ⟨some 137, (.call 95 [.t 135, .t 136]), none⟩, ⟨some 13, (.mv (.t 137)), none⟩]) (.seq (.seq (.reg [⟨some 138, (.mv (.t 13)), none⟩, ⟨some 139, (.bin .lss (.t 138) (.c (.int .i64 0))), none⟩]) (.cond (.t 139) (.seq (.reg [⟨some 4, (.mv (.c (.int .i64 (-1)))), none⟩]) .ret) .skip)) (.seq (.reg [⟨some 140, (.mv (.t 8)), none⟩, ⟨some 141, (.mv (.t 13)), none⟩, ⟨some 142, (.bin .add (.t 140) (.t 141)), none⟩, ⟨some 4, (.mv (.t 142)), none⟩]) .ret))) .skip))))))))))) (fun _ _ _ => none))) (.seq (.reg [.op ⟨some 4, (.mv (.c (.int .i64 (-1)))), none⟩]) (.ret))))))))))
theorem ok_stringslite_Index : AC.ok Tryd.prog (TIof Tryd.prog) 143 0 (kret [.t 4] dec_stringslite_Index) a_stringslite_Index := (zA zT (zA zT (zA (zA zT (zA (zA zT zT) (zA zT (zA (zA (zA (EntOkB.ok k_stringslite_IndexByte) zT) zT) (zA zT (zA (zA zT zT) (zA zT (zA (zA zT zT) zT)))))))) (zA zT (zA zT (zA zT (zA zT (zA zT (zA (fun _ _ _ _ h => by cases h) (zA zT zT))))))))))
theorem t_stringslite_Index (v0 : List UInt8) (v1 : List UInt8) : den 0 (kret [.t 4] dec_stringslite_Index) a_stringslite_Index (envOf [(0, (.str v0)), (1, (.str v1))]) (memOf []) (kend (kret [.t 4] dec_stringslite_Index)) = stringslite_Index v0 v1 := by
  rw [stringslite_Index_eq]; kernel_rfl
theorem c_stringslite_Index : cFn (TIof Tryd.prog) Tryd.f81 = some ⟨143, [.t 4], scOf a_stringslite_Index⟩ := by kernel_rfl
noncomputable def ent_stringslite_Index {R : Type} (xs : List AV) (K : AV → Option R) : Option R := chk (fitS shp_stringslite_Index (entry xs) Mem.none) (oB (stringslite_Index (gS [(entry xs) 0] 0) (gS [(entry xs) 1] 0)) fun r => K (enc_stringslite_Index r))
theorem k_stringslite_Index {R : Type} : EntOkB Tryd.prog 81 (ent_stringslite_Index (R := R)) :=
  ent_of (F := fun xs => stringslite_Index (gS [(entry xs) 0] 0) (gS [(entry xs) 1] 0)) (enc := enc_stringslite_Index) tabOk follows Tryd.func81 (by kernel_rfl) c_stringslite_Index (fun z r h => by
 obtain ⟨h1, h2⟩ := cond_some h
 cases h2
 exact (etaRV_eq h1).symm) ok_stringslite_Index (er_of (by kernel_rfl)) shp_stringslite_Index (fun xs => t_stringslite_Index (gS [(entry xs) 0] 0) (gS [(entry xs) 1] 0)) (fun xs K r h => by
 unfold ent_stringslite_Index at h
 exact ⟨(chk_some h).1, oB_some (chk_some h).2⟩)
def dec_strings_Index (z : AV) : Option Int := cond (fitRV (.one (.i .i64)) z) (some (aI z)) none
def enc_strings_Index (r : Int) : AV := .int .i64 r
def shp_strings_Index : Shp := ⟨[(0, .one (.l .s)), (1, .one (.l .s))], []⟩
noncomputable def strings_Index_i (v0 : List UInt8) (v1 : List UInt8) : Option Int :=
  (oB (stringslite_Index v0 v1) fun r1 => (some r1))
noncomputable def strings_Index := hull strings_Index_i
theorem strings_Index_eq : strings_Index = strings_Index_i := hull_eq _
noncomputable def a_strings_Index : AC Int :=
  .seq (.reg [.op ⟨some 4, (.mv (.c (.int .i64 0))), none⟩]) (.seq (.reg [.op ⟨some 5, (.mv (.t 0)), none⟩,
 .op ⟨some 6, (.mv (.t 1)), none⟩,
 .call ⟨some 7, (.call 81 [.t 5, .t 6]), none⟩ 81 ent_stringslite_Index,
 .op ⟨some 4, (.mv (.t 7)), none⟩]) (.ret))
theorem ok_strings_Index : AC.ok Tryd.prog (TIof Tryd.prog) 8 0 (kret [.t 4] dec_strings_Index) a_strings_Index := (zA zT (zA (zA (EntOkB.ok k_stringslite_Index) zT) zT))
theorem t_strings_Index (v0 : List UInt8) (v1 : List UInt8) : den 0 (kret [.t 4] dec_strings_Index) a_strings_Index (envOf [(0, (.str v0)), (1, (.str v1))]) (memOf []) (kend (kret [.t 4] dec_strings_Index)) = strings_Index v0 v1 := by
  rw [strings_Index_eq]; kernel_rfl
theorem c_strings_Index : cFn (TIof Tryd.prog) Tryd.f69 = some ⟨8, [.t 4], scOf a_strings_Index⟩ := by kernel_rfl
noncomputable def ent_strings_Index {R : Type} (xs : List AV) (K : AV → Option R) : Option R := chk (fitS shp_strings_Index (entry xs) Mem.none) (oB (strings_Index (gS [(entry xs) 0] 0) (gS [(entry xs) 1] 0)) fun r => K (enc_strings_Index r))
theorem k_strings_Index {R : Type} : EntOkB Tryd.prog 69 (ent_strings_Index (R := R)) :=
  ent_of (F := fun xs => strings_Index (gS [(entry xs) 0] 0) (gS [(entry xs) 1] 0)) (enc := enc_strings_Index) tabOk follows Tryd.func69 (by kernel_rfl) c_strings_Index (fun z r h => by
 obtain ⟨h1, h2⟩ := cond_some h
 cases h2
 exact (etaRV_eq h1).symm) ok_strings_Index (er_of (by kernel_rfl)) shp_strings_Index (fun xs => t_strings_Index (gS [(entry xs) 0] 0) (gS [(entry xs) 1] 0)) (fun xs K r h => by
 unfold ent_strings_Index at h
 exact ⟨(chk_some h).1, oB_some (chk_some h).2⟩)
def dec_strings_Count (z : AV) : Option Int := cond (fitRV (.one (.i .i64)) z) (some (aI z)) none
def enc_strings_Count (r : Int) : AV := .int .i64 r
def shp_strings_Count_L21 : Shp := ⟨[(0, .one (.l .s)), (1, .one (.l .s)), (5, .one (.l (.i .i64)))], []⟩
noncomputable def strings_Count_L21_b  (v0 : List UInt8) (v1 : List UInt8) (v5 : Int) (next : (List UInt8) → Int → Option Int) : Option Int :=
  (oB (strings_Index v0 v1) fun r1 => (bif (r1 == (-1 : Int)) then (some v5) else (oB (cutI v0 (some (IntKind.i64.wrap (r1 + (v1.length : Int)))) none) fun s2 => (next s2 (IntKind.i64.wrap (v5 + (1 : Int)))))))
noncomputable def strings_Count_L21_i  (v1 : List UInt8) : Nat → (List UInt8) → Int → Option Int
  | 0 => (fun _ _ => none)
  | n + 1 => (fun v0 v5 => strings_Count_L21_b v0 v1 v5 (strings_Count_L21_i v1 n))
noncomputable def strings_Count_L21 := hull (strings_Count_L21_i)
theorem strings_Count_L21_eq : strings_Count_L21 = strings_Count_L21_i := hull_eq _
noncomputable def a_strings_Count_L21 : AC Int :=
  .block 1 (.seq (.reg [.op ⟨some 20, (.mv (.t 0)), none⟩,
 .op ⟨some 21, (.mv (.t 1)), none⟩,
 .call ⟨some 22, (.call 69 [.t 20, .t 21]), none⟩ 69 ent_strings_Index,
 .op ⟨some 6, (.mv (.t 22)), none⟩]) (.seq (.seq (.reg [.op ⟨some 23, (.mv (.t 6)), none⟩,
 .op ⟨some 24, (.bin .eql (.t 23) (.c (.int .i64 (-1)))), none⟩]) (.cond (.t 24) (.seq (.reg [.op ⟨some 25, (.mv (.t 5)), none⟩,
 .op ⟨some 4, (.mv (.t 25)), none⟩]) (.ret)) (.skip))) (.seq (.reg [.op ⟨some 26, (.mv (.t 5)), none⟩,
 .op ⟨some 27, (.bin .add (.t 26) (.c (.int .i64 1))), none⟩,
 .op ⟨some 5, (.mv (.t 27)), none⟩]) (.seq (.reg [.op ⟨some 28, (.mv (.t 0)), none⟩,
 .op ⟨some 29, (.mv (.t 6)), none⟩,
 .op ⟨some 30, (.mv (.t 1)), none⟩,
 .op ⟨some 31, (.len true (.t 30)), none⟩,
 .op ⟨some 32, (.bin .add (.t 29) (.t 31)), none⟩,
 .op ⟨some 33, (.slcs (.t 28) (some (.t 32)) none), none⟩,
 .op ⟨some 0, (.mv (.t 33)), none⟩]) (.view [.sel [0, 1, 5] []])))))
theorem ok_strings_Count_L21 : AC.ok Tryd.prog (TIof Tryd.prog) 34 0 (kret [.t 4] dec_strings_Count) a_strings_Count_L21 := (zA (zA (EntOkB.ok k_strings_Index) zT) (zA (zA zT (zA (zA zT zT) zT)) (zA zT (zA zT zT))))
theorem t_strings_Count_L21_b (v0 : List UInt8) (v1 : List UInt8) (v5 : Int) (K : Ex → Env → Mem → Option Int) : den 0 (kret [.t 4] dec_strings_Count) a_strings_Count_L21 (envOf [(0, (.str v0)), (1, (.str v1)), (5, (.int .i64 v5))]) (memOf []) K = strings_Count_L21_b v0 v1 v5 (fun z_v0 z_v5 => K .norm (envOf [(0, (.str z_v0)), (1, (.str v1)), (5, (.int .i64 z_v5))]) (memOf [])) := by kernel_rfl
theorem t_strings_Count_L21 (v1 : List UInt8) (K : Ex → Env → Mem → Option Int) : ∀ (n : Nat) (v0 : List UInt8) (v5 : Int), iterD (den 0 (kret [.t 4] dec_strings_Count) a_strings_Count_L21) n (envOf [(0, (.str v0)), (1, (.str v1)), (5, (.int .i64 v5))]) (memOf []) K = strings_Count_L21 v1 n v0 v5 := by
  rw [strings_Count_L21_eq]
  intro n
  induction n with
  | zero => intros; rfl
  | succ n ih =>
 intro v0 v5
 exact (t_strings_Count_L21_b v0 v1 v5 (itK (den 0 (kret [.t 4] dec_strings_Count) a_strings_Count_L21) n K)).trans (congrArg (fun q => strings_Count_L21_b v0 v1 v5 q) (funext fun v0 => funext fun v5 => ih v0 v5))
noncomputable def s_strings_Count_L21 : Env → Mem → (Ex → Env → Mem → Option Int) → Option Int := fun t m K => chk (fitS0 shp_strings_Count_L21 t m) (cond (hdS shp_strings_Count_L21 t m) (strings_Count_L21 (gS [t 1] 0) FU (gS [t 0] 0) (gI [t 5] 0)) none)
theorem o_strings_Count_L21 : SubOk Tryd.prog (TIof Tryd.prog) 34 0 (kret [.t 4] dec_strings_Count) (.loop (scOf a_strings_Count_L21)) s_strings_Count_L21 :=
  loop_of tabOk follows ok_strings_Count_L21 (er_of (by kernel_rfl)) shp_strings_Count_L21 (fun t m K => congrArg (fun z => chk (fitS0 shp_strings_Count_L21 t m) (cond (hdS shp_strings_Count_L21 t m) z none)) (t_strings_Count_L21 (gS [t 1] 0) K FU (gS [t 0] 0) (gI [t 5] 0)).symm)
def shp_strings_Count : Shp := ⟨[(0, .one (.l .s)), (1, .one (.l .s))], []⟩
noncomputable def strings_Count_i (v0 : List UInt8) (v1 : List UInt8) : Option Int :=
  (bif ((v1.length : Int) == (0 : Int)) then none else (bif ((v1.length : Int) == (1 : Int)) then (oB (ixB v1 (0 : Int)) fun c1 => (oB (hCountByte v0 (c1.toNat : Int)) fun r2 => (some r2))) else (strings_Count_L21 v1 FU v0 (0 : Int))))
noncomputable def strings_Count := hull strings_Count_i
theorem strings_Count_eq : strings_Count = strings_Count_i := hull_eq _
noncomputable def a_strings_Count : AC Int :=
  .seq (.reg [.op ⟨some 4, (.mv (.c (.int .i64 0))), none⟩]) (.seq (.seq (.reg [.op ⟨some 7, (.mv (.t 1)), none⟩,
 .op ⟨some 8, (.len true (.t 7)), none⟩,
 .op ⟨some 9, (.bin .eql (.t 8) (.c (.int .i64 0))), none⟩]) (.cond (.t 9) (.seq (.reg [.op ⟨some 10, (.mv (.t 0)), none⟩,
 .call ⟨some 11, (.call 78 [.t 10]), none⟩ 78 ent_hVoid,
 .op ⟨some 12, (.bin .add (.t 11) (.c (.int .i64 1))), none⟩,
 .op ⟨some 4, (.mv (.t 12)), none⟩]) (.ret)) (.skip))) (.seq (.seq (.reg [.op ⟨some 13, (.mv (.t 1)), none⟩,
 .op ⟨some 14, (.len true (.t 13)), none⟩,
 .op ⟨some 15, (.bin .eql (.t 14) (.c (.int .i64 1))), none⟩]) (.cond (.t 15) (.seq (.reg [.op ⟨some 16, (.mv (.t 0)), none⟩,
 .op ⟨some 17, (.mv (.t 1)), none⟩,
 .op ⟨some 18, (.ixs (.t 17) (.c (.int .i64 0))), none⟩,
 .call ⟨some 19, (.call 80 [.t 16, .t 18]), none⟩ 80 ent_hCountByte,
 .op ⟨some 4, (.mv (.t 19)), none⟩]) (.ret)) (.skip))) (.seq (.reg [.op ⟨some 5, (.mv (.c (.int .i64 0))), none⟩]) (.block 0 (.seq (.view [.sel [0, 1, 5] []]) (.sub (.loop (scOf a_strings_Count_L21)) s_strings_Count_L21))))))
theorem ok_strings_Count : AC.ok Tryd.prog (TIof Tryd.prog) 34 0 (kret [.t 4] dec_strings_Count) a_strings_Count := (zA zT (zA (zA zT (zA (zA (zA k_void zT) zT) zT)) (zA (zA zT (zA (zA (zA k_hCountByte zT) zT) zT)) (zA zT (zA zT o_strings_Count_L21)))))
theorem t_strings_Count (v0 : List UInt8) (v1 : List UInt8) : den 0 (kret [.t 4] dec_strings_Count) a_strings_Count (envOf [(0, (.str v0)), (1, (.str v1))]) (memOf []) (kend (kret [.t 4] dec_strings_Count)) = strings_Count v0 v1 := by
  rw [strings_Count_eq]; kernel_rfl
theorem c_strings_Count : cFn (TIof Tryd.prog) Tryd.f68 = some ⟨34, [.t 4], scOf a_strings_Count⟩ := by kernel_rfl
noncomputable def ent_strings_Count {R : Type} (xs : List AV) (K : AV → Option R) : Option R := chk (fitS shp_strings_Count (entry xs) Mem.none) (oB (strings_Count (gS [(entry xs) 0] 0) (gS [(entry xs) 1] 0)) fun r => K (enc_strings_Count r))
theorem k_strings_Count {R : Type} : EntOkB Tryd.prog 68 (ent_strings_Count (R := R)) :=
  ent_of (F := fun xs => strings_Count (gS [(entry xs) 0] 0) (gS [(entry xs) 1] 0)) (enc := enc_strings_Count) tabOk follows Tryd.func68 (by kernel_rfl) c_strings_Count (fun z r h => by
 obtain ⟨h1, h2⟩ := cond_some h
 cases h2
 exact (etaRV_eq h1).symm) ok_strings_Count (er_of (by kernel_rfl)) shp_strings_Count (fun xs => t_strings_Count (gS [(entry xs) 0] 0) (gS [(entry xs) 1] 0)) (fun xs K r h => by
 unfold ent_strings_Count at h
 exact ⟨(chk_some h).1, oB_some (chk_some h).2⟩)
def dec_strings_genSplit (z : AV) : Option (List AV) := cond (fitRV (.one (.sl 1)) z) (some (aL z)) none
def enc_strings_genSplit (r : (List AV)) : AV := .sl 1 r
def shp_strings_genSplit_J19 : Shp := ⟨[(0, .one (.l .s)), (1, .one (.l .s)), (2, .one (.l (.i .i64))), (3, .one (.l (.i .i64)))], []⟩
noncomputable def strings_genSplit_J19_i  (v0 : List UInt8) (v1 : List UInt8) (v2 : Int) (v3 : Int) (kn : Int → Option (List AV)) : Option (List AV) :=
  (bif (decide (v3 < (0 : Int))) then (oB (strings_Count v0 v1) fun r1 => (kn (IntKind.i64.wrap (r1 + (1 : Int))))) else (kn v3))
noncomputable def strings_genSplit_J19 := hull (strings_genSplit_J19_i)
theorem strings_genSplit_J19_eq : strings_genSplit_J19 = strings_genSplit_J19_i := hull_eq _
noncomputable def a_strings_genSplit_J19 : AC (List AV) :=
  .seq (.reg [.op ⟨some 19, (.mv (.t 3)), none⟩,
 .op ⟨some 20, (.bin .lss (.t 19) (.c (.int .i64 0))), none⟩]) (.cond (.t 20) (.seq (.reg [.op ⟨some 21, (.mv (.t 0)), none⟩,
 .op ⟨some 22, (.mv (.t 1)), none⟩,
 .call ⟨some 23, (.call 68 [.t 21, .t 22]), none⟩ 68 ent_strings_Count,
 .op ⟨some 24, (.bin .add (.t 23) (.c (.int .i64 1))), none⟩,
 .op ⟨some 3, (.mv (.t 24)), none⟩]) (.view [.sel [0, 1, 2, 3] []])) (.seq (.skip) (.view [.sel [0, 1, 2, 3] []])))
theorem ok_strings_genSplit_J19 : AC.ok Tryd.prog (TIof Tryd.prog) 66 0 (kret [.t 8] dec_strings_genSplit) a_strings_genSplit_J19 := (zA zT (zA (zA (zA (EntOkB.ok k_strings_Count) zT) zT) (zA zT zT)))
theorem t_strings_genSplit_J19 (v0 : List UInt8) (v1 : List UInt8) (v2 : Int) (v3 : Int) (K : Ex → Env → Mem → Option (List AV)) : den 0 (kret [.t 8] dec_strings_genSplit) a_strings_genSplit_J19 (envOf [(0, (.str v0)), (1, (.str v1)), (2, (.int .i64 v2)), (3, (.int .i64 v3))]) (memOf []) K = strings_genSplit_J19 v0 v1 v2 v3 (fun z_v3 => K .norm (envOf [(0, (.str v0)), (1, (.str v1)), (2, (.int .i64 v2)), (3, (.int .i64 z_v3))]) (memOf [])) := by
  rw [strings_genSplit_J19_eq]; kernel_rfl
noncomputable def s_strings_genSplit_J19 : Env → Mem → (Ex → Env → Mem → Option (List AV)) → Option (List AV) := fun t m K => chk (fitS0 shp_strings_genSplit_J19 t m) (cond (hdS shp_strings_genSplit_J19 t m) (strings_genSplit_J19 (gS [t 0] 0) (gS [t 1] 0) (gI [t 2] 0) (gI [t 3] 0) (fun z_v3 => K .norm (envOf [(0, (.str (gS [t 0] 0))), (1, (.str (gS [t 1] 0))), (2, (.int .i64 (gI [t 2] 0))), (3, (.int .i64 z_v3))]) (memOf []))) none)
theorem o_strings_genSplit_J19 : SubOk Tryd.prog (TIof Tryd.prog) 66 0 (kret [.t 8] dec_strings_genSplit) (scOf a_strings_genSplit_J19) s_strings_genSplit_J19 :=
  sub_of tabOk follows ok_strings_genSplit_J19 (er_of (by kernel_rfl)) shp_strings_genSplit_J19 (fun t m K => congrArg (fun z => chk (fitS0 shp_strings_genSplit_J19 t m) (cond (hdS shp_strings_genSplit_J19 t m) z none)) (t_strings_genSplit_J19 (gS [t 0] 0) (gS [t 1] 0) (gI [t 2] 0) (gI [t 3] 0) K).symm)
def shp_strings_genSplit_L34 : Shp := ⟨[(0, .one (.l .s)), (1, .one (.l .s)), (2, .one (.l (.i .i64))), (3, .one (.l (.i .i64))), (9, .one (.own 0)), (10, .one (.l (.i .i64)))], [.arr true 1]⟩
noncomputable def strings_genSplit_L34_b  (v0 : List UInt8) (v1 : List UInt8) (v2 : Int) (v3 : Int) (v10 : Int) (a0 : List AV) (next : (List UInt8) → Int → (List AV) → Option (List AV)) (kx0 : (List UInt8) → Int → (List AV) → Option (List AV)) : Option (List AV) :=
  (bif (decide (v10 < v3)) then (oB (strings_Index v0 v1) fun r1 => (bif (decide (r1 < (0 : Int))) then (kx0 v0 v10 a0) else (oB (cutI v0 none (some (IntKind.i64.wrap (r1 + v2)))) fun s2 => (bif hd a0 a0.length then (bif decide (0 ≤ v10 ∧ v10 < a0.length) then (bif hd a0 a0.length then (oB (a0[v10.toNat]?) fun y3 => (oB (putE y3 0 1 [(.str s2)]) fun z4 => (oB (cutI v0 (some (IntKind.i64.wrap (r1 + (v1.length : Int)))) none) fun s5 => (bif hd (a0.set v10.toNat z4) a0.length then (next s5 (IntKind.i64.wrap (v10 + (1 : Int))) (a0.set v10.toNat z4)) else none)))) else none) else none) else none)))) else (kx0 v0 v10 a0))
noncomputable def strings_genSplit_L34_i  (v1 : List UInt8) (v2 : Int) (v3 : Int) (kx0 : (List UInt8) → Int → (List AV) → Option (List AV)) : Nat → (List UInt8) → Int → (List AV) → Option (List AV)
  | 0 => (fun _ _ _ => none)
  | n + 1 => (fun v0 v10 a0 => strings_genSplit_L34_b v0 v1 v2 v3 v10 a0 (strings_genSplit_L34_i v1 v2 v3 kx0 n) kx0)
noncomputable def strings_genSplit_L34 := hull (strings_genSplit_L34_i)
theorem strings_genSplit_L34_eq : strings_genSplit_L34 = strings_genSplit_L34_i := hull_eq _
noncomputable def a_strings_genSplit_L34 : AC (List AV) :=
  .seq (.seq (.reg [.op ⟨some 34, (.mv (.t 10)), none⟩,
 .op ⟨some 35, (.mv (.t 3)), none⟩,
 .op ⟨some 36, (.bin .lss (.t 34) (.t 35)), none⟩]) (.cond (.t 36) (.skip) (.seq (.view [.sel [0, 9, 10] [0]]) (.exit 0)))) (.block 1 (.seq (.reg [.op ⟨some 37, (.mv (.t 0)), none⟩,
 .op ⟨some 38, (.mv (.t 1)), none⟩,
 .call ⟨some 39, (.call 69 [.t 37, .t 38]), none⟩ 69 ent_strings_Index,
 .op ⟨some 11, (.mv (.t 39)), none⟩]) (.seq (.seq (.reg [.op ⟨some 40, (.mv (.t 11)), none⟩,
 .op ⟨some 41, (.bin .lss (.t 40) (.c (.int .i64 0))), none⟩]) (.cond (.t 41) (.seq (.view [.sel [0, 9, 10] [0]]) (.exit 0)) (.skip))) (.seq (.reg [.op ⟨some 42, (.mv (.t 9)), none⟩,
 .op ⟨some 43, (.mv (.t 10)), none⟩,
 .op ⟨some 44, (.mv (.t 0)), none⟩,
 .op ⟨some 45, (.mv (.t 11)), none⟩,
 .op ⟨some 46, (.mv (.t 2)), none⟩,
 .op ⟨some 47, (.bin .add (.t 45) (.t 46)), none⟩,
 .op ⟨some 48, (.slcs (.t 44) none (some (.t 47))), none⟩,
 .op ⟨some 49, (.ia 1 (.t 42) (.t 43)), none⟩,
 .op ⟨none, (.store 1 (.t 49) (.t 48)), none⟩]) (.seq (.reg [.op ⟨some 50, (.mv (.t 0)), none⟩,
 .op ⟨some 51, (.mv (.t 11)), none⟩,
 .op ⟨some 52, (.mv (.t 1)), none⟩,
 .op ⟨some 53, (.len true (.t 52)), none⟩,
 .op ⟨some 54, (.bin .add (.t 51) (.t 53)), none⟩,
 .op ⟨some 55, (.slcs (.t 50) (some (.t 54)) none), none⟩,
 .op ⟨some 0, (.mv (.t 55)), none⟩]) (.seq (.reg [.op ⟨some 56, (.mv (.t 10)), none⟩,
 .op ⟨some 57, (.bin .add (.t 56) (.c (.int .i64 1))), none⟩,
 .op ⟨some 10, (.mv (.t 57)), none⟩]) (.view [.hd 9, .sel [0, 1, 2, 3, 9, 10] [0]])))))))
theorem ok_strings_genSplit_L34 : AC.ok Tryd.prog (TIof Tryd.prog) 66 0 (kret [.t 8] dec_strings_genSplit) a_strings_genSplit_L34 := (zA (zA zT (zA zT (zA zT zT))) (zA (zA (EntOkB.ok k_strings_Index) zT) (zA (zA zT (zA (zA zT zT) zT)) (zA zT (zA zT (zA zT zT))))))
theorem t_strings_genSplit_L34_b (v0 : List UInt8) (v1 : List UInt8) (v2 : Int) (v3 : Int) (v10 : Int) (a0 : List AV) (K : Ex → Env → Mem → Option (List AV)) : den 0 (kret [.t 8] dec_strings_genSplit) a_strings_genSplit_L34 (envOf [(0, (.str v0)), (1, (.str v1)), (2, (.int .i64 v2)), (3, (.int .i64 v3)), (9, (.own 0 a0.length)), (10, (.int .i64 v10))]) (memOf [(some (.arr true 1 a0))]) K = strings_genSplit_L34_b v0 v1 v2 v3 v10 a0 (fun z_v0 z_v10 z_a0 => K .norm (envOf [(0, (.str z_v0)), (1, (.str v1)), (2, (.int .i64 v2)), (3, (.int .i64 v3)), (9, (.own 0 z_a0.length)), (10, (.int .i64 z_v10))]) (memOf [(some (.arr true 1 z_a0))])) (fun z_v0 z_v10 z_a0 => K (.exit 0) (envOf [(0, (.str z_v0)), (9, (.own 0 z_a0.length)), (10, (.int .i64 z_v10))]) (memOf [(some (.arr true 1 z_a0))])) := by kernel_rfl
theorem t_strings_genSplit_L34 (v1 : List UInt8) (v2 : Int) (v3 : Int) (K : Ex → Env → Mem → Option (List AV)) : ∀ (n : Nat) (v0 : List UInt8) (v10 : Int) (a0 : List AV), iterD (den 0 (kret [.t 8] dec_strings_genSplit) a_strings_genSplit_L34) n (envOf [(0, (.str v0)), (1, (.str v1)), (2, (.int .i64 v2)), (3, (.int .i64 v3)), (9, (.own 0 a0.length)), (10, (.int .i64 v10))]) (memOf [(some (.arr true 1 a0))]) K = strings_genSplit_L34 v1 v2 v3 (fun z_v0 z_v10 z_a0 => K (.exit 0) (envOf [(0, (.str z_v0)), (9, (.own 0 z_a0.length)), (10, (.int .i64 z_v10))]) (memOf [(some (.arr true 1 z_a0))])) n v0 v10 a0 := by
  rw [strings_genSplit_L34_eq]
  intro n
  induction n with
  | zero => intros; rfl
  | succ n ih =>
 intro v0 v10 a0
 exact (t_strings_genSplit_L34_b v0 v1 v2 v3 v10 a0 (itK (den 0 (kret [.t 8] dec_strings_genSplit) a_strings_genSplit_L34) n K)).trans (congrArg (fun q => strings_genSplit_L34_b v0 v1 v2 v3 v10 a0 q (fun z_v0 z_v10 z_a0 => K (.exit 0) (envOf [(0, (.str z_v0)), (9, (.own 0 z_a0.length)), (10, (.int .i64 z_v10))]) (memOf [(some (.arr true 1 z_a0))]))) (funext fun v0 => funext fun v10 => funext fun a0 => ih v0 v10 a0))
noncomputable def s_strings_genSplit_L34 : Env → Mem → (Ex → Env → Mem → Option (List AV)) → Option (List AV) := fun t m K => chk (fitS0 shp_strings_genSplit_L34 t m) (cond (hdS shp_strings_genSplit_L34 t m) (strings_genSplit_L34 (gS [t 1] 0) (gI [t 2] 0) (gI [t 3] 0) (fun z_v0 z_v10 z_a0 => K (.exit 0) (envOf [(0, (.str z_v0)), (9, (.own 0 z_a0.length)), (10, (.int .i64 z_v10))]) (memOf [(some (.arr true 1 z_a0))])) FU (gS [t 0] 0) (gI [t 10] 0) (arL (m.s 0))) none)
theorem o_strings_genSplit_L34 : SubOk Tryd.prog (TIof Tryd.prog) 66 0 (kret [.t 8] dec_strings_genSplit) (.loop (scOf a_strings_genSplit_L34)) s_strings_genSplit_L34 :=
  loop_of tabOk follows ok_strings_genSplit_L34 (er_of (by kernel_rfl)) shp_strings_genSplit_L34 (fun t m K => congrArg (fun z => chk (fitS0 shp_strings_genSplit_L34 t m) (cond (hdS shp_strings_genSplit_L34 t m) z none)) (t_strings_genSplit_L34 (gS [t 1] 0) (gI [t 2] 0) (gI [t 3] 0) K FU (gS [t 0] 0) (gI [t 10] 0) (arL (m.s 0))).symm)
def shp_strings_genSplit : Shp := ⟨[(0, .one (.l .s)), (1, .one (.l .s)), (2, .one (.l (.i .i64))), (3, .one (.l (.i .i64)))], []⟩
noncomputable def strings_genSplit_i (v0 : List UInt8) (v1 : List UInt8) (v2 : Int) (v3 : Int) : Option (List AV) :=
  (bif (v3 == (0 : Int)) then (some ([] : List AV)) else (bif (v1 == ([] : List UInt8)) then none else (strings_genSplit_J19 v0 v1 v2 v3 (fun v3q1 => (bif decide (0 ≤ (if (IntKind.i64.wrap ((v0.length : Int) + (1 : Int))) < v3q1 then (IntKind.i64.wrap ((v0.length : Int) + (1 : Int))) else v3q1) ∧ (if (IntKind.i64.wrap ((v0.length : Int) + (1 : Int))) < v3q1 then (IntKind.i64.wrap ((v0.length : Int) + (1 : Int))) else v3q1) ≤ (if (IntKind.i64.wrap ((v0.length : Int) + (1 : Int))) < v3q1 then (IntKind.i64.wrap ((v0.length : Int) + (1 : Int))) else v3q1) ∧ (if (IntKind.i64.wrap ((v0.length : Int) + (1 : Int))) < v3q1 then (IntKind.i64.wrap ((v0.length : Int) + (1 : Int))) else v3q1) * 16 ≤ 281474976710656) then (bif (hd (List.replicate (if (IntKind.i64.wrap ((v0.length : Int) + (1 : Int))) < v3q1 then (IntKind.i64.wrap ((v0.length : Int) + (1 : Int))) else v3q1).toNat ((.str ([] : List UInt8)) : AV)) ((List.replicate (if (IntKind.i64.wrap ((v0.length : Int) + (1 : Int))) < v3q1 then (IntKind.i64.wrap ((v0.length : Int) + (1 : Int))) else v3q1).toNat ((.str ([] : List UInt8)) : AV)).length) && true) then (strings_genSplit_L34 v1 v2 (IntKind.i64.wrap ((if (IntKind.i64.wrap ((v0.length : Int) + (1 : Int))) < v3q1 then (IntKind.i64.wrap ((v0.length : Int) + (1 : Int))) else v3q1) - (1 : Int))) (fun v0q2 v10q3 a0q4 => (bif hd a0q4 a0q4.length then (bif decide (0 ≤ v10q3 ∧ v10q3 < a0q4.length) then (bif hd a0q4 a0q4.length then (oB (a0q4[v10q3.toNat]?) fun y5 => (oB (putE y5 0 1 [(.str v0q2)]) fun z6 => (bif hd (a0q4.set v10q3.toNat z6) a0q4.length then (oB (cutI (a0q4.set v10q3.toNat z6) none (some (IntKind.i64.wrap (v10q3 + (1 : Int))))) fun s7 => (some s7)) else none))) else none) else none) else none)) FU v0 (0 : Int) (List.replicate (if (IntKind.i64.wrap ((v0.length : Int) + (1 : Int))) < v3q1 then (IntKind.i64.wrap ((v0.length : Int) + (1 : Int))) else v3q1).toNat ((.str ([] : List UInt8)) : AV))) else none) else none)))))
noncomputable def strings_genSplit := hull strings_genSplit_i
theorem strings_genSplit_eq : strings_genSplit = strings_genSplit_i := hull_eq _
noncomputable def a_strings_genSplit : AC (List AV) :=
  .seq (.reg [.op ⟨some 8, (.mv (.c .nils)), none⟩]) (.seq (.seq (.reg [.op ⟨some 12, (.mv (.t 3)), none⟩,
 .op ⟨some 13, (.bin .eql (.t 12) (.c (.int .i64 0))), none⟩]) (.cond (.t 13) (.seq (.reg [.op ⟨some 8, (.mv (.c .nils)), none⟩]) (.seq (.view [.eta 8 (.one (.sl 1))]) (.ret))) (.skip))) (.seq (.seq (.reg [.op ⟨some 14, (.mv (.t 1)), none⟩,
 .op ⟨some 15, (.bin .eql (.t 14) (.c (.str []))), none⟩]) (.cond (.t 15) (.seq (.reg [.op ⟨some 16, (.mv (.t 0)), none⟩,
 .op ⟨some 17, (.mv (.t 3)), none⟩,
 .call ⟨some 18, (.call 67 [.t 16, .t 17]), none⟩ 67 ent_hVoid,
 .op ⟨some 8, (.mv (.t 18)), none⟩]) (.ret)) (.skip))) (.seq (.seq (.view [.sel [0, 1, 2, 3] []]) (.sub (scOf a_strings_genSplit_J19) s_strings_genSplit_J19)) (.seq (.reg [.op ⟨some 25, (.mv (.t 3)), none⟩,
 .op ⟨some 26, (.mv (.t 0)), none⟩,
 .op ⟨some 27, (.len true (.t 26)), none⟩,
 .op ⟨some 28, (.bin .add (.t 27) (.c (.int .i64 1))), none⟩,
 .op ⟨some 29, (.mm false (.t 25) [.t 28]), none⟩,
 .op ⟨some 3, (.mv (.t 29)), none⟩]) (.seq (.reg [.op ⟨some 30, (.mv (.t 3)), none⟩,
 .op ⟨some 31, (.mksl 1 16 (.str []) (.t 30) (.t 30)), none⟩,
 .op ⟨some 9, (.mv (.t 31)), none⟩]) (.seq (.reg [.op ⟨some 32, (.mv (.t 3)), none⟩,
 .op ⟨some 33, (.bin .sub (.t 32) (.c (.int .i64 1))), none⟩,
 .op ⟨some 3, (.mv (.t 33)), none⟩]) (.seq (.reg [.op ⟨some 10, (.mv (.c (.int .i64 0))), none⟩]) (.seq (.block 0 (.seq (.view [.sel [0, 1, 2, 3, 9, 10] [0]]) (.sub (.loop (scOf a_strings_genSplit_L34)) s_strings_genSplit_L34))) (.seq (.reg [.op ⟨some 58, (.mv (.t 9)), none⟩,
 .op ⟨some 59, (.mv (.t 10)), none⟩,
 .op ⟨some 60, (.mv (.t 0)), none⟩,
 .op ⟨some 61, (.ia 1 (.t 58) (.t 59)), none⟩,
 .op ⟨none, (.store 1 (.t 61) (.t 60)), none⟩]) (.seq (.reg [.op ⟨some 62, (.mv (.t 9)), none⟩,
 .op ⟨some 63, (.mv (.t 10)), none⟩,
 .op ⟨some 64, (.bin .add (.t 63) (.c (.int .i64 1))), none⟩,
 .op ⟨some 65, (.slc 1 (.t 62) none (some (.t 64))), none⟩,
 .op ⟨some 8, (.mv (.t 65)), none⟩]) (.ret)))))))))))
theorem ok_strings_genSplit : AC.ok Tryd.prog (TIof Tryd.prog) 66 0 (kret [.t 8] dec_strings_genSplit) a_strings_genSplit := (zA zT (zA (zA zT (zA (zA zT (zA zT zT)) zT)) (zA (zA zT (zA (zA (zA k_void zT) zT) zT)) (zA (zA zT o_strings_genSplit_J19) (zA zT (zA zT (zA zT (zA zT (zA (zA zT o_strings_genSplit_L34) (zA zT (zA zT zT)))))))))))
theorem t_strings_genSplit (v0 : List UInt8) (v1 : List UInt8) (v2 : Int) (v3 : Int) : den 0 (kret [.t 8] dec_strings_genSplit) a_strings_genSplit (envOf [(0, (.str v0)), (1, (.str v1)), (2, (.int .i64 v2)), (3, (.int .i64 v3))]) (memOf []) (kend (kret [.t 8] dec_strings_genSplit)) = strings_genSplit v0 v1 v2 v3 := by
  rw [strings_genSplit_eq]; kernel_rfl
theorem c_strings_genSplit : cFn (TIof Tryd.prog) Tryd.f53 = some ⟨66, [.t 8], scOf a_strings_genSplit⟩ := by kernel_rfl
noncomputable def ent_strings_genSplit {R : Type} (xs : List AV) (K : AV → Option R) : Option R := chk (fitS shp_strings_genSplit (entry xs) Mem.none) (oB (strings_genSplit (gS [(entry xs) 0] 0) (gS [(entry xs) 1] 0) (gI [(entry xs) 2] 0) (gI [(entry xs) 3] 0)) fun r => K (enc_strings_genSplit r))
theorem k_strings_genSplit {R : Type} : EntOkB Tryd.prog 53 (ent_strings_genSplit (R := R)) :=
  ent_of (F := fun xs => strings_genSplit (gS [(entry xs) 0] 0) (gS [(entry xs) 1] 0) (gI [(entry xs) 2] 0) (gI [(entry xs) 3] 0)) (enc := enc_strings_genSplit) tabOk follows Tryd.func53 (by kernel_rfl) c_strings_genSplit (fun z r h => by
 obtain ⟨h1, h2⟩ := cond_some h
 cases h2
 exact (etaRV_eq h1).symm) ok_strings_genSplit (er_of (by kernel_rfl)) shp_strings_genSplit (fun xs => t_strings_genSplit (gS [(entry xs) 0] 0) (gS [(entry xs) 1] 0) (gI [(entry xs) 2] 0) (gI [(entry xs) 3] 0)) (fun xs K r h => by
 unfold ent_strings_genSplit at h
 exact ⟨(chk_some h).1, oB_some (chk_some h).2⟩)
def dec_strings_Split (z : AV) : Option (List AV) := cond (fitRV (.one (.sl 1)) z) (some (aL z)) none
def enc_strings_Split (r : (List AV)) : AV := .sl 1 r
def shp_strings_Split : Shp := ⟨[(0, .one (.l .s)), (1, .one (.l .s))], []⟩
noncomputable def strings_Split_i (v0 : List UInt8) (v1 : List UInt8) : Option (List AV) :=
  (oB (strings_genSplit v0 v1 (0 : Int) (-1 : Int)) fun r1 => (some r1))
noncomputable def strings_Split := hull strings_Split_i
theorem strings_Split_eq : strings_Split = strings_Split_i := hull_eq _
noncomputable def a_strings_Split : AC (List AV) :=
  .seq (.reg [.op ⟨some 4, (.mv (.c .nils)), none⟩]) (.seq (.reg [.op ⟨some 5, (.mv (.t 0)), none⟩,
 .op ⟨some 6, (.mv (.t 1)), none⟩,
 .callc ⟨some 7, (.call 53 [.t 5, .t 6, (.c (.int .i64 0)), (.c (.int .i64 (-1)))]), none⟩ 53 ent_strings_genSplit,
 .op ⟨some 4, (.mv (.t 7)), none⟩]) (.ret))
theorem ok_strings_Split : AC.ok Tryd.prog (TIof Tryd.prog) 8 0 (kret [.t 4] dec_strings_Split) a_strings_Split := (zA zT (zA (zA (EntOkB.ok k_strings_genSplit) zT) zT))
theorem t_strings_Split (v0 : List UInt8) (v1 : List UInt8) : den 0 (kret [.t 4] dec_strings_Split) a_strings_Split (envOf [(0, (.str v0)), (1, (.str v1))]) (memOf []) (kend (kret [.t 4] dec_strings_Split)) = strings_Split v0 v1 := by
  rw [strings_Split_eq]; kernel_rfl
theorem c_strings_Split : cFn (TIof Tryd.prog) Tryd.f33 = some ⟨8, [.t 4], scOf a_strings_Split⟩ := by kernel_rfl
noncomputable def ent_strings_Split {R : Type} (xs : List AV) (K : AV → Option R) : Option R := chk (fitS shp_strings_Split (entry xs) Mem.none) (oB (strings_Split (gS [(entry xs) 0] 0) (gS [(entry xs) 1] 0)) fun r => K (enc_strings_Split r))
theorem k_strings_Split {R : Type} : EntOkB Tryd.prog 33 (ent_strings_Split (R := R)) :=
  ent_of (F := fun xs => strings_Split (gS [(entry xs) 0] 0) (gS [(entry xs) 1] 0)) (enc := enc_strings_Split) tabOk follows Tryd.func33 (by kernel_rfl) c_strings_Split (fun z r h => by
 obtain ⟨h1, h2⟩ := cond_some h
 cases h2
 exact (etaRV_eq h1).symm) ok_strings_Split (er_of (by kernel_rfl)) shp_strings_Split (fun xs => t_strings_Split (gS [(entry xs) 0] 0) (gS [(entry xs) 1] 0)) (fun xs K r h => by
 unfold ent_strings_Split at h
 exact ⟨(chk_some h).1, oB_some (chk_some h).2⟩)
def dec_dname_ordinary (z : AV) : Option Bool := cond (fitRV (.one .b) z) (some (aB z)) none
def enc_dname_ordinary (r : Bool) : AV := .bool r
def shp_dname_ordinary_J28 : Shp := ⟨[(0, .one (.l .s)), (4, .one (.l (.i .u8))), (13, .one (.l (.i .i64))), (14, .one (.l (.i .i64)))], []⟩
noncomputable def dname_ordinary_J28_i  (v0 : List UInt8) (v4 : Int) (v13 : Int) (v14 : Int) (kn : Bool → Option Bool) : Option Bool :=
  (bif ((decide (v4 < (97 : Int))) || (decide (v4 > (122 : Int)))) then (bif (decide (v4 < (48 : Int))) then (kn ((v4 != (45 : Int)) && (v4 != (95 : Int)))) else (kn (((decide (v4 > (57 : Int))) && (v4 != (45 : Int))) && (v4 != (95 : Int))))) else (kn false))
noncomputable def dname_ordinary_J28 := hull (dname_ordinary_J28_i)
theorem dname_ordinary_J28_eq : dname_ordinary_J28 = dname_ordinary_J28_i := hull_eq _
noncomputable def a_dname_ordinary_J28 : AC Bool :=
  .seq (.reg [.op ⟨some 20, (.mv (.t 4)), none⟩,
 .op ⟨some 21, (.bin .lss (.t 20) (.c (.int .u8 97))), none⟩,
 .op ⟨some 22, (.mv (.t 21)), none⟩,
 .grp 22 false [⟨some 23, (.mv (.t 4)), (some (22, false))⟩, ⟨some 24, (.bin .gtr (.t 23) (.c (.int .u8 122))), (some (22, false))⟩] 25 (.t 24),
 .op ⟨some 26, (.mv (.t 25)), none⟩,
 .op ⟨some 27, (.mv (.t 4)), (some (26, true))⟩,
 .op ⟨some 28, (.bin .lss (.t 27) (.c (.int .u8 48))), (some (26, true))⟩,
 .op ⟨some 29, (.mv (.t 28)), (some (26, true))⟩,
 .op ⟨some 30, (.mv (.t 4)), (some (29, false))⟩,
 .op ⟨some 31, (.bin .gtr (.t 30) (.c (.int .u8 57))), (some (29, false))⟩,
 .op ⟨some 32, (.pick (.t 29) (.c (.bool true)) (.t 31)), (some (26, true))⟩,
 .op ⟨some 33, (.pick (.t 26) (.t 32) (.c (.bool false))), none⟩,
 .op ⟨some 34, (.mv (.t 33)), none⟩,
 .grp 34 true [⟨some 35, (.mv (.t 4)), (some (34, true))⟩, ⟨some 36, (.bin .neq (.t 35) (.c (.int .u8 45))), (some (34, true))⟩] 37 (.t 36),
 .op ⟨some 38, (.mv (.t 37)), none⟩,
 .grp 38 true [⟨some 39, (.mv (.t 4)), (some (38, true))⟩, ⟨some 40, (.bin .neq (.t 39) (.c (.int .u8 95))), (some (38, true))⟩] 41 (.t 40)]) (.view [.sel [0, 13, 14, 41] []])
theorem ok_dname_ordinary_J28 : AC.ok Tryd.prog (TIof Tryd.prog) 43 0 (kret [.t 2] dec_dname_ordinary) a_dname_ordinary_J28 := (zA zT zT)
theorem t_dname_ordinary_J28 (v0 : List UInt8) (v4 : Int) (v13 : Int) (v14 : Int) (K : Ex → Env → Mem → Option Bool) : den 0 (kret [.t 2] dec_dname_ordinary) a_dname_ordinary_J28 (envOf [(0, (.str v0)), (4, (.int .u8 v4)), (13, (.int .i64 v13)), (14, (.int .i64 v14))]) (memOf []) K = dname_ordinary_J28 v0 v4 v13 v14 (fun z_v41 => K .norm (envOf [(0, (.str v0)), (13, (.int .i64 v13)), (14, (.int .i64 v14)), (41, (.bool z_v41))]) (memOf [])) := by
  rw [dname_ordinary_J28_eq]; kernel_rfl
noncomputable def s_dname_ordinary_J28 : Env → Mem → (Ex → Env → Mem → Option Bool) → Option Bool := fun t m K => chk (fitS0 shp_dname_ordinary_J28 t m) (cond (hdS shp_dname_ordinary_J28 t m) (dname_ordinary_J28 (gS [t 0] 0) (gI [t 4] 0) (gI [t 13] 0) (gI [t 14] 0) (fun z_v41 => K .norm (envOf [(0, (.str (gS [t 0] 0))), (13, (.int .i64 (gI [t 13] 0))), (14, (.int .i64 (gI [t 14] 0))), (41, (.bool z_v41))]) (memOf []))) none)
theorem o_dname_ordinary_J28 : SubOk Tryd.prog (TIof Tryd.prog) 43 0 (kret [.t 2] dec_dname_ordinary) (scOf a_dname_ordinary_J28) s_dname_ordinary_J28 :=
  sub_of tabOk follows ok_dname_ordinary_J28 (er_of (by kernel_rfl)) shp_dname_ordinary_J28 (fun t m K => congrArg (fun z => chk (fitS0 shp_dname_ordinary_J28 t m) (cond (hdS shp_dname_ordinary_J28 t m) z none)) (t_dname_ordinary_J28 (gS [t 0] 0) (gI [t 4] 0) (gI [t 13] 0) (gI [t 14] 0) K).symm)
def shp_dname_ordinary_L14 : Shp := ⟨[(0, .one (.l .s)), (13, .one (.l (.i .i64))), (14, .one (.l (.i .i64)))], []⟩
noncomputable def dname_ordinary_L14_b  (v0 : List UInt8) (v13 : Int) (v14 : Int) (next : Int → Option Bool) (kx0 : Unit → Option Bool) : Option Bool :=
  (bif (decide (v14 < v13)) then (oB (ixB v0 v14) fun c1 => (dname_ordinary_J28 v0 (c1.toNat : Int) v13 v14 (fun v41q2 => (bif v41q2 then (some false) else (next (IntKind.i64.wrap (v14 + (1 : Int)))))))) else (kx0 ()))
noncomputable def dname_ordinary_L14_i  (v0 : List UInt8) (v13 : Int) (kx0 : Unit → Option Bool) : Nat → Int → Option Bool
  | 0 => (fun _ => none)
  | n + 1 => (fun v14 => dname_ordinary_L14_b v0 v13 v14 (dname_ordinary_L14_i v0 v13 kx0 n) kx0)
noncomputable def dname_ordinary_L14 := hull (dname_ordinary_L14_i)
theorem dname_ordinary_L14_eq : dname_ordinary_L14 = dname_ordinary_L14_i := hull_eq _
noncomputable def a_dname_ordinary_L14 : AC Bool :=
  .seq (.reg [.op ⟨some 15, (.bin .lss (.t 14) (.t 13)), none⟩]) (.seq (.cond (.t 15) (.skip) (.seq (.view [.sel [] []]) (.exit 0))) (.seq (.block 1 (.seq (.reg [.op ⟨some 16, (.mv (.t 14)), none⟩,
 .op ⟨some 3, (.mv (.t 16)), none⟩]) (.seq (.reg [.op ⟨some 17, (.mv (.t 0)), none⟩,
 .op ⟨some 18, (.mv (.t 3)), none⟩,
 .op ⟨some 19, (.ixs (.t 17) (.t 18)), none⟩,
 .op ⟨some 4, (.mv (.t 19)), none⟩]) (.seq (.seq (.view [.sel [0, 4, 13, 14] []]) (.sub (scOf a_dname_ordinary_J28) s_dname_ordinary_J28)) (.cond (.t 41) (.seq (.reg [.op ⟨some 2, (.mv (.c (.bool false))), none⟩]) (.ret)) (.skip)))))) (.seq (.reg [.op ⟨some 42, (.bin .add (.t 14) (.c (.int .i64 1))), none⟩,
 .op ⟨some 14, (.mv (.t 42)), none⟩]) (.view [.sel [0, 13, 14] []]))))
theorem ok_dname_ordinary_L14 : AC.ok Tryd.prog (TIof Tryd.prog) 43 0 (kret [.t 2] dec_dname_ordinary) a_dname_ordinary_L14 := (zA zT (zA (zA zT (zA zT zT)) (zA (zA zT (zA zT (zA (zA zT o_dname_ordinary_J28) (zA (zA zT zT) zT)))) (zA zT zT))))
theorem t_dname_ordinary_L14_b (v0 : List UInt8) (v13 : Int) (v14 : Int) (K : Ex → Env → Mem → Option Bool) : den 0 (kret [.t 2] dec_dname_ordinary) a_dname_ordinary_L14 (envOf [(0, (.str v0)), (13, (.int .i64 v13)), (14, (.int .i64 v14))]) (memOf []) K = dname_ordinary_L14_b v0 v13 v14 (fun z_v14 => K .norm (envOf [(0, (.str v0)), (13, (.int .i64 v13)), (14, (.int .i64 z_v14))]) (memOf [])) (fun _ => K (.exit 0) (envOf []) (memOf [])) := by kernel_rfl
theorem t_dname_ordinary_L14 (v0 : List UInt8) (v13 : Int) (K : Ex → Env → Mem → Option Bool) : ∀ (n : Nat) (v14 : Int), iterD (den 0 (kret [.t 2] dec_dname_ordinary) a_dname_ordinary_L14) n (envOf [(0, (.str v0)), (13, (.int .i64 v13)), (14, (.int .i64 v14))]) (memOf []) K = dname_ordinary_L14 v0 v13 (fun _ => K (.exit 0) (envOf []) (memOf [])) n v14 := by
  rw [dname_ordinary_L14_eq]
  intro n
  induction n with
  | zero => intros; rfl
  | succ n ih =>
 intro v14
 exact (t_dname_ordinary_L14_b v0 v13 v14 (itK (den 0 (kret [.t 2] dec_dname_ordinary) a_dname_ordinary_L14) n K)).trans (congrArg (fun q => dname_ordinary_L14_b v0 v13 v14 q (fun _ => K (.exit 0) (envOf []) (memOf []))) (funext fun v14 => ih v14))
noncomputable def s_dname_ordinary_L14 : Env → Mem → (Ex → Env → Mem → Option Bool) → Option Bool := fun t m K => chk (fitS0 shp_dname_ordinary_L14 t m) (cond (hdS shp_dname_ordinary_L14 t m) (dname_ordinary_L14 (gS [t 0] 0) (gI [t 13] 0) (fun _ => K (.exit 0) (envOf []) (memOf [])) FU (gI [t 14] 0)) none)
theorem o_dname_ordinary_L14 : SubOk Tryd.prog (TIof Tryd.prog) 43 0 (kret [.t 2] dec_dname_ordinary) (.loop (scOf a_dname_ordinary_L14)) s_dname_ordinary_L14 :=
  loop_of tabOk follows ok_dname_ordinary_L14 (er_of (by kernel_rfl)) shp_dname_ordinary_L14 (fun t m K => congrArg (fun z => chk (fitS0 shp_dname_ordinary_L14 t m) (cond (hdS shp_dname_ordinary_L14 t m) z none)) (t_dname_ordinary_L14 (gS [t 0] 0) (gI [t 13] 0) K FU (gI [t 14] 0)).symm)
def shp_dname_ordinary : Shp := ⟨[(0, .one (.l .s))], []⟩
noncomputable def dname_ordinary_i (v0 : List UInt8) : Option Bool :=
  (bif ((v0 == ([] : List UInt8)) || (decide ((v0.length : Int) > (63 : Int)))) then (some false) else (dname_ordinary_L14 v0 (v0.length : Int) (fun (_ : Unit) => (some true)) FU (0 : Int)))
noncomputable def dname_ordinary := hull dname_ordinary_i
theorem dname_ordinary_eq : dname_ordinary = dname_ordinary_i := hull_eq _
noncomputable def a_dname_ordinary : AC Bool :=
  .seq (.reg [.op ⟨some 2, (.mv (.c (.bool false))), none⟩]) (.seq (.seq (.reg [.op ⟨some 5, (.mv (.t 0)), none⟩,
 .op ⟨some 6, (.bin .eql (.t 5) (.c (.str []))), none⟩,
 .op ⟨some 7, (.mv (.t 6)), none⟩,
 .grp 7 false [⟨some 8, (.mv (.t 0)), (some (7, false))⟩, ⟨some 9, (.len true (.t 8)), (some (7, false))⟩, ⟨some 10, (.bin .gtr (.t 9) (.c (.int .i64 63))), (some (7, false))⟩] 11 (.t 10)]) (.cond (.t 11) (.seq (.reg [.op ⟨some 2, (.mv (.c (.bool false))), none⟩]) (.ret)) (.skip))) (.seq (.seq (.reg [.op ⟨some 12, (.mv (.t 0)), none⟩,
 .op ⟨some 13, (.len true (.t 12)), none⟩,
 .op ⟨some 14, (.mv (.c (.int .i64 0))), none⟩]) (.block 0 (.seq (.view [.sel [0, 13, 14] []]) (.sub (.loop (scOf a_dname_ordinary_L14)) s_dname_ordinary_L14)))) (.seq (.reg [.op ⟨some 2, (.mv (.c (.bool true))), none⟩]) (.ret))))
theorem ok_dname_ordinary : AC.ok Tryd.prog (TIof Tryd.prog) 43 0 (kret [.t 2] dec_dname_ordinary) a_dname_ordinary := (zA zT (zA (zA zT (zA (zA zT zT) zT)) (zA (zA zT (zA zT o_dname_ordinary_L14)) (zA zT zT))))
theorem t_dname_ordinary (v0 : List UInt8) : den 0 (kret [.t 2] dec_dname_ordinary) a_dname_ordinary (envOf [(0, (.str v0))]) (memOf []) (kend (kret [.t 2] dec_dname_ordinary)) = dname_ordinary v0 := by
  rw [dname_ordinary_eq]; kernel_rfl
theorem c_dname_ordinary : cFn (TIof Tryd.prog) Tryd.f52 = some ⟨43, [.t 2], scOf a_dname_ordinary⟩ := by kernel_rfl
noncomputable def ent_dname_ordinary {R : Type} (xs : List AV) (K : AV → Option R) : Option R := chk (fitS shp_dname_ordinary (entry xs) Mem.none) (oB (dname_ordinary (gS [(entry xs) 0] 0)) fun r => K (enc_dname_ordinary r))
theorem k_dname_ordinary {R : Type} : EntOkB Tryd.prog 52 (ent_dname_ordinary (R := R)) :=
  ent_of (F := fun xs => dname_ordinary (gS [(entry xs) 0] 0)) (enc := enc_dname_ordinary) tabOk follows Tryd.func52 (by kernel_rfl) c_dname_ordinary (fun z r h => by
 obtain ⟨h1, h2⟩ := cond_some h
 cases h2
 exact (etaRV_eq h1).symm) ok_dname_ordinary (er_of (by kernel_rfl)) shp_dname_ordinary (fun xs => t_dname_ordinary (gS [(entry xs) 0] 0)) (fun xs K r h => by
 unfold ent_dname_ordinary at h
 exact ⟨(chk_some h).1, oB_some (chk_some h).2⟩)
def dec_dname_Valid (z : AV) : Option Bool := cond (fitRV (.one .b) z) (some (aB z)) none
def enc_dname_Valid (r : Bool) : AV := .bool r
def shp_dname_Valid_J12 : Shp := ⟨[(0, .one (.l .s))], []⟩
noncomputable def dname_Valid_J12_i  (v0 : List UInt8) (kn : Bool → Option Bool) : Option Bool :=
  (bif (decide ((v0.length : Int) ≥ (255 : Int))) then (kn true) else (oB (strings_HasSuffix v0 ([46] : List UInt8)) fun r1 => (kn (!r1))))
noncomputable def dname_Valid_J12 := hull (dname_Valid_J12_i)
theorem dname_Valid_J12_eq : dname_Valid_J12 = dname_Valid_J12_i := hull_eq _
noncomputable def a_dname_Valid_J12 : AC Bool :=
  .seq (.reg [.op ⟨some 7, (.mv (.t 0)), none⟩,
 .op ⟨some 8, (.len true (.t 7)), none⟩,
 .op ⟨some 9, (.bin .geq (.t 8) (.c (.int .i64 255))), none⟩,
 .op ⟨some 10, (.mv (.t 9)), none⟩,
 .op ⟨some 11, (.mv (.t 0)), (some (10, false))⟩,
 .call ⟨some 12, (.call 51 [.t 11, (.c (.str [46]))]), (some (10, false))⟩ 51 ent_strings_HasSuffix,
 .op ⟨some 13, (.un .not (.t 12)), (some (10, false))⟩,
 .op ⟨some 14, (.pick (.t 10) (.c (.bool true)) (.t 13)), none⟩]) (.view [.sel [0, 14] []])
theorem ok_dname_Valid_J12 : AC.ok Tryd.prog (TIof Tryd.prog) 39 0 (kret [.t 2] dec_dname_Valid) a_dname_Valid_J12 := (zA (zA (EntOkB.ok k_strings_HasSuffix) zT) zT)
theorem t_dname_Valid_J12 (v0 : List UInt8) (K : Ex → Env → Mem → Option Bool) : den 0 (kret [.t 2] dec_dname_Valid) a_dname_Valid_J12 (envOf [(0, (.str v0))]) (memOf []) K = dname_Valid_J12 v0 (fun z_v14 => K .norm (envOf [(0, (.str v0)), (14, (.bool z_v14))]) (memOf [])) := by
  rw [dname_Valid_J12_eq]; kernel_rfl
noncomputable def s_dname_Valid_J12 : Env → Mem → (Ex → Env → Mem → Option Bool) → Option Bool := fun t m K => chk (fitS0 shp_dname_Valid_J12 t m) (cond (hdS shp_dname_Valid_J12 t m) (dname_Valid_J12 (gS [t 0] 0) (fun z_v14 => K .norm (envOf [(0, (.str (gS [t 0] 0))), (14, (.bool z_v14))]) (memOf []))) none)
theorem o_dname_Valid_J12 : SubOk Tryd.prog (TIof Tryd.prog) 39 0 (kret [.t 2] dec_dname_Valid) (scOf a_dname_Valid_J12) s_dname_Valid_J12 :=
  sub_of tabOk follows ok_dname_Valid_J12 (er_of (by kernel_rfl)) shp_dname_Valid_J12 (fun t m K => congrArg (fun z => chk (fitS0 shp_dname_Valid_J12 t m) (cond (hdS shp_dname_Valid_J12 t m) z none)) (t_dname_Valid_J12 (gS [t 0] 0) K).symm)
def shp_dname_Valid_J34 : Shp := ⟨[(3, .one (.l (.i .i64))), (4, .one (.l .s)), (20, .one (.l (.sl 1))), (21, .one (.l (.i .i64))), (22, .one (.l (.i .i64)))], []⟩
noncomputable def dname_Valid_J34_i  (v3 : Int) (v4 : List UInt8) (v20 : List AV) (v21 : Int) (v22 : Int) (kn : Bool → Option Bool) : Option Bool :=
  (oB (dname_ordinary v4) fun r1 => (bif (!r1) then (bif (decide (v3 > (0 : Int))) then (kn true) else (kn (!(v4 == ([42] : List UInt8))))) else (kn false)))
noncomputable def dname_Valid_J34 := hull (dname_Valid_J34_i)
theorem dname_Valid_J34_eq : dname_Valid_J34 = dname_Valid_J34_i := hull_eq _
noncomputable def a_dname_Valid_J34 : AC Bool :=
  .seq (.reg [.op ⟨some 27, (.mv (.t 4)), none⟩,
 .call ⟨some 28, (.call 52 [.t 27]), none⟩ 52 ent_dname_ordinary,
 .op ⟨some 29, (.un .not (.t 28)), none⟩,
 .op ⟨some 30, (.mv (.t 29)), none⟩,
 .op ⟨some 31, (.mv (.t 3)), (some (30, true))⟩,
 .op ⟨some 32, (.bin .gtr (.t 31) (.c (.int .i64 0))), (some (30, true))⟩,
 .op ⟨some 33, (.mv (.t 32)), (some (30, true))⟩,
 .op ⟨some 34, (.mv (.t 4)), (some (33, false))⟩,
 .op ⟨some 35, (.bin .neq (.t 34) (.c (.str [42]))), (some (33, false))⟩,
 .op ⟨some 36, (.pick (.t 33) (.c (.bool true)) (.t 35)), (some (30, true))⟩,
 .op ⟨some 37, (.pick (.t 30) (.t 36) (.c (.bool false))), none⟩]) (.view [.sel [20, 21, 22, 37] []])
theorem ok_dname_Valid_J34 : AC.ok Tryd.prog (TIof Tryd.prog) 39 0 (kret [.t 2] dec_dname_Valid) a_dname_Valid_J34 := (zA (zA (EntOkB.ok k_dname_ordinary) zT) zT)
theorem t_dname_Valid_J34 (v3 : Int) (v4 : List UInt8) (v20 : List AV) (v21 : Int) (v22 : Int) (K : Ex → Env → Mem → Option Bool) : den 0 (kret [.t 2] dec_dname_Valid) a_dname_Valid_J34 (envOf [(3, (.int .i64 v3)), (4, (.str v4)), (20, (.sl 1 v20)), (21, (.int .i64 v21)), (22, (.int .i64 v22))]) (memOf []) K = dname_Valid_J34 v3 v4 v20 v21 v22 (fun z_v37 => K .norm (envOf [(20, (.sl 1 v20)), (21, (.int .i64 v21)), (22, (.int .i64 v22)), (37, (.bool z_v37))]) (memOf [])) := by
  rw [dname_Valid_J34_eq]; kernel_rfl
noncomputable def s_dname_Valid_J34 : Env → Mem → (Ex → Env → Mem → Option Bool) → Option Bool := fun t m K => chk (fitS0 shp_dname_Valid_J34 t m) (cond (hdS shp_dname_Valid_J34 t m) (dname_Valid_J34 (gI [t 3] 0) (gS [t 4] 0) (gL [t 20] 0) (gI [t 21] 0) (gI [t 22] 0) (fun z_v37 => K .norm (envOf [(20, (.sl 1 (gL [t 20] 0))), (21, (.int .i64 (gI [t 21] 0))), (22, (.int .i64 (gI [t 22] 0))), (37, (.bool z_v37))]) (memOf []))) none)
theorem o_dname_Valid_J34 : SubOk Tryd.prog (TIof Tryd.prog) 39 0 (kret [.t 2] dec_dname_Valid) (scOf a_dname_Valid_J34) s_dname_Valid_J34 :=
  sub_of tabOk follows ok_dname_Valid_J34 (er_of (by kernel_rfl)) shp_dname_Valid_J34 (fun t m K => congrArg (fun z => chk (fitS0 shp_dname_Valid_J34 t m) (cond (hdS shp_dname_Valid_J34 t m) z none)) (t_dname_Valid_J34 (gI [t 3] 0) (gS [t 4] 0) (gL [t 20] 0) (gI [t 21] 0) (gI [t 22] 0) K).symm)
def shp_dname_Valid_L22 : Shp := ⟨[(20, .one (.l (.sl 1))), (21, .one (.l (.i .i64))), (22, .one (.l (.i .i64)))], []⟩
noncomputable def dname_Valid_L22_b  (v20 : List AV) (v21 : Int) (v22 : Int) (next : Int → Option Bool) (kx0 : Unit → Option Bool) : Option Bool :=
  (bif (decide (v22 < v21)) then (oB (ixB v20 v22) fun y1 => (bif fitC [.s] y1.cells then (dname_Valid_J34 v22 (gS y1.cells 0) v20 v21 v22 (fun v37q2 => (bif v37q2 then (some false) else (next (IntKind.i64.wrap (v22 + (1 : Int))))))) else none)) else (kx0 ()))
noncomputable def dname_Valid_L22_i  (v20 : List AV) (v21 : Int) (kx0 : Unit → Option Bool) : Nat → Int → Option Bool
  | 0 => (fun _ => none)
  | n + 1 => (fun v22 => dname_Valid_L22_b v20 v21 v22 (dname_Valid_L22_i v20 v21 kx0 n) kx0)
noncomputable def dname_Valid_L22 := hull (dname_Valid_L22_i)
theorem dname_Valid_L22_eq : dname_Valid_L22 = dname_Valid_L22_i := hull_eq _
noncomputable def a_dname_Valid_L22 : AC Bool :=
  .seq (.reg [.op ⟨some 23, (.bin .lss (.t 22) (.t 21)), none⟩]) (.seq (.cond (.t 23) (.skip) (.seq (.view [.sel [] []]) (.exit 0))) (.seq (.block 1 (.seq (.reg [.op ⟨some 24, (.mv (.t 22)), none⟩,
 .op ⟨some 25, (.ia 1 (.t 20) (.t 22)), none⟩,
 .st (.etac 25 [.s]),
 .op ⟨some 26, (.load false 1 (.t 25)), none⟩,
 .op ⟨some 3, (.mv (.t 24)), none⟩,
 .op ⟨some 4, (.mv (.t 26)), none⟩]) (.seq (.seq (.view [.sel [3, 4, 20, 21, 22] []]) (.sub (scOf a_dname_Valid_J34) s_dname_Valid_J34)) (.cond (.t 37) (.seq (.reg [.op ⟨some 2, (.mv (.c (.bool false))), none⟩]) (.ret)) (.skip))))) (.seq (.reg [.op ⟨some 38, (.bin .add (.t 22) (.c (.int .i64 1))), none⟩,
 .op ⟨some 22, (.mv (.t 38)), none⟩]) (.view [.sel [20, 21, 22] []]))))
theorem ok_dname_Valid_L22 : AC.ok Tryd.prog (TIof Tryd.prog) 39 0 (kret [.t 2] dec_dname_Valid) a_dname_Valid_L22 := (zA zT (zA (zA zT (zA zT zT)) (zA (zA zT (zA (zA zT o_dname_Valid_J34) (zA (zA zT zT) zT))) (zA zT zT))))
theorem t_dname_Valid_L22_b (v20 : List AV) (v21 : Int) (v22 : Int) (K : Ex → Env → Mem → Option Bool) : den 0 (kret [.t 2] dec_dname_Valid) a_dname_Valid_L22 (envOf [(20, (.sl 1 v20)), (21, (.int .i64 v21)), (22, (.int .i64 v22))]) (memOf []) K = dname_Valid_L22_b v20 v21 v22 (fun z_v22 => K .norm (envOf [(20, (.sl 1 v20)), (21, (.int .i64 v21)), (22, (.int .i64 z_v22))]) (memOf [])) (fun _ => K (.exit 0) (envOf []) (memOf [])) := by kernel_rfl
theorem t_dname_Valid_L22 (v20 : List AV) (v21 : Int) (K : Ex → Env → Mem → Option Bool) : ∀ (n : Nat) (v22 : Int), iterD (den 0 (kret [.t 2] dec_dname_Valid) a_dname_Valid_L22) n (envOf [(20, (.sl 1 v20)), (21, (.int .i64 v21)), (22, (.int .i64 v22))]) (memOf []) K = dname_Valid_L22 v20 v21 (fun _ => K (.exit 0) (envOf []) (memOf [])) n v22 := by
  rw [dname_Valid_L22_eq]
  intro n
  induction n with
  | zero => intros; rfl
  | succ n ih =>
 intro v22
 exact (t_dname_Valid_L22_b v20 v21 v22 (itK (den 0 (kret [.t 2] dec_dname_Valid) a_dname_Valid_L22) n K)).trans (congrArg (fun q => dname_Valid_L22_b v20 v21 v22 q (fun _ => K (.exit 0) (envOf []) (memOf []))) (funext fun v22 => ih v22))
noncomputable def s_dname_Valid_L22 : Env → Mem → (Ex → Env → Mem → Option Bool) → Option Bool := fun t m K => chk (fitS0 shp_dname_Valid_L22 t m) (cond (hdS shp_dname_Valid_L22 t m) (dname_Valid_L22 (gL [t 20] 0) (gI [t 21] 0) (fun _ => K (.exit 0) (envOf []) (memOf [])) FU (gI [t 22] 0)) none)
theorem o_dname_Valid_L22 : SubOk Tryd.prog (TIof Tryd.prog) 39 0 (kret [.t 2] dec_dname_Valid) (.loop (scOf a_dname_Valid_L22)) s_dname_Valid_L22 :=
  loop_of tabOk follows ok_dname_Valid_L22 (er_of (by kernel_rfl)) shp_dname_Valid_L22 (fun t m K => congrArg (fun z => chk (fitS0 shp_dname_Valid_L22 t m) (cond (hdS shp_dname_Valid_L22 t m) z none)) (t_dname_Valid_L22 (gL [t 20] 0) (gI [t 21] 0) K FU (gI [t 22] 0)).symm)
def shp_dname_Valid : Shp := ⟨[(0, .one (.l .s))], []⟩
noncomputable def dname_Valid_i (v0 : List UInt8) : Option Bool :=
  (bif (v0 == ([46] : List UInt8)) then (some true) else (dname_Valid_J12 v0 (fun v14q1 => (bif v14q1 then (some false) else (oB (cutI v0 none (some (IntKind.i64.wrap ((v0.length : Int) - (1 : Int))))) fun s2 => (oB (strings_Split s2 ([46] : List UInt8)) fun r3 => (dname_Valid_L22 r3 (r3.length : Int) (fun (_ : Unit) => (some true)) FU (0 : Int))))))))
noncomputable def dname_Valid := hull dname_Valid_i
theorem dname_Valid_eq : dname_Valid = dname_Valid_i := hull_eq _
noncomputable def a_dname_Valid : AC Bool :=
  .seq (.reg [.op ⟨some 2, (.mv (.c (.bool false))), none⟩]) (.seq (.seq (.reg [.op ⟨some 5, (.mv (.t 0)), none⟩,
 .op ⟨some 6, (.bin .eql (.t 5) (.c (.str [46]))), none⟩]) (.cond (.t 6) (.seq (.reg [.op ⟨some 2, (.mv (.c (.bool true))), none⟩]) (.ret)) (.skip))) (.seq (.seq (.seq (.view [.sel [0] []]) (.sub (scOf a_dname_Valid_J12) s_dname_Valid_J12)) (.cond (.t 14) (.seq (.reg [.op ⟨some 2, (.mv (.c (.bool false))), none⟩]) (.ret)) (.skip))) (.seq (.seq (.reg [.op ⟨some 15, (.mv (.t 0)), none⟩,
 .op ⟨some 16, (.mv (.t 0)), none⟩,
 .op ⟨some 17, (.len true (.t 16)), none⟩,
 .op ⟨some 18, (.bin .sub (.t 17) (.c (.int .i64 1))), none⟩,
 .op ⟨some 19, (.slcs (.t 15) none (some (.t 18))), none⟩,
 .callc ⟨some 20, (.call 33 [.t 19, (.c (.str [46]))]), none⟩ 33 ent_strings_Split,
 .op ⟨some 21, (.len false (.t 20)), none⟩,
 .op ⟨some 22, (.mv (.c (.int .i64 0))), none⟩]) (.block 0 (.seq (.view [.sel [20, 21, 22] []]) (.sub (.loop (scOf a_dname_Valid_L22)) s_dname_Valid_L22)))) (.seq (.reg [.op ⟨some 2, (.mv (.c (.bool true))), none⟩]) (.ret)))))
theorem ok_dname_Valid : AC.ok Tryd.prog (TIof Tryd.prog) 39 0 (kret [.t 2] dec_dname_Valid) a_dname_Valid := (zA zT (zA (zA zT (zA (zA zT zT) zT)) (zA (zA (zA zT o_dname_Valid_J12) (zA (zA zT zT) zT)) (zA (zA (zA (EntOkB.ok k_strings_Split) zT) (zA zT o_dname_Valid_L22)) (zA zT zT)))))
theorem t_dname_Valid (v0 : List UInt8) : den 0 (kret [.t 2] dec_dname_Valid) a_dname_Valid (envOf [(0, (.str v0))]) (memOf []) (kend (kret [.t 2] dec_dname_Valid)) = dname_Valid v0 := by
  rw [dname_Valid_eq]; kernel_rfl
theorem c_dname_Valid : cFn (TIof Tryd.prog) Tryd.f31 = some ⟨39, [.t 2], scOf a_dname_Valid⟩ := by kernel_rfl
noncomputable def ent_dname_Valid {R : Type} (xs : List AV) (K : AV → Option R) : Option R := chk (fitS shp_dname_Valid (entry xs) Mem.none) (oB (dname_Valid (gS [(entry xs) 0] 0)) fun r => K (enc_dname_Valid r))
theorem k_dname_Valid {R : Type} : EntOkB Tryd.prog 31 (ent_dname_Valid (R := R)) :=
  ent_of (F := fun xs => dname_Valid (gS [(entry xs) 0] 0)) (enc := enc_dname_Valid) tabOk follows Tryd.func31 (by kernel_rfl) c_dname_Valid (fun z r h => by
 obtain ⟨h1, h2⟩ := cond_some h
 cases h2
 exact (etaRV_eq h1).symm) ok_dname_Valid (er_of (by kernel_rfl)) shp_dname_Valid (fun xs => t_dname_Valid (gS [(entry xs) 0] 0)) (fun xs K r h => by
 unfold ent_dname_Valid at h
 exact ⟨(chk_some h).1, oB_some (chk_some h).2⟩)
def dec_dname_ends (z : AV) : Option Bool := cond (fitRV (.one .b) z) (some (aB z)) none
def enc_dname_ends (r : Bool) : AV := .bool r
def shp_dname_ends : Shp := ⟨[(0, .one (.l .s)), (1, .one (.l .s))], []⟩
noncomputable def dname_ends_i (v0 : List UInt8) (v1 : List UInt8) : Option Bool :=
  (bif ((v1 == ([46] : List UInt8)) || (v0 == v1)) then (some true) else (bif decide (([46] : List UInt8).length + v1.length ≤ 9223372036854775807) then (oB (strings_HasSuffix v0 (([46] : List UInt8) ++ v1)) fun r1 => (some r1)) else none))
noncomputable def dname_ends := hull dname_ends_i
theorem dname_ends_eq : dname_ends = dname_ends_i := hull_eq _
noncomputable def a_dname_ends : AC Bool :=
  .seq (.reg [.op ⟨some 4, (.mv (.c (.bool false))), none⟩]) (.seq (.reg [.op ⟨some 5, (.mv (.t 1)), none⟩,
 .op ⟨some 6, (.bin .eql (.t 5) (.c (.str [46]))), none⟩,
 .op ⟨some 7, (.mv (.t 6)), none⟩,
 .grp 7 false [⟨some 8, (.mv (.t 0)), (some (7, false))⟩, ⟨some 9, (.mv (.t 1)), (some (7, false))⟩, ⟨some 10, (.bin .eql (.t 8) (.t 9)), (some (7, false))⟩] 11 (.t 10),
 .op ⟨some 12, (.mv (.t 11)), none⟩,
 .op ⟨some 13, (.mv (.t 0)), (some (12, false))⟩,
 .op ⟨some 14, (.mv (.t 1)), (some (12, false))⟩,
 .op ⟨some 15, (.bin .add (.c (.str [46])) (.t 14)), (some (12, false))⟩,
 .call ⟨some 16, (.call 51 [.t 13, .t 15]), (some (12, false))⟩ 51 ent_strings_HasSuffix,
 .op ⟨some 17, (.pick (.t 12) (.c (.bool true)) (.t 16)), none⟩,
 .op ⟨some 4, (.mv (.t 17)), none⟩]) (.ret))
theorem ok_dname_ends : AC.ok Tryd.prog (TIof Tryd.prog) 18 0 (kret [.t 4] dec_dname_ends) a_dname_ends := (zA zT (zA (zA (EntOkB.ok k_strings_HasSuffix) zT) zT))
theorem t_dname_ends (v0 : List UInt8) (v1 : List UInt8) : den 0 (kret [.t 4] dec_dname_ends) a_dname_ends (envOf [(0, (.str v0)), (1, (.str v1))]) (memOf []) (kend (kret [.t 4] dec_dname_ends)) = dname_ends v0 v1 := by
  rw [dname_ends_eq]; kernel_rfl
theorem c_dname_ends : cFn (TIof Tryd.prog) Tryd.f32 = some ⟨18, [.t 4], scOf a_dname_ends⟩ := by kernel_rfl
noncomputable def ent_dname_ends {R : Type} (xs : List AV) (K : AV → Option R) : Option R := chk (fitS shp_dname_ends (entry xs) Mem.none) (oB (dname_ends (gS [(entry xs) 0] 0) (gS [(entry xs) 1] 0)) fun r => K (enc_dname_ends r))
theorem k_dname_ends {R : Type} : EntOkB Tryd.prog 32 (ent_dname_ends (R := R)) :=
  ent_of (F := fun xs => dname_ends (gS [(entry xs) 0] 0) (gS [(entry xs) 1] 0)) (enc := enc_dname_ends) tabOk follows Tryd.func32 (by kernel_rfl) c_dname_ends (fun z r h => by
 obtain ⟨h1, h2⟩ := cond_some h
 cases h2
 exact (etaRV_eq h1).symm) ok_dname_ends (er_of (by kernel_rfl)) shp_dname_ends (fun xs => t_dname_ends (gS [(entry xs) 0] 0) (gS [(entry xs) 1] 0)) (fun xs K r h => by
 unfold ent_dname_ends at h
 exact ⟨(chk_some h).1, oB_some (chk_some h).2⟩)
def dec_dname_Under (z : AV) : Option Bool := cond (fitRV (.one .b) z) (some (aB z)) none
def enc_dname_Under (r : Bool) : AV := .bool r
def shp_dname_Under : Shp := ⟨[(0, .one (.l .s)), (1, .one (.l .s))], []⟩
noncomputable def dname_Under_i (v0 : List UInt8) (v1 : List UInt8) : Option Bool :=
  (oB (dname_Valid v0) fun r1 => (bif r1 then (oB (dname_Valid v1) fun r2 => (bif r2 then (oB (dname_ends v0 v1) fun r3 => (some r3)) else (some false))) else (some false)))
noncomputable def dname_Under := hull dname_Under_i
theorem dname_Under_eq : dname_Under = dname_Under_i := hull_eq _
noncomputable def a_dname_Under : AC Bool :=
  .seq (.reg [.op ⟨some 4, (.mv (.c (.bool false))), none⟩]) (.seq (.reg [.op ⟨some 5, (.mv (.t 0)), none⟩,
 .call ⟨some 6, (.call 31 [.t 5]), none⟩ 31 ent_dname_Valid,
 .op ⟨some 7, (.mv (.t 6)), none⟩,
 .op ⟨some 8, (.mv (.t 1)), (some (7, true))⟩,
 .call ⟨some 9, (.call 31 [.t 8]), (some (7, true))⟩ 31 ent_dname_Valid,
 .op ⟨some 10, (.pick (.t 7) (.t 9) (.c (.bool false))), none⟩,
 .op ⟨some 11, (.mv (.t 10)), none⟩,
 .op ⟨some 12, (.mv (.t 0)), (some (11, true))⟩,
 .op ⟨some 13, (.mv (.t 1)), (some (11, true))⟩,
 .call ⟨some 14, (.call 32 [.t 12, .t 13]), (some (11, true))⟩ 32 ent_dname_ends,
 .op ⟨some 15, (.pick (.t 11) (.t 14) (.c (.bool false))), none⟩,
 .op ⟨some 4, (.mv (.t 15)), none⟩]) (.ret))
theorem ok_dname_Under : AC.ok Tryd.prog (TIof Tryd.prog) 16 0 (kret [.t 4] dec_dname_Under) a_dname_Under := (zA zT (zA (zA (EntOkB.ok k_dname_Valid) (zA (EntOkB.ok k_dname_Valid) (zA (EntOkB.ok k_dname_ends) zT))) zT))
theorem t_dname_Under (v0 : List UInt8) (v1 : List UInt8) : den 0 (kret [.t 4] dec_dname_Under) a_dname_Under (envOf [(0, (.str v0)), (1, (.str v1))]) (memOf []) (kend (kret [.t 4] dec_dname_Under)) = dname_Under v0 v1 := by
  rw [dname_Under_eq]; kernel_rfl
theorem c_dname_Under : cFn (TIof Tryd.prog) Tryd.f20 = some ⟨16, [.t 4], scOf a_dname_Under⟩ := by kernel_rfl
noncomputable def ent_dname_Under {R : Type} (xs : List AV) (K : AV → Option R) : Option R := chk (fitS shp_dname_Under (entry xs) Mem.none) (oB (dname_Under (gS [(entry xs) 0] 0) (gS [(entry xs) 1] 0)) fun r => K (enc_dname_Under r))
theorem k_dname_Under {R : Type} : EntOkB Tryd.prog 20 (ent_dname_Under (R := R)) :=
  ent_of (F := fun xs => dname_Under (gS [(entry xs) 0] 0) (gS [(entry xs) 1] 0)) (enc := enc_dname_Under) tabOk follows Tryd.func20 (by kernel_rfl) c_dname_Under (fun z r h => by
 obtain ⟨h1, h2⟩ := cond_some h
 cases h2
 exact (etaRV_eq h1).symm) ok_dname_Under (er_of (by kernel_rfl)) shp_dname_Under (fun xs => t_dname_Under (gS [(entry xs) 0] 0) (gS [(entry xs) 1] 0)) (fun xs K r h => by
 unfold ent_dname_Under at h
 exact ⟨(chk_some h).1, oB_some (chk_some h).2⟩)
def dec_dname_Labels (z : AV) : Option (List AV) := cond (fitRV (.one (.sl 1)) z) (some (aL z)) none
def enc_dname_Labels (r : (List AV)) : AV := .sl 1 r
def shp_dname_Labels_J4 : Shp := ⟨[(0, .one (.l .s))], []⟩
noncomputable def dname_Labels_J4_i  (v0 : List UInt8) (kn : Bool → Option (List AV)) : Option (List AV) :=
  (bif (v0 == ([46] : List UInt8)) then (kn true) else (oB (dname_Valid v0) fun r1 => (kn (!r1))))
noncomputable def dname_Labels_J4 := hull (dname_Labels_J4_i)
theorem dname_Labels_J4_eq : dname_Labels_J4 = dname_Labels_J4_i := hull_eq _
noncomputable def a_dname_Labels_J4 : AC (List AV) :=
  .seq (.reg [.op ⟨some 3, (.mv (.t 0)), none⟩,
 .op ⟨some 4, (.bin .eql (.t 3) (.c (.str [46]))), none⟩,
 .op ⟨some 5, (.mv (.t 4)), none⟩,
 .op ⟨some 6, (.mv (.t 0)), (some (5, false))⟩,
 .call ⟨some 7, (.call 31 [.t 6]), (some (5, false))⟩ 31 ent_dname_Valid,
 .op ⟨some 8, (.un .not (.t 7)), (some (5, false))⟩,
 .op ⟨some 9, (.pick (.t 5) (.c (.bool true)) (.t 8)), none⟩]) (.view [.sel [0, 9] []])
theorem ok_dname_Labels_J4 : AC.ok Tryd.prog (TIof Tryd.prog) 16 0 (kret [.t 2] dec_dname_Labels) a_dname_Labels_J4 := (zA (zA (EntOkB.ok k_dname_Valid) zT) zT)
theorem t_dname_Labels_J4 (v0 : List UInt8) (K : Ex → Env → Mem → Option (List AV)) : den 0 (kret [.t 2] dec_dname_Labels) a_dname_Labels_J4 (envOf [(0, (.str v0))]) (memOf []) K = dname_Labels_J4 v0 (fun z_v9 => K .norm (envOf [(0, (.str v0)), (9, (.bool z_v9))]) (memOf [])) := by
  rw [dname_Labels_J4_eq]; kernel_rfl
noncomputable def s_dname_Labels_J4 : Env → Mem → (Ex → Env → Mem → Option (List AV)) → Option (List AV) := fun t m K => chk (fitS0 shp_dname_Labels_J4 t m) (cond (hdS shp_dname_Labels_J4 t m) (dname_Labels_J4 (gS [t 0] 0) (fun z_v9 => K .norm (envOf [(0, (.str (gS [t 0] 0))), (9, (.bool z_v9))]) (memOf []))) none)
theorem o_dname_Labels_J4 : SubOk Tryd.prog (TIof Tryd.prog) 16 0 (kret [.t 2] dec_dname_Labels) (scOf a_dname_Labels_J4) s_dname_Labels_J4 :=
  sub_of tabOk follows ok_dname_Labels_J4 (er_of (by kernel_rfl)) shp_dname_Labels_J4 (fun t m K => congrArg (fun z => chk (fitS0 shp_dname_Labels_J4 t m) (cond (hdS shp_dname_Labels_J4 t m) z none)) (t_dname_Labels_J4 (gS [t 0] 0) K).symm)
def shp_dname_Labels : Shp := ⟨[(0, .one (.l .s))], []⟩
noncomputable def dname_Labels_i (v0 : List UInt8) : Option (List AV) :=
  (dname_Labels_J4 v0 (fun v9q1 => (bif v9q1 then (some ([] : List AV)) else (oB (cutI v0 none (some (IntKind.i64.wrap ((v0.length : Int) - (1 : Int))))) fun s2 => (oB (strings_Split s2 ([46] : List UInt8)) fun r3 => (some r3))))))
noncomputable def dname_Labels := hull dname_Labels_i
theorem dname_Labels_eq : dname_Labels = dname_Labels_i := hull_eq _
noncomputable def a_dname_Labels : AC (List AV) :=
  .seq (.reg [.op ⟨some 2, (.mv (.c .nils)), none⟩]) (.seq (.seq (.seq (.view [.sel [0] []]) (.sub (scOf a_dname_Labels_J4) s_dname_Labels_J4)) (.cond (.t 9) (.seq (.reg [.op ⟨some 2, (.mv (.c .nils)), none⟩]) (.seq (.view [.eta 2 (.one (.sl 1))]) (.ret))) (.skip))) (.seq (.reg [.op ⟨some 10, (.mv (.t 0)), none⟩,
 .op ⟨some 11, (.mv (.t 0)), none⟩,
 .op ⟨some 12, (.len true (.t 11)), none⟩,
 .op ⟨some 13, (.bin .sub (.t 12) (.c (.int .i64 1))), none⟩,
 .op ⟨some 14, (.slcs (.t 10) none (some (.t 13))), none⟩,
 .callc ⟨some 15, (.call 33 [.t 14, (.c (.str [46]))]), none⟩ 33 ent_strings_Split,
 .op ⟨some 2, (.mv (.t 15)), none⟩]) (.ret)))
theorem ok_dname_Labels : AC.ok Tryd.prog (TIof Tryd.prog) 16 0 (kret [.t 2] dec_dname_Labels) a_dname_Labels := (zA zT (zA (zA (zA zT o_dname_Labels_J4) (zA (zA zT (zA zT zT)) zT)) (zA (zA (EntOkB.ok k_strings_Split) zT) zT)))
theorem t_dname_Labels (v0 : List UInt8) : den 0 (kret [.t 2] dec_dname_Labels) a_dname_Labels (envOf [(0, (.str v0))]) (memOf []) (kend (kret [.t 2] dec_dname_Labels)) = dname_Labels v0 := by
  rw [dname_Labels_eq]; kernel_rfl
theorem c_dname_Labels : cFn (TIof Tryd.prog) Tryd.f21 = some ⟨16, [.t 2], scOf a_dname_Labels⟩ := by kernel_rfl
noncomputable def ent_dname_Labels {R : Type} (xs : List AV) (K : AV → Option R) : Option R := chk (fitS shp_dname_Labels (entry xs) Mem.none) (oB (dname_Labels (gS [(entry xs) 0] 0)) fun r => K (enc_dname_Labels r))
theorem k_dname_Labels {R : Type} : EntOkB Tryd.prog 21 (ent_dname_Labels (R := R)) :=
  ent_of (F := fun xs => dname_Labels (gS [(entry xs) 0] 0)) (enc := enc_dname_Labels) tabOk follows Tryd.func21 (by kernel_rfl) c_dname_Labels (fun z r h => by
 obtain ⟨h1, h2⟩ := cond_some h
 cases h2
 exact (etaRV_eq h1).symm) ok_dname_Labels (er_of (by kernel_rfl)) shp_dname_Labels (fun xs => t_dname_Labels (gS [(entry xs) 0] 0)) (fun xs K r h => by
 unfold ent_dname_Labels at h
 exact ⟨(chk_some h).1, oB_some (chk_some h).2⟩)
def dec_policy_Query (z : AV) : Option (Int × Bool) := cond (fitTup [(.one (.i .i64)), (.one .b)] z) (some (aI (gC (tpL z) 0), aB (gC (tpL z) 1))) none
def enc_policy_Query (r : Int × Bool) : AV := .tup [.int .i64 r.1, .bool r.2]
def shp_policy_Query_J27 : Shp := ⟨[(3, .one (.ptr 0 0)), (6, .one (.l (.i .i64))), (7, .one (.l (.i .i64))), (8, .one (.l (.i .i64))), (9, .one (.ptr 1 0)), (10, .one (.l (.sl 8))), (11, .one (.l (.i .i64))), (12, .one (.l (.i .i64)))], [.box true [(.l .s), (.l (.i .i64))], .box true [(.l (.i .i64)), (.l .s), (.l .b), (.l (.i .u64)), (.l (.i .u64)), (.l (.i .i64)), (.l (.i .i64)), (.l (.sl 16))]]⟩
noncomputable def policy_Query_J27_i  (v6 : Int) (v7 : Int) (v8 : Int) (v10 : List AV) (v11 : Int) (v12 : Int) (b0_0 : List UInt8) (b0_1 : Int) (b1_0 : Int) (b1_1 : List UInt8) (b1_2 : Bool) (b1_3 : Int) (b1_4 : Int) (b1_5 : Int) (b1_6 : Int) (b1_7 : List AV) (kn : Bool → Option (Int × Bool)) : Option (Int × Bool) :=
  (bif ((b1_0 == (2 : Int)) && (!(b1_1 == b0_0))) then (oB (dname_Under b0_0 b1_1) fun r1 => (bif r1 then (oB (dname_Labels b1_1) fun r2 => (kn (decide ((r2.length : Int) > v7)))) else (kn false))) else (kn false))
noncomputable def policy_Query_J27 := hull (policy_Query_J27_i)
theorem policy_Query_J27_eq : policy_Query_J27 = policy_Query_J27_i := hull_eq _
noncomputable def a_policy_Query_J27 : AC (Int × Bool) :=
  .seq (.reg [.op ⟨some 30, (.fa 0 (.t 9)), none⟩,
 .op ⟨some 31, (.load false 1 (.t 30)), none⟩,
 .op ⟨some 32, (.bin .eql (.t 31) (.c (.int .i64 2))), none⟩,
 .op ⟨some 33, (.mv (.t 32)), none⟩,
 .grp 33 true [⟨some 34, (.fa 1 (.t 9)), (some (33, true))⟩, ⟨some 35, (.load false 1 (.t 34)), (some (33, true))⟩, ⟨some 36, (.fa 0 (.t 3)), (some (33, true))⟩, ⟨some 37, (.load false 1 (.t 36)), (some (33, true))⟩, ⟨some 38, (.bin .neq (.t 35) (.t 37)), (some (33, true))⟩] 39 (.t 38),
 .op ⟨some 40, (.mv (.t 39)), none⟩,
 .op ⟨some 41, (.fa 0 (.t 3)), (some (40, true))⟩,
 .op ⟨some 42, (.load false 1 (.t 41)), (some (40, true))⟩,
 .op ⟨some 43, (.fa 1 (.t 9)), (some (40, true))⟩,
 .op ⟨some 44, (.load false 1 (.t 43)), (some (40, true))⟩,
 .call ⟨some 45, (.call 20 [.t 42, .t 44]), (some (40, true))⟩ 20 ent_dname_Under,
 .op ⟨some 46, (.pick (.t 40) (.t 45) (.c (.bool false))), none⟩,
 .op ⟨some 47, (.mv (.t 46)), none⟩,
 .op ⟨some 48, (.fa 1 (.t 9)), (some (47, true))⟩,
 .op ⟨some 49, (.load false 1 (.t 48)), (some (47, true))⟩,
 .callc ⟨some 50, (.call 21 [.t 49]), (some (47, true))⟩ 21 ent_dname_Labels,
 .op ⟨some 51, (.len false (.t 50)), (some (47, true))⟩,
 .op ⟨some 52, (.mv (.t 7)), (some (47, true))⟩,
 .op ⟨some 53, (.bin .gtr (.t 51) (.t 52)), (some (47, true))⟩,
 .op ⟨some 54, (.pick (.t 47) (.t 53) (.c (.bool false))), none⟩,
 .op ⟨some 29, (.mv (.t 54)), none⟩]) (.view [.sel [3, 6, 7, 8, 9, 10, 11, 12, 29] [0, 1]])
theorem ok_policy_Query_J27 : AC.ok Tryd.prog (TIof Tryd.prog) 64 0 (kret [.t 4, .t 5] dec_policy_Query) a_policy_Query_J27 := (zA (zA (EntOkB.ok k_dname_Under) (zA (EntOkB.ok k_dname_Labels) zT)) zT)
theorem t_policy_Query_J27 (v6 : Int) (v7 : Int) (v8 : Int) (v10 : List AV) (v11 : Int) (v12 : Int) (b0_0 : List UInt8) (b0_1 : Int) (b1_0 : Int) (b1_1 : List UInt8) (b1_2 : Bool) (b1_3 : Int) (b1_4 : Int) (b1_5 : Int) (b1_6 : Int) (b1_7 : List AV) (K : Ex → Env → Mem → Option (Int × Bool)) : den 0 (kret [.t 4, .t 5] dec_policy_Query) a_policy_Query_J27 (envOf [(3, (.ptr 0 0)), (6, (.int .i64 v6)), (7, (.int .i64 v7)), (8, (.int .i64 v8)), (9, (.ptr 1 0)), (10, (.sl 8 v10)), (11, (.int .i64 v11)), (12, (.int .i64 v12))]) (memOf [(some (.box true [(.str b0_0), (.int .i64 b0_1)])), (some (.box true [(.int .i64 b1_0), (.str b1_1), (.bool b1_2), (.int .u64 b1_3), (.int .u64 b1_4), (.int .i64 b1_5), (.int .i64 b1_6), (.sl 16 b1_7)]))]) K = policy_Query_J27 v6 v7 v8 v10 v11 v12 b0_0 b0_1 b1_0 b1_1 b1_2 b1_3 b1_4 b1_5 b1_6 b1_7 (fun z_v29 => K .norm (envOf [(3, (.ptr 0 0)), (6, (.int .i64 v6)), (7, (.int .i64 v7)), (8, (.int .i64 v8)), (9, (.ptr 1 0)), (10, (.sl 8 v10)), (11, (.int .i64 v11)), (12, (.int .i64 v12)), (29, (.bool z_v29))]) (memOf [(some (.box true [(.str b0_0), (.int .i64 b0_1)])), (some (.box true [(.int .i64 b1_0), (.str b1_1), (.bool b1_2), (.int .u64 b1_3), (.int .u64 b1_4), (.int .i64 b1_5), (.int .i64 b1_6), (.sl 16 b1_7)]))])) := by
  rw [policy_Query_J27_eq]; kernel_rfl
noncomputable def s_policy_Query_J27 : Env → Mem → (Ex → Env → Mem → Option (Int × Bool)) → Option (Int × Bool) := fun t m K => chk (fitS0 shp_policy_Query_J27 t m) (cond (hdS shp_policy_Query_J27 t m) (policy_Query_J27 (gI [t 6] 0) (gI [t 7] 0) (gI [t 8] 0) (gL [t 10] 0) (gI [t 11] 0) (gI [t 12] 0) (gS (bxC (m.s 0)) 0) (gI (bxC (m.s 0)) 1) (gI (bxC (m.s 1)) 0) (gS (bxC (m.s 1)) 1) (gB (bxC (m.s 1)) 2) (gI (bxC (m.s 1)) 3) (gI (bxC (m.s 1)) 4) (gI (bxC (m.s 1)) 5) (gI (bxC (m.s 1)) 6) (gL (bxC (m.s 1)) 7) (fun z_v29 => K .norm (envOf [(3, (.ptr 0 0)), (6, (.int .i64 (gI [t 6] 0))), (7, (.int .i64 (gI [t 7] 0))), (8, (.int .i64 (gI [t 8] 0))), (9, (.ptr 1 0)), (10, (.sl 8 (gL [t 10] 0))), (11, (.int .i64 (gI [t 11] 0))), (12, (.int .i64 (gI [t 12] 0))), (29, (.bool z_v29))]) (memOf [(some (.box true [(.str (gS (bxC (m.s 0)) 0)), (.int .i64 (gI (bxC (m.s 0)) 1))])), (some (.box true [(.int .i64 (gI (bxC (m.s 1)) 0)), (.str (gS (bxC (m.s 1)) 1)), (.bool (gB (bxC (m.s 1)) 2)), (.int .u64 (gI (bxC (m.s 1)) 3)), (.int .u64 (gI (bxC (m.s 1)) 4)), (.int .i64 (gI (bxC (m.s 1)) 5)), (.int .i64 (gI (bxC (m.s 1)) 6)), (.sl 16 (gL (bxC (m.s 1)) 7))]))]))) none)
theorem o_policy_Query_J27 : SubOk Tryd.prog (TIof Tryd.prog) 64 0 (kret [.t 4, .t 5] dec_policy_Query) (scOf a_policy_Query_J27) s_policy_Query_J27 :=
  sub_of tabOk follows ok_policy_Query_J27 (er_of (by kernel_rfl)) shp_policy_Query_J27 (fun t m K => congrArg (fun z => chk (fitS0 shp_policy_Query_J27 t m) (cond (hdS shp_policy_Query_J27 t m) z none)) (t_policy_Query_J27 (gI [t 6] 0) (gI [t 7] 0) (gI [t 8] 0) (gL [t 10] 0) (gI [t 11] 0) (gI [t 12] 0) (gS (bxC (m.s 0)) 0) (gI (bxC (m.s 0)) 1) (gI (bxC (m.s 1)) 0) (gS (bxC (m.s 1)) 1) (gB (bxC (m.s 1)) 2) (gI (bxC (m.s 1)) 3) (gI (bxC (m.s 1)) 4) (gI (bxC (m.s 1)) 5) (gI (bxC (m.s 1)) 6) (gL (bxC (m.s 1)) 7) K).symm)
def shp_policy_Query_L8 : Shp := ⟨[(3, .one (.ptr 0 0)), (6, .one (.l (.i .i64))), (7, .one (.l (.i .i64))), (10, .one (.l (.sl 8))), (11, .one (.l (.i .i64))), (12, .one (.l (.i .i64)))], [.box true [(.l .s), (.l (.i .i64))]]⟩
noncomputable def policy_Query_L8_b  (v6 : Int) (v7 : Int) (v10 : List AV) (v11 : Int) (v12 : Int) (b0_0 : List UInt8) (b0_1 : Int) (next : Int → Int → Int → Option (Int × Bool)) (kx0 : Int → Int → Option (Int × Bool)) : Option (Int × Bool) :=
  (bif (decide (v12 < v11)) then (oB (ixB v10 v12) fun y1 => (bif fitC T_api_Rule y1.cells then (bif (((gI y1.cells 0) == (1 : Int)) && ((gS y1.cells 1) == b0_0)) then (some (v12, true)) else (policy_Query_J27 v6 v7 v12 v10 v11 v12 b0_0 b0_1 (gI y1.cells 0) (gS y1.cells 1) (gB y1.cells 2) (gI y1.cells 3) (gI y1.cells 4) (gI y1.cells 5) (gI y1.cells 6) (gL y1.cells 7) (fun v29q2 => (bif v29q2 then (oB (dname_Labels (gS y1.cells 1)) fun r3 => (next v12 (r3.length : Int) (IntKind.i64.wrap (v12 + (1 : Int))))) else (next v6 v7 (IntKind.i64.wrap (v12 + (1 : Int)))))))) else none)) else (kx0 v6 v7))
noncomputable def policy_Query_L8_i  (v10 : List AV) (v11 : Int) (b0_0 : List UInt8) (b0_1 : Int) (kx0 : Int → Int → Option (Int × Bool)) : Nat → Int → Int → Int → Option (Int × Bool)
  | 0 => (fun _ _ _ => none)
  | n + 1 => (fun v6 v7 v12 => policy_Query_L8_b v6 v7 v10 v11 v12 b0_0 b0_1 (policy_Query_L8_i v10 v11 b0_0 b0_1 kx0 n) kx0)
noncomputable def policy_Query_L8 := hull (policy_Query_L8_i)
theorem policy_Query_L8_eq : policy_Query_L8 = policy_Query_L8_i := hull_eq _
noncomputable def a_policy_Query_L8 : AC (Int × Bool) :=
  .seq (.reg [.op ⟨some 13, (.bin .lss (.t 12) (.t 11)), none⟩]) (.seq (.cond (.t 13) (.skip) (.seq (.view [.sel [6, 7] []]) (.exit 0))) (.seq (.block 1 (.seq (.reg [.op ⟨some 14, (.mv (.t 12)), none⟩,
 .op ⟨some 15, (.ia 8 (.t 10) (.t 12)), none⟩,
 .st (.etac 15 T_api_Rule),
 .op ⟨some 16, (.load true 8 (.t 15)), none⟩,
 .op ⟨some 9, (.alloc [(.int .i64 0), (.str []), (.bool false), (.int .u64 0), (.int .u64 0), (.int .i64 0), (.int .i64 0), .nils]), none⟩,
 .op ⟨some 8, (.mv (.t 14)), none⟩,
 .op ⟨none, (.store 8 (.t 9) (.t 16)), none⟩]) (.block 2 (.seq (.reg [.op ⟨some 18, (.fa 0 (.t 9)), none⟩,
 .op ⟨some 19, (.load false 1 (.t 18)), none⟩,
 .op ⟨some 20, (.bin .eql (.t 19) (.c (.int .i64 1))), none⟩,
 .op ⟨some 21, (.mv (.t 20)), none⟩,
 .grp 21 true [⟨some 22, (.fa 1 (.t 9)), (some (21, true))⟩, ⟨some 23, (.load false 1 (.t 22)), (some (21, true))⟩, ⟨some 24, (.fa 0 (.t 3)), (some (21, true))⟩, ⟨some 25, (.load false 1 (.t 24)), (some (21, true))⟩, ⟨some 26, (.bin .eql (.t 23) (.t 25)), (some (21, true))⟩] 27 (.t 26),
 .op ⟨some 17, (.mv (.t 27)), none⟩]) (.cond (.t 17) (.seq (.reg [.op ⟨some 28, (.mv (.t 8)), none⟩,
 .op ⟨some 4, (.mv (.t 28)), none⟩,
 .op ⟨some 5, (.mv (.c (.bool true))), none⟩]) (.ret)) (.seq (.seq (.view [.sel [3, 6, 7, 8, 9, 10, 11, 12] [0, 1]]) (.sub (scOf a_policy_Query_J27) s_policy_Query_J27)) (.cond (.t 29) (.reg [.op ⟨some 55, (.mv (.t 8)), none⟩,
 .op ⟨some 56, (.fa 1 (.t 9)), none⟩,
 .op ⟨some 57, (.load false 1 (.t 56)), none⟩,
 .callc ⟨some 58, (.call 21 [.t 57]), none⟩ 21 ent_dname_Labels,
 .op ⟨some 59, (.len false (.t 58)), none⟩,
 .op ⟨some 6, (.mv (.t 55)), none⟩,
 .op ⟨some 7, (.mv (.t 59)), none⟩]) (.skip)))))))) (.seq (.reg [.op ⟨some 60, (.bin .add (.t 12) (.c (.int .i64 1))), none⟩,
 .op ⟨some 12, (.mv (.t 60)), none⟩]) (.view [.sel [3, 6, 7, 10, 11, 12] [0]]))))
theorem ok_policy_Query_L8 : AC.ok Tryd.prog (TIof Tryd.prog) 64 0 (kret [.t 4, .t 5] dec_policy_Query) a_policy_Query_L8 := (zA zT (zA (zA zT (zA zT zT)) (zA (zA zT (zA zT (zA (zA zT zT) (zA (zA zT o_policy_Query_J27) (zA (zA (EntOkB.ok k_dname_Labels) zT) zT))))) (zA zT zT))))
theorem t_policy_Query_L8_b (v6 : Int) (v7 : Int) (v10 : List AV) (v11 : Int) (v12 : Int) (b0_0 : List UInt8) (b0_1 : Int) (K : Ex → Env → Mem → Option (Int × Bool)) : den 0 (kret [.t 4, .t 5] dec_policy_Query) a_policy_Query_L8 (envOf [(3, (.ptr 0 0)), (6, (.int .i64 v6)), (7, (.int .i64 v7)), (10, (.sl 8 v10)), (11, (.int .i64 v11)), (12, (.int .i64 v12))]) (memOf [(some (.box true [(.str b0_0), (.int .i64 b0_1)]))]) K = policy_Query_L8_b v6 v7 v10 v11 v12 b0_0 b0_1 (fun z_v6 z_v7 z_v12 => K .norm (envOf [(3, (.ptr 0 0)), (6, (.int .i64 z_v6)), (7, (.int .i64 z_v7)), (10, (.sl 8 v10)), (11, (.int .i64 v11)), (12, (.int .i64 z_v12))]) (memOf [(some (.box true [(.str b0_0), (.int .i64 b0_1)]))])) (fun z_v6 z_v7 => K (.exit 0) (envOf [(6, (.int .i64 z_v6)), (7, (.int .i64 z_v7))]) (memOf [])) := by kernel_rfl
theorem t_policy_Query_L8 (v10 : List AV) (v11 : Int) (b0_0 : List UInt8) (b0_1 : Int) (K : Ex → Env → Mem → Option (Int × Bool)) : ∀ (n : Nat) (v6 : Int) (v7 : Int) (v12 : Int), iterD (den 0 (kret [.t 4, .t 5] dec_policy_Query) a_policy_Query_L8) n (envOf [(3, (.ptr 0 0)), (6, (.int .i64 v6)), (7, (.int .i64 v7)), (10, (.sl 8 v10)), (11, (.int .i64 v11)), (12, (.int .i64 v12))]) (memOf [(some (.box true [(.str b0_0), (.int .i64 b0_1)]))]) K = policy_Query_L8 v10 v11 b0_0 b0_1 (fun z_v6 z_v7 => K (.exit 0) (envOf [(6, (.int .i64 z_v6)), (7, (.int .i64 z_v7))]) (memOf [])) n v6 v7 v12 := by
  rw [policy_Query_L8_eq]
  intro n
  induction n with
  | zero => intros; rfl
  | succ n ih =>
 intro v6 v7 v12
 exact (t_policy_Query_L8_b v6 v7 v10 v11 v12 b0_0 b0_1 (itK (den 0 (kret [.t 4, .t 5] dec_policy_Query) a_policy_Query_L8) n K)).trans (congrArg (fun q => policy_Query_L8_b v6 v7 v10 v11 v12 b0_0 b0_1 q (fun z_v6 z_v7 => K (.exit 0) (envOf [(6, (.int .i64 z_v6)), (7, (.int .i64 z_v7))]) (memOf []))) (funext fun v6 => funext fun v7 => funext fun v12 => ih v6 v7 v12))
noncomputable def s_policy_Query_L8 : Env → Mem → (Ex → Env → Mem → Option (Int × Bool)) → Option (Int × Bool) := fun t m K => chk (fitS0 shp_policy_Query_L8 t m) (cond (hdS shp_policy_Query_L8 t m) (policy_Query_L8 (gL [t 10] 0) (gI [t 11] 0) (gS (bxC (m.s 0)) 0) (gI (bxC (m.s 0)) 1) (fun z_v6 z_v7 => K (.exit 0) (envOf [(6, (.int .i64 z_v6)), (7, (.int .i64 z_v7))]) (memOf [])) FU (gI [t 6] 0) (gI [t 7] 0) (gI [t 12] 0)) none)
theorem o_policy_Query_L8 : SubOk Tryd.prog (TIof Tryd.prog) 64 0 (kret [.t 4, .t 5] dec_policy_Query) (.loop (scOf a_policy_Query_L8)) s_policy_Query_L8 :=
  loop_of tabOk follows ok_policy_Query_L8 (er_of (by kernel_rfl)) shp_policy_Query_L8 (fun t m K => congrArg (fun z => chk (fitS0 shp_policy_Query_L8 t m) (cond (hdS shp_policy_Query_L8 t m) z none)) (t_policy_Query_L8 (gL [t 10] 0) (gI [t 11] 0) (gS (bxC (m.s 0)) 0) (gI (bxC (m.s 0)) 1) K FU (gI [t 6] 0) (gI [t 7] 0) (gI [t 12] 0)).symm)
def shp_policy_Query : Shp := ⟨[(0, .one (.l (.sl 8))), (1, .st [(.l .s), (.l (.i .i64))])], []⟩
noncomputable def policy_Query_i (v0 : List AV) (v1_0 : List UInt8) (v1_1 : Int) : Option (Int × Bool) :=
  (policy_Query_L8 v0 (v0.length : Int) v1_0 v1_1 (fun v6q1 v7q2 => (some (v6q1, (decide (v7q2 ≥ (0 : Int)))))) FU (0 : Int) (-1 : Int) (0 : Int))
noncomputable def policy_Query := hull policy_Query_i
theorem policy_Query_eq : policy_Query = policy_Query_i := hull_eq _
noncomputable def a_policy_Query : AC (Int × Bool) :=
  .seq (.reg [.op ⟨some 3, (.box (.t 1)), none⟩,
 .op ⟨some 4, (.mv (.c (.int .i64 0))), none⟩,
 .op ⟨some 5, (.mv (.c (.bool false))), none⟩]) (.seq (.reg [.op ⟨some 6, (.mv (.c (.int .i64 0))), none⟩,
 .op ⟨some 7, (.mv (.c (.int .i64 (-1)))), none⟩]) (.seq (.seq (.reg [.op ⟨some 10, (.mv (.t 0)), none⟩,
 .op ⟨some 11, (.len false (.t 10)), none⟩,
 .op ⟨some 12, (.mv (.c (.int .i64 0))), none⟩]) (.block 0 (.seq (.view [.sel [3, 6, 7, 10, 11, 12] [0]]) (.sub (.loop (scOf a_policy_Query_L8)) s_policy_Query_L8)))) (.seq (.reg [.op ⟨some 61, (.mv (.t 6)), none⟩,
 .op ⟨some 62, (.mv (.t 7)), none⟩,
 .op ⟨some 63, (.bin .geq (.t 62) (.c (.int .i64 0))), none⟩,
 .op ⟨some 4, (.mv (.t 61)), none⟩,
 .op ⟨some 5, (.mv (.t 63)), none⟩]) (.ret))))
theorem ok_policy_Query : AC.ok Tryd.prog (TIof Tryd.prog) 64 0 (kret [.t 4, .t 5] dec_policy_Query) a_policy_Query := (zA zT (zA zT (zA (zA zT (zA zT o_policy_Query_L8)) (zA zT zT))))
theorem t_policy_Query (v0 : List AV) (v1_0 : List UInt8) (v1_1 : Int) : den 0 (kret [.t 4, .t 5] dec_policy_Query) a_policy_Query (envOf [(0, (.sl 8 v0)), (1, (.agg [(.str v1_0), (.int .i64 v1_1)]))]) (memOf []) (kend (kret [.t 4, .t 5] dec_policy_Query)) = policy_Query v0 v1_0 v1_1 := by
  rw [policy_Query_eq]; kernel_rfl
theorem c_policy_Query : cFn (TIof Tryd.prog) Tryd.f8 = some ⟨64, [.t 4, .t 5], scOf a_policy_Query⟩ := by kernel_rfl
noncomputable def ent_policy_Query {R : Type} (xs : List AV) (K : AV → Option R) : Option R := chk (fitS shp_policy_Query (entry xs) Mem.none) (oB (policy_Query (gL [(entry xs) 0] 0) (gS ((entry xs) 1).cells 0) (gI ((entry xs) 1).cells 1)) fun r => K (enc_policy_Query r))
theorem k_policy_Query {R : Type} : EntOkB Tryd.prog 8 (ent_policy_Query (R := R)) :=
  ent_of (F := fun xs => policy_Query (gL [(entry xs) 0] 0) (gS ((entry xs) 1).cells 0) (gI ((entry xs) 1).cells 1)) (enc := enc_policy_Query) tabOk follows Tryd.func8 (by kernel_rfl) c_policy_Query (fun z r h => by
 obtain ⟨h1, h2⟩ := cond_some h
 cases h2
 exact (fitTup_eq h1).symm) ok_policy_Query (er_of (by kernel_rfl)) shp_policy_Query (fun xs => t_policy_Query (gL [(entry xs) 0] 0) (gS ((entry xs) 1).cells 0) (gI ((entry xs) 1).cells 1)) (fun xs K r h => by
 unfold ent_policy_Query at h
 exact ⟨(chk_some h).1, oB_some (chk_some h).2⟩)
def X_api_Rule : List LT := [(.i .i64), .s, .b, (.i .u64), (.i .u64), (.i .i64), (.i .i64), .op]
def dec_packet_Reply (z : AV) : Option AV := cond (fitRV (.st [(.i .i64), (.i .i64), (.i .i64), .b, .b, .b, .b, .b, .b, .b, .b, (.i .i64), .s, (.i .i64), .nil, .nil, .nil]) z) (some (z)) none
def enc_packet_Reply (r : AV) : AV := etaRV (.st [(.i .i64), (.i .i64), (.i .i64), .b, .b, .b, .b, .b, .b, .b, .b, (.i .i64), .s, (.i .i64), .nil, .nil, .nil]) r
def shp_packet_Reply : Shp := ⟨[(0, .st [(.l (.i .i64)), (.l (.i .i64)), (.l (.i .i64)), (.l .b), (.l .b), (.l .b), (.l .b), (.l .b), (.l .b), (.l .b), (.l .b), (.l (.i .i64)), (.l .s), (.l (.i .i64)), (.l (.sl 16)), (.l (.sl 16)), (.l (.sl 16))]), (1, .one (.l (.i .i64)))], []⟩
noncomputable def packet_Reply_i (v0_0 : Int) (v0_1 : Int) (v0_2 : Int) (v0_3 : Bool) (v0_4 : Bool) (v0_5 : Bool) (v0_6 : Bool) (v0_7 : Bool) (v0_8 : Bool) (v0_9 : Bool) (v0_10 : Bool) (v0_11 : Int) (v0_12 : List UInt8) (v0_13 : Int) (v0_14 : List AV) (v0_15 : List AV) (v0_16 : List AV) (v1 : Int) : Option AV :=
  (bif (v0_11 != (0 : Int)) then (some (.agg [(.int .i64 v0_0), (.int .i64 v0_1), (.int .i64 v1), (.bool true), (.bool false), (.bool false), (.bool v0_6), (.bool false), (.bool false), (.bool v0_9), (.bool v0_10), (.int .i64 (1232 : Int)), (.str v0_12), (.int .i64 v0_13), .nils, .nils, .nils])) else (some (.agg [(.int .i64 v0_0), (.int .i64 v0_1), (.int .i64 v1), (.bool true), (.bool false), (.bool false), (.bool v0_6), (.bool false), (.bool false), (.bool v0_9), (.bool v0_10), (.int .i64 (0 : Int)), (.str v0_12), (.int .i64 v0_13), .nils, .nils, .nils])))
noncomputable def packet_Reply := hull packet_Reply_i
theorem packet_Reply_eq : packet_Reply = packet_Reply_i := hull_eq _
noncomputable def a_packet_Reply : AC AV :=
  .seq (.reg [.op ⟨some 2, (.box (.t 0)), none⟩,
 .op ⟨some 4, (.alloc [(.int .i64 0), (.int .i64 0), (.int .i64 0), (.bool false), (.bool false), (.bool false), (.bool false), (.bool false), (.bool false), (.bool false), (.bool false), (.int .i64 0), (.str []), (.int .i64 0), .nils, .nils, .nils]), none⟩]) (.seq (.reg [.op ⟨some 6, (.fa 0 (.t 2)), none⟩,
 .op ⟨some 7, (.load false 1 (.t 6)), none⟩,
 .op ⟨some 8, (.fa 1 (.t 2)), none⟩,
 .op ⟨some 9, (.load false 1 (.t 8)), none⟩,
 .op ⟨some 10, (.mv (.t 1)), none⟩,
 .op ⟨some 11, (.fa 6 (.t 2)), none⟩,
 .op ⟨some 12, (.load false 1 (.t 11)), none⟩,
 .op ⟨some 13, (.fa 9 (.t 2)), none⟩,
 .op ⟨some 14, (.load false 1 (.t 13)), none⟩,
 .op ⟨some 15, (.fa 10 (.t 2)), none⟩,
 .op ⟨some 16, (.load false 1 (.t 15)), none⟩,
 .op ⟨some 17, (.fa 12 (.t 2)), none⟩,
 .op ⟨some 18, (.load true 2 (.t 17)), none⟩,
 .op ⟨some 19, (.build [(.int .i64 0), (.int .i64 0), (.int .i64 0), (.bool false), (.bool false), (.bool false), (.bool false), (.bool false), (.bool false), (.bool false), (.bool false), (.int .i64 0), (.str []), (.int .i64 0), .nils, .nils, .nils] [(0, (1, (.t 7))), (1, (1, (.t 9))), (2, (1, (.t 10))), (3, (1, (.c (.bool true)))), (6, (1, (.t 12))), (9, (1, (.t 14))), (10, (1, (.t 16))), (12, (2, (.t 18)))]), none⟩,
 .op ⟨some 5, (.alloc [(.int .i64 0), (.int .i64 0), (.int .i64 0), (.bool false), (.bool false), (.bool false), (.bool false), (.bool false), (.bool false), (.bool false), (.bool false), (.int .i64 0), (.str []), (.int .i64 0), .nils, .nils, .nils]), none⟩,
 .op ⟨none, (.store 17 (.t 5) (.t 19)), none⟩]) (.seq (.seq (.reg [.op ⟨some 20, (.fa 11 (.t 2)), none⟩,
 .op ⟨some 21, (.load false 1 (.t 20)), none⟩,
 .op ⟨some 22, (.bin .neq (.t 21) (.c (.int .i64 0))), none⟩]) (.cond (.t 22) (.reg [.op ⟨some 23, (.fa 11 (.t 5)), none⟩,
 .op ⟨none, (.store 1 (.t 23) (.c (.int .i64 1232))), none⟩]) (.skip))) (.seq (.reg [.op ⟨some 24, (.load true 17 (.t 5)), none⟩,
 .op ⟨none, (.store 17 (.t 4) (.t 24)), none⟩]) (.ret))))
theorem ok_packet_Reply : AC.ok Tryd.prog (TIof Tryd.prog) 25 0 (kret [(.cell 4 true 17)] dec_packet_Reply) a_packet_Reply := (zA zT (zA zT (zA (zA zT (zA zT zT)) (zA zT zT))))
theorem t_packet_Reply (v0_0 : Int) (v0_1 : Int) (v0_2 : Int) (v0_3 : Bool) (v0_4 : Bool) (v0_5 : Bool) (v0_6 : Bool) (v0_7 : Bool) (v0_8 : Bool) (v0_9 : Bool) (v0_10 : Bool) (v0_11 : Int) (v0_12 : List UInt8) (v0_13 : Int) (v0_14 : List AV) (v0_15 : List AV) (v0_16 : List AV) (v1 : Int) : den 0 (kret [(.cell 4 true 17)] dec_packet_Reply) a_packet_Reply (envOf [(0, (.agg [(.int .i64 v0_0), (.int .i64 v0_1), (.int .i64 v0_2), (.bool v0_3), (.bool v0_4), (.bool v0_5), (.bool v0_6), (.bool v0_7), (.bool v0_8), (.bool v0_9), (.bool v0_10), (.int .i64 v0_11), (.str v0_12), (.int .i64 v0_13), (.sl 16 v0_14), (.sl 16 v0_15), (.sl 16 v0_16)])), (1, (.int .i64 v1))]) (memOf []) (kend (kret [(.cell 4 true 17)] dec_packet_Reply)) = packet_Reply v0_0 v0_1 v0_2 v0_3 v0_4 v0_5 v0_6 v0_7 v0_8 v0_9 v0_10 v0_11 v0_12 v0_13 v0_14 v0_15 v0_16 v1 := by
  rw [packet_Reply_eq]; kernel_rfl
theorem c_packet_Reply : cFn (TIof Tryd.prog) Tryd.f47 = some ⟨25, [(.cell 4 true 17)], scOf a_packet_Reply⟩ := by kernel_rfl
noncomputable def ent_packet_Reply {R : Type} (xs : List AV) (K : AV → Option R) : Option R := chk (fitS shp_packet_Reply (entry xs) Mem.none) (oB (packet_Reply (gI ((entry xs) 0).cells 0) (gI ((entry xs) 0).cells 1) (gI ((entry xs) 0).cells 2) (gB ((entry xs) 0).cells 3) (gB ((entry xs) 0).cells 4) (gB ((entry xs) 0).cells 5) (gB ((entry xs) 0).cells 6) (gB ((entry xs) 0).cells 7) (gB ((entry xs) 0).cells 8) (gB ((entry xs) 0).cells 9) (gB ((entry xs) 0).cells 10) (gI ((entry xs) 0).cells 11) (gS ((entry xs) 0).cells 12) (gI ((entry xs) 0).cells 13) (gL ((entry xs) 0).cells 14) (gL ((entry xs) 0).cells 15) (gL ((entry xs) 0).cells 16) (gI [(entry xs) 1] 0)) fun r => K (enc_packet_Reply r))
theorem k_packet_Reply {R : Type} : EntOkB Tryd.prog 47 (ent_packet_Reply (R := R)) :=
  ent_of (F := fun xs => packet_Reply (gI ((entry xs) 0).cells 0) (gI ((entry xs) 0).cells 1) (gI ((entry xs) 0).cells 2) (gB ((entry xs) 0).cells 3) (gB ((entry xs) 0).cells 4) (gB ((entry xs) 0).cells 5) (gB ((entry xs) 0).cells 6) (gB ((entry xs) 0).cells 7) (gB ((entry xs) 0).cells 8) (gB ((entry xs) 0).cells 9) (gB ((entry xs) 0).cells 10) (gI ((entry xs) 0).cells 11) (gS ((entry xs) 0).cells 12) (gI ((entry xs) 0).cells 13) (gL ((entry xs) 0).cells 14) (gL ((entry xs) 0).cells 15) (gL ((entry xs) 0).cells 16) (gI [(entry xs) 1] 0)) (enc := enc_packet_Reply) tabOk follows Tryd.func47 (by kernel_rfl) c_packet_Reply (fun z r h => by
 obtain ⟨h1, h2⟩ := cond_some h
 cases h2
 exact (etaRV_eq h1).symm) ok_packet_Reply (er_of (by kernel_rfl)) shp_packet_Reply (fun xs => t_packet_Reply (gI ((entry xs) 0).cells 0) (gI ((entry xs) 0).cells 1) (gI ((entry xs) 0).cells 2) (gB ((entry xs) 0).cells 3) (gB ((entry xs) 0).cells 4) (gB ((entry xs) 0).cells 5) (gB ((entry xs) 0).cells 6) (gB ((entry xs) 0).cells 7) (gB ((entry xs) 0).cells 8) (gB ((entry xs) 0).cells 9) (gB ((entry xs) 0).cells 10) (gI ((entry xs) 0).cells 11) (gS ((entry xs) 0).cells 12) (gI ((entry xs) 0).cells 13) (gL ((entry xs) 0).cells 14) (gL ((entry xs) 0).cells 15) (gL ((entry xs) 0).cells 16) (gI [(entry xs) 1] 0)) (fun xs K r h => by
 unfold ent_packet_Reply at h
 exact ⟨(chk_some h).1, oB_some (chk_some h).2⟩)
def T_api_Record : List LT := [.s, (.i .i64), (.i .i64), .b, (.i .u64), (.i .u64), .s, .s, .s, (.i .i64), (.i .i64), (.i .i64), (.i .i64), (.i .i64), (.i .i64), (.i .u64)]
def shp_policy_local_1_L8 : Shp := ⟨[(0, .one (.l (.i .i64))), (2, .one (.ptr 1 0)), (5, .one (.own 2)), (8, .one (.l (.sl 16))), (9, .one (.l (.i .i64))), (10, .one (.l (.i .i64)))], [.box true [(.l (.sl 16))], .box true [(.l .s), (.l (.i .i64))], .arr true 16]⟩
noncomputable def policy_local_1_L8_b {R : Type}  (v0 : Int) (v8 : List AV) (v9 : Int) (v10 : Int) (b0_0 : List AV) (b1_0 : List UInt8) (b1_1 : Int) (a2 : List AV) (next : Int → (List AV) → Option R) (kx0 : (List AV) → Option R) : Option R :=
  (bif (decide (v10 < v9)) then (oB (ixB v8 v10) fun y1 => (bif fitC T_api_Record y1.cells then (bif (((gI y1.cells 1) == v0) || (v0 == (255 : Int))) then (bif hd a2 a2.length then (bif hd ([(.agg [(.str b1_0), (.int .i64 (gI y1.cells 1)), (.int .i64 (gI y1.cells 2)), (.bool (gB y1.cells 3)), (.int .u64 (gI y1.cells 4)), (.int .u64 (gI y1.cells 5)), (.str (gS y1.cells 6)), (.str (gS y1.cells 7)), (.str (gS y1.cells 8)), (.int .i64 (gI y1.cells 9)), (.int .i64 (gI y1.cells 10)), (.int .i64 (gI y1.cells 11)), (.int .i64 (gI y1.cells 12)), (.int .i64 (gI y1.cells 13)), (.int .i64 (gI y1.cells 14)), (.int .u64 (gI y1.cells 15))])] : List AV) (([(.agg [(.str b1_0), (.int .i64 (gI y1.cells 1)), (.int .i64 (gI y1.cells 2)), (.bool (gB y1.cells 3)), (.int .u64 (gI y1.cells 4)), (.int .u64 (gI y1.cells 5)), (.str (gS y1.cells 6)), (.str (gS y1.cells 7)), (.str (gS y1.cells 8)), (.int .i64 (gI y1.cells 9)), (.int .i64 (gI y1.cells 10)), (.int .i64 (gI y1.cells 11)), (.int .i64 (gI y1.cells 12)), (.int .i64 (gI y1.cells 13)), (.int .i64 (gI y1.cells 14)), (.int .u64 (gI y1.cells 15))])] : List AV).length) then (bif decide ((a2.length + ([(.agg [(.str b1_0), (.int .i64 (gI y1.cells 1)), (.int .i64 (gI y1.cells 2)), (.bool (gB y1.cells 3)), (.int .u64 (gI y1.cells 4)), (.int .u64 (gI y1.cells 5)), (.str (gS y1.cells 6)), (.str (gS y1.cells 7)), (.str (gS y1.cells 8)), (.int .i64 (gI y1.cells 9)), (.int .i64 (gI y1.cells 10)), (.int .i64 (gI y1.cells 11)), (.int .i64 (gI y1.cells 12)), (.int .i64 (gI y1.cells 13)), (.int .i64 (gI y1.cells 14)), (.int .u64 (gI y1.cells 15))])] : List AV).length) * 160 ≤ 140737488355328) then (next (IntKind.i64.wrap (v10 + (1 : Int))) (a2 ++ ([(.agg [(.str b1_0), (.int .i64 (gI y1.cells 1)), (.int .i64 (gI y1.cells 2)), (.bool (gB y1.cells 3)), (.int .u64 (gI y1.cells 4)), (.int .u64 (gI y1.cells 5)), (.str (gS y1.cells 6)), (.str (gS y1.cells 7)), (.str (gS y1.cells 8)), (.int .i64 (gI y1.cells 9)), (.int .i64 (gI y1.cells 10)), (.int .i64 (gI y1.cells 11)), (.int .i64 (gI y1.cells 12)), (.int .i64 (gI y1.cells 13)), (.int .i64 (gI y1.cells 14)), (.int .u64 (gI y1.cells 15))])] : List AV))) else none) else none) else none) else (next (IntKind.i64.wrap (v10 + (1 : Int))) a2)) else none)) else (kx0 a2))
noncomputable def policy_local_1_L8_i {R : Type}  (v0 : Int) (v8 : List AV) (v9 : Int) (b0_0 : List AV) (b1_0 : List UInt8) (b1_1 : Int) (kx0 : (List AV) → Option R) : Nat → Int → (List AV) → Option R
  | 0 => (fun _ _ => none)
  | n + 1 => (fun v10 a2 => policy_local_1_L8_b v0 v8 v9 v10 b0_0 b1_0 b1_1 a2 (policy_local_1_L8_i v0 v8 v9 b0_0 b1_0 b1_1 kx0 n) kx0)
noncomputable def policy_local_1_L8 {R : Type} := hull (policy_local_1_L8_i (R := R))
theorem policy_local_1_L8_eq {R : Type} : policy_local_1_L8 (R := R) = policy_local_1_L8_i := hull_eq _
noncomputable def a_policy_local_1_L8 {R : Type} (KK : AV → Mem → Option R) : AC R :=
  .seq (.reg [.op ⟨some 11, (.bin .lss (.t 10) (.t 9)), none⟩]) (.seq (.cond (.t 11) (.skip) (.seq (.view [.sel [5] [0, 1, 2]]) (.exit 0))) (.seq (.block 1 (.seq (.reg [.op ⟨some 12, (.ia 16 (.t 8) (.t 10)), none⟩,
 .st (.etac 12 T_api_Record),
 .op ⟨some 13, (.load true 16 (.t 12)), none⟩,
 .op ⟨some 7, (.alloc [(.str []), (.int .i64 0), (.int .i64 0), (.bool false), (.int .u64 0), (.int .u64 0), (.str []), (.str []), (.str []), (.int .i64 0), (.int .i64 0), (.int .i64 0), (.int .i64 0), (.int .i64 0), (.int .i64 0), (.int .u64 0)]), none⟩,
 .op ⟨none, (.store 16 (.t 7) (.t 13)), none⟩]) (.seq (.reg [.op ⟨some 14, (.fa 1 (.t 7)), none⟩,
 .op ⟨some 15, (.load false 1 (.t 14)), none⟩,
 .op ⟨some 16, (.mv (.t 0)), none⟩,
 .op ⟨some 17, (.bin .eql (.t 15) (.t 16)), none⟩,
 .op ⟨some 18, (.mv (.t 17)), none⟩,
 .grp 18 false [⟨some 19, (.mv (.t 0)), (some (18, false))⟩, ⟨some 20, (.bin .eql (.t 19) (.c (.int .i64 255))), (some (18, false))⟩] 21 (.t 20)]) (.cond (.t 21) (.seq (.reg [.op ⟨some 22, (.fa 0 (.t 2)), none⟩,
 .op ⟨some 23, (.load false 1 (.t 22)), none⟩,
 .op ⟨some 24, (.fa 0 (.t 7)), none⟩,
 .op ⟨none, (.store 1 (.t 24) (.t 23)), none⟩]) (.reg [.op ⟨some 25, (.mv (.t 5)), none⟩,
 .op ⟨some 26, (.load true 16 (.t 7)), none⟩,
 .op ⟨some 27, (.bsl 16 [.t 26]), none⟩,
 .op ⟨some 28, (.app 16 160 (.t 25) (.t 27)), none⟩,
 .op ⟨some 5, (.mv (.t 28)), none⟩])) (.skip))))) (.seq (.reg [.op ⟨some 29, (.bin .add (.t 10) (.c (.int .i64 1))), none⟩,
 .op ⟨some 10, (.mv (.t 29)), none⟩]) (.view [.sel [0, 2, 5, 8, 9, 10] [0, 1, 2]]))))
theorem ok_policy_local_1_L8 {R : Type} (KK : AV → Mem → Option R) : AC.ok Tryd.prog (TIof Tryd.prog) 31 2 (kretr [.t 4] KK) (a_policy_local_1_L8 KK) := (zA zT (zA (zA zT (zA zT zT)) (zA (zA zT (zA zT (zA (zA zT zT) zT))) (zA zT zT))))
theorem t_policy_local_1_L8_b {R : Type} (KK : AV → Mem → Option R) (v0 : Int) (v8 : List AV) (v9 : Int) (v10 : Int) (b0_0 : List AV) (b1_0 : List UInt8) (b1_1 : Int) (a2 : List AV) (K : Ex → Env → Mem → Option R) : den 2 (kretr [.t 4] KK) (a_policy_local_1_L8 KK) (envOf [(0, (.int .i64 v0)), (2, (.ptr 1 0)), (5, (.own 2 a2.length)), (8, (.sl 16 v8)), (9, (.int .i64 v9)), (10, (.int .i64 v10))]) (memOf [(some (.box true [(.sl 16 b0_0)])), (some (.box true [(.str b1_0), (.int .i64 b1_1)])), (some (.arr true 16 a2))]) K = policy_local_1_L8_b v0 v8 v9 v10 b0_0 b1_0 b1_1 a2 (fun z_v10 z_a2 => K .norm (envOf [(0, (.int .i64 v0)), (2, (.ptr 1 0)), (5, (.own 2 z_a2.length)), (8, (.sl 16 v8)), (9, (.int .i64 v9)), (10, (.int .i64 z_v10))]) (memOf [(some (.box true [(.sl 16 b0_0)])), (some (.box true [(.str b1_0), (.int .i64 b1_1)])), (some (.arr true 16 z_a2))])) (fun z_a2 => K (.exit 0) (envOf [(5, (.own 2 z_a2.length))]) (memOf [(some (.box true [(.sl 16 b0_0)])), (some (.box true [(.str b1_0), (.int .i64 b1_1)])), (some (.arr true 16 z_a2))])) := by kernel_rfl
theorem t_policy_local_1_L8 {R : Type} (KK : AV → Mem → Option R) (v0 : Int) (v8 : List AV) (v9 : Int) (b0_0 : List AV) (b1_0 : List UInt8) (b1_1 : Int) (K : Ex → Env → Mem → Option R) : ∀ (n : Nat) (v10 : Int) (a2 : List AV), iterD (den 2 (kretr [.t 4] KK) (a_policy_local_1_L8 KK)) n (envOf [(0, (.int .i64 v0)), (2, (.ptr 1 0)), (5, (.own 2 a2.length)), (8, (.sl 16 v8)), (9, (.int .i64 v9)), (10, (.int .i64 v10))]) (memOf [(some (.box true [(.sl 16 b0_0)])), (some (.box true [(.str b1_0), (.int .i64 b1_1)])), (some (.arr true 16 a2))]) K = policy_local_1_L8 v0 v8 v9 b0_0 b1_0 b1_1 (fun z_a2 => K (.exit 0) (envOf [(5, (.own 2 z_a2.length))]) (memOf [(some (.box true [(.sl 16 b0_0)])), (some (.box true [(.str b1_0), (.int .i64 b1_1)])), (some (.arr true 16 z_a2))])) n v10 a2 := by
  rw [policy_local_1_L8_eq]
  intro n
  induction n with
  | zero => intros; rfl
  | succ n ih =>
 intro v10 a2
 exact (t_policy_local_1_L8_b KK v0 v8 v9 v10 b0_0 b1_0 b1_1 a2 (itK (den 2 (kretr [.t 4] KK) (a_policy_local_1_L8 KK)) n K)).trans (congrArg (fun q => policy_local_1_L8_b v0 v8 v9 v10 b0_0 b1_0 b1_1 a2 q (fun z_a2 => K (.exit 0) (envOf [(5, (.own 2 z_a2.length))]) (memOf [(some (.box true [(.sl 16 b0_0)])), (some (.box true [(.str b1_0), (.int .i64 b1_1)])), (some (.arr true 16 z_a2))]))) (funext fun v10 => funext fun a2 => ih v10 a2))
noncomputable def s_policy_local_1_L8 {R : Type} (KK : AV → Mem → Option R) : Env → Mem → (Ex → Env → Mem → Option R) → Option R := fun t m K => chk (fitS0 shp_policy_local_1_L8 t m) (cond (hdS shp_policy_local_1_L8 t m) (policy_local_1_L8 (gI [t 0] 0) (gL [t 8] 0) (gI [t 9] 0) (gL (bxC (m.s 0)) 0) (gS (bxC (m.s 1)) 0) (gI (bxC (m.s 1)) 1) (fun z_a2 => K (.exit 0) (envOf [(5, (.own 2 z_a2.length))]) (memOf [(some (.box true [(.sl 16 (gL (bxC (m.s 0)) 0))])), (some (.box true [(.str (gS (bxC (m.s 1)) 0)), (.int .i64 (gI (bxC (m.s 1)) 1))])), (some (.arr true 16 z_a2))])) FU (gI [t 10] 0) (arL (m.s 2))) none)
theorem o_policy_local_1_L8 {R : Type} (KK : AV → Mem → Option R) : SubOk Tryd.prog (TIof Tryd.prog) 31 2 (kretr [.t 4] KK) (.loop (scOf (a_policy_local_1_L8 KK))) (s_policy_local_1_L8 KK) :=
  loop_of tabOk follows (ok_policy_local_1_L8 KK) (er_of (by kernel_rfl)) shp_policy_local_1_L8 (fun t m K => congrArg (fun z => chk (fitS0 shp_policy_local_1_L8 t m) (cond (hdS shp_policy_local_1_L8 t m) z none)) (t_policy_local_1_L8 KK (gI [t 0] 0) (gL [t 8] 0) (gI [t 9] 0) (gL (bxC (m.s 0)) 0) (gS (bxC (m.s 1)) 0) (gI (bxC (m.s 1)) 1) K FU (gI [t 10] 0) (arL (m.s 2))).symm)
def shp_policy_local_1 : Shp := ⟨[(0, .one (.l (.i .i64))), (1, .one (.ptr 0 0)), (2, .one (.ptr 1 0))], [.box true [(.l (.sl 16))], .box true [(.l .s), (.l (.i .i64))]]⟩
noncomputable def policy_local_1_i {R : Type}  (v0 : Int) (b0_0 : List AV) (b1_0 : List UInt8) (b1_1 : Int) (kr : (List AV) → (List UInt8) → Int → (List AV) → Option R) : Option R :=
  (bif (hd ([] : List AV) (([] : List AV).length) && true) then (policy_local_1_L8 v0 b0_0 (b0_0.length : Int) b0_0 b1_0 b1_1 (fun a2q1 => (kr b0_0 b1_0 b1_1 a2q1)) FU (0 : Int) ([] : List AV)) else none)
noncomputable def policy_local_1 {R : Type} := hull (policy_local_1_i (R := R))
theorem policy_local_1_eq {R : Type} : policy_local_1 (R := R) = policy_local_1_i := hull_eq _
noncomputable def a_policy_local_1 {R : Type} (KK : AV → Mem → Option R) : AC R :=
  .seq (.reg [.op ⟨some 4, (.mv (.c .nils)), none⟩]) (.seq (.reg [.op ⟨some 5, (.mv (.c .nils)), none⟩]) (.seq (.seq (.reg [.op ⟨some 8, (.load false 1 (.t 1)), none⟩,
 .op ⟨some 9, (.len false (.t 8)), none⟩,
 .op ⟨some 10, (.mv (.c (.int .i64 0))), none⟩]) (.block 0 (.seq (.view [.own 5 16, .sel [0, 2, 5, 8, 9, 10] [0, 1, 2]]) (.sub (.loop (scOf (a_policy_local_1_L8 KK))) (s_policy_local_1_L8 KK))))) (.seq (.reg [.op ⟨some 30, (.mv (.t 5)), none⟩,
 .op ⟨some 4, (.mv (.t 30)), none⟩]) (.seq (.view [.sel [4] [0, 1, 2]]) (.ret)))))
theorem ok_policy_local_1 {R : Type} (KK : AV → Mem → Option R) : AC.ok Tryd.prog (TIof Tryd.prog) 31 2 (kretr [.t 4] KK) (a_policy_local_1 KK) := (zA zT (zA zT (zA (zA zT (zA zT (o_policy_local_1_L8 KK))) (zA zT (zA zT zT)))))
theorem t_policy_local_1 {R : Type} (KK : AV → Mem → Option R) (v0 : Int) (b0_0 : List AV) (b1_0 : List UInt8) (b1_1 : Int) : den 2 (kretr [.t 4] KK) (a_policy_local_1 KK) (envOf [(0, (.int .i64 v0)), (1, (.ptr 0 0)), (2, (.ptr 1 0))]) (memOf [(some (.box true [(.sl 16 b0_0)])), (some (.box true [(.str b1_0), (.int .i64 b1_1)]))]) (kend (kretr [.t 4] KK)) = policy_local_1 v0 b0_0 b1_0 b1_1 (fun b0_0 b1_0 b1_1 a2 => KK (.own 2 a2.length) (memOf [(some (.box true [(.sl 16 b0_0)])), (some (.box true [(.str b1_0), (.int .i64 b1_1)])), (some (.arr true 16 a2))])) := by
  rw [policy_local_1_eq]; kernel_rfl
theorem c_policy_local_1 : cFn (TIof Tryd.prog) Tryd.f65 = some ⟨31, [.t 4], scOf (a_policy_local_1 (R := Unit) (fun _ _ => none))⟩ := by kernel_rfl
theorem r_policy_local_1 {R : Type} (KK : AV → Mem → Option R) : (a_policy_local_1 KK).er = some (scOf (a_policy_local_1 (R := Unit) (fun _ _ => none))) := by kernel_rfl
noncomputable def e_policy_local_1 {R : Type} (xs : List AV) (m : Mem) (KK : AV → Mem → Option R) : Option R := chk (fitS0 shp_policy_local_1 (entry xs) m) (cond (hdS shp_policy_local_1 (entry xs) m) (policy_local_1 (gI [(entry xs) 0] 0) (gL (bxC (m.s 0)) 0) (gS (bxC (m.s 1)) 0) (gI (bxC (m.s 1)) 1) (fun b0_0 b1_0 b1_1 a2 => KK (.own 2 a2.length) (memOf [(some (.box true [(.sl 16 b0_0)])), (some (.box true [(.str b1_0), (.int .i64 b1_1)])), (some (.arr true 16 a2))]))) none)
theorem k_policy_local_1 {R : Type} : RefOk Tryd.prog 65 (e_policy_local_1 (R := R)) :=
  refs_of (ac := fun KK => a_policy_local_1 KK) tabOk follows Tryd.func65 (by kernel_rfl) c_policy_local_1 (fun KK => ok_policy_local_1 KK) (fun KK => r_policy_local_1 KK) shp_policy_local_1 rfl (fun xs m KK => congrArg (fun z => chk (fitS0 shp_policy_local_1 (entry xs) m) (cond (hdS shp_policy_local_1 (entry xs) m) z none)) (t_policy_local_1 KK (gI [(entry xs) 0] 0) (gL (bxC (m.s 0)) 0) (gS (bxC (m.s 1)) 0) (gI (bxC (m.s 1)) 1)).symm)
def dec_policy_local (z : AV) : Option (List AV) := cond (fitRV (.one (.fr true 16)) z) (some (aL z)) none
def enc_policy_local (r : (List AV)) : AV := .fr true 16 r
def shp_policy_local : Shp := ⟨[(0, .one (.l (.sl 16))), (1, .st [(.l .s), (.l (.i .i64))])], []⟩
noncomputable def policy_local_i (v0 : List AV) (v1_0 : List UInt8) (v1_1 : Int) : Option (List AV) :=
  (policy_local_1 v1_1 v0 v1_0 v1_1 fun b0_0q1 b1_0q2 b1_1q3 a2q4 => (bif (decide ((a2q4.length : Int) > (0 : Int))) then (bif hd a2q4 a2q4.length then (some a2q4) else none) else (policy_local_1 (5 : Int) b0_0q1 b1_0q2 b1_1q3 fun b0_0q5 b1_0q6 b1_1q7 a2q8 => (bif hd a2q8 a2q8.length then (some a2q8) else none))))
noncomputable def policy_local := hull policy_local_i
theorem policy_local_eq : policy_local = policy_local_i := hull_eq _
noncomputable def a_policy_local : AC (List AV) :=
  .seq (.reg [.op ⟨some 2, (.box (.t 0)), none⟩,
 .op ⟨some 3, (.box (.t 1)), none⟩,
 .op ⟨some 4, (.mv (.c .nils)), none⟩]) (.seq (.reg [.op ⟨some 7, (.mkf 65 [.t 2, .t 3]), none⟩,
 .op ⟨some 5, (.mv (.t 7)), none⟩]) (.seq (.seq (.reg [.op ⟨some 8, (.mv (.t 5)), none⟩,
 .op ⟨some 9, (.fa 1 (.t 3)), none⟩,
 .op ⟨some 10, (.load false 1 (.t 9)), none⟩,
 .st (.sel [5, 8, 10] [0, 1]),
 .callr ⟨some 11, (.callv (.t 8) [.t 10]), none⟩ 65 e_policy_local_1,
 .op ⟨some 6, (.mv (.t 11)), none⟩]) (.seq (.reg [.op ⟨some 12, (.mv (.t 6)), none⟩,
 .op ⟨some 13, (.len false (.t 12)), none⟩,
 .op ⟨some 14, (.bin .gtr (.t 13) (.c (.int .i64 0))), none⟩]) (.cond (.t 14) (.seq (.reg [.op ⟨some 15, (.mv (.t 6)), none⟩,
 .op ⟨some 4, (.mv (.t 15)), none⟩]) (.ret)) (.skip)))) (.seq (.reg [.op ⟨some 16, (.mv (.t 5)), none⟩,
 .st (.sel [16] [0, 1]),
 .callr ⟨some 17, (.callv (.t 16) [(.c (.int .i64 5))]), none⟩ 65 e_policy_local_1,
 .op ⟨some 4, (.mv (.t 17)), none⟩]) (.ret))))
theorem ok_policy_local : AC.ok Tryd.prog (TIof Tryd.prog) 18 0 (kret [.t 4] dec_policy_local) a_policy_local := (zA zT (zA zT (zA (zA (zA k_policy_local_1 zT) (zA zT (zA (zA zT zT) zT))) (zA (zA k_policy_local_1 zT) zT))))
theorem t_policy_local (v0 : List AV) (v1_0 : List UInt8) (v1_1 : Int) : den 0 (kret [.t 4] dec_policy_local) a_policy_local (envOf [(0, (.sl 16 v0)), (1, (.agg [(.str v1_0), (.int .i64 v1_1)]))]) (memOf []) (kend (kret [.t 4] dec_policy_local)) = policy_local v0 v1_0 v1_1 := by
  rw [policy_local_eq]; kernel_rfl
theorem c_policy_local : cFn (TIof Tryd.prog) Tryd.f48 = some ⟨18, [.t 4], scOf a_policy_local⟩ := by kernel_rfl
noncomputable def ent_policy_local {R : Type} (xs : List AV) (K : AV → Option R) : Option R := chk (fitS shp_policy_local (entry xs) Mem.none) (oB (policy_local (gL [(entry xs) 0] 0) (gS ((entry xs) 1).cells 0) (gI ((entry xs) 1).cells 1)) fun r => K (enc_policy_local r))
theorem k_policy_local {R : Type} : EntOkB Tryd.prog 48 (ent_policy_local (R := R)) :=
  ent_of (F := fun xs => policy_local (gL [(entry xs) 0] 0) (gS ((entry xs) 1).cells 0) (gI ((entry xs) 1).cells 1)) (enc := enc_policy_local) tabOk follows Tryd.func48 (by kernel_rfl) c_policy_local (fun z r h => by
 obtain ⟨h1, h2⟩ := cond_some h
 cases h2
 exact (etaRV_eq h1).symm) ok_policy_local (er_of (by kernel_rfl)) shp_policy_local (fun xs => t_policy_local (gL [(entry xs) 0] 0) (gS ((entry xs) 1).cells 0) (gI ((entry xs) 1).cells 1)) (fun xs K r h => by
 unfold ent_policy_local at h
 exact ⟨(chk_some h).1, oB_some (chk_some h).2⟩)
def dec_policy_Act (z : AV) : Option AV := cond (fitRV (.st [(.i .i64), (.i .i64), (.i .i64), .b, .b, .b, .b, .b, .b, .b, .b, (.i .i64), .s, (.i .i64), (.sl 16), (.sl 16), (.sl 16)]) z) (some (z)) none
def enc_policy_Act (r : AV) : AV := etaRV (.st [(.i .i64), (.i .i64), (.i .i64), .b, .b, .b, .b, .b, .b, .b, .b, (.i .i64), .s, (.i .i64), (.sl 16), (.sl 16), (.sl 16)]) r
def shp_policy_Act_J5 : Shp := ⟨[(3, .one (.ptr 0 0)), (4, .one (.ptr 1 0)), (5, .one (.ptr 2 0)), (6, .one (.ptr 3 0)), (7, .one (.map 4))], [.box true [(.l (.i .i64)), (.l .s), (.l .b), (.l (.i .u64)), (.l (.i .u64)), (.l (.i .i64)), (.l (.i .i64)), (.l (.sl 16))], .box true [(.l (.i .i64)), (.l (.i .i64)), (.l (.i .i64)), (.l .b), (.l .b), (.l .b), (.l .b), (.l .b), (.l .b), (.l .b), (.l .b), (.l (.i .i64)), (.l .s), (.l (.i .i64)), (.l (.sl 16)), (.l (.sl 16)), (.l (.sl 16))], .box true [(.l (.i .i64)), (.l (.i .i64)), (.l (.i .i64)), (.l .b), (.l .b), (.l .b), (.l .b), (.l .b), (.l .b), (.l .b), (.l .b), (.l (.i .i64)), (.l .s), (.l (.i .i64)), (.l (.sl 16)), (.l (.sl 16)), (.l (.sl 16))], .box true [(.l (.i .i64)), (.l (.i .i64)), (.l (.i .i64)), (.l .b), (.l .b), (.l .b), (.l .b), (.l .b), (.l .b), (.l .b), (.l .b), (.l (.i .i64)), (.l .s), (.l (.i .i64)), (.l .nil), (.l .nil), (.l .nil)], .map]⟩
noncomputable def policy_Act_J5_i  (b0_0 : Int) (b0_1 : List UInt8) (b0_2 : Bool) (b0_3 : Int) (b0_4 : Int) (b0_5 : Int) (b0_6 : Int) (b0_7 : List AV) (b1_0 : Int) (b1_1 : Int) (b1_2 : Int) (b1_3 : Bool) (b1_4 : Bool) (b1_5 : Bool) (b1_6 : Bool) (b1_7 : Bool) (b1_8 : Bool) (b1_9 : Bool) (b1_10 : Bool) (b1_11 : Int) (b1_12 : List UInt8) (b1_13 : Int) (b1_14 : List AV) (b1_15 : List AV) (b1_16 : List AV) (b2_0 : Int) (b2_1 : Int) (b2_2 : Int) (b2_3 : Bool) (b2_4 : Bool) (b2_5 : Bool) (b2_6 : Bool) (b2_7 : Bool) (b2_8 : Bool) (b2_9 : Bool) (b2_10 : Bool) (b2_11 : Int) (b2_12 : List UInt8) (b2_13 : Int) (b2_14 : List AV) (b2_15 : List AV) (b2_16 : List AV) (b3_0 : Int) (b3_1 : Int) (b3_2 : Int) (b3_3 : Bool) (b3_4 : Bool) (b3_5 : Bool) (b3_6 : Bool) (b3_7 : Bool) (b3_8 : Bool) (b3_9 : Bool) (b3_10 : Bool) (b3_11 : Int) (b3_12 : List UInt8) (b3_13 : Int) (m4 : List (AV × AV)) (kn : Int → Bool → Option AV) : Option AV :=
  (mgB (.mk false [(.i .i64)]) (.int .i64 b0_6) m4 (fun q1 => (bif fitV (.one (.i .i64)) q1 then (kn (aI q1) true) else none)) (kn (0 : Int) false))
noncomputable def policy_Act_J5 := hull (policy_Act_J5_i)
theorem policy_Act_J5_eq : policy_Act_J5 = policy_Act_J5_i := hull_eq _
noncomputable def a_policy_Act_J5 : AC AV :=
  .seq (.reg [.op ⟨some 14, (.mv (.t 7)), none⟩,
 .op ⟨some 15, (.fa 6 (.t 3)), none⟩,
 .op ⟨some 16, (.load false 1 (.t 15)), none⟩,
 .op ⟨some 17, (.mget (.mk false [(.i .i64)]) (.int .i64 0) true (.t 14) (.t 16)), none⟩,
 .op ⟨some 13, (.mv (.t 17)), none⟩,
 .op ⟨some 18, (.ext (.t 13) 0), none⟩,
 .st (.eta 18 (.one (.i .i64))),
 .op ⟨some 19, (.ext (.t 13) 1), none⟩,
 .op ⟨some 8, (.mv (.t 18)), none⟩,
 .op ⟨some 9, (.mv (.t 19)), none⟩]) (.view [.sel [3, 4, 5, 6, 8, 9] [0, 1, 2, 3]])
theorem ok_policy_Act_J5 : AC.ok Tryd.prog (TIof Tryd.prog) 39 0 (kret [(.cell 6 true 17)] dec_policy_Act) a_policy_Act_J5 := (zA zT zT)
theorem t_policy_Act_J5 (b0_0 : Int) (b0_1 : List UInt8) (b0_2 : Bool) (b0_3 : Int) (b0_4 : Int) (b0_5 : Int) (b0_6 : Int) (b0_7 : List AV) (b1_0 : Int) (b1_1 : Int) (b1_2 : Int) (b1_3 : Bool) (b1_4 : Bool) (b1_5 : Bool) (b1_6 : Bool) (b1_7 : Bool) (b1_8 : Bool) (b1_9 : Bool) (b1_10 : Bool) (b1_11 : Int) (b1_12 : List UInt8) (b1_13 : Int) (b1_14 : List AV) (b1_15 : List AV) (b1_16 : List AV) (b2_0 : Int) (b2_1 : Int) (b2_2 : Int) (b2_3 : Bool) (b2_4 : Bool) (b2_5 : Bool) (b2_6 : Bool) (b2_7 : Bool) (b2_8 : Bool) (b2_9 : Bool) (b2_10 : Bool) (b2_11 : Int) (b2_12 : List UInt8) (b2_13 : Int) (b2_14 : List AV) (b2_15 : List AV) (b2_16 : List AV) (b3_0 : Int) (b3_1 : Int) (b3_2 : Int) (b3_3 : Bool) (b3_4 : Bool) (b3_5 : Bool) (b3_6 : Bool) (b3_7 : Bool) (b3_8 : Bool) (b3_9 : Bool) (b3_10 : Bool) (b3_11 : Int) (b3_12 : List UInt8) (b3_13 : Int) (m4 : List (AV × AV)) (K : Ex → Env → Mem → Option AV) : den 0 (kret [(.cell 6 true 17)] dec_policy_Act) a_policy_Act_J5 (envOf [(3, (.ptr 0 0)), (4, (.ptr 1 0)), (5, (.ptr 2 0)), (6, (.ptr 3 0)), (7, (.map 4))]) (memOf [(some (.box true [(.int .i64 b0_0), (.str b0_1), (.bool b0_2), (.int .u64 b0_3), (.int .u64 b0_4), (.int .i64 b0_5), (.int .i64 b0_6), (.sl 16 b0_7)])), (some (.box true [(.int .i64 b1_0), (.int .i64 b1_1), (.int .i64 b1_2), (.bool b1_3), (.bool b1_4), (.bool b1_5), (.bool b1_6), (.bool b1_7), (.bool b1_8), (.bool b1_9), (.bool b1_10), (.int .i64 b1_11), (.str b1_12), (.int .i64 b1_13), (.sl 16 b1_14), (.sl 16 b1_15), (.sl 16 b1_16)])), (some (.box true [(.int .i64 b2_0), (.int .i64 b2_1), (.int .i64 b2_2), (.bool b2_3), (.bool b2_4), (.bool b2_5), (.bool b2_6), (.bool b2_7), (.bool b2_8), (.bool b2_9), (.bool b2_10), (.int .i64 b2_11), (.str b2_12), (.int .i64 b2_13), (.sl 16 b2_14), (.sl 16 b2_15), (.sl 16 b2_16)])), (some (.box true [(.int .i64 b3_0), (.int .i64 b3_1), (.int .i64 b3_2), (.bool b3_3), (.bool b3_4), (.bool b3_5), (.bool b3_6), (.bool b3_7), (.bool b3_8), (.bool b3_9), (.bool b3_10), (.int .i64 b3_11), (.str b3_12), (.int .i64 b3_13), .nils, .nils, .nils])), (some (.map m4))]) K = policy_Act_J5 b0_0 b0_1 b0_2 b0_3 b0_4 b0_5 b0_6 b0_7 b1_0 b1_1 b1_2 b1_3 b1_4 b1_5 b1_6 b1_7 b1_8 b1_9 b1_10 b1_11 b1_12 b1_13 b1_14 b1_15 b1_16 b2_0 b2_1 b2_2 b2_3 b2_4 b2_5 b2_6 b2_7 b2_8 b2_9 b2_10 b2_11 b2_12 b2_13 b2_14 b2_15 b2_16 b3_0 b3_1 b3_2 b3_3 b3_4 b3_5 b3_6 b3_7 b3_8 b3_9 b3_10 b3_11 b3_12 b3_13 m4 (fun z_v8 z_v9 => K .norm (envOf [(3, (.ptr 0 0)), (4, (.ptr 1 0)), (5, (.ptr 2 0)), (6, (.ptr 3 0)), (8, (.int .i64 z_v8)), (9, (.bool z_v9))]) (memOf [(some (.box true [(.int .i64 b0_0), (.str b0_1), (.bool b0_2), (.int .u64 b0_3), (.int .u64 b0_4), (.int .i64 b0_5), (.int .i64 b0_6), (.sl 16 b0_7)])), (some (.box true [(.int .i64 b1_0), (.int .i64 b1_1), (.int .i64 b1_2), (.bool b1_3), (.bool b1_4), (.bool b1_5), (.bool b1_6), (.bool b1_7), (.bool b1_8), (.bool b1_9), (.bool b1_10), (.int .i64 b1_11), (.str b1_12), (.int .i64 b1_13), (.sl 16 b1_14), (.sl 16 b1_15), (.sl 16 b1_16)])), (some (.box true [(.int .i64 b2_0), (.int .i64 b2_1), (.int .i64 b2_2), (.bool b2_3), (.bool b2_4), (.bool b2_5), (.bool b2_6), (.bool b2_7), (.bool b2_8), (.bool b2_9), (.bool b2_10), (.int .i64 b2_11), (.str b2_12), (.int .i64 b2_13), (.sl 16 b2_14), (.sl 16 b2_15), (.sl 16 b2_16)])), (some (.box true [(.int .i64 b3_0), (.int .i64 b3_1), (.int .i64 b3_2), (.bool b3_3), (.bool b3_4), (.bool b3_5), (.bool b3_6), (.bool b3_7), (.bool b3_8), (.bool b3_9), (.bool b3_10), (.int .i64 b3_11), (.str b3_12), (.int .i64 b3_13), .nils, .nils, .nils]))])) := by
  rw [policy_Act_J5_eq]; kernel_rfl
noncomputable def s_policy_Act_J5 : Env → Mem → (Ex → Env → Mem → Option AV) → Option AV := fun t m K => chk (fitS0 shp_policy_Act_J5 t m) (cond (hdS shp_policy_Act_J5 t m) (policy_Act_J5 (gI (bxC (m.s 0)) 0) (gS (bxC (m.s 0)) 1) (gB (bxC (m.s 0)) 2) (gI (bxC (m.s 0)) 3) (gI (bxC (m.s 0)) 4) (gI (bxC (m.s 0)) 5) (gI (bxC (m.s 0)) 6) (gL (bxC (m.s 0)) 7) (gI (bxC (m.s 1)) 0) (gI (bxC (m.s 1)) 1) (gI (bxC (m.s 1)) 2) (gB (bxC (m.s 1)) 3) (gB (bxC (m.s 1)) 4) (gB (bxC (m.s 1)) 5) (gB (bxC (m.s 1)) 6) (gB (bxC (m.s 1)) 7) (gB (bxC (m.s 1)) 8) (gB (bxC (m.s 1)) 9) (gB (bxC (m.s 1)) 10) (gI (bxC (m.s 1)) 11) (gS (bxC (m.s 1)) 12) (gI (bxC (m.s 1)) 13) (gL (bxC (m.s 1)) 14) (gL (bxC (m.s 1)) 15) (gL (bxC (m.s 1)) 16) (gI (bxC (m.s 2)) 0) (gI (bxC (m.s 2)) 1) (gI (bxC (m.s 2)) 2) (gB (bxC (m.s 2)) 3) (gB (bxC (m.s 2)) 4) (gB (bxC (m.s 2)) 5) (gB (bxC (m.s 2)) 6) (gB (bxC (m.s 2)) 7) (gB (bxC (m.s 2)) 8) (gB (bxC (m.s 2)) 9) (gB (bxC (m.s 2)) 10) (gI (bxC (m.s 2)) 11) (gS (bxC (m.s 2)) 12) (gI (bxC (m.s 2)) 13) (gL (bxC (m.s 2)) 14) (gL (bxC (m.s 2)) 15) (gL (bxC (m.s 2)) 16) (gI (bxC (m.s 3)) 0) (gI (bxC (m.s 3)) 1) (gI (bxC (m.s 3)) 2) (gB (bxC (m.s 3)) 3) (gB (bxC (m.s 3)) 4) (gB (bxC (m.s 3)) 5) (gB (bxC (m.s 3)) 6) (gB (bxC (m.s 3)) 7) (gB (bxC (m.s 3)) 8) (gB (bxC (m.s 3)) 9) (gB (bxC (m.s 3)) 10) (gI (bxC (m.s 3)) 11) (gS (bxC (m.s 3)) 12) (gI (bxC (m.s 3)) 13) (mpL (m.s 4)) (fun z_v8 z_v9 => K .norm (envOf [(3, (.ptr 0 0)), (4, (.ptr 1 0)), (5, (.ptr 2 0)), (6, (.ptr 3 0)), (8, (.int .i64 z_v8)), (9, (.bool z_v9))]) (memOf [(some (.box true [(.int .i64 (gI (bxC (m.s 0)) 0)), (.str (gS (bxC (m.s 0)) 1)), (.bool (gB (bxC (m.s 0)) 2)), (.int .u64 (gI (bxC (m.s 0)) 3)), (.int .u64 (gI (bxC (m.s 0)) 4)), (.int .i64 (gI (bxC (m.s 0)) 5)), (.int .i64 (gI (bxC (m.s 0)) 6)), (.sl 16 (gL (bxC (m.s 0)) 7))])), (some (.box true [(.int .i64 (gI (bxC (m.s 1)) 0)), (.int .i64 (gI (bxC (m.s 1)) 1)), (.int .i64 (gI (bxC (m.s 1)) 2)), (.bool (gB (bxC (m.s 1)) 3)), (.bool (gB (bxC (m.s 1)) 4)), (.bool (gB (bxC (m.s 1)) 5)), (.bool (gB (bxC (m.s 1)) 6)), (.bool (gB (bxC (m.s 1)) 7)), (.bool (gB (bxC (m.s 1)) 8)), (.bool (gB (bxC (m.s 1)) 9)), (.bool (gB (bxC (m.s 1)) 10)), (.int .i64 (gI (bxC (m.s 1)) 11)), (.str (gS (bxC (m.s 1)) 12)), (.int .i64 (gI (bxC (m.s 1)) 13)), (.sl 16 (gL (bxC (m.s 1)) 14)), (.sl 16 (gL (bxC (m.s 1)) 15)), (.sl 16 (gL (bxC (m.s 1)) 16))])), (some (.box true [(.int .i64 (gI (bxC (m.s 2)) 0)), (.int .i64 (gI (bxC (m.s 2)) 1)), (.int .i64 (gI (bxC (m.s 2)) 2)), (.bool (gB (bxC (m.s 2)) 3)), (.bool (gB (bxC (m.s 2)) 4)), (.bool (gB (bxC (m.s 2)) 5)), (.bool (gB (bxC (m.s 2)) 6)), (.bool (gB (bxC (m.s 2)) 7)), (.bool (gB (bxC (m.s 2)) 8)), (.bool (gB (bxC (m.s 2)) 9)), (.bool (gB (bxC (m.s 2)) 10)), (.int .i64 (gI (bxC (m.s 2)) 11)), (.str (gS (bxC (m.s 2)) 12)), (.int .i64 (gI (bxC (m.s 2)) 13)), (.sl 16 (gL (bxC (m.s 2)) 14)), (.sl 16 (gL (bxC (m.s 2)) 15)), (.sl 16 (gL (bxC (m.s 2)) 16))])), (some (.box true [(.int .i64 (gI (bxC (m.s 3)) 0)), (.int .i64 (gI (bxC (m.s 3)) 1)), (.int .i64 (gI (bxC (m.s 3)) 2)), (.bool (gB (bxC (m.s 3)) 3)), (.bool (gB (bxC (m.s 3)) 4)), (.bool (gB (bxC (m.s 3)) 5)), (.bool (gB (bxC (m.s 3)) 6)), (.bool (gB (bxC (m.s 3)) 7)), (.bool (gB (bxC (m.s 3)) 8)), (.bool (gB (bxC (m.s 3)) 9)), (.bool (gB (bxC (m.s 3)) 10)), (.int .i64 (gI (bxC (m.s 3)) 11)), (.str (gS (bxC (m.s 3)) 12)), (.int .i64 (gI (bxC (m.s 3)) 13)), .nils, .nils, .nils]))]))) none)
theorem o_policy_Act_J5 : SubOk Tryd.prog (TIof Tryd.prog) 39 0 (kret [(.cell 6 true 17)] dec_policy_Act) (scOf a_policy_Act_J5) s_policy_Act_J5 :=
  sub_of tabOk follows ok_policy_Act_J5 (er_of (by kernel_rfl)) shp_policy_Act_J5 (fun t m K => congrArg (fun z => chk (fitS0 shp_policy_Act_J5 t m) (cond (hdS shp_policy_Act_J5 t m) z none)) (t_policy_Act_J5 (gI (bxC (m.s 0)) 0) (gS (bxC (m.s 0)) 1) (gB (bxC (m.s 0)) 2) (gI (bxC (m.s 0)) 3) (gI (bxC (m.s 0)) 4) (gI (bxC (m.s 0)) 5) (gI (bxC (m.s 0)) 6) (gL (bxC (m.s 0)) 7) (gI (bxC (m.s 1)) 0) (gI (bxC (m.s 1)) 1) (gI (bxC (m.s 1)) 2) (gB (bxC (m.s 1)) 3) (gB (bxC (m.s 1)) 4) (gB (bxC (m.s 1)) 5) (gB (bxC (m.s 1)) 6) (gB (bxC (m.s 1)) 7) (gB (bxC (m.s 1)) 8) (gB (bxC (m.s 1)) 9) (gB (bxC (m.s 1)) 10) (gI (bxC (m.s 1)) 11) (gS (bxC (m.s 1)) 12) (gI (bxC (m.s 1)) 13) (gL (bxC (m.s 1)) 14) (gL (bxC (m.s 1)) 15) (gL (bxC (m.s 1)) 16) (gI (bxC (m.s 2)) 0) (gI (bxC (m.s 2)) 1) (gI (bxC (m.s 2)) 2) (gB (bxC (m.s 2)) 3) (gB (bxC (m.s 2)) 4) (gB (bxC (m.s 2)) 5) (gB (bxC (m.s 2)) 6) (gB (bxC (m.s 2)) 7) (gB (bxC (m.s 2)) 8) (gB (bxC (m.s 2)) 9) (gB (bxC (m.s 2)) 10) (gI (bxC (m.s 2)) 11) (gS (bxC (m.s 2)) 12) (gI (bxC (m.s 2)) 13) (gL (bxC (m.s 2)) 14) (gL (bxC (m.s 2)) 15) (gL (bxC (m.s 2)) 16) (gI (bxC (m.s 3)) 0) (gI (bxC (m.s 3)) 1) (gI (bxC (m.s 3)) 2) (gB (bxC (m.s 3)) 3) (gB (bxC (m.s 3)) 4) (gB (bxC (m.s 3)) 5) (gB (bxC (m.s 3)) 6) (gB (bxC (m.s 3)) 7) (gB (bxC (m.s 3)) 8) (gB (bxC (m.s 3)) 9) (gB (bxC (m.s 3)) 10) (gI (bxC (m.s 3)) 11) (gS (bxC (m.s 3)) 12) (gI (bxC (m.s 3)) 13) (mpL (m.s 4)) K).symm)
def shp_policy_Act : Shp := ⟨[(0, .st [(.l (.i .i64)), (.l .s), (.l .b), (.l (.i .u64)), (.l (.i .u64)), (.l (.i .i64)), (.l (.i .i64)), (.l (.sl 16))]), (1, .st [(.l (.i .i64)), (.l (.i .i64)), (.l (.i .i64)), (.l .b), (.l .b), (.l .b), (.l .b), (.l .b), (.l .b), (.l .b), (.l .b), (.l (.i .i64)), (.l .s), (.l (.i .i64)), (.l (.sl 16)), (.l (.sl 16)), (.l (.sl 16))]), (2, .st [(.l (.i .i64)), (.l (.i .i64)), (.l (.i .i64)), (.l .b), (.l .b), (.l .b), (.l .b), (.l .b), (.l .b), (.l .b), (.l .b), (.l (.i .i64)), (.l .s), (.l (.i .i64)), (.l (.sl 16)), (.l (.sl 16)), (.l (.sl 16))])], []⟩
noncomputable def policy_Act_i (v0_0 : Int) (v0_1 : List UInt8) (v0_2 : Bool) (v0_3 : Int) (v0_4 : Int) (v0_5 : Int) (v0_6 : Int) (v0_7 : List AV) (v1_0 : Int) (v1_1 : Int) (v1_2 : Int) (v1_3 : Bool) (v1_4 : Bool) (v1_5 : Bool) (v1_6 : Bool) (v1_7 : Bool) (v1_8 : Bool) (v1_9 : Bool) (v1_10 : Bool) (v1_11 : Int) (v1_12 : List UInt8) (v1_13 : Int) (v1_14 : List AV) (v1_15 : List AV) (v1_16 : List AV) (v2_0 : Int) (v2_1 : Int) (v2_2 : Int) (v2_3 : Bool) (v2_4 : Bool) (v2_5 : Bool) (v2_6 : Bool) (v2_7 : Bool) (v2_8 : Bool) (v2_9 : Bool) (v2_10 : Bool) (v2_11 : Int) (v2_12 : List UInt8) (v2_13 : Int) (v2_14 : List AV) (v2_15 : List AV) (v2_16 : List AV) : Option AV :=
  (policy_Act_J5 v0_0 v0_1 v0_2 v0_3 v0_4 v0_5 v0_6 v0_7 v1_0 v1_1 v1_2 v1_3 v1_4 v1_5 v1_6 v1_7 v1_8 v1_9 v1_10 v1_11 v1_12 v1_13 v1_14 v1_15 v1_16 v2_0 v2_1 v2_2 v2_3 v2_4 v2_5 v2_6 v2_7 v2_8 v2_9 v2_10 v2_11 v2_12 v2_13 v2_14 v2_15 v2_16 (0 : Int) (0 : Int) (0 : Int) false false false false false false false false (0 : Int) ([] : List UInt8) (0 : Int) ([((.int .i64 (2 : Int)), (.int .i64 (3 : Int))), ((.int .i64 (3 : Int)), (.int .i64 (0 : Int))), ((.int .i64 (4 : Int)), (.int .i64 (0 : Int))), ((.int .i64 (5 : Int)), (.int .i64 (5 : Int)))]) (fun v8q5 v9q6 => (bif (!v9q6) then (some (.agg [(.int .i64 v2_0), (.int .i64 v2_1), (.int .i64 v2_2), (.bool v2_3), (.bool v2_4), (.bool v2_5), (.bool v2_6), (.bool v2_7), (.bool v2_8), (.bool v2_9), (.bool v2_10), (.int .i64 v2_11), (.str v2_12), (.int .i64 v2_13), (.sl 16 v2_14), (.sl 16 v2_15), (.sl 16 v2_16)])) else (oB (packet_Reply v1_0 v1_1 v1_2 v1_3 v1_4 v1_5 v1_6 v1_7 v1_8 v1_9 v1_10 v1_11 v1_12 v1_13 v1_14 v1_15 v1_16 v8q5) fun r7 => (bif (v0_6 == (4 : Int)) then (oB (policy_local v0_7 v1_12 v1_13) fun r8 => (some (.agg [(.int .i64 (gI r7.cells 0)), (.int .i64 (gI r7.cells 1)), (.int .i64 (gI r7.cells 2)), (.bool (gB r7.cells 3)), (.bool (gB r7.cells 4)), (.bool (gB r7.cells 5)), (.bool (gB r7.cells 6)), (.bool v2_7), (.bool (gB r7.cells 8)), (.bool (gB r7.cells 9)), (.bool (gB r7.cells 10)), (.int .i64 (gI r7.cells 11)), (.str (gS r7.cells 12)), (.int .i64 (gI r7.cells 13)), (.sl 16 r8), (.sl 16 ([] : List AV)), (.sl 16 ([] : List AV))]))) else (some (.agg [(.int .i64 (gI r7.cells 0)), (.int .i64 (gI r7.cells 1)), (.int .i64 (gI r7.cells 2)), (.bool (gB r7.cells 3)), (.bool (gB r7.cells 4)), (.bool (gB r7.cells 5)), (.bool (gB r7.cells 6)), (.bool v2_7), (.bool (gB r7.cells 8)), (.bool (gB r7.cells 9)), (.bool (gB r7.cells 10)), (.int .i64 (gI r7.cells 11)), (.str (gS r7.cells 12)), (.int .i64 (gI r7.cells 13)), (.sl 16 ([] : List AV)), (.sl 16 ([] : List AV)), (.sl 16 ([] : List AV))])))))))
noncomputable def policy_Act := hull policy_Act_i
theorem policy_Act_eq : policy_Act = policy_Act_i := hull_eq _
noncomputable def a_policy_Act : AC AV :=
  .seq (.reg [.op ⟨some 3, (.box (.t 0)), none⟩,
 .op ⟨some 4, (.box (.t 1)), none⟩,
 .op ⟨some 5, (.box (.t 2)), none⟩,
 .op ⟨some 6, (.alloc [(.int .i64 0), (.int .i64 0), (.int .i64 0), (.bool false), (.bool false), (.bool false), (.bool false), (.bool false), (.bool false), (.bool false), (.bool false), (.int .i64 0), (.str []), (.int .i64 0), .nils, .nils, .nils]), none⟩]) (.seq (.reg [.op ⟨some 11, .mkmap, none⟩,
 .op ⟨none, (.mput (.mk false [(.i .i64)]) (.t 11) (.c (.int .i64 2)) (.c (.int .i64 3))), none⟩,
 .op ⟨none, (.mput (.mk false [(.i .i64)]) (.t 11) (.c (.int .i64 3)) (.c (.int .i64 0))), none⟩,
 .op ⟨none, (.mput (.mk false [(.i .i64)]) (.t 11) (.c (.int .i64 4)) (.c (.int .i64 0))), none⟩,
 .op ⟨none, (.mput (.mk false [(.i .i64)]) (.t 11) (.c (.int .i64 5)) (.c (.int .i64 5))), none⟩,
 .op ⟨some 12, (.mv (.t 11)), none⟩,
 .op ⟨some 7, (.mv (.t 12)), none⟩]) (.seq (.seq (.view [.sel [3, 4, 5, 6, 7] [0, 1, 2, 3, 4]]) (.sub (scOf a_policy_Act_J5) s_policy_Act_J5)) (.seq (.seq (.reg [.op ⟨some 20, (.mv (.t 9)), none⟩,
 .op ⟨some 21, (.un .not (.t 20)), none⟩]) (.cond (.t 21) (.seq (.reg [.op ⟨some 22, (.load true 17 (.t 5)), none⟩,
 .op ⟨none, (.store 17 (.t 6) (.t 22)), none⟩]) (.ret)) (.skip))) (.seq (.reg [.op ⟨some 23, (.load true 17 (.t 4)), none⟩,
 .op ⟨some 24, (.mv (.t 8)), none⟩,
 .call ⟨some 25, (.call 47 [.t 23, .t 24]), none⟩ 47 ent_packet_Reply,
 .op ⟨some 10, (.alloc [(.int .i64 0), (.int .i64 0), (.int .i64 0), (.bool false), (.bool false), (.bool false), (.bool false), (.bool false), (.bool false), (.bool false), (.bool false), (.int .i64 0), (.str []), (.int .i64 0), .nils, .nils, .nils]), none⟩,
 .op ⟨none, (.store 17 (.t 10) (.t 25)), none⟩]) (.seq (.reg [.op ⟨some 26, (.fa 7 (.t 5)), none⟩,
 .op ⟨some 27, (.load false 1 (.t 26)), none⟩,
 .op ⟨some 28, (.fa 7 (.t 10)), none⟩,
 .op ⟨none, (.store 1 (.t 28) (.t 27)), none⟩]) (.seq (.seq (.reg [.op ⟨some 29, (.fa 6 (.t 3)), none⟩,
 .op ⟨some 30, (.load false 1 (.t 29)), none⟩,
 .op ⟨some 31, (.bin .eql (.t 30) (.c (.int .i64 4))), none⟩]) (.cond (.t 31) (.reg [.op ⟨some 32, (.fa 7 (.t 3)), none⟩,
 .op ⟨some 33, (.load false 1 (.t 32)), none⟩,
 .op ⟨some 34, (.fa 12 (.t 4)), none⟩,
 .op ⟨some 35, (.load true 2 (.t 34)), none⟩,
 .callc ⟨some 36, (.call 48 [.t 33, .t 35]), none⟩ 48 ent_policy_local,
 .op ⟨some 37, (.fa 14 (.t 10)), none⟩,
 .op ⟨none, (.store 1 (.t 37) (.t 36)), none⟩]) (.skip))) (.seq (.reg [.op ⟨some 38, (.load true 17 (.t 10)), none⟩,
 .op ⟨none, (.store 17 (.t 6) (.t 38)), none⟩]) (.seq (.view [.nilc 3 15 16, .nilc 3 16 16, .nilc 3 14 16]) (.ret)))))))))
theorem ok_policy_Act : AC.ok Tryd.prog (TIof Tryd.prog) 39 0 (kret [(.cell 6 true 17)] dec_policy_Act) a_policy_Act := (zA zT (zA zT (zA (zA zT o_policy_Act_J5) (zA (zA zT (zA (zA zT zT) zT)) (zA (zA (EntOkB.ok k_packet_Reply) zT) (zA zT (zA (zA zT (zA (zA (EntOkB.ok k_policy_local) zT) zT)) (zA zT (zA zT zT)))))))))
theorem t_policy_Act (v0_0 : Int) (v0_1 : List UInt8) (v0_2 : Bool) (v0_3 : Int) (v0_4 : Int) (v0_5 : Int) (v0_6 : Int) (v0_7 : List AV) (v1_0 : Int) (v1_1 : Int) (v1_2 : Int) (v1_3 : Bool) (v1_4 : Bool) (v1_5 : Bool) (v1_6 : Bool) (v1_7 : Bool) (v1_8 : Bool) (v1_9 : Bool) (v1_10 : Bool) (v1_11 : Int) (v1_12 : List UInt8) (v1_13 : Int) (v1_14 : List AV) (v1_15 : List AV) (v1_16 : List AV) (v2_0 : Int) (v2_1 : Int) (v2_2 : Int) (v2_3 : Bool) (v2_4 : Bool) (v2_5 : Bool) (v2_6 : Bool) (v2_7 : Bool) (v2_8 : Bool) (v2_9 : Bool) (v2_10 : Bool) (v2_11 : Int) (v2_12 : List UInt8) (v2_13 : Int) (v2_14 : List AV) (v2_15 : List AV) (v2_16 : List AV) : den 0 (kret [(.cell 6 true 17)] dec_policy_Act) a_policy_Act (envOf [(0, (.agg [(.int .i64 v0_0), (.str v0_1), (.bool v0_2), (.int .u64 v0_3), (.int .u64 v0_4), (.int .i64 v0_5), (.int .i64 v0_6), (.sl 16 v0_7)])), (1, (.agg [(.int .i64 v1_0), (.int .i64 v1_1), (.int .i64 v1_2), (.bool v1_3), (.bool v1_4), (.bool v1_5), (.bool v1_6), (.bool v1_7), (.bool v1_8), (.bool v1_9), (.bool v1_10), (.int .i64 v1_11), (.str v1_12), (.int .i64 v1_13), (.sl 16 v1_14), (.sl 16 v1_15), (.sl 16 v1_16)])), (2, (.agg [(.int .i64 v2_0), (.int .i64 v2_1), (.int .i64 v2_2), (.bool v2_3), (.bool v2_4), (.bool v2_5), (.bool v2_6), (.bool v2_7), (.bool v2_8), (.bool v2_9), (.bool v2_10), (.int .i64 v2_11), (.str v2_12), (.int .i64 v2_13), (.sl 16 v2_14), (.sl 16 v2_15), (.sl 16 v2_16)]))]) (memOf []) (kend (kret [(.cell 6 true 17)] dec_policy_Act)) = policy_Act v0_0 v0_1 v0_2 v0_3 v0_4 v0_5 v0_6 v0_7 v1_0 v1_1 v1_2 v1_3 v1_4 v1_5 v1_6 v1_7 v1_8 v1_9 v1_10 v1_11 v1_12 v1_13 v1_14 v1_15 v1_16 v2_0 v2_1 v2_2 v2_3 v2_4 v2_5 v2_6 v2_7 v2_8 v2_9 v2_10 v2_11 v2_12 v2_13 v2_14 v2_15 v2_16 := by
  rw [policy_Act_eq]; kernel_rfl
theorem c_policy_Act : cFn (TIof Tryd.prog) Tryd.f29 = some ⟨39, [(.cell 6 true 17)], scOf a_policy_Act⟩ := by kernel_rfl
noncomputable def ent_policy_Act {R : Type} (xs : List AV) (K : AV → Option R) : Option R := chk (fitS shp_policy_Act (entry xs) Mem.none) (oB (policy_Act (gI ((entry xs) 0).cells 0) (gS ((entry xs) 0).cells 1) (gB ((entry xs) 0).cells 2) (gI ((entry xs) 0).cells 3) (gI ((entry xs) 0).cells 4) (gI ((entry xs) 0).cells 5) (gI ((entry xs) 0).cells 6) (gL ((entry xs) 0).cells 7) (gI ((entry xs) 1).cells 0) (gI ((entry xs) 1).cells 1) (gI ((entry xs) 1).cells 2) (gB ((entry xs) 1).cells 3) (gB ((entry xs) 1).cells 4) (gB ((entry xs) 1).cells 5) (gB ((entry xs) 1).cells 6) (gB ((entry xs) 1).cells 7) (gB ((entry xs) 1).cells 8) (gB ((entry xs) 1).cells 9) (gB ((entry xs) 1).cells 10) (gI ((entry xs) 1).cells 11) (gS ((entry xs) 1).cells 12) (gI ((entry xs) 1).cells 13) (gL ((entry xs) 1).cells 14) (gL ((entry xs) 1).cells 15) (gL ((entry xs) 1).cells 16) (gI ((entry xs) 2).cells 0) (gI ((entry xs) 2).cells 1) (gI ((entry xs) 2).cells 2) (gB ((entry xs) 2).cells 3) (gB ((entry xs) 2).cells 4) (gB ((entry xs) 2).cells 5) (gB ((entry xs) 2).cells 6) (gB ((entry xs) 2).cells 7) (gB ((entry xs) 2).cells 8) (gB ((entry xs) 2).cells 9) (gB ((entry xs) 2).cells 10) (gI ((entry xs) 2).cells 11) (gS ((entry xs) 2).cells 12) (gI ((entry xs) 2).cells 13) (gL ((entry xs) 2).cells 14) (gL ((entry xs) 2).cells 15) (gL ((entry xs) 2).cells 16)) fun r => K (enc_policy_Act r))
theorem k_policy_Act {R : Type} : EntOkB Tryd.prog 29 (ent_policy_Act (R := R)) :=
  ent_of (F := fun xs => policy_Act (gI ((entry xs) 0).cells 0) (gS ((entry xs) 0).cells 1) (gB ((entry xs) 0).cells 2) (gI ((entry xs) 0).cells 3) (gI ((entry xs) 0).cells 4) (gI ((entry xs) 0).cells 5) (gI ((entry xs) 0).cells 6) (gL ((entry xs) 0).cells 7) (gI ((entry xs) 1).cells 0) (gI ((entry xs) 1).cells 1) (gI ((entry xs) 1).cells 2) (gB ((entry xs) 1).cells 3) (gB ((entry xs) 1).cells 4) (gB ((entry xs) 1).cells 5) (gB ((entry xs) 1).cells 6) (gB ((entry xs) 1).cells 7) (gB ((entry xs) 1).cells 8) (gB ((entry xs) 1).cells 9) (gB ((entry xs) 1).cells 10) (gI ((entry xs) 1).cells 11) (gS ((entry xs) 1).cells 12) (gI ((entry xs) 1).cells 13) (gL ((entry xs) 1).cells 14) (gL ((entry xs) 1).cells 15) (gL ((entry xs) 1).cells 16) (gI ((entry xs) 2).cells 0) (gI ((entry xs) 2).cells 1) (gI ((entry xs) 2).cells 2) (gB ((entry xs) 2).cells 3) (gB ((entry xs) 2).cells 4) (gB ((entry xs) 2).cells 5) (gB ((entry xs) 2).cells 6) (gB ((entry xs) 2).cells 7) (gB ((entry xs) 2).cells 8) (gB ((entry xs) 2).cells 9) (gB ((entry xs) 2).cells 10) (gI ((entry xs) 2).cells 11) (gS ((entry xs) 2).cells 12) (gI ((entry xs) 2).cells 13) (gL ((entry xs) 2).cells 14) (gL ((entry xs) 2).cells 15) (gL ((entry xs) 2).cells 16)) (enc := enc_policy_Act) tabOk follows Tryd.func29 (by kernel_rfl) c_policy_Act (fun z r h => by
 obtain ⟨h1, h2⟩ := cond_some h
 cases h2
 exact (etaRV_eq h1).symm) ok_policy_Act (er_of (by kernel_rfl)) shp_policy_Act (fun xs => t_policy_Act (gI ((entry xs) 0).cells 0) (gS ((entry xs) 0).cells 1) (gB ((entry xs) 0).cells 2) (gI ((entry xs) 0).cells 3) (gI ((entry xs) 0).cells 4) (gI ((entry xs) 0).cells 5) (gI ((entry xs) 0).cells 6) (gL ((entry xs) 0).cells 7) (gI ((entry xs) 1).cells 0) (gI ((entry xs) 1).cells 1) (gI ((entry xs) 1).cells 2) (gB ((entry xs) 1).cells 3) (gB ((entry xs) 1).cells 4) (gB ((entry xs) 1).cells 5) (gB ((entry xs) 1).cells 6) (gB ((entry xs) 1).cells 7) (gB ((entry xs) 1).cells 8) (gB ((entry xs) 1).cells 9) (gB ((entry xs) 1).cells 10) (gI ((entry xs) 1).cells 11) (gS ((entry xs) 1).cells 12) (gI ((entry xs) 1).cells 13) (gL ((entry xs) 1).cells 14) (gL ((entry xs) 1).cells 15) (gL ((entry xs) 1).cells 16) (gI ((entry xs) 2).cells 0) (gI ((entry xs) 2).cells 1) (gI ((entry xs) 2).cells 2) (gB ((entry xs) 2).cells 3) (gB ((entry xs) 2).cells 4) (gB ((entry xs) 2).cells 5) (gB ((entry xs) 2).cells 6) (gB ((entry xs) 2).cells 7) (gB ((entry xs) 2).cells 8) (gB ((entry xs) 2).cells 9) (gB ((entry xs) 2).cells 10) (gI ((entry xs) 2).cells 11) (gS ((entry xs) 2).cells 12) (gI ((entry xs) 2).cells 13) (gL ((entry xs) 2).cells 14) (gL ((entry xs) 2).cells 15) (gL ((entry xs) 2).cells 16)) (fun xs K r h => by
 unfold ent_policy_Act at h
 exact ⟨(chk_some h).1, oB_some (chk_some h).2⟩)
def dec_addr_Valid (z : AV) : Option Bool := cond (fitRV (.one .b) z) (some (aB z)) none
def enc_addr_Valid (r : Bool) : AV := .bool r
def shp_addr_Valid : Shp := ⟨[(0, .st [(.l .b), (.l (.i .u64)), (.l (.i .u64))])], []⟩
noncomputable def addr_Valid_i (v0_0 : Bool) (v0_1 : Int) (v0_2 : Int) : Option Bool :=
  (bif v0_0 then (some true) else (bif (v0_1 == (0 : Int)) then (some (decide (v0_2 ≤ (4294967295 : Int)))) else (some false)))
noncomputable def addr_Valid := hull addr_Valid_i
theorem addr_Valid_eq : addr_Valid = addr_Valid_i := hull_eq _
noncomputable def a_addr_Valid : AC Bool :=
  .seq (.reg [.op ⟨some 1, (.box (.t 0)), none⟩,
 .op ⟨some 2, (.mv (.c (.bool false))), none⟩]) (.seq (.reg [.op ⟨some 3, (.fa 0 (.t 1)), none⟩,
 .op ⟨some 4, (.load false 1 (.t 3)), none⟩,
 .op ⟨some 5, (.mv (.t 4)), none⟩,
 .op ⟨some 6, (.fa 1 (.t 1)), (some (5, false))⟩,
 .op ⟨some 7, (.load false 1 (.t 6)), (some (5, false))⟩,
 .op ⟨some 8, (.bin .eql (.t 7) (.c (.int .u64 0))), (some (5, false))⟩,
 .op ⟨some 9, (.mv (.t 8)), (some (5, false))⟩,
 .op ⟨some 10, (.fa 2 (.t 1)), (some (9, true))⟩,
 .op ⟨some 11, (.load false 1 (.t 10)), (some (9, true))⟩,
 .op ⟨some 12, (.bin .leq (.t 11) (.c (.int .u64 4294967295))), (some (9, true))⟩,
 .op ⟨some 13, (.pick (.t 9) (.t 12) (.c (.bool false))), (some (5, false))⟩,
 .op ⟨some 14, (.pick (.t 5) (.c (.bool true)) (.t 13)), none⟩,
 .op ⟨some 2, (.mv (.t 14)), none⟩]) (.ret))
theorem ok_addr_Valid : AC.ok Tryd.prog (TIof Tryd.prog) 15 0 (kret [.t 2] dec_addr_Valid) a_addr_Valid := (zA zT (zA zT zT))
theorem t_addr_Valid (v0_0 : Bool) (v0_1 : Int) (v0_2 : Int) : den 0 (kret [.t 2] dec_addr_Valid) a_addr_Valid (envOf [(0, (.agg [(.bool v0_0), (.int .u64 v0_1), (.int .u64 v0_2)]))]) (memOf []) (kend (kret [.t 2] dec_addr_Valid)) = addr_Valid v0_0 v0_1 v0_2 := by
  rw [addr_Valid_eq]; kernel_rfl
theorem c_addr_Valid : cFn (TIof Tryd.prog) Tryd.f59 = some ⟨15, [.t 2], scOf a_addr_Valid⟩ := by kernel_rfl
noncomputable def ent_addr_Valid {R : Type} (xs : List AV) (K : AV → Option R) : Option R := chk (fitS shp_addr_Valid (entry xs) Mem.none) (oB (addr_Valid (gB ((entry xs) 0).cells 0) (gI ((entry xs) 0).cells 1) (gI ((entry xs) 0).cells 2)) fun r => K (enc_addr_Valid r))
theorem k_addr_Valid {R : Type} : EntOkB Tryd.prog 59 (ent_addr_Valid (R := R)) :=
  ent_of (F := fun xs => addr_Valid (gB ((entry xs) 0).cells 0) (gI ((entry xs) 0).cells 1) (gI ((entry xs) 0).cells 2)) (enc := enc_addr_Valid) tabOk follows Tryd.func59 (by kernel_rfl) c_addr_Valid (fun z r h => by
 obtain ⟨h1, h2⟩ := cond_some h
 cases h2
 exact (etaRV_eq h1).symm) ok_addr_Valid (er_of (by kernel_rfl)) shp_addr_Valid (fun xs => t_addr_Valid (gB ((entry xs) 0).cells 0) (gI ((entry xs) 0).cells 1) (gI ((entry xs) 0).cells 2)) (fun xs K r h => by
 unfold ent_addr_Valid at h
 exact ⟨(chk_some h).1, oB_some (chk_some h).2⟩)
def dec_prefix_length (z : AV) : Option Int := cond (fitRV (.one (.i .i64)) z) (some (aI z)) none
def enc_prefix_length (r : Int) : AV := .int .i64 r
def shp_prefix_length : Shp := ⟨[(0, .st [(.l .b), (.l (.i .u64)), (.l (.i .u64))])], []⟩
noncomputable def prefix_length_i (v0_0 : Bool) (v0_1 : Int) (v0_2 : Int) : Option Int :=
  (bif v0_0 then (some (128 : Int)) else (some (32 : Int)))
noncomputable def prefix_length := hull prefix_length_i
theorem prefix_length_eq : prefix_length = prefix_length_i := hull_eq _
noncomputable def a_prefix_length : AC Int :=
  .seq (.reg [.op ⟨some 1, (.box (.t 0)), none⟩,
 .op ⟨some 2, (.mv (.c (.int .i64 0))), none⟩]) (.seq (.seq (.reg [.op ⟨some 3, (.fa 0 (.t 1)), none⟩,
 .op ⟨some 4, (.load false 1 (.t 3)), none⟩]) (.cond (.t 4) (.seq (.reg [.op ⟨some 2, (.mv (.c (.int .i64 128))), none⟩]) (.ret)) (.skip))) (.seq (.reg [.op ⟨some 2, (.mv (.c (.int .i64 32))), none⟩]) (.ret)))
theorem ok_prefix_length : AC.ok Tryd.prog (TIof Tryd.prog) 5 0 (kret [.t 2] dec_prefix_length) a_prefix_length := (zA zT (zA (zA zT (zA (zA zT zT) zT)) (zA zT zT)))
theorem t_prefix_length (v0_0 : Bool) (v0_1 : Int) (v0_2 : Int) : den 0 (kret [.t 2] dec_prefix_length) a_prefix_length (envOf [(0, (.agg [(.bool v0_0), (.int .u64 v0_1), (.int .u64 v0_2)]))]) (memOf []) (kend (kret [.t 2] dec_prefix_length)) = prefix_length v0_0 v0_1 v0_2 := by
  rw [prefix_length_eq]; kernel_rfl
theorem c_prefix_length : cFn (TIof Tryd.prog) Tryd.f60 = some ⟨5, [.t 2], scOf a_prefix_length⟩ := by kernel_rfl
noncomputable def ent_prefix_length {R : Type} (xs : List AV) (K : AV → Option R) : Option R := chk (fitS shp_prefix_length (entry xs) Mem.none) (oB (prefix_length (gB ((entry xs) 0).cells 0) (gI ((entry xs) 0).cells 1) (gI ((entry xs) 0).cells 2)) fun r => K (enc_prefix_length r))
theorem k_prefix_length {R : Type} : EntOkB Tryd.prog 60 (ent_prefix_length (R := R)) :=
  ent_of (F := fun xs => prefix_length (gB ((entry xs) 0).cells 0) (gI ((entry xs) 0).cells 1) (gI ((entry xs) 0).cells 2)) (enc := enc_prefix_length) tabOk follows Tryd.func60 (by kernel_rfl) c_prefix_length (fun z r h => by
 obtain ⟨h1, h2⟩ := cond_some h
 cases h2
 exact (etaRV_eq h1).symm) ok_prefix_length (er_of (by kernel_rfl)) shp_prefix_length (fun xs => t_prefix_length (gB ((entry xs) 0).cells 0) (gI ((entry xs) 0).cells 1) (gI ((entry xs) 0).cells 2)) (fun xs K r h => by
 unfold ent_prefix_length at h
 exact ⟨(chk_some h).1, oB_some (chk_some h).2⟩)
def dec_prefix_later (z : AV) : Option (Int × Int) := cond (fitTup [(.one (.i .u64)), (.one (.i .u64))] z) (some (aI (gC (tpL z) 0), aI (gC (tpL z) 1))) none
def enc_prefix_later (r : Int × Int) : AV := .tup [.int .u64 r.1, .int .u64 r.2]
def shp_prefix_later : Shp := ⟨[(0, .one (.l .b)), (1, .one (.l (.i .i64)))], []⟩
noncomputable def prefix_later_i (v0 : Bool) (v1 : Int) : Option (Int × Int) :=
  (bif (!v0) then (bif decide ((IntKind.u64.wrap (IntKind.i64.wrap ((32 : Int) - v1))) < 0) then none else (some ((0 : Int), (IntKind.u64.wrap ((IntKind.u64.wrap ((1 : Int) * 2 ^ min (IntKind.u64.wrap (IntKind.i64.wrap ((32 : Int) - v1))).toNat IntKind.u64.bits)) - (1 : Int)))))) else (bif (decide (v1 ≥ (64 : Int))) then (bif decide ((IntKind.u64.wrap (IntKind.i64.wrap ((128 : Int) - v1))) < 0) then none else (some ((0 : Int), (IntKind.u64.wrap ((IntKind.u64.wrap ((1 : Int) * 2 ^ min (IntKind.u64.wrap (IntKind.i64.wrap ((128 : Int) - v1))).toNat IntKind.u64.bits)) - (1 : Int)))))) else (bif decide ((IntKind.u64.wrap (IntKind.i64.wrap ((64 : Int) - v1))) < 0) then none else (some ((IntKind.u64.wrap ((IntKind.u64.wrap ((1 : Int) * 2 ^ min (IntKind.u64.wrap (IntKind.i64.wrap ((64 : Int) - v1))).toNat IntKind.u64.bits)) - (1 : Int))), (18446744073709551615 : Int))))))
noncomputable def prefix_later := hull prefix_later_i
theorem prefix_later_eq : prefix_later = prefix_later_i := hull_eq _
noncomputable def a_prefix_later : AC (Int × Int) :=
  .seq (.reg [.op ⟨some 4, (.mv (.c (.int .u64 0))), none⟩,
 .op ⟨some 5, (.mv (.c (.int .u64 0))), none⟩]) (.seq (.seq (.reg [.op ⟨some 6, (.mv (.t 0)), none⟩,
 .op ⟨some 7, (.un .not (.t 6)), none⟩]) (.cond (.t 7) (.seq (.reg [.op ⟨some 8, (.mv (.t 1)), none⟩,
 .op ⟨some 9, (.bin .sub (.c (.int .i64 32)) (.t 8)), none⟩,
 .op ⟨some 10, (.conv (.int .u64) (.t 9)), none⟩,
 .op ⟨some 11, (.bin .shl (.c (.int .u64 1)) (.t 10)), none⟩,
 .op ⟨some 12, (.bin .sub (.t 11) (.c (.int .u64 1))), none⟩,
 .op ⟨some 4, (.mv (.c (.int .u64 0))), none⟩,
 .op ⟨some 5, (.mv (.t 12)), none⟩]) (.ret)) (.skip))) (.seq (.seq (.reg [.op ⟨some 13, (.mv (.t 1)), none⟩,
 .op ⟨some 14, (.bin .geq (.t 13) (.c (.int .i64 64))), none⟩]) (.cond (.t 14) (.seq (.reg [.op ⟨some 15, (.mv (.t 1)), none⟩,
 .op ⟨some 16, (.bin .sub (.c (.int .i64 128)) (.t 15)), none⟩,
 .op ⟨some 17, (.conv (.int .u64) (.t 16)), none⟩,
 .op ⟨some 18, (.bin .shl (.c (.int .u64 1)) (.t 17)), none⟩,
 .op ⟨some 19, (.bin .sub (.t 18) (.c (.int .u64 1))), none⟩,
 .op ⟨some 4, (.mv (.c (.int .u64 0))), none⟩,
 .op ⟨some 5, (.mv (.t 19)), none⟩]) (.ret)) (.skip))) (.seq (.reg [.op ⟨some 20, (.mv (.t 1)), none⟩,
 .op ⟨some 21, (.bin .sub (.c (.int .i64 64)) (.t 20)), none⟩,
 .op ⟨some 22, (.conv (.int .u64) (.t 21)), none⟩,
 .op ⟨some 23, (.bin .shl (.c (.int .u64 1)) (.t 22)), none⟩,
 .op ⟨some 24, (.bin .sub (.t 23) (.c (.int .u64 1))), none⟩,
 .op ⟨some 4, (.mv (.t 24)), none⟩,
 .op ⟨some 5, (.mv (.c (.int .u64 18446744073709551615))), none⟩]) (.ret))))
theorem ok_prefix_later : AC.ok Tryd.prog (TIof Tryd.prog) 25 0 (kret [.t 4, .t 5] dec_prefix_later) a_prefix_later := (zA zT (zA (zA zT (zA (zA zT zT) zT)) (zA (zA zT (zA (zA zT zT) zT)) (zA zT zT))))
theorem t_prefix_later (v0 : Bool) (v1 : Int) : den 0 (kret [.t 4, .t 5] dec_prefix_later) a_prefix_later (envOf [(0, (.bool v0)), (1, (.int .i64 v1))]) (memOf []) (kend (kret [.t 4, .t 5] dec_prefix_later)) = prefix_later v0 v1 := by
  rw [prefix_later_eq]; kernel_rfl
theorem c_prefix_later : cFn (TIof Tryd.prog) Tryd.f61 = some ⟨25, [.t 4, .t 5], scOf a_prefix_later⟩ := by kernel_rfl
noncomputable def ent_prefix_later {R : Type} (xs : List AV) (K : AV → Option R) : Option R := chk (fitS shp_prefix_later (entry xs) Mem.none) (oB (prefix_later (gB [(entry xs) 0] 0) (gI [(entry xs) 1] 0)) fun r => K (enc_prefix_later r))
theorem k_prefix_later {R : Type} : EntOkB Tryd.prog 61 (ent_prefix_later (R := R)) :=
  ent_of (F := fun xs => prefix_later (gB [(entry xs) 0] 0) (gI [(entry xs) 1] 0)) (enc := enc_prefix_later) tabOk follows Tryd.func61 (by kernel_rfl) c_prefix_later (fun z r h => by
 obtain ⟨h1, h2⟩ := cond_some h
 cases h2
 exact (fitTup_eq h1).symm) ok_prefix_later (er_of (by kernel_rfl)) shp_prefix_later (fun xs => t_prefix_later (gB [(entry xs) 0] 0) (gI [(entry xs) 1] 0)) (fun xs K r h => by
 unfold ent_prefix_later at h
 exact ⟨(chk_some h).1, oB_some (chk_some h).2⟩)
def dec_prefix_Valid (z : AV) : Option Bool := cond (fitRV (.one .b) z) (some (aB z)) none
def enc_prefix_Valid (r : Bool) : AV := .bool r
def shp_prefix_Valid_J4 : Shp := ⟨[(1, .one (.ptr 0 0))], [.box true [(.l .b), (.l (.i .u64)), (.l (.i .u64)), (.l (.i .i64))]]⟩
noncomputable def prefix_Valid_J4_i  (b0_0 : Bool) (b0_1 : Int) (b0_2 : Int) (b0_3 : Int) (kn : Bool → Option Bool) : Option Bool :=
  (oB (addr_Valid b0_0 b0_1 b0_2) fun r1 => (bif (!r1) then (kn true) else (bif (decide (b0_3 < (0 : Int))) then (kn true) else (oB (prefix_length b0_0 b0_1 b0_2) fun r2 => (kn (decide (b0_3 > r2)))))))
noncomputable def prefix_Valid_J4 := hull (prefix_Valid_J4_i)
theorem prefix_Valid_J4_eq : prefix_Valid_J4 = prefix_Valid_J4_i := hull_eq _
noncomputable def a_prefix_Valid_J4 : AC Bool :=
  .seq (.draw [] [.op ⟨some 5, (.fa 0 (.t 1)), none⟩,
 .op ⟨some 6, (.load true 3 (.t 5)), none⟩,
 .call ⟨some 7, (.call 59 [.t 6]), none⟩ 59 ent_addr_Valid,
 .op ⟨some 8, (.un .not (.t 7)), none⟩,
 .op ⟨some 9, (.mv (.t 8)), none⟩,
 .op ⟨some 10, (.fa 3 (.t 1)), (some (9, false))⟩,
 .op ⟨some 11, (.load false 1 (.t 10)), (some (9, false))⟩,
 .op ⟨some 12, (.bin .lss (.t 11) (.c (.int .i64 0))), (some (9, false))⟩,
 .op ⟨some 13, (.pick (.t 9) (.c (.bool true)) (.t 12)), none⟩,
 .op ⟨some 14, (.mv (.t 13)), none⟩,
 .op ⟨some 15, (.fa 3 (.t 1)), (some (14, false))⟩,
 .op ⟨some 16, (.load false 1 (.t 15)), (some (14, false))⟩,
 .op ⟨some 17, (.fa 0 (.t 1)), (some (14, false))⟩,
 .op ⟨some 18, (.load true 3 (.t 17)), (some (14, false))⟩,
 .call ⟨some 19, (.call 60 [.t 18]), (some (14, false))⟩ 60 ent_prefix_length] [.op ⟨some 20, (.bin .gtr (.t 16) (.t 19)), (some (14, false))⟩,
 .op ⟨some 21, (.pick (.t 14) (.c (.bool true)) (.t 20)), none⟩]) (.view [.sel [1, 21] [0]])
theorem ok_prefix_Valid_J4 : AC.ok Tryd.prog (TIof Tryd.prog) 45 0 (kret [.t 2] dec_prefix_Valid) a_prefix_Valid_J4 := (zA (zA (zA (EntOkB.ok k_addr_Valid) (zA (EntOkB.ok k_prefix_length) zT)) (zA zT rfl)) zT)
theorem t_prefix_Valid_J4 (b0_0 : Bool) (b0_1 : Int) (b0_2 : Int) (b0_3 : Int) (K : Ex → Env → Mem → Option Bool) : den 0 (kret [.t 2] dec_prefix_Valid) a_prefix_Valid_J4 (envOf [(1, (.ptr 0 0))]) (memOf [(some (.box true [(.bool b0_0), (.int .u64 b0_1), (.int .u64 b0_2), (.int .i64 b0_3)]))]) K = prefix_Valid_J4 b0_0 b0_1 b0_2 b0_3 (fun z_v21 => K .norm (envOf [(1, (.ptr 0 0)), (21, (.bool z_v21))]) (memOf [(some (.box true [(.bool b0_0), (.int .u64 b0_1), (.int .u64 b0_2), (.int .i64 b0_3)]))])) := by
  rw [prefix_Valid_J4_eq]; kernel_rfl
noncomputable def s_prefix_Valid_J4 : Env → Mem → (Ex → Env → Mem → Option Bool) → Option Bool := fun t m K => chk (fitS0 shp_prefix_Valid_J4 t m) (cond (hdS shp_prefix_Valid_J4 t m) (prefix_Valid_J4 (gB (bxC (m.s 0)) 0) (gI (bxC (m.s 0)) 1) (gI (bxC (m.s 0)) 2) (gI (bxC (m.s 0)) 3) (fun z_v21 => K .norm (envOf [(1, (.ptr 0 0)), (21, (.bool z_v21))]) (memOf [(some (.box true [(.bool (gB (bxC (m.s 0)) 0)), (.int .u64 (gI (bxC (m.s 0)) 1)), (.int .u64 (gI (bxC (m.s 0)) 2)), (.int .i64 (gI (bxC (m.s 0)) 3))]))]))) none)
theorem o_prefix_Valid_J4 : SubOk Tryd.prog (TIof Tryd.prog) 45 0 (kret [.t 2] dec_prefix_Valid) (scOf a_prefix_Valid_J4) s_prefix_Valid_J4 :=
  sub_of tabOk follows ok_prefix_Valid_J4 (er_of (by kernel_rfl)) shp_prefix_Valid_J4 (fun t m K => congrArg (fun z => chk (fitS0 shp_prefix_Valid_J4 t m) (cond (hdS shp_prefix_Valid_J4 t m) z none)) (t_prefix_Valid_J4 (gB (bxC (m.s 0)) 0) (gI (bxC (m.s 0)) 1) (gI (bxC (m.s 0)) 2) (gI (bxC (m.s 0)) 3) K).symm)
def shp_prefix_Valid : Shp := ⟨[(0, .st [(.l .b), (.l (.i .u64)), (.l (.i .u64)), (.l (.i .i64))])], []⟩
noncomputable def prefix_Valid_i (v0_0 : Bool) (v0_1 : Int) (v0_2 : Int) (v0_3 : Int) : Option Bool :=
  (prefix_Valid_J4 v0_0 v0_1 v0_2 v0_3 (fun v21q1 => (bif v21q1 then (some false) else (oB (prefix_later v0_0 v0_3) fun r2 => (some (((ibits .and .u64 v0_1 r2.1) == (0 : Int)) && ((ibits .and .u64 v0_2 r2.2) == (0 : Int))))))))
noncomputable def prefix_Valid := hull prefix_Valid_i
theorem prefix_Valid_eq : prefix_Valid = prefix_Valid_i := hull_eq _
noncomputable def a_prefix_Valid : AC Bool :=
  .seq (.reg [.op ⟨some 1, (.box (.t 0)), none⟩,
 .op ⟨some 2, (.mv (.c (.bool false))), none⟩]) (.seq (.seq (.seq (.view [.sel [1] [0]]) (.sub (scOf a_prefix_Valid_J4) s_prefix_Valid_J4)) (.cond (.t 21) (.seq (.reg [.op ⟨some 2, (.mv (.c (.bool false))), none⟩]) (.ret)) (.skip))) (.seq (.reg [.op ⟨some 23, (.fa 0 (.t 1)), none⟩,
 .op ⟨some 24, (.fa 0 (.t 23)), none⟩,
 .op ⟨some 25, (.load false 1 (.t 24)), none⟩,
 .op ⟨some 26, (.fa 3 (.t 1)), none⟩,
 .op ⟨some 27, (.load false 1 (.t 26)), none⟩,
 .call ⟨some 28, (.call 61 [.t 25, .t 27]), none⟩ 61 ent_prefix_later,
 .op ⟨some 22, (.mv (.t 28)), none⟩,
 .op ⟨some 29, (.ext (.t 22) 0), none⟩,
 .op ⟨some 30, (.ext (.t 22) 1), none⟩,
 .op ⟨some 3, (.mv (.t 29)), none⟩,
 .op ⟨some 4, (.mv (.t 30)), none⟩]) (.seq (.reg [.op ⟨some 31, (.fa 0 (.t 1)), none⟩,
 .op ⟨some 32, (.fa 1 (.t 31)), none⟩,
 .op ⟨some 33, (.load false 1 (.t 32)), none⟩,
 .op ⟨some 34, (.mv (.t 3)), none⟩,
 .op ⟨some 35, (.bin .and (.t 33) (.t 34)), none⟩,
 .op ⟨some 36, (.bin .eql (.t 35) (.c (.int .u64 0))), none⟩,
 .op ⟨some 37, (.mv (.t 36)), none⟩,
 .grp 37 true [⟨some 38, (.fa 0 (.t 1)), (some (37, true))⟩, ⟨some 39, (.fa 2 (.t 38)), (some (37, true))⟩, ⟨some 40, (.load false 1 (.t 39)), (some (37, true))⟩, ⟨some 41, (.mv (.t 4)), (some (37, true))⟩, ⟨some 42, (.bin .and (.t 40) (.t 41)), (some (37, true))⟩, ⟨some 43, (.bin .eql (.t 42) (.c (.int .u64 0))), (some (37, true))⟩] 44 (.t 43),
 .op ⟨some 2, (.mv (.t 44)), none⟩]) (.ret))))
theorem ok_prefix_Valid : AC.ok Tryd.prog (TIof Tryd.prog) 45 0 (kret [.t 2] dec_prefix_Valid) a_prefix_Valid := (zA zT (zA (zA (zA zT o_prefix_Valid_J4) (zA (zA zT zT) zT)) (zA (zA (EntOkB.ok k_prefix_later) zT) (zA zT zT))))
theorem t_prefix_Valid (v0_0 : Bool) (v0_1 : Int) (v0_2 : Int) (v0_3 : Int) : den 0 (kret [.t 2] dec_prefix_Valid) a_prefix_Valid (envOf [(0, (.agg [(.bool v0_0), (.int .u64 v0_1), (.int .u64 v0_2), (.int .i64 v0_3)]))]) (memOf []) (kend (kret [.t 2] dec_prefix_Valid)) = prefix_Valid v0_0 v0_1 v0_2 v0_3 := by
  rw [prefix_Valid_eq]; kernel_rfl
theorem c_prefix_Valid : cFn (TIof Tryd.prog) Tryd.f42 = some ⟨45, [.t 2], scOf a_prefix_Valid⟩ := by kernel_rfl
noncomputable def ent_prefix_Valid {R : Type} (xs : List AV) (K : AV → Option R) : Option R := chk (fitS shp_prefix_Valid (entry xs) Mem.none) (oB (prefix_Valid (gB ((entry xs) 0).cells 0) (gI ((entry xs) 0).cells 1) (gI ((entry xs) 0).cells 2) (gI ((entry xs) 0).cells 3)) fun r => K (enc_prefix_Valid r))
theorem k_prefix_Valid {R : Type} : EntOkB Tryd.prog 42 (ent_prefix_Valid (R := R)) :=
  ent_of (F := fun xs => prefix_Valid (gB ((entry xs) 0).cells 0) (gI ((entry xs) 0).cells 1) (gI ((entry xs) 0).cells 2) (gI ((entry xs) 0).cells 3)) (enc := enc_prefix_Valid) tabOk follows Tryd.func42 (by kernel_rfl) c_prefix_Valid (fun z r h => by
 obtain ⟨h1, h2⟩ := cond_some h
 cases h2
 exact (etaRV_eq h1).symm) ok_prefix_Valid (er_of (by kernel_rfl)) shp_prefix_Valid (fun xs => t_prefix_Valid (gB ((entry xs) 0).cells 0) (gI ((entry xs) 0).cells 1) (gI ((entry xs) 0).cells 2) (gI ((entry xs) 0).cells 3)) (fun xs K r h => by
 unfold ent_prefix_Valid at h
 exact ⟨(chk_some h).1, oB_some (chk_some h).2⟩)
def dec_prefix_Of (z : AV) : Option (AV × Bool) := cond (fitTup [(.st [.b, (.i .u64), (.i .u64), (.i .i64)]), (.one .b)] z) (some ((gC (tpL z) 0), aB (gC (tpL z) 1))) none
def enc_prefix_Of (r : AV × Bool) : AV := .tup [etaRV (.st [.b, (.i .u64), (.i .u64), (.i .i64)]) r.1, .bool r.2]
def shp_prefix_Of_J4 : Shp := ⟨[(1, .one (.l (.i .i64))), (2, .one (.ptr 0 0)), (4, .one (.ptr 1 0))], [.box true [(.l .b), (.l (.i .u64)), (.l (.i .u64))], .box true [(.l .b), (.l (.i .u64)), (.l (.i .u64)), (.l (.i .i64))]]⟩
noncomputable def prefix_Of_J4_i  (v1 : Int) (b0_0 : Bool) (b0_1 : Int) (b0_2 : Int) (b1_0 : Bool) (b1_1 : Int) (b1_2 : Int) (b1_3 : Int) (kn : Bool → Option (AV × Bool)) : Option (AV × Bool) :=
  (oB (addr_Valid b0_0 b0_1 b0_2) fun r1 => (bif ((!r1) || (decide (v1 < (0 : Int)))) then (kn true) else (oB (prefix_length b0_0 b0_1 b0_2) fun r2 => (kn (decide (v1 > r2))))))
noncomputable def prefix_Of_J4 := hull (prefix_Of_J4_i)
theorem prefix_Of_J4_eq : prefix_Of_J4 = prefix_Of_J4_i := hull_eq _
noncomputable def a_prefix_Of_J4 : AC (AV × Bool) :=
  .seq (.reg [.op ⟨some 8, (.load true 3 (.t 2)), none⟩,
 .call ⟨some 9, (.call 59 [.t 8]), none⟩ 59 ent_addr_Valid,
 .op ⟨some 10, (.un .not (.t 9)), none⟩,
 .op ⟨some 11, (.mv (.t 10)), none⟩,
 .grp 11 false [⟨some 12, (.mv (.t 1)), (some (11, false))⟩, ⟨some 13, (.bin .lss (.t 12) (.c (.int .i64 0))), (some (11, false))⟩] 14 (.t 13),
 .op ⟨some 15, (.mv (.t 14)), none⟩,
 .op ⟨some 16, (.mv (.t 1)), (some (15, false))⟩,
 .op ⟨some 17, (.load true 3 (.t 2)), (some (15, false))⟩,
 .call ⟨some 18, (.call 60 [.t 17]), (some (15, false))⟩ 60 ent_prefix_length,
 .op ⟨some 19, (.bin .gtr (.t 16) (.t 18)), (some (15, false))⟩,
 .op ⟨some 20, (.pick (.t 15) (.c (.bool true)) (.t 19)), none⟩]) (.view [.sel [1, 2, 4, 20] [0, 1]])
theorem ok_prefix_Of_J4 : AC.ok Tryd.prog (TIof Tryd.prog) 42 0 (kret [(.cell 4 true 4), .t 5] dec_prefix_Of) a_prefix_Of_J4 := (zA (zA (EntOkB.ok k_addr_Valid) (zA (EntOkB.ok k_prefix_length) zT)) zT)
theorem t_prefix_Of_J4 (v1 : Int) (b0_0 : Bool) (b0_1 : Int) (b0_2 : Int) (b1_0 : Bool) (b1_1 : Int) (b1_2 : Int) (b1_3 : Int) (K : Ex → Env → Mem → Option (AV × Bool)) : den 0 (kret [(.cell 4 true 4), .t 5] dec_prefix_Of) a_prefix_Of_J4 (envOf [(1, (.int .i64 v1)), (2, (.ptr 0 0)), (4, (.ptr 1 0))]) (memOf [(some (.box true [(.bool b0_0), (.int .u64 b0_1), (.int .u64 b0_2)])), (some (.box true [(.bool b1_0), (.int .u64 b1_1), (.int .u64 b1_2), (.int .i64 b1_3)]))]) K = prefix_Of_J4 v1 b0_0 b0_1 b0_2 b1_0 b1_1 b1_2 b1_3 (fun z_v20 => K .norm (envOf [(1, (.int .i64 v1)), (2, (.ptr 0 0)), (4, (.ptr 1 0)), (20, (.bool z_v20))]) (memOf [(some (.box true [(.bool b0_0), (.int .u64 b0_1), (.int .u64 b0_2)])), (some (.box true [(.bool b1_0), (.int .u64 b1_1), (.int .u64 b1_2), (.int .i64 b1_3)]))])) := by
  rw [prefix_Of_J4_eq]; kernel_rfl
noncomputable def s_prefix_Of_J4 : Env → Mem → (Ex → Env → Mem → Option (AV × Bool)) → Option (AV × Bool) := fun t m K => chk (fitS0 shp_prefix_Of_J4 t m) (cond (hdS shp_prefix_Of_J4 t m) (prefix_Of_J4 (gI [t 1] 0) (gB (bxC (m.s 0)) 0) (gI (bxC (m.s 0)) 1) (gI (bxC (m.s 0)) 2) (gB (bxC (m.s 1)) 0) (gI (bxC (m.s 1)) 1) (gI (bxC (m.s 1)) 2) (gI (bxC (m.s 1)) 3) (fun z_v20 => K .norm (envOf [(1, (.int .i64 (gI [t 1] 0))), (2, (.ptr 0 0)), (4, (.ptr 1 0)), (20, (.bool z_v20))]) (memOf [(some (.box true [(.bool (gB (bxC (m.s 0)) 0)), (.int .u64 (gI (bxC (m.s 0)) 1)), (.int .u64 (gI (bxC (m.s 0)) 2))])), (some (.box true [(.bool (gB (bxC (m.s 1)) 0)), (.int .u64 (gI (bxC (m.s 1)) 1)), (.int .u64 (gI (bxC (m.s 1)) 2)), (.int .i64 (gI (bxC (m.s 1)) 3))]))]))) none)
theorem o_prefix_Of_J4 : SubOk Tryd.prog (TIof Tryd.prog) 42 0 (kret [(.cell 4 true 4), .t 5] dec_prefix_Of) (scOf a_prefix_Of_J4) s_prefix_Of_J4 :=
  sub_of tabOk follows ok_prefix_Of_J4 (er_of (by kernel_rfl)) shp_prefix_Of_J4 (fun t m K => congrArg (fun z => chk (fitS0 shp_prefix_Of_J4 t m) (cond (hdS shp_prefix_Of_J4 t m) z none)) (t_prefix_Of_J4 (gI [t 1] 0) (gB (bxC (m.s 0)) 0) (gI (bxC (m.s 0)) 1) (gI (bxC (m.s 0)) 2) (gB (bxC (m.s 1)) 0) (gI (bxC (m.s 1)) 1) (gI (bxC (m.s 1)) 2) (gI (bxC (m.s 1)) 3) K).symm)
def shp_prefix_Of : Shp := ⟨[(0, .st [(.l .b), (.l (.i .u64)), (.l (.i .u64))]), (1, .one (.l (.i .i64)))], []⟩
noncomputable def prefix_Of_i (v0_0 : Bool) (v0_1 : Int) (v0_2 : Int) (v1 : Int) : Option (AV × Bool) :=
  (prefix_Of_J4 v1 v0_0 v0_1 v0_2 false (0 : Int) (0 : Int) (0 : Int) (fun v20q1 => (bif v20q1 then (some ((.agg [(.bool false), (.int .u64 (0 : Int)), (.int .u64 (0 : Int)), (.int .i64 (0 : Int))]), false)) else (oB (prefix_later v0_0 v1) fun r2 => (some ((.agg [(.bool v0_0), (.int .u64 (ibits .andNot .u64 v0_1 r2.1)), (.int .u64 (ibits .andNot .u64 v0_2 r2.2)), (.int .i64 v1)]), true))))))
noncomputable def prefix_Of := hull prefix_Of_i
theorem prefix_Of_eq : prefix_Of = prefix_Of_i := hull_eq _
noncomputable def a_prefix_Of : AC (AV × Bool) :=
  .seq (.reg [.op ⟨some 2, (.box (.t 0)), none⟩,
 .op ⟨some 4, (.alloc [(.bool false), (.int .u64 0), (.int .u64 0), (.int .i64 0)]), none⟩,
 .op ⟨some 5, (.mv (.c (.bool false))), none⟩]) (.seq (.seq (.seq (.view [.sel [1, 2, 4] [0, 1]]) (.sub (scOf a_prefix_Of_J4) s_prefix_Of_J4)) (.cond (.t 20) (.seq (.reg [.op ⟨some 21, (.build [(.bool false), (.int .u64 0), (.int .u64 0), (.int .i64 0)] []), none⟩,
 .op ⟨none, (.store 4 (.t 4) (.t 21)), none⟩,
 .op ⟨some 5, (.mv (.c (.bool false))), none⟩]) (.ret)) (.skip))) (.seq (.reg [.op ⟨some 23, (.fa 0 (.t 2)), none⟩,
 .op ⟨some 24, (.load false 1 (.t 23)), none⟩,
 .op ⟨some 25, (.mv (.t 1)), none⟩,
 .call ⟨some 26, (.call 61 [.t 24, .t 25]), none⟩ 61 ent_prefix_later,
 .op ⟨some 22, (.mv (.t 26)), none⟩,
 .op ⟨some 27, (.ext (.t 22) 0), none⟩,
 .op ⟨some 28, (.ext (.t 22) 1), none⟩,
 .op ⟨some 6, (.mv (.t 27)), none⟩,
 .op ⟨some 7, (.mv (.t 28)), none⟩]) (.seq (.reg [.op ⟨some 29, (.fa 1 (.t 2)), none⟩,
 .op ⟨some 30, (.load false 1 (.t 29)), none⟩,
 .op ⟨some 31, (.mv (.t 6)), none⟩,
 .op ⟨some 32, (.bin .andNot (.t 30) (.t 31)), none⟩,
 .op ⟨some 33, (.fa 1 (.t 2)), none⟩,
 .op ⟨none, (.store 1 (.t 33) (.t 32)), none⟩]) (.seq (.reg [.op ⟨some 34, (.fa 2 (.t 2)), none⟩,
 .op ⟨some 35, (.load false 1 (.t 34)), none⟩,
 .op ⟨some 36, (.mv (.t 7)), none⟩,
 .op ⟨some 37, (.bin .andNot (.t 35) (.t 36)), none⟩,
 .op ⟨some 38, (.fa 2 (.t 2)), none⟩,
 .op ⟨none, (.store 1 (.t 38) (.t 37)), none⟩]) (.seq (.reg [.op ⟨some 39, (.load true 3 (.t 2)), none⟩,
 .op ⟨some 40, (.mv (.t 1)), none⟩,
 .op ⟨some 41, (.build [(.bool false), (.int .u64 0), (.int .u64 0), (.int .i64 0)] [(0, (3, (.t 39))), (3, (1, (.t 40)))]), none⟩,
 .op ⟨none, (.store 4 (.t 4) (.t 41)), none⟩,
 .op ⟨some 5, (.mv (.c (.bool true))), none⟩]) (.ret))))))
theorem ok_prefix_Of : AC.ok Tryd.prog (TIof Tryd.prog) 42 0 (kret [(.cell 4 true 4), .t 5] dec_prefix_Of) a_prefix_Of := (zA zT (zA (zA (zA zT o_prefix_Of_J4) (zA (zA zT zT) zT)) (zA (zA (EntOkB.ok k_prefix_later) zT) (zA zT (zA zT (zA zT zT))))))
theorem t_prefix_Of (v0_0 : Bool) (v0_1 : Int) (v0_2 : Int) (v1 : Int) : den 0 (kret [(.cell 4 true 4), .t 5] dec_prefix_Of) a_prefix_Of (envOf [(0, (.agg [(.bool v0_0), (.int .u64 v0_1), (.int .u64 v0_2)])), (1, (.int .i64 v1))]) (memOf []) (kend (kret [(.cell 4 true 4), .t 5] dec_prefix_Of)) = prefix_Of v0_0 v0_1 v0_2 v1 := by
  rw [prefix_Of_eq]; kernel_rfl
theorem c_prefix_Of : cFn (TIof Tryd.prog) Tryd.f56 = some ⟨42, [(.cell 4 true 4), .t 5], scOf a_prefix_Of⟩ := by kernel_rfl
noncomputable def ent_prefix_Of {R : Type} (xs : List AV) (K : AV → Option R) : Option R := chk (fitS shp_prefix_Of (entry xs) Mem.none) (oB (prefix_Of (gB ((entry xs) 0).cells 0) (gI ((entry xs) 0).cells 1) (gI ((entry xs) 0).cells 2) (gI [(entry xs) 1] 0)) fun r => K (enc_prefix_Of r))
theorem k_prefix_Of {R : Type} : EntOkB Tryd.prog 56 (ent_prefix_Of (R := R)) :=
  ent_of (F := fun xs => prefix_Of (gB ((entry xs) 0).cells 0) (gI ((entry xs) 0).cells 1) (gI ((entry xs) 0).cells 2) (gI [(entry xs) 1] 0)) (enc := enc_prefix_Of) tabOk follows Tryd.func56 (by kernel_rfl) c_prefix_Of (fun z r h => by
 obtain ⟨h1, h2⟩ := cond_some h
 cases h2
 exact (fitTup_eq h1).symm) ok_prefix_Of (er_of (by kernel_rfl)) shp_prefix_Of (fun xs => t_prefix_Of (gB ((entry xs) 0).cells 0) (gI ((entry xs) 0).cells 1) (gI ((entry xs) 0).cells 2) (gI [(entry xs) 1] 0)) (fun xs K r h => by
 unfold ent_prefix_Of at h
 exact ⟨(chk_some h).1, oB_some (chk_some h).2⟩)
def dec_prefix_Contains (z : AV) : Option Bool := cond (fitRV (.one .b) z) (some (aB z)) none
def enc_prefix_Contains (r : Bool) : AV := .bool r
def shp_prefix_Contains : Shp := ⟨[(0, .st [(.l .b), (.l (.i .u64)), (.l (.i .u64)), (.l (.i .i64))]), (1, .st [(.l .b), (.l (.i .u64)), (.l (.i .u64))])], []⟩
noncomputable def prefix_Contains_i (v0_0 : Bool) (v0_1 : Int) (v0_2 : Int) (v0_3 : Int) (v1_0 : Bool) (v1_1 : Int) (v1_2 : Int) : Option Bool :=
  (oB (prefix_Valid v0_0 v0_1 v0_2 v0_3) fun r1 => (bif ((!r1) || (!((v0_0 == v1_0) && true))) then (some false) else (oB (prefix_Of v1_0 v1_1 v1_2 v0_3) fun r2 => (some (r2.2 && (((gB r2.1.cells 0) == v0_0) && (((gI r2.1.cells 1) == v0_1) && (((gI r2.1.cells 2) == v0_2) && (((gI r2.1.cells 3) == v0_3) && true)))))))))
noncomputable def prefix_Contains := hull prefix_Contains_i
theorem prefix_Contains_eq : prefix_Contains = prefix_Contains_i := hull_eq _
noncomputable def a_prefix_Contains : AC Bool :=
  .seq (.reg [.op ⟨some 2, (.box (.t 0)), none⟩,
 .op ⟨some 3, (.box (.t 1)), none⟩,
 .op ⟨some 4, (.mv (.c (.bool false))), none⟩]) (.seq (.seq (.reg [.op ⟨some 7, (.load true 4 (.t 2)), none⟩,
 .call ⟨some 8, (.call 42 [.t 7]), none⟩ 42 ent_prefix_Valid,
 .op ⟨some 9, (.un .not (.t 8)), none⟩,
 .op ⟨some 10, (.mv (.t 9)), none⟩,
 .grp 10 false [⟨some 11, (.fa 0 (.t 2)), (some (10, false))⟩, ⟨some 12, (.fa 0 (.t 11)), (some (10, false))⟩, ⟨some 13, (.load false 1 (.t 12)), (some (10, false))⟩, ⟨some 14, (.fa 0 (.t 3)), (some (10, false))⟩, ⟨some 15, (.load false 1 (.t 14)), (some (10, false))⟩, ⟨some 16, (.eq true false [.b] (.t 13) (.t 15)), (some (10, false))⟩] 17 (.t 16)]) (.cond (.t 17) (.seq (.reg [.op ⟨some 4, (.mv (.c (.bool false))), none⟩]) (.ret)) (.skip))) (.seq (.reg [.op ⟨some 19, (.load true 3 (.t 3)), none⟩,
 .op ⟨some 20, (.fa 3 (.t 2)), none⟩,
 .op ⟨some 21, (.load false 1 (.t 20)), none⟩,
 .call ⟨some 22, (.call 56 [.t 19, .t 21]), none⟩ 56 ent_prefix_Of,
 .op ⟨some 18, (.mv (.t 22)), none⟩,
 .op ⟨some 23, (.ext (.t 18) 0), none⟩,
 .op ⟨some 24, (.ext (.t 18) 1), none⟩,
 .op ⟨some 5, (.alloc [(.bool false), (.int .u64 0), (.int .u64 0), (.int .i64 0)]), none⟩,
 .op ⟨none, (.store 4 (.t 5) (.t 23)), none⟩,
 .op ⟨some 6, (.mv (.t 24)), none⟩]) (.seq (.reg [.op ⟨some 25, (.mv (.t 6)), none⟩,
 .op ⟨some 26, (.mv (.t 25)), none⟩,
 .grp 26 true [⟨some 27, (.load true 4 (.t 5)), (some (26, true))⟩, ⟨some 28, (.load true 4 (.t 2)), (some (26, true))⟩, ⟨some 29, (.eq false true [.b, (.i .u64), (.i .u64), (.i .i64)] (.t 27) (.t 28)), (some (26, true))⟩] 30 (.t 29),
 .op ⟨some 4, (.mv (.t 30)), none⟩]) (.ret))))
theorem ok_prefix_Contains : AC.ok Tryd.prog (TIof Tryd.prog) 31 0 (kret [.t 4] dec_prefix_Contains) a_prefix_Contains := (zA zT (zA (zA (zA (EntOkB.ok k_prefix_Valid) zT) (zA (zA zT zT) zT)) (zA (zA (EntOkB.ok k_prefix_Of) zT) (zA zT zT))))
theorem t_prefix_Contains (v0_0 : Bool) (v0_1 : Int) (v0_2 : Int) (v0_3 : Int) (v1_0 : Bool) (v1_1 : Int) (v1_2 : Int) : den 0 (kret [.t 4] dec_prefix_Contains) a_prefix_Contains (envOf [(0, (.agg [(.bool v0_0), (.int .u64 v0_1), (.int .u64 v0_2), (.int .i64 v0_3)])), (1, (.agg [(.bool v1_0), (.int .u64 v1_1), (.int .u64 v1_2)]))]) (memOf []) (kend (kret [.t 4] dec_prefix_Contains)) = prefix_Contains v0_0 v0_1 v0_2 v0_3 v1_0 v1_1 v1_2 := by
  rw [prefix_Contains_eq]; kernel_rfl
theorem c_prefix_Contains : cFn (TIof Tryd.prog) Tryd.f38 = some ⟨31, [.t 4], scOf a_prefix_Contains⟩ := by kernel_rfl
noncomputable def ent_prefix_Contains {R : Type} (xs : List AV) (K : AV → Option R) : Option R := chk (fitS shp_prefix_Contains (entry xs) Mem.none) (oB (prefix_Contains (gB ((entry xs) 0).cells 0) (gI ((entry xs) 0).cells 1) (gI ((entry xs) 0).cells 2) (gI ((entry xs) 0).cells 3) (gB ((entry xs) 1).cells 0) (gI ((entry xs) 1).cells 1) (gI ((entry xs) 1).cells 2)) fun r => K (enc_prefix_Contains r))
theorem k_prefix_Contains {R : Type} : EntOkB Tryd.prog 38 (ent_prefix_Contains (R := R)) :=
  ent_of (F := fun xs => prefix_Contains (gB ((entry xs) 0).cells 0) (gI ((entry xs) 0).cells 1) (gI ((entry xs) 0).cells 2) (gI ((entry xs) 0).cells 3) (gB ((entry xs) 1).cells 0) (gI ((entry xs) 1).cells 1) (gI ((entry xs) 1).cells 2)) (enc := enc_prefix_Contains) tabOk follows Tryd.func38 (by kernel_rfl) c_prefix_Contains (fun z r h => by
 obtain ⟨h1, h2⟩ := cond_some h
 cases h2
 exact (etaRV_eq h1).symm) ok_prefix_Contains (er_of (by kernel_rfl)) shp_prefix_Contains (fun xs => t_prefix_Contains (gB ((entry xs) 0).cells 0) (gI ((entry xs) 0).cells 1) (gI ((entry xs) 0).cells 2) (gI ((entry xs) 0).cells 3) (gB ((entry xs) 1).cells 0) (gI ((entry xs) 1).cells 1) (gI ((entry xs) 1).cells 2)) (fun xs K r h => by
 unfold ent_prefix_Contains at h
 exact ⟨(chk_some h).1, oB_some (chk_some h).2⟩)
def shp_policy_contains_1 : Shp := ⟨[(0, .st [(.l .s), (.l (.i .i64)), (.l (.i .i64)), (.l .b), (.l (.i .u64)), (.l (.i .u64)), (.l .s), (.l .s), (.l .s), (.l (.i .i64)), (.l (.i .i64)), (.l (.i .i64)), (.l (.i .i64)), (.l (.i .i64)), (.l (.i .i64)), (.l (.i .u64))]), (1, .one (.ptr 0 0))], [.box true [(.l .b), (.l (.i .u64)), (.l (.i .u64)), (.l (.i .i64))]]⟩
noncomputable def policy_contains_1_i {R : Type}  (v0_0 : List UInt8) (v0_1 : Int) (v0_2 : Int) (v0_3 : Bool) (v0_4 : Int) (v0_5 : Int) (v0_6 : List UInt8) (v0_7 : List UInt8) (v0_8 : List UInt8) (v0_9 : Int) (v0_10 : Int) (v0_11 : Int) (v0_12 : Int) (v0_13 : Int) (v0_14 : Int) (v0_15 : Int) (b0_0 : Bool) (b0_1 : Int) (b0_2 : Int) (b0_3 : Int) (kr : Bool → Bool → Int → Int → Int → Option R) : Option R :=
  (bif ((v0_1 == (1 : Int)) || (v0_1 == (28 : Int))) then (oB (prefix_Contains b0_0 b0_1 b0_2 b0_3 v0_3 v0_4 v0_5) fun r1 => (kr r1 b0_0 b0_1 b0_2 b0_3)) else (kr false b0_0 b0_1 b0_2 b0_3))
noncomputable def policy_contains_1 {R : Type} := hull (policy_contains_1_i (R := R))
theorem policy_contains_1_eq {R : Type} : policy_contains_1 (R := R) = policy_contains_1_i := hull_eq _
noncomputable def a_policy_contains_1 {R : Type} (KK : AV → Mem → Option R) : AC R :=
  .seq (.reg [.op ⟨some 2, (.box (.t 0)), none⟩,
 .op ⟨some 3, (.mv (.c (.bool false))), none⟩]) (.seq (.reg [.op ⟨some 4, (.fa 1 (.t 2)), none⟩,
 .op ⟨some 5, (.load false 1 (.t 4)), none⟩,
 .op ⟨some 6, (.bin .eql (.t 5) (.c (.int .i64 1))), none⟩,
 .op ⟨some 7, (.mv (.t 6)), none⟩,
 .grp 7 false [⟨some 8, (.fa 1 (.t 2)), (some (7, false))⟩, ⟨some 9, (.load false 1 (.t 8)), (some (7, false))⟩, ⟨some 10, (.bin .eql (.t 9) (.c (.int .i64 28))), (some (7, false))⟩] 11 (.t 10),
 .op ⟨some 12, (.mv (.t 11)), none⟩,
 .op ⟨some 13, (.load true 4 (.t 1)), (some (12, true))⟩,
 .op ⟨some 14, (.fa 3 (.t 2)), (some (12, true))⟩,
 .op ⟨some 15, (.fa 0 (.t 14)), (some (12, true))⟩,
 .op ⟨some 16, (.load true 3 (.t 15)), (some (12, true))⟩,
 .call ⟨some 17, (.call 38 [.t 13, .t 16]), (some (12, true))⟩ 38 ent_prefix_Contains,
 .op ⟨some 18, (.pick (.t 12) (.t 17) (.c (.bool false))), none⟩,
 .op ⟨some 3, (.mv (.t 18)), none⟩]) (.seq (.view [.sel [3] [0]]) (.ret)))
theorem ok_policy_contains_1 {R : Type} (KK : AV → Mem → Option R) : AC.ok Tryd.prog (TIof Tryd.prog) 19 1 (kretr [.t 3] KK) (a_policy_contains_1 KK) := (zA zT (zA (zA (EntOkB.ok k_prefix_Contains) zT) (zA zT zT)))
theorem t_policy_contains_1 {R : Type} (KK : AV → Mem → Option R) (v0_0 : List UInt8) (v0_1 : Int) (v0_2 : Int) (v0_3 : Bool) (v0_4 : Int) (v0_5 : Int) (v0_6 : List UInt8) (v0_7 : List UInt8) (v0_8 : List UInt8) (v0_9 : Int) (v0_10 : Int) (v0_11 : Int) (v0_12 : Int) (v0_13 : Int) (v0_14 : Int) (v0_15 : Int) (b0_0 : Bool) (b0_1 : Int) (b0_2 : Int) (b0_3 : Int) : den 1 (kretr [.t 3] KK) (a_policy_contains_1 KK) (envOf [(0, (.agg [(.str v0_0), (.int .i64 v0_1), (.int .i64 v0_2), (.bool v0_3), (.int .u64 v0_4), (.int .u64 v0_5), (.str v0_6), (.str v0_7), (.str v0_8), (.int .i64 v0_9), (.int .i64 v0_10), (.int .i64 v0_11), (.int .i64 v0_12), (.int .i64 v0_13), (.int .i64 v0_14), (.int .u64 v0_15)])), (1, (.ptr 0 0))]) (memOf [(some (.box true [(.bool b0_0), (.int .u64 b0_1), (.int .u64 b0_2), (.int .i64 b0_3)]))]) (kend (kretr [.t 3] KK)) = policy_contains_1 v0_0 v0_1 v0_2 v0_3 v0_4 v0_5 v0_6 v0_7 v0_8 v0_9 v0_10 v0_11 v0_12 v0_13 v0_14 v0_15 b0_0 b0_1 b0_2 b0_3 (fun v3 b0_0 b0_1 b0_2 b0_3 => KK (.bool v3) (memOf [(some (.box true [(.bool b0_0), (.int .u64 b0_1), (.int .u64 b0_2), (.int .i64 b0_3)]))])) := by
  rw [policy_contains_1_eq]; kernel_rfl
theorem c_policy_contains_1 : cFn (TIof Tryd.prog) Tryd.f37 = some ⟨19, [.t 3], scOf (a_policy_contains_1 (R := Unit) (fun _ _ => none))⟩ := by kernel_rfl
theorem r_policy_contains_1 {R : Type} (KK : AV → Mem → Option R) : (a_policy_contains_1 KK).er = some (scOf (a_policy_contains_1 (R := Unit) (fun _ _ => none))) := by kernel_rfl
noncomputable def e_policy_contains_1 {R : Type} (xs : List AV) (m : Mem) (KK : AV → Mem → Option R) : Option R := chk (fitS0 shp_policy_contains_1 (entry xs) m) (cond (hdS shp_policy_contains_1 (entry xs) m) (policy_contains_1 (gS ((entry xs) 0).cells 0) (gI ((entry xs) 0).cells 1) (gI ((entry xs) 0).cells 2) (gB ((entry xs) 0).cells 3) (gI ((entry xs) 0).cells 4) (gI ((entry xs) 0).cells 5) (gS ((entry xs) 0).cells 6) (gS ((entry xs) 0).cells 7) (gS ((entry xs) 0).cells 8) (gI ((entry xs) 0).cells 9) (gI ((entry xs) 0).cells 10) (gI ((entry xs) 0).cells 11) (gI ((entry xs) 0).cells 12) (gI ((entry xs) 0).cells 13) (gI ((entry xs) 0).cells 14) (gI ((entry xs) 0).cells 15) (gB (bxC (m.s 0)) 0) (gI (bxC (m.s 0)) 1) (gI (bxC (m.s 0)) 2) (gI (bxC (m.s 0)) 3) (fun v3 b0_0 b0_1 b0_2 b0_3 => KK (.bool v3) (memOf [(some (.box true [(.bool b0_0), (.int .u64 b0_1), (.int .u64 b0_2), (.int .i64 b0_3)]))]))) none)
theorem k_policy_contains_1 {R : Type} : RefOk Tryd.prog 37 (e_policy_contains_1 (R := R)) :=
  refs_of (ac := fun KK => a_policy_contains_1 KK) tabOk follows Tryd.func37 (by kernel_rfl) c_policy_contains_1 (fun KK => ok_policy_contains_1 KK) (fun KK => r_policy_contains_1 KK) shp_policy_contains_1 rfl (fun xs m KK => congrArg (fun z => chk (fitS0 shp_policy_contains_1 (entry xs) m) (cond (hdS shp_policy_contains_1 (entry xs) m) z none)) (t_policy_contains_1 KK (gS ((entry xs) 0).cells 0) (gI ((entry xs) 0).cells 1) (gI ((entry xs) 0).cells 2) (gB ((entry xs) 0).cells 3) (gI ((entry xs) 0).cells 4) (gI ((entry xs) 0).cells 5) (gS ((entry xs) 0).cells 6) (gS ((entry xs) 0).cells 7) (gS ((entry xs) 0).cells 8) (gI ((entry xs) 0).cells 9) (gI ((entry xs) 0).cells 10) (gI ((entry xs) 0).cells 11) (gI ((entry xs) 0).cells 12) (gI ((entry xs) 0).cells 13) (gI ((entry xs) 0).cells 14) (gI ((entry xs) 0).cells 15) (gB (bxC (m.s 0)) 0) (gI (bxC (m.s 0)) 1) (gI (bxC (m.s 0)) 2) (gI (bxC (m.s 0)) 3)).symm)
def shp_slices_IndexFunc_api_Record_api_Record__policy_contains_1_L6 : Shp := ⟨[(0, .one (.l (.sl 16))), (1, .one (.fn 37 [(0, 0)])), (7, .one (.l (.i .i64))), (8, .one (.l (.i .i64)))], [.box true [(.l .b), (.l (.i .u64)), (.l (.i .u64)), (.l (.i .i64))]]⟩
noncomputable def slices_IndexFunc_api_Record_api_Record__policy_contains_1_L6_b {R : Type}  (v0 : List AV) (v7 : Int) (v8 : Int) (b0_0 : Bool) (b0_1 : Int) (b0_2 : Int) (b0_3 : Int) (next : Int → Bool → Int → Int → Int → Option R) (kx0 : Bool → Int → Int → Int → Option R) (kr : Int → Bool → Int → Int → Int → Option R) : Option R :=
  (bif (decide (v8 < v7)) then (oB (ixB v0 v8) fun y1 => (bif fitC T_api_Record y1.cells then (policy_contains_1 (gS y1.cells 0) (gI y1.cells 1) (gI y1.cells 2) (gB y1.cells 3) (gI y1.cells 4) (gI y1.cells 5) (gS y1.cells 6) (gS y1.cells 7) (gS y1.cells 8) (gI y1.cells 9) (gI y1.cells 10) (gI y1.cells 11) (gI y1.cells 12) (gI y1.cells 13) (gI y1.cells 14) (gI y1.cells 15) b0_0 b0_1 b0_2 b0_3 fun v3q2 b0_0q3 b0_1q4 b0_2q5 b0_3q6 => (bif v3q2 then (kr v8 b0_0q3 b0_1q4 b0_2q5 b0_3q6) else (next (IntKind.i64.wrap (v8 + (1 : Int))) b0_0q3 b0_1q4 b0_2q5 b0_3q6))) else none)) else (kx0 b0_0 b0_1 b0_2 b0_3))
noncomputable def slices_IndexFunc_api_Record_api_Record__policy_contains_1_L6_i {R : Type}  (v0 : List AV) (v7 : Int) (kx0 : Bool → Int → Int → Int → Option R) (kr : Int → Bool → Int → Int → Int → Option R) : Nat → Int → Bool → Int → Int → Int → Option R
  | 0 => (fun _ _ _ _ _ => none)
  | n + 1 => (fun v8 b0_0 b0_1 b0_2 b0_3 => slices_IndexFunc_api_Record_api_Record__policy_contains_1_L6_b v0 v7 v8 b0_0 b0_1 b0_2 b0_3 (slices_IndexFunc_api_Record_api_Record__policy_contains_1_L6_i v0 v7 kx0 kr n) kx0 kr)
noncomputable def slices_IndexFunc_api_Record_api_Record__policy_contains_1_L6 {R : Type} := hull (slices_IndexFunc_api_Record_api_Record__policy_contains_1_L6_i (R := R))
theorem slices_IndexFunc_api_Record_api_Record__policy_contains_1_L6_eq {R : Type} : slices_IndexFunc_api_Record_api_Record__policy_contains_1_L6 (R := R) = slices_IndexFunc_api_Record_api_Record__policy_contains_1_L6_i := hull_eq _
noncomputable def a_slices_IndexFunc_api_Record_api_Record__policy_contains_1_L6 {R : Type} (KK : AV → Mem → Option R) : AC R :=
  .seq (.reg [.op ⟨some 9, (.bin .lss (.t 8) (.t 7)), none⟩]) (.seq (.cond (.t 9) (.skip) (.seq (.view [.sel [] [0]]) (.exit 0))) (.seq (.block 1 (.seq (.reg [.op ⟨some 10, (.mv (.t 8)), none⟩,
 .op ⟨some 5, (.mv (.t 10)), none⟩]) (.seq (.reg [.op ⟨some 11, (.mv (.t 1)), none⟩,
 .op ⟨some 12, (.mv (.t 0)), none⟩,
 .op ⟨some 13, (.mv (.t 5)), none⟩,
 .op ⟨some 14, (.ia 16 (.t 12) (.t 13)), none⟩,
 .st (.etac 14 T_api_Record),
 .op ⟨some 15, (.load true 16 (.t 14)), none⟩,
 .st (.sel [0, 1, 5, 7, 8, 11, 15] [0]),
 .callr ⟨some 16, (.callv (.t 11) [.t 15]), none⟩ 37 e_policy_contains_1]) (.cond (.t 16) (.seq (.reg [.op ⟨some 17, (.mv (.t 5)), none⟩,
 .op ⟨some 4, (.mv (.t 17)), none⟩]) (.seq (.view [.sel [4] [0]]) (.ret))) (.skip))))) (.seq (.reg [.op ⟨some 18, (.bin .add (.t 8) (.c (.int .i64 1))), none⟩,
 .op ⟨some 8, (.mv (.t 18)), none⟩]) (.view [.sel [0, 1, 7, 8] [0]]))))
theorem ok_slices_IndexFunc_api_Record_api_Record__policy_contains_1_L6 {R : Type} (KK : AV → Mem → Option R) : AC.ok Tryd.prog (TIof Tryd.prog) 19 1 (kretr [.t 4] KK) (a_slices_IndexFunc_api_Record_api_Record__policy_contains_1_L6 KK) := (zA zT (zA (zA zT (zA zT zT)) (zA (zA zT (zA (zA k_policy_contains_1 zT) (zA (zA zT (zA zT zT)) zT))) (zA zT zT))))
theorem t_slices_IndexFunc_api_Record_api_Record__policy_contains_1_L6_b {R : Type} (KK : AV → Mem → Option R) (v0 : List AV) (v7 : Int) (v8 : Int) (b0_0 : Bool) (b0_1 : Int) (b0_2 : Int) (b0_3 : Int) (K : Ex → Env → Mem → Option R) : den 1 (kretr [.t 4] KK) (a_slices_IndexFunc_api_Record_api_Record__policy_contains_1_L6 KK) (envOf [(0, (.sl 16 v0)), (1, (.func 37 [(.ptr 0 0)])), (7, (.int .i64 v7)), (8, (.int .i64 v8))]) (memOf [(some (.box true [(.bool b0_0), (.int .u64 b0_1), (.int .u64 b0_2), (.int .i64 b0_3)]))]) K = slices_IndexFunc_api_Record_api_Record__policy_contains_1_L6_b v0 v7 v8 b0_0 b0_1 b0_2 b0_3 (fun z_v8 z_b0_0 z_b0_1 z_b0_2 z_b0_3 => K .norm (envOf [(0, (.sl 16 v0)), (1, (.func 37 [(.ptr 0 0)])), (7, (.int .i64 v7)), (8, (.int .i64 z_v8))]) (memOf [(some (.box true [(.bool z_b0_0), (.int .u64 z_b0_1), (.int .u64 z_b0_2), (.int .i64 z_b0_3)]))])) (fun z_b0_0 z_b0_1 z_b0_2 z_b0_3 => K (.exit 0) (envOf []) (memOf [(some (.box true [(.bool z_b0_0), (.int .u64 z_b0_1), (.int .u64 z_b0_2), (.int .i64 z_b0_3)]))])) (fun v4 b0_0 b0_1 b0_2 b0_3 => KK (.int .i64 v4) (memOf [(some (.box true [(.bool b0_0), (.int .u64 b0_1), (.int .u64 b0_2), (.int .i64 b0_3)]))])) := by kernel_rfl
theorem t_slices_IndexFunc_api_Record_api_Record__policy_contains_1_L6 {R : Type} (KK : AV → Mem → Option R) (v0 : List AV) (v7 : Int) (K : Ex → Env → Mem → Option R) : ∀ (n : Nat) (v8 : Int) (b0_0 : Bool) (b0_1 : Int) (b0_2 : Int) (b0_3 : Int), iterD (den 1 (kretr [.t 4] KK) (a_slices_IndexFunc_api_Record_api_Record__policy_contains_1_L6 KK)) n (envOf [(0, (.sl 16 v0)), (1, (.func 37 [(.ptr 0 0)])), (7, (.int .i64 v7)), (8, (.int .i64 v8))]) (memOf [(some (.box true [(.bool b0_0), (.int .u64 b0_1), (.int .u64 b0_2), (.int .i64 b0_3)]))]) K = slices_IndexFunc_api_Record_api_Record__policy_contains_1_L6 v0 v7 (fun z_b0_0 z_b0_1 z_b0_2 z_b0_3 => K (.exit 0) (envOf []) (memOf [(some (.box true [(.bool z_b0_0), (.int .u64 z_b0_1), (.int .u64 z_b0_2), (.int .i64 z_b0_3)]))])) (fun v4 b0_0 b0_1 b0_2 b0_3 => KK (.int .i64 v4) (memOf [(some (.box true [(.bool b0_0), (.int .u64 b0_1), (.int .u64 b0_2), (.int .i64 b0_3)]))])) n v8 b0_0 b0_1 b0_2 b0_3 := by
  rw [slices_IndexFunc_api_Record_api_Record__policy_contains_1_L6_eq]
  intro n
  induction n with
  | zero => intros; rfl
  | succ n ih =>
 intro v8 b0_0 b0_1 b0_2 b0_3
 exact (t_slices_IndexFunc_api_Record_api_Record__policy_contains_1_L6_b KK v0 v7 v8 b0_0 b0_1 b0_2 b0_3 (itK (den 1 (kretr [.t 4] KK) (a_slices_IndexFunc_api_Record_api_Record__policy_contains_1_L6 KK)) n K)).trans (congrArg (fun q => slices_IndexFunc_api_Record_api_Record__policy_contains_1_L6_b v0 v7 v8 b0_0 b0_1 b0_2 b0_3 q (fun z_b0_0 z_b0_1 z_b0_2 z_b0_3 => K (.exit 0) (envOf []) (memOf [(some (.box true [(.bool z_b0_0), (.int .u64 z_b0_1), (.int .u64 z_b0_2), (.int .i64 z_b0_3)]))])) (fun v4 b0_0 b0_1 b0_2 b0_3 => KK (.int .i64 v4) (memOf [(some (.box true [(.bool b0_0), (.int .u64 b0_1), (.int .u64 b0_2), (.int .i64 b0_3)]))]))) (funext fun v8 => funext fun b0_0 => funext fun b0_1 => funext fun b0_2 => funext fun b0_3 => ih v8 b0_0 b0_1 b0_2 b0_3))
noncomputable def s_slices_IndexFunc_api_Record_api_Record__policy_contains_1_L6 {R : Type} (KK : AV → Mem → Option R) : Env → Mem → (Ex → Env → Mem → Option R) → Option R := fun t m K => chk (fitS0 shp_slices_IndexFunc_api_Record_api_Record__policy_contains_1_L6 t m) (cond (hdS shp_slices_IndexFunc_api_Record_api_Record__policy_contains_1_L6 t m) (slices_IndexFunc_api_Record_api_Record__policy_contains_1_L6 (gL [t 0] 0) (gI [t 7] 0) (fun z_b0_0 z_b0_1 z_b0_2 z_b0_3 => K (.exit 0) (envOf []) (memOf [(some (.box true [(.bool z_b0_0), (.int .u64 z_b0_1), (.int .u64 z_b0_2), (.int .i64 z_b0_3)]))])) (fun v4 b0_0 b0_1 b0_2 b0_3 => KK (.int .i64 v4) (memOf [(some (.box true [(.bool b0_0), (.int .u64 b0_1), (.int .u64 b0_2), (.int .i64 b0_3)]))])) FU (gI [t 8] 0) (gB (bxC (m.s 0)) 0) (gI (bxC (m.s 0)) 1) (gI (bxC (m.s 0)) 2) (gI (bxC (m.s 0)) 3)) none)
theorem o_slices_IndexFunc_api_Record_api_Record__policy_contains_1_L6 {R : Type} (KK : AV → Mem → Option R) : SubOk Tryd.prog (TIof Tryd.prog) 19 1 (kretr [.t 4] KK) (.loop (scOf (a_slices_IndexFunc_api_Record_api_Record__policy_contains_1_L6 KK))) (s_slices_IndexFunc_api_Record_api_Record__policy_contains_1_L6 KK) :=
  loop_of tabOk follows (ok_slices_IndexFunc_api_Record_api_Record__policy_contains_1_L6 KK) (er_of (by kernel_rfl)) shp_slices_IndexFunc_api_Record_api_Record__policy_contains_1_L6 (fun t m K => congrArg (fun z => chk (fitS0 shp_slices_IndexFunc_api_Record_api_Record__policy_contains_1_L6 t m) (cond (hdS shp_slices_IndexFunc_api_Record_api_Record__policy_contains_1_L6 t m) z none)) (t_slices_IndexFunc_api_Record_api_Record__policy_contains_1_L6 KK (gL [t 0] 0) (gI [t 7] 0) K FU (gI [t 8] 0) (gB (bxC (m.s 0)) 0) (gI (bxC (m.s 0)) 1) (gI (bxC (m.s 0)) 2) (gI (bxC (m.s 0)) 3)).symm)
def shp_slices_IndexFunc_api_Record_api_Record__policy_contains_1 : Shp := ⟨[(0, .one (.l (.sl 16))), (1, .one (.fn 37 [(0, 0)]))], [.box true [(.l .b), (.l (.i .u64)), (.l (.i .u64)), (.l (.i .i64))]]⟩
noncomputable def slices_IndexFunc_api_Record_api_Record__policy_contains_1_i {R : Type}  (v0 : List AV) (b0_0 : Bool) (b0_1 : Int) (b0_2 : Int) (b0_3 : Int) (kr : Int → Bool → Int → Int → Int → Option R) : Option R :=
  (slices_IndexFunc_api_Record_api_Record__policy_contains_1_L6 v0 (v0.length : Int) (fun b0_0q1 b0_1q2 b0_2q3 b0_3q4 => (kr (-1 : Int) b0_0q1 b0_1q2 b0_2q3 b0_3q4)) kr FU (0 : Int) b0_0 b0_1 b0_2 b0_3)
noncomputable def slices_IndexFunc_api_Record_api_Record__policy_contains_1 {R : Type} := hull (slices_IndexFunc_api_Record_api_Record__policy_contains_1_i (R := R))
theorem slices_IndexFunc_api_Record_api_Record__policy_contains_1_eq {R : Type} : slices_IndexFunc_api_Record_api_Record__policy_contains_1 (R := R) = slices_IndexFunc_api_Record_api_Record__policy_contains_1_i := hull_eq _
noncomputable def a_slices_IndexFunc_api_Record_api_Record__policy_contains_1 {R : Type} (KK : AV → Mem → Option R) : AC R :=
  .seq (.reg [.op ⟨some 4, (.mv (.c (.int .i64 0))), none⟩]) (.seq (.seq (.reg [.op ⟨some 6, (.mv (.t 0)), none⟩,
 .op ⟨some 7, (.len false (.t 6)), none⟩,
 .op ⟨some 8, (.mv (.c (.int .i64 0))), none⟩]) (.block 0 (.seq (.view [.sel [0, 1, 7, 8] [0]]) (.sub (.loop (scOf (a_slices_IndexFunc_api_Record_api_Record__policy_contains_1_L6 KK))) (s_slices_IndexFunc_api_Record_api_Record__policy_contains_1_L6 KK))))) (.seq (.reg [.op ⟨some 4, (.mv (.c (.int .i64 (-1)))), none⟩]) (.seq (.view [.sel [4] [0]]) (.ret))))
theorem ok_slices_IndexFunc_api_Record_api_Record__policy_contains_1 {R : Type} (KK : AV → Mem → Option R) : AC.ok Tryd.prog (TIof Tryd.prog) 19 1 (kretr [.t 4] KK) (a_slices_IndexFunc_api_Record_api_Record__policy_contains_1 KK) := (zA zT (zA (zA zT (zA zT (o_slices_IndexFunc_api_Record_api_Record__policy_contains_1_L6 KK))) (zA zT (zA zT zT))))
theorem t_slices_IndexFunc_api_Record_api_Record__policy_contains_1 {R : Type} (KK : AV → Mem → Option R) (v0 : List AV) (b0_0 : Bool) (b0_1 : Int) (b0_2 : Int) (b0_3 : Int) : den 1 (kretr [.t 4] KK) (a_slices_IndexFunc_api_Record_api_Record__policy_contains_1 KK) (envOf [(0, (.sl 16 v0)), (1, (.func 37 [(.ptr 0 0)]))]) (memOf [(some (.box true [(.bool b0_0), (.int .u64 b0_1), (.int .u64 b0_2), (.int .i64 b0_3)]))]) (kend (kretr [.t 4] KK)) = slices_IndexFunc_api_Record_api_Record__policy_contains_1 v0 b0_0 b0_1 b0_2 b0_3 (fun v4 b0_0 b0_1 b0_2 b0_3 => KK (.int .i64 v4) (memOf [(some (.box true [(.bool b0_0), (.int .u64 b0_1), (.int .u64 b0_2), (.int .i64 b0_3)]))])) := by
  rw [slices_IndexFunc_api_Record_api_Record__policy_contains_1_eq]; kernel_rfl
theorem c_slices_IndexFunc_api_Record_api_Record__policy_contains_1 : cFn (TIof Tryd.prog) Tryd.f55 = some ⟨19, [.t 4], scOf (a_slices_IndexFunc_api_Record_api_Record__policy_contains_1 (R := Unit) (fun _ _ => none))⟩ := by kernel_rfl
theorem r_slices_IndexFunc_api_Record_api_Record__policy_contains_1 {R : Type} (KK : AV → Mem → Option R) : (a_slices_IndexFunc_api_Record_api_Record__policy_contains_1 KK).er = some (scOf (a_slices_IndexFunc_api_Record_api_Record__policy_contains_1 (R := Unit) (fun _ _ => none))) := by kernel_rfl
noncomputable def e_slices_IndexFunc_api_Record_api_Record__policy_contains_1 {R : Type} (xs : List AV) (m : Mem) (KK : AV → Mem → Option R) : Option R := chk (fitS0 shp_slices_IndexFunc_api_Record_api_Record__policy_contains_1 (entry xs) m) (cond (hdS shp_slices_IndexFunc_api_Record_api_Record__policy_contains_1 (entry xs) m) (slices_IndexFunc_api_Record_api_Record__policy_contains_1 (gL [(entry xs) 0] 0) (gB (bxC (m.s 0)) 0) (gI (bxC (m.s 0)) 1) (gI (bxC (m.s 0)) 2) (gI (bxC (m.s 0)) 3) (fun v4 b0_0 b0_1 b0_2 b0_3 => KK (.int .i64 v4) (memOf [(some (.box true [(.bool b0_0), (.int .u64 b0_1), (.int .u64 b0_2), (.int .i64 b0_3)]))]))) none)
theorem k_slices_IndexFunc_api_Record_api_Record__policy_contains_1 {R : Type} : RefOk Tryd.prog 55 (e_slices_IndexFunc_api_Record_api_Record__policy_contains_1 (R := R)) :=
  refs_of (ac := fun KK => a_slices_IndexFunc_api_Record_api_Record__policy_contains_1 KK) tabOk follows Tryd.func55 (by kernel_rfl) c_slices_IndexFunc_api_Record_api_Record__policy_contains_1 (fun KK => ok_slices_IndexFunc_api_Record_api_Record__policy_contains_1 KK) (fun KK => r_slices_IndexFunc_api_Record_api_Record__policy_contains_1 KK) shp_slices_IndexFunc_api_Record_api_Record__policy_contains_1 rfl (fun xs m KK => congrArg (fun z => chk (fitS0 shp_slices_IndexFunc_api_Record_api_Record__policy_contains_1 (entry xs) m) (cond (hdS shp_slices_IndexFunc_api_Record_api_Record__policy_contains_1 (entry xs) m) z none)) (t_slices_IndexFunc_api_Record_api_Record__policy_contains_1 KK (gL [(entry xs) 0] 0) (gB (bxC (m.s 0)) 0) (gI (bxC (m.s 0)) 1) (gI (bxC (m.s 0)) 2) (gI (bxC (m.s 0)) 3)).symm)
def shp_slices_ContainsFunc_api_Record_api_Record__policy_contains_1 : Shp := ⟨[(0, .one (.l (.sl 16))), (1, .one (.fn 37 [(0, 0)]))], [.box true [(.l .b), (.l (.i .u64)), (.l (.i .u64)), (.l (.i .i64))]]⟩
noncomputable def slices_ContainsFunc_api_Record_api_Record__policy_contains_1_i {R : Type}  (v0 : List AV) (b0_0 : Bool) (b0_1 : Int) (b0_2 : Int) (b0_3 : Int) (kr : Bool → Bool → Int → Int → Int → Option R) : Option R :=
  (slices_IndexFunc_api_Record_api_Record__policy_contains_1 v0 b0_0 b0_1 b0_2 b0_3 fun v4q1 b0_0q2 b0_1q3 b0_2q4 b0_3q5 => (kr (decide (v4q1 ≥ (0 : Int))) b0_0q2 b0_1q3 b0_2q4 b0_3q5))
noncomputable def slices_ContainsFunc_api_Record_api_Record__policy_contains_1 {R : Type} := hull (slices_ContainsFunc_api_Record_api_Record__policy_contains_1_i (R := R))
theorem slices_ContainsFunc_api_Record_api_Record__policy_contains_1_eq {R : Type} : slices_ContainsFunc_api_Record_api_Record__policy_contains_1 (R := R) = slices_ContainsFunc_api_Record_api_Record__policy_contains_1_i := hull_eq _
noncomputable def a_slices_ContainsFunc_api_Record_api_Record__policy_contains_1 {R : Type} (KK : AV → Mem → Option R) : AC R :=
  .seq (.reg [.op ⟨some 4, (.mv (.c (.bool false))), none⟩]) (.seq (.reg [.op ⟨some 5, (.mv (.t 0)), none⟩,
 .op ⟨some 6, (.mv (.t 1)), none⟩,
 .st (.sel [5, 6] [0]),
 .callr ⟨some 7, (.call 55 [.t 5, .t 6]), none⟩ 55 e_slices_IndexFunc_api_Record_api_Record__policy_contains_1,
 .op ⟨some 8, (.bin .geq (.t 7) (.c (.int .i64 0))), none⟩,
 .op ⟨some 4, (.mv (.t 8)), none⟩]) (.seq (.view [.sel [4] [0]]) (.ret)))
theorem ok_slices_ContainsFunc_api_Record_api_Record__policy_contains_1 {R : Type} (KK : AV → Mem → Option R) : AC.ok Tryd.prog (TIof Tryd.prog) 9 1 (kretr [.t 4] KK) (a_slices_ContainsFunc_api_Record_api_Record__policy_contains_1 KK) := (zA zT (zA (zA k_slices_IndexFunc_api_Record_api_Record__policy_contains_1 zT) (zA zT zT)))
theorem t_slices_ContainsFunc_api_Record_api_Record__policy_contains_1 {R : Type} (KK : AV → Mem → Option R) (v0 : List AV) (b0_0 : Bool) (b0_1 : Int) (b0_2 : Int) (b0_3 : Int) : den 1 (kretr [.t 4] KK) (a_slices_ContainsFunc_api_Record_api_Record__policy_contains_1 KK) (envOf [(0, (.sl 16 v0)), (1, (.func 37 [(.ptr 0 0)]))]) (memOf [(some (.box true [(.bool b0_0), (.int .u64 b0_1), (.int .u64 b0_2), (.int .i64 b0_3)]))]) (kend (kretr [.t 4] KK)) = slices_ContainsFunc_api_Record_api_Record__policy_contains_1 v0 b0_0 b0_1 b0_2 b0_3 (fun v4 b0_0 b0_1 b0_2 b0_3 => KK (.bool v4) (memOf [(some (.box true [(.bool b0_0), (.int .u64 b0_1), (.int .u64 b0_2), (.int .i64 b0_3)]))])) := by
  rw [slices_ContainsFunc_api_Record_api_Record__policy_contains_1_eq]; kernel_rfl
theorem c_slices_ContainsFunc_api_Record_api_Record__policy_contains_1 : cFn (TIof Tryd.prog) Tryd.f36 = some ⟨9, [.t 4], scOf (a_slices_ContainsFunc_api_Record_api_Record__policy_contains_1 (R := Unit) (fun _ _ => none))⟩ := by kernel_rfl
theorem r_slices_ContainsFunc_api_Record_api_Record__policy_contains_1 {R : Type} (KK : AV → Mem → Option R) : (a_slices_ContainsFunc_api_Record_api_Record__policy_contains_1 KK).er = some (scOf (a_slices_ContainsFunc_api_Record_api_Record__policy_contains_1 (R := Unit) (fun _ _ => none))) := by kernel_rfl
noncomputable def e_slices_ContainsFunc_api_Record_api_Record__policy_contains_1 {R : Type} (xs : List AV) (m : Mem) (KK : AV → Mem → Option R) : Option R := chk (fitS0 shp_slices_ContainsFunc_api_Record_api_Record__policy_contains_1 (entry xs) m) (cond (hdS shp_slices_ContainsFunc_api_Record_api_Record__policy_contains_1 (entry xs) m) (slices_ContainsFunc_api_Record_api_Record__policy_contains_1 (gL [(entry xs) 0] 0) (gB (bxC (m.s 0)) 0) (gI (bxC (m.s 0)) 1) (gI (bxC (m.s 0)) 2) (gI (bxC (m.s 0)) 3) (fun v4 b0_0 b0_1 b0_2 b0_3 => KK (.bool v4) (memOf [(some (.box true [(.bool b0_0), (.int .u64 b0_1), (.int .u64 b0_2), (.int .i64 b0_3)]))]))) none)
theorem k_slices_ContainsFunc_api_Record_api_Record__policy_contains_1 {R : Type} : RefOk Tryd.prog 36 (e_slices_ContainsFunc_api_Record_api_Record__policy_contains_1 (R := R)) :=
  refs_of (ac := fun KK => a_slices_ContainsFunc_api_Record_api_Record__policy_contains_1 KK) tabOk follows Tryd.func36 (by kernel_rfl) c_slices_ContainsFunc_api_Record_api_Record__policy_contains_1 (fun KK => ok_slices_ContainsFunc_api_Record_api_Record__policy_contains_1 KK) (fun KK => r_slices_ContainsFunc_api_Record_api_Record__policy_contains_1 KK) shp_slices_ContainsFunc_api_Record_api_Record__policy_contains_1 rfl (fun xs m KK => congrArg (fun z => chk (fitS0 shp_slices_ContainsFunc_api_Record_api_Record__policy_contains_1 (entry xs) m) (cond (hdS shp_slices_ContainsFunc_api_Record_api_Record__policy_contains_1 (entry xs) m) z none)) (t_slices_ContainsFunc_api_Record_api_Record__policy_contains_1 KK (gL [(entry xs) 0] 0) (gB (bxC (m.s 0)) 0) (gI (bxC (m.s 0)) 1) (gI (bxC (m.s 0)) 2) (gI (bxC (m.s 0)) 3)).symm)
def dec_policy_contains (z : AV) : Option Bool := cond (fitRV (.one .b) z) (some (aB z)) none
def enc_policy_contains (r : Bool) : AV := .bool r
def shp_policy_contains : Shp := ⟨[(0, .st [(.l .b), (.l (.i .u64)), (.l (.i .u64)), (.l (.i .i64))]), (1, .one (.l (.sl 16)))], []⟩
noncomputable def policy_contains_i (v0_0 : Bool) (v0_1 : Int) (v0_2 : Int) (v0_3 : Int) (v1 : List AV) : Option Bool :=
  (slices_ContainsFunc_api_Record_api_Record__policy_contains_1 v1 v0_0 v0_1 v0_2 v0_3 fun v4q1 b0_0q2 b0_1q3 b0_2q4 b0_3q5 => (some v4q1))
noncomputable def policy_contains := hull policy_contains_i
theorem policy_contains_eq : policy_contains = policy_contains_i := hull_eq _
noncomputable def a_policy_contains : AC Bool :=
  .seq (.reg [.op ⟨some 2, (.box (.t 0)), none⟩,
 .op ⟨some 4, (.mv (.c (.bool false))), none⟩]) (.seq (.reg [.op ⟨some 5, (.mv (.t 1)), none⟩,
 .op ⟨some 6, (.mkf 37 [.t 2]), none⟩,
 .st (.sel [5, 6] [0]),
 .callr ⟨some 7, (.call 36 [.t 5, .t 6]), none⟩ 36 e_slices_ContainsFunc_api_Record_api_Record__policy_contains_1,
 .op ⟨some 4, (.mv (.t 7)), none⟩]) (.ret))
theorem ok_policy_contains : AC.ok Tryd.prog (TIof Tryd.prog) 8 0 (kret [.t 4] dec_policy_contains) a_policy_contains := (zA zT (zA (zA k_slices_ContainsFunc_api_Record_api_Record__policy_contains_1 zT) zT))
theorem t_policy_contains (v0_0 : Bool) (v0_1 : Int) (v0_2 : Int) (v0_3 : Int) (v1 : List AV) : den 0 (kret [.t 4] dec_policy_contains) a_policy_contains (envOf [(0, (.agg [(.bool v0_0), (.int .u64 v0_1), (.int .u64 v0_2), (.int .i64 v0_3)])), (1, (.sl 16 v1))]) (memOf []) (kend (kret [.t 4] dec_policy_contains)) = policy_contains v0_0 v0_1 v0_2 v0_3 v1 := by
  rw [policy_contains_eq]; kernel_rfl
theorem c_policy_contains : cFn (TIof Tryd.prog) Tryd.f24 = some ⟨8, [.t 4], scOf a_policy_contains⟩ := by kernel_rfl
noncomputable def ent_policy_contains {R : Type} (xs : List AV) (K : AV → Option R) : Option R := chk (fitS shp_policy_contains (entry xs) Mem.none) (oB (policy_contains (gB ((entry xs) 0).cells 0) (gI ((entry xs) 0).cells 1) (gI ((entry xs) 0).cells 2) (gI ((entry xs) 0).cells 3) (gL [(entry xs) 1] 0)) fun r => K (enc_policy_contains r))
theorem k_policy_contains {R : Type} : EntOkB Tryd.prog 24 (ent_policy_contains (R := R)) :=
  ent_of (F := fun xs => policy_contains (gB ((entry xs) 0).cells 0) (gI ((entry xs) 0).cells 1) (gI ((entry xs) 0).cells 2) (gI ((entry xs) 0).cells 3) (gL [(entry xs) 1] 0)) (enc := enc_policy_contains) tabOk follows Tryd.func24 (by kernel_rfl) c_policy_contains (fun z r h => by
 obtain ⟨h1, h2⟩ := cond_some h
 cases h2
 exact (etaRV_eq h1).symm) ok_policy_contains (er_of (by kernel_rfl)) shp_policy_contains (fun xs => t_policy_contains (gB ((entry xs) 0).cells 0) (gI ((entry xs) 0).cells 1) (gI ((entry xs) 0).cells 2) (gI ((entry xs) 0).cells 3) (gL [(entry xs) 1] 0)) (fun xs K r h => by
 unfold ent_policy_contains at h
 exact ⟨(chk_some h).1, oB_some (chk_some h).2⟩)
def dec_policy_Response (z : AV) : Option (Int × Bool) := cond (fitTup [(.one (.i .i64)), (.one .b)] z) (some (aI (gC (tpL z) 0), aB (gC (tpL z) 1))) none
def enc_policy_Response (r : Int × Bool) : AV := .tup [.int .i64 r.1, .bool r.2]
def shp_policy_Response_L6 : Shp := ⟨[(3, .one (.ptr 0 0)), (8, .one (.l (.sl 8))), (9, .one (.l (.i .i64))), (10, .one (.l (.i .i64)))], [.box true [(.l (.i .i64)), (.l (.i .i64)), (.l (.i .i64)), (.l .b), (.l .b), (.l .b), (.l .b), (.l .b), (.l .b), (.l .b), (.l .b), (.l (.i .i64)), (.l .s), (.l (.i .i64)), (.l (.sl 16)), (.l (.sl 16)), (.l (.sl 16))]]⟩
noncomputable def policy_Response_L6_b  (v8 : List AV) (v9 : Int) (v10 : Int) (b0_0 : Int) (b0_1 : Int) (b0_2 : Int) (b0_3 : Bool) (b0_4 : Bool) (b0_5 : Bool) (b0_6 : Bool) (b0_7 : Bool) (b0_8 : Bool) (b0_9 : Bool) (b0_10 : Bool) (b0_11 : Int) (b0_12 : List UInt8) (b0_13 : Int) (b0_14 : List AV) (b0_15 : List AV) (b0_16 : List AV) (next : Int → Option (Int × Bool)) (kx0 : Unit → Option (Int × Bool)) : Option (Int × Bool) :=
  (bif (decide (v10 < v9)) then (oB (ixB v8 v10) fun y1 => (bif fitC T_api_Rule y1.cells then (bif ((gI y1.cells 0) == (3 : Int)) then (oB (policy_contains (gB y1.cells 2) (gI y1.cells 3) (gI y1.cells 4) (gI y1.cells 5) b0_14) fun r2 => (bif r2 then (some (v10, true)) else (next (IntKind.i64.wrap (v10 + (1 : Int)))))) else (next (IntKind.i64.wrap (v10 + (1 : Int))))) else none)) else (kx0 ()))
noncomputable def policy_Response_L6_i  (v8 : List AV) (v9 : Int) (b0_0 : Int) (b0_1 : Int) (b0_2 : Int) (b0_3 : Bool) (b0_4 : Bool) (b0_5 : Bool) (b0_6 : Bool) (b0_7 : Bool) (b0_8 : Bool) (b0_9 : Bool) (b0_10 : Bool) (b0_11 : Int) (b0_12 : List UInt8) (b0_13 : Int) (b0_14 : List AV) (b0_15 : List AV) (b0_16 : List AV) (kx0 : Unit → Option (Int × Bool)) : Nat → Int → Option (Int × Bool)
  | 0 => (fun _ => none)
  | n + 1 => (fun v10 => policy_Response_L6_b v8 v9 v10 b0_0 b0_1 b0_2 b0_3 b0_4 b0_5 b0_6 b0_7 b0_8 b0_9 b0_10 b0_11 b0_12 b0_13 b0_14 b0_15 b0_16 (policy_Response_L6_i v8 v9 b0_0 b0_1 b0_2 b0_3 b0_4 b0_5 b0_6 b0_7 b0_8 b0_9 b0_10 b0_11 b0_12 b0_13 b0_14 b0_15 b0_16 kx0 n) kx0)
noncomputable def policy_Response_L6 := hull (policy_Response_L6_i)
theorem policy_Response_L6_eq : policy_Response_L6 = policy_Response_L6_i := hull_eq _
noncomputable def a_policy_Response_L6 : AC (Int × Bool) :=
  .seq (.reg [.op ⟨some 11, (.bin .lss (.t 10) (.t 9)), none⟩]) (.seq (.cond (.t 11) (.skip) (.seq (.view [.sel [] []]) (.exit 0))) (.seq (.block 1 (.seq (.reg [.op ⟨some 12, (.mv (.t 10)), none⟩,
 .op ⟨some 13, (.ia 8 (.t 8) (.t 10)), none⟩,
 .st (.etac 13 T_api_Rule),
 .op ⟨some 14, (.load true 8 (.t 13)), none⟩,
 .op ⟨some 7, (.alloc [(.int .i64 0), (.str []), (.bool false), (.int .u64 0), (.int .u64 0), (.int .i64 0), (.int .i64 0), .nils]), none⟩,
 .op ⟨some 6, (.mv (.t 12)), none⟩,
 .op ⟨none, (.store 8 (.t 7) (.t 14)), none⟩]) (.seq (.reg [.op ⟨some 15, (.fa 0 (.t 7)), none⟩,
 .op ⟨some 16, (.load false 1 (.t 15)), none⟩,
 .op ⟨some 17, (.bin .eql (.t 16) (.c (.int .i64 3))), none⟩,
 .op ⟨some 18, (.mv (.t 17)), none⟩,
 .op ⟨some 19, (.fa 2 (.t 7)), (some (18, true))⟩,
 .op ⟨some 20, (.load true 4 (.t 19)), (some (18, true))⟩,
 .op ⟨some 21, (.fa 14 (.t 3)), (some (18, true))⟩,
 .op ⟨some 22, (.load false 1 (.t 21)), (some (18, true))⟩,
 .call ⟨some 23, (.call 24 [.t 20, .t 22]), (some (18, true))⟩ 24 ent_policy_contains,
 .op ⟨some 24, (.pick (.t 18) (.t 23) (.c (.bool false))), none⟩]) (.cond (.t 24) (.seq (.reg [.op ⟨some 25, (.mv (.t 6)), none⟩,
 .op ⟨some 4, (.mv (.t 25)), none⟩,
 .op ⟨some 5, (.mv (.c (.bool true))), none⟩]) (.ret)) (.skip))))) (.seq (.reg [.op ⟨some 26, (.bin .add (.t 10) (.c (.int .i64 1))), none⟩,
 .op ⟨some 10, (.mv (.t 26)), none⟩]) (.view [.sel [3, 8, 9, 10] [0]]))))
theorem ok_policy_Response_L6 : AC.ok Tryd.prog (TIof Tryd.prog) 27 0 (kret [.t 4, .t 5] dec_policy_Response) a_policy_Response_L6 := (zA zT (zA (zA zT (zA zT zT)) (zA (zA zT (zA (zA (EntOkB.ok k_policy_contains) zT) (zA (zA zT zT) zT))) (zA zT zT))))
theorem t_policy_Response_L6_b (v8 : List AV) (v9 : Int) (v10 : Int) (b0_0 : Int) (b0_1 : Int) (b0_2 : Int) (b0_3 : Bool) (b0_4 : Bool) (b0_5 : Bool) (b0_6 : Bool) (b0_7 : Bool) (b0_8 : Bool) (b0_9 : Bool) (b0_10 : Bool) (b0_11 : Int) (b0_12 : List UInt8) (b0_13 : Int) (b0_14 : List AV) (b0_15 : List AV) (b0_16 : List AV) (K : Ex → Env → Mem → Option (Int × Bool)) : den 0 (kret [.t 4, .t 5] dec_policy_Response) a_policy_Response_L6 (envOf [(3, (.ptr 0 0)), (8, (.sl 8 v8)), (9, (.int .i64 v9)), (10, (.int .i64 v10))]) (memOf [(some (.box true [(.int .i64 b0_0), (.int .i64 b0_1), (.int .i64 b0_2), (.bool b0_3), (.bool b0_4), (.bool b0_5), (.bool b0_6), (.bool b0_7), (.bool b0_8), (.bool b0_9), (.bool b0_10), (.int .i64 b0_11), (.str b0_12), (.int .i64 b0_13), (.sl 16 b0_14), (.sl 16 b0_15), (.sl 16 b0_16)]))]) K = policy_Response_L6_b v8 v9 v10 b0_0 b0_1 b0_2 b0_3 b0_4 b0_5 b0_6 b0_7 b0_8 b0_9 b0_10 b0_11 b0_12 b0_13 b0_14 b0_15 b0_16 (fun z_v10 => K .norm (envOf [(3, (.ptr 0 0)), (8, (.sl 8 v8)), (9, (.int .i64 v9)), (10, (.int .i64 z_v10))]) (memOf [(some (.box true [(.int .i64 b0_0), (.int .i64 b0_1), (.int .i64 b0_2), (.bool b0_3), (.bool b0_4), (.bool b0_5), (.bool b0_6), (.bool b0_7), (.bool b0_8), (.bool b0_9), (.bool b0_10), (.int .i64 b0_11), (.str b0_12), (.int .i64 b0_13), (.sl 16 b0_14), (.sl 16 b0_15), (.sl 16 b0_16)]))])) (fun _ => K (.exit 0) (envOf []) (memOf [])) := by kernel_rfl
theorem t_policy_Response_L6 (v8 : List AV) (v9 : Int) (b0_0 : Int) (b0_1 : Int) (b0_2 : Int) (b0_3 : Bool) (b0_4 : Bool) (b0_5 : Bool) (b0_6 : Bool) (b0_7 : Bool) (b0_8 : Bool) (b0_9 : Bool) (b0_10 : Bool) (b0_11 : Int) (b0_12 : List UInt8) (b0_13 : Int) (b0_14 : List AV) (b0_15 : List AV) (b0_16 : List AV) (K : Ex → Env → Mem → Option (Int × Bool)) : ∀ (n : Nat) (v10 : Int), iterD (den 0 (kret [.t 4, .t 5] dec_policy_Response) a_policy_Response_L6) n (envOf [(3, (.ptr 0 0)), (8, (.sl 8 v8)), (9, (.int .i64 v9)), (10, (.int .i64 v10))]) (memOf [(some (.box true [(.int .i64 b0_0), (.int .i64 b0_1), (.int .i64 b0_2), (.bool b0_3), (.bool b0_4), (.bool b0_5), (.bool b0_6), (.bool b0_7), (.bool b0_8), (.bool b0_9), (.bool b0_10), (.int .i64 b0_11), (.str b0_12), (.int .i64 b0_13), (.sl 16 b0_14), (.sl 16 b0_15), (.sl 16 b0_16)]))]) K = policy_Response_L6 v8 v9 b0_0 b0_1 b0_2 b0_3 b0_4 b0_5 b0_6 b0_7 b0_8 b0_9 b0_10 b0_11 b0_12 b0_13 b0_14 b0_15 b0_16 (fun _ => K (.exit 0) (envOf []) (memOf [])) n v10 := by
  rw [policy_Response_L6_eq]
  intro n
  induction n with
  | zero => intros; rfl
  | succ n ih =>
 intro v10
 exact (t_policy_Response_L6_b v8 v9 v10 b0_0 b0_1 b0_2 b0_3 b0_4 b0_5 b0_6 b0_7 b0_8 b0_9 b0_10 b0_11 b0_12 b0_13 b0_14 b0_15 b0_16 (itK (den 0 (kret [.t 4, .t 5] dec_policy_Response) a_policy_Response_L6) n K)).trans (congrArg (fun q => policy_Response_L6_b v8 v9 v10 b0_0 b0_1 b0_2 b0_3 b0_4 b0_5 b0_6 b0_7 b0_8 b0_9 b0_10 b0_11 b0_12 b0_13 b0_14 b0_15 b0_16 q (fun _ => K (.exit 0) (envOf []) (memOf []))) (funext fun v10 => ih v10))
noncomputable def s_policy_Response_L6 : Env → Mem → (Ex → Env → Mem → Option (Int × Bool)) → Option (Int × Bool) := fun t m K => chk (fitS0 shp_policy_Response_L6 t m) (cond (hdS shp_policy_Response_L6 t m) (policy_Response_L6 (gL [t 8] 0) (gI [t 9] 0) (gI (bxC (m.s 0)) 0) (gI (bxC (m.s 0)) 1) (gI (bxC (m.s 0)) 2) (gB (bxC (m.s 0)) 3) (gB (bxC (m.s 0)) 4) (gB (bxC (m.s 0)) 5) (gB (bxC (m.s 0)) 6) (gB (bxC (m.s 0)) 7) (gB (bxC (m.s 0)) 8) (gB (bxC (m.s 0)) 9) (gB (bxC (m.s 0)) 10) (gI (bxC (m.s 0)) 11) (gS (bxC (m.s 0)) 12) (gI (bxC (m.s 0)) 13) (gL (bxC (m.s 0)) 14) (gL (bxC (m.s 0)) 15) (gL (bxC (m.s 0)) 16) (fun _ => K (.exit 0) (envOf []) (memOf [])) FU (gI [t 10] 0)) none)
theorem o_policy_Response_L6 : SubOk Tryd.prog (TIof Tryd.prog) 27 0 (kret [.t 4, .t 5] dec_policy_Response) (.loop (scOf a_policy_Response_L6)) s_policy_Response_L6 :=
  loop_of tabOk follows ok_policy_Response_L6 (er_of (by kernel_rfl)) shp_policy_Response_L6 (fun t m K => congrArg (fun z => chk (fitS0 shp_policy_Response_L6 t m) (cond (hdS shp_policy_Response_L6 t m) z none)) (t_policy_Response_L6 (gL [t 8] 0) (gI [t 9] 0) (gI (bxC (m.s 0)) 0) (gI (bxC (m.s 0)) 1) (gI (bxC (m.s 0)) 2) (gB (bxC (m.s 0)) 3) (gB (bxC (m.s 0)) 4) (gB (bxC (m.s 0)) 5) (gB (bxC (m.s 0)) 6) (gB (bxC (m.s 0)) 7) (gB (bxC (m.s 0)) 8) (gB (bxC (m.s 0)) 9) (gB (bxC (m.s 0)) 10) (gI (bxC (m.s 0)) 11) (gS (bxC (m.s 0)) 12) (gI (bxC (m.s 0)) 13) (gL (bxC (m.s 0)) 14) (gL (bxC (m.s 0)) 15) (gL (bxC (m.s 0)) 16) K FU (gI [t 10] 0)).symm)
def shp_policy_Response : Shp := ⟨[(0, .one (.l (.sl 8))), (1, .st [(.l (.i .i64)), (.l (.i .i64)), (.l (.i .i64)), (.l .b), (.l .b), (.l .b), (.l .b), (.l .b), (.l .b), (.l .b), (.l .b), (.l (.i .i64)), (.l .s), (.l (.i .i64)), (.l (.sl 16)), (.l (.sl 16)), (.l (.sl 16))])], []⟩
noncomputable def policy_Response_i (v0 : List AV) (v1_0 : Int) (v1_1 : Int) (v1_2 : Int) (v1_3 : Bool) (v1_4 : Bool) (v1_5 : Bool) (v1_6 : Bool) (v1_7 : Bool) (v1_8 : Bool) (v1_9 : Bool) (v1_10 : Bool) (v1_11 : Int) (v1_12 : List UInt8) (v1_13 : Int) (v1_14 : List AV) (v1_15 : List AV) (v1_16 : List AV) : Option (Int × Bool) :=
  (policy_Response_L6 v0 (v0.length : Int) v1_0 v1_1 v1_2 v1_3 v1_4 v1_5 v1_6 v1_7 v1_8 v1_9 v1_10 v1_11 v1_12 v1_13 v1_14 v1_15 v1_16 (fun (_ : Unit) => (some ((0 : Int), false))) FU (0 : Int))
noncomputable def policy_Response := hull policy_Response_i
theorem policy_Response_eq : policy_Response = policy_Response_i := hull_eq _
noncomputable def a_policy_Response : AC (Int × Bool) :=
  .seq (.reg [.op ⟨some 3, (.box (.t 1)), none⟩,
 .op ⟨some 4, (.mv (.c (.int .i64 0))), none⟩,
 .op ⟨some 5, (.mv (.c (.bool false))), none⟩]) (.seq (.seq (.reg [.op ⟨some 8, (.mv (.t 0)), none⟩,
 .op ⟨some 9, (.len false (.t 8)), none⟩,
 .op ⟨some 10, (.mv (.c (.int .i64 0))), none⟩]) (.block 0 (.seq (.view [.sel [3, 8, 9, 10] [0]]) (.sub (.loop (scOf a_policy_Response_L6)) s_policy_Response_L6)))) (.seq (.reg [.op ⟨some 4, (.mv (.c (.int .i64 0))), none⟩,
 .op ⟨some 5, (.mv (.c (.bool false))), none⟩]) (.ret)))
theorem ok_policy_Response : AC.ok Tryd.prog (TIof Tryd.prog) 27 0 (kret [.t 4, .t 5] dec_policy_Response) a_policy_Response := (zA zT (zA (zA zT (zA zT o_policy_Response_L6)) (zA zT zT)))
theorem t_policy_Response (v0 : List AV) (v1_0 : Int) (v1_1 : Int) (v1_2 : Int) (v1_3 : Bool) (v1_4 : Bool) (v1_5 : Bool) (v1_6 : Bool) (v1_7 : Bool) (v1_8 : Bool) (v1_9 : Bool) (v1_10 : Bool) (v1_11 : Int) (v1_12 : List UInt8) (v1_13 : Int) (v1_14 : List AV) (v1_15 : List AV) (v1_16 : List AV) : den 0 (kret [.t 4, .t 5] dec_policy_Response) a_policy_Response (envOf [(0, (.sl 8 v0)), (1, (.agg [(.int .i64 v1_0), (.int .i64 v1_1), (.int .i64 v1_2), (.bool v1_3), (.bool v1_4), (.bool v1_5), (.bool v1_6), (.bool v1_7), (.bool v1_8), (.bool v1_9), (.bool v1_10), (.int .i64 v1_11), (.str v1_12), (.int .i64 v1_13), (.sl 16 v1_14), (.sl 16 v1_15), (.sl 16 v1_16)]))]) (memOf []) (kend (kret [.t 4, .t 5] dec_policy_Response)) = policy_Response v0 v1_0 v1_1 v1_2 v1_3 v1_4 v1_5 v1_6 v1_7 v1_8 v1_9 v1_10 v1_11 v1_12 v1_13 v1_14 v1_15 v1_16 := by
  rw [policy_Response_eq]; kernel_rfl
theorem c_policy_Response : cFn (TIof Tryd.prog) Tryd.f11 = some ⟨27, [.t 4, .t 5], scOf a_policy_Response⟩ := by kernel_rfl
noncomputable def ent_policy_Response {R : Type} (xs : List AV) (K : AV → Option R) : Option R := chk (fitS shp_policy_Response (entry xs) Mem.none) (oB (policy_Response (gL [(entry xs) 0] 0) (gI ((entry xs) 1).cells 0) (gI ((entry xs) 1).cells 1) (gI ((entry xs) 1).cells 2) (gB ((entry xs) 1).cells 3) (gB ((entry xs) 1).cells 4) (gB ((entry xs) 1).cells 5) (gB ((entry xs) 1).cells 6) (gB ((entry xs) 1).cells 7) (gB ((entry xs) 1).cells 8) (gB ((entry xs) 1).cells 9) (gB ((entry xs) 1).cells 10) (gI ((entry xs) 1).cells 11) (gS ((entry xs) 1).cells 12) (gI ((entry xs) 1).cells 13) (gL ((entry xs) 1).cells 14) (gL ((entry xs) 1).cells 15) (gL ((entry xs) 1).cells 16)) fun r => K (enc_policy_Response r))
theorem k_policy_Response {R : Type} : EntOkB Tryd.prog 11 (ent_policy_Response (R := R)) :=
  ent_of (F := fun xs => policy_Response (gL [(entry xs) 0] 0) (gI ((entry xs) 1).cells 0) (gI ((entry xs) 1).cells 1) (gI ((entry xs) 1).cells 2) (gB ((entry xs) 1).cells 3) (gB ((entry xs) 1).cells 4) (gB ((entry xs) 1).cells 5) (gB ((entry xs) 1).cells 6) (gB ((entry xs) 1).cells 7) (gB ((entry xs) 1).cells 8) (gB ((entry xs) 1).cells 9) (gB ((entry xs) 1).cells 10) (gI ((entry xs) 1).cells 11) (gS ((entry xs) 1).cells 12) (gI ((entry xs) 1).cells 13) (gL ((entry xs) 1).cells 14) (gL ((entry xs) 1).cells 15) (gL ((entry xs) 1).cells 16)) (enc := enc_policy_Response) tabOk follows Tryd.func11 (by kernel_rfl) c_policy_Response (fun z r h => by
 obtain ⟨h1, h2⟩ := cond_some h
 cases h2
 exact (fitTup_eq h1).symm) ok_policy_Response (er_of (by kernel_rfl)) shp_policy_Response (fun xs => t_policy_Response (gL [(entry xs) 0] 0) (gI ((entry xs) 1).cells 0) (gI ((entry xs) 1).cells 1) (gI ((entry xs) 1).cells 2) (gB ((entry xs) 1).cells 3) (gB ((entry xs) 1).cells 4) (gB ((entry xs) 1).cells 5) (gB ((entry xs) 1).cells 6) (gB ((entry xs) 1).cells 7) (gB ((entry xs) 1).cells 8) (gB ((entry xs) 1).cells 9) (gB ((entry xs) 1).cells 10) (gI ((entry xs) 1).cells 11) (gS ((entry xs) 1).cells 12) (gI ((entry xs) 1).cells 13) (gL ((entry xs) 1).cells 14) (gL ((entry xs) 1).cells 15) (gL ((entry xs) 1).cells 16)) (fun xs K r h => by
 unfold ent_policy_Response at h
 exact ⟨(chk_some h).1, oB_some (chk_some h).2⟩)
def dec_policy_Apply (z : AV) : Option AV := cond (fitRV (.st [(.i .i64), (.i .i64), (.i .i64), .b, .b, .b, .b, .b, .b, .b, .b, (.i .i64), .s, (.i .i64), (.sl 16), (.sl 16), (.sl 16)]) z) (some (z)) none
def enc_policy_Apply (r : AV) : AV := etaRV (.st [(.i .i64), (.i .i64), (.i .i64), .b, .b, .b, .b, .b, .b, .b, .b, (.i .i64), .s, (.i .i64), (.sl 16), (.sl 16), (.sl 16)]) r
def shp_policy_Apply : Shp := ⟨[(0, .one (.l (.sl 8))), (1, .st [(.l (.i .i64)), (.l (.i .i64)), (.l (.i .i64)), (.l .b), (.l .b), (.l .b), (.l .b), (.l .b), (.l .b), (.l .b), (.l .b), (.l (.i .i64)), (.l .s), (.l (.i .i64)), (.l (.sl 16)), (.l (.sl 16)), (.l (.sl 16))]), (2, .st [(.l (.i .i64)), (.l (.i .i64)), (.l (.i .i64)), (.l .b), (.l .b), (.l .b), (.l .b), (.l .b), (.l .b), (.l .b), (.l .b), (.l (.i .i64)), (.l .s), (.l (.i .i64)), (.l (.sl 16)), (.l (.sl 16)), (.l (.sl 16))])], []⟩
noncomputable def policy_Apply_i (v0 : List AV) (v1_0 : Int) (v1_1 : Int) (v1_2 : Int) (v1_3 : Bool) (v1_4 : Bool) (v1_5 : Bool) (v1_6 : Bool) (v1_7 : Bool) (v1_8 : Bool) (v1_9 : Bool) (v1_10 : Bool) (v1_11 : Int) (v1_12 : List UInt8) (v1_13 : Int) (v1_14 : List AV) (v1_15 : List AV) (v1_16 : List AV) (v2_0 : Int) (v2_1 : Int) (v2_2 : Int) (v2_3 : Bool) (v2_4 : Bool) (v2_5 : Bool) (v2_6 : Bool) (v2_7 : Bool) (v2_8 : Bool) (v2_9 : Bool) (v2_10 : Bool) (v2_11 : Int) (v2_12 : List UInt8) (v2_13 : Int) (v2_14 : List AV) (v2_15 : List AV) (v2_16 : List AV) : Option AV :=
  (oB (policy_Query v0 v1_12 v1_13) fun r1 => (bif r1.2 then (oB (ixB v0 r1.1) fun y2 => (bif fitC X_api_Rule y2.cells then (bif fitV (.st T_api_Rule) (.agg [(.int .i64 (gI y2.cells 0)), (.str (gS y2.cells 1)), (.bool (gB y2.cells 2)), (.int .u64 (gI y2.cells 3)), (.int .u64 (gI y2.cells 4)), (.int .i64 (gI y2.cells 5)), (.int .i64 (gI y2.cells 6)), (gC y2.cells 7)]) then (oB (policy_Act (gI y2.cells 0) (gS y2.cells 1) (gB y2.cells 2) (gI y2.cells 3) (gI y2.cells 4) (gI y2.cells 5) (gI y2.cells 6) (aL (gC y2.cells 7)) v1_0 v1_1 v1_2 v1_3 v1_4 v1_5 v1_6 v1_7 v1_8 v1_9 v1_10 v1_11 v1_12 v1_13 v1_14 v1_15 v1_16 v2_0 v2_1 v2_2 v2_3 v2_4 v2_5 v2_6 v2_7 v2_8 v2_9 v2_10 v2_11 v2_12 v2_13 v2_14 v2_15 v2_16) fun r3 => (some (.agg [(.int .i64 (gI r3.cells 0)), (.int .i64 (gI r3.cells 1)), (.int .i64 (gI r3.cells 2)), (.bool (gB r3.cells 3)), (.bool (gB r3.cells 4)), (.bool (gB r3.cells 5)), (.bool (gB r3.cells 6)), (.bool (gB r3.cells 7)), (.bool (gB r3.cells 8)), (.bool (gB r3.cells 9)), (.bool (gB r3.cells 10)), (.int .i64 (gI r3.cells 11)), (.str (gS r3.cells 12)), (.int .i64 (gI r3.cells 13)), (.sl 16 (gL r3.cells 14)), (.sl 16 (gL r3.cells 15)), (.sl 16 (gL r3.cells 16))]))) else none) else none)) else (oB (policy_Response v0 v2_0 v2_1 v2_2 v2_3 v2_4 v2_5 v2_6 v2_7 v2_8 v2_9 v2_10 v2_11 v2_12 v2_13 v2_14 v2_15 v2_16) fun r4 => (bif r4.2 then (oB (ixB v0 r4.1) fun y5 => (bif fitC X_api_Rule y5.cells then (bif fitV (.st T_api_Rule) (.agg [(.int .i64 (gI y5.cells 0)), (.str (gS y5.cells 1)), (.bool (gB y5.cells 2)), (.int .u64 (gI y5.cells 3)), (.int .u64 (gI y5.cells 4)), (.int .i64 (gI y5.cells 5)), (.int .i64 (gI y5.cells 6)), (gC y5.cells 7)]) then (oB (policy_Act (gI y5.cells 0) (gS y5.cells 1) (gB y5.cells 2) (gI y5.cells 3) (gI y5.cells 4) (gI y5.cells 5) (gI y5.cells 6) (aL (gC y5.cells 7)) v1_0 v1_1 v1_2 v1_3 v1_4 v1_5 v1_6 v1_7 v1_8 v1_9 v1_10 v1_11 v1_12 v1_13 v1_14 v1_15 v1_16 v2_0 v2_1 v2_2 v2_3 v2_4 v2_5 v2_6 v2_7 v2_8 v2_9 v2_10 v2_11 v2_12 v2_13 v2_14 v2_15 v2_16) fun r6 => (some (.agg [(.int .i64 (gI r6.cells 0)), (.int .i64 (gI r6.cells 1)), (.int .i64 (gI r6.cells 2)), (.bool (gB r6.cells 3)), (.bool (gB r6.cells 4)), (.bool (gB r6.cells 5)), (.bool (gB r6.cells 6)), (.bool (gB r6.cells 7)), (.bool (gB r6.cells 8)), (.bool (gB r6.cells 9)), (.bool (gB r6.cells 10)), (.int .i64 (gI r6.cells 11)), (.str (gS r6.cells 12)), (.int .i64 (gI r6.cells 13)), (.sl 16 (gL r6.cells 14)), (.sl 16 (gL r6.cells 15)), (.sl 16 (gL r6.cells 16))]))) else none) else none)) else (some (.agg [(.int .i64 v2_0), (.int .i64 v2_1), (.int .i64 v2_2), (.bool v2_3), (.bool v2_4), (.bool v2_5), (.bool v2_6), (.bool v2_7), (.bool v2_8), (.bool v2_9), (.bool v2_10), (.int .i64 v2_11), (.str v2_12), (.int .i64 v2_13), (.sl 16 v2_14), (.sl 16 v2_15), (.sl 16 v2_16)]))))))
noncomputable def policy_Apply := hull policy_Apply_i
theorem policy_Apply_eq : policy_Apply = policy_Apply_i := hull_eq _
noncomputable def a_policy_Apply : AC AV :=
  .seq (.reg [.op ⟨some 4, (.box (.t 1)), none⟩,
 .op ⟨some 5, (.box (.t 2)), none⟩,
 .op ⟨some 6, (.alloc [(.int .i64 0), (.int .i64 0), (.int .i64 0), (.bool false), (.bool false), (.bool false), (.bool false), (.bool false), (.bool false), (.bool false), (.bool false), (.int .i64 0), (.str []), (.int .i64 0), .nils, .nils, .nils]), none⟩]) (.seq (.seq (.reg [.op ⟨some 12, (.mv (.t 0)), none⟩,
 .op ⟨some 13, (.fa 12 (.t 4)), none⟩,
 .op ⟨some 14, (.load true 2 (.t 13)), none⟩,
 .call ⟨some 15, (.call 8 [.t 12, .t 14]), none⟩ 8 ent_policy_Query,
 .op ⟨some 11, (.mv (.t 15)), none⟩,
 .op ⟨some 16, (.ext (.t 11) 0), none⟩,
 .op ⟨some 17, (.ext (.t 11) 1), none⟩,
 .op ⟨some 7, (.mv (.t 16)), none⟩,
 .op ⟨some 8, (.mv (.t 17)), none⟩]) (.seq (.reg [.op ⟨some 18, (.mv (.t 8)), none⟩]) (.cond (.t 18) (.seq (.draw [] [.op ⟨some 19, (.mv (.t 0)), none⟩,
 .op ⟨some 20, (.mv (.t 7)), none⟩,
 .op ⟨some 21, (.ia 8 (.t 19) (.t 20)), none⟩,
 .et 21 X_api_Rule,
 .op ⟨some 22, (.load true 8 (.t 21)), none⟩,
 .op ⟨some 23, (.load true 17 (.t 4)), none⟩,
 .op ⟨some 24, (.load true 17 (.t 5)), none⟩] [.st (.eta 22 (.st T_api_Rule)),
 .callc ⟨some 25, (.call 29 [.t 22, .t 23, .t 24]), none⟩ 29 ent_policy_Act,
 .op ⟨none, (.store 17 (.t 6) (.t 25)), none⟩]) (.ret)) (.skip)))) (.seq (.seq (.reg [.op ⟨some 27, (.mv (.t 0)), none⟩,
 .op ⟨some 28, (.load true 17 (.t 5)), none⟩,
 .call ⟨some 29, (.call 11 [.t 27, .t 28]), none⟩ 11 ent_policy_Response,
 .op ⟨some 26, (.mv (.t 29)), none⟩,
 .op ⟨some 30, (.ext (.t 26) 0), none⟩,
 .op ⟨some 31, (.ext (.t 26) 1), none⟩,
 .op ⟨some 9, (.mv (.t 30)), none⟩,
 .op ⟨some 10, (.mv (.t 31)), none⟩]) (.seq (.reg [.op ⟨some 32, (.mv (.t 10)), none⟩]) (.cond (.t 32) (.seq (.draw [] [.op ⟨some 33, (.mv (.t 0)), none⟩,
 .op ⟨some 34, (.mv (.t 9)), none⟩,
 .op ⟨some 35, (.ia 8 (.t 33) (.t 34)), none⟩,
 .et 35 X_api_Rule,
 .op ⟨some 36, (.load true 8 (.t 35)), none⟩,
 .op ⟨some 37, (.load true 17 (.t 4)), none⟩,
 .op ⟨some 38, (.load true 17 (.t 5)), none⟩] [.st (.eta 36 (.st T_api_Rule)),
 .callc ⟨some 39, (.call 29 [.t 36, .t 37, .t 38]), none⟩ 29 ent_policy_Act,
 .op ⟨none, (.store 17 (.t 6) (.t 39)), none⟩]) (.ret)) (.skip)))) (.seq (.reg [.op ⟨some 40, (.load true 17 (.t 5)), none⟩,
 .op ⟨none, (.store 17 (.t 6) (.t 40)), none⟩]) (.ret))))
theorem ok_policy_Apply : AC.ok Tryd.prog (TIof Tryd.prog) 41 0 (kret [(.cell 6 true 17)] dec_policy_Apply) a_policy_Apply := (zA zT (zA (zA (zA (EntOkB.ok k_policy_Query) zT) (zA zT (zA (zA (zA zT (zA (zA (EntOkB.ok k_policy_Act) zT) rfl)) zT) zT))) (zA (zA (zA (EntOkB.ok k_policy_Response) zT) (zA zT (zA (zA (zA zT (zA (zA (EntOkB.ok k_policy_Act) zT) rfl)) zT) zT))) (zA zT zT))))
theorem t_policy_Apply (v0 : List AV) (v1_0 : Int) (v1_1 : Int) (v1_2 : Int) (v1_3 : Bool) (v1_4 : Bool) (v1_5 : Bool) (v1_6 : Bool) (v1_7 : Bool) (v1_8 : Bool) (v1_9 : Bool) (v1_10 : Bool) (v1_11 : Int) (v1_12 : List UInt8) (v1_13 : Int) (v1_14 : List AV) (v1_15 : List AV) (v1_16 : List AV) (v2_0 : Int) (v2_1 : Int) (v2_2 : Int) (v2_3 : Bool) (v2_4 : Bool) (v2_5 : Bool) (v2_6 : Bool) (v2_7 : Bool) (v2_8 : Bool) (v2_9 : Bool) (v2_10 : Bool) (v2_11 : Int) (v2_12 : List UInt8) (v2_13 : Int) (v2_14 : List AV) (v2_15 : List AV) (v2_16 : List AV) : den 0 (kret [(.cell 6 true 17)] dec_policy_Apply) a_policy_Apply (envOf [(0, (.sl 8 v0)), (1, (.agg [(.int .i64 v1_0), (.int .i64 v1_1), (.int .i64 v1_2), (.bool v1_3), (.bool v1_4), (.bool v1_5), (.bool v1_6), (.bool v1_7), (.bool v1_8), (.bool v1_9), (.bool v1_10), (.int .i64 v1_11), (.str v1_12), (.int .i64 v1_13), (.sl 16 v1_14), (.sl 16 v1_15), (.sl 16 v1_16)])), (2, (.agg [(.int .i64 v2_0), (.int .i64 v2_1), (.int .i64 v2_2), (.bool v2_3), (.bool v2_4), (.bool v2_5), (.bool v2_6), (.bool v2_7), (.bool v2_8), (.bool v2_9), (.bool v2_10), (.int .i64 v2_11), (.str v2_12), (.int .i64 v2_13), (.sl 16 v2_14), (.sl 16 v2_15), (.sl 16 v2_16)]))]) (memOf []) (kend (kret [(.cell 6 true 17)] dec_policy_Apply)) = policy_Apply v0 v1_0 v1_1 v1_2 v1_3 v1_4 v1_5 v1_6 v1_7 v1_8 v1_9 v1_10 v1_11 v1_12 v1_13 v1_14 v1_15 v1_16 v2_0 v2_1 v2_2 v2_3 v2_4 v2_5 v2_6 v2_7 v2_8 v2_9 v2_10 v2_11 v2_12 v2_13 v2_14 v2_15 v2_16 := by
  rw [policy_Apply_eq]; kernel_rfl
theorem c_policy_Apply : cFn (TIof Tryd.prog) Tryd.f18 = some ⟨41, [(.cell 6 true 17)], scOf a_policy_Apply⟩ := by kernel_rfl
noncomputable def ent_policy_Apply {R : Type} (xs : List AV) (K : AV → Option R) : Option R := chk (fitS shp_policy_Apply (entry xs) Mem.none) (oB (policy_Apply (gL [(entry xs) 0] 0) (gI ((entry xs) 1).cells 0) (gI ((entry xs) 1).cells 1) (gI ((entry xs) 1).cells 2) (gB ((entry xs) 1).cells 3) (gB ((entry xs) 1).cells 4) (gB ((entry xs) 1).cells 5) (gB ((entry xs) 1).cells 6) (gB ((entry xs) 1).cells 7) (gB ((entry xs) 1).cells 8) (gB ((entry xs) 1).cells 9) (gB ((entry xs) 1).cells 10) (gI ((entry xs) 1).cells 11) (gS ((entry xs) 1).cells 12) (gI ((entry xs) 1).cells 13) (gL ((entry xs) 1).cells 14) (gL ((entry xs) 1).cells 15) (gL ((entry xs) 1).cells 16) (gI ((entry xs) 2).cells 0) (gI ((entry xs) 2).cells 1) (gI ((entry xs) 2).cells 2) (gB ((entry xs) 2).cells 3) (gB ((entry xs) 2).cells 4) (gB ((entry xs) 2).cells 5) (gB ((entry xs) 2).cells 6) (gB ((entry xs) 2).cells 7) (gB ((entry xs) 2).cells 8) (gB ((entry xs) 2).cells 9) (gB ((entry xs) 2).cells 10) (gI ((entry xs) 2).cells 11) (gS ((entry xs) 2).cells 12) (gI ((entry xs) 2).cells 13) (gL ((entry xs) 2).cells 14) (gL ((entry xs) 2).cells 15) (gL ((entry xs) 2).cells 16)) fun r => K (enc_policy_Apply r))
theorem k_policy_Apply {R : Type} : EntOkB Tryd.prog 18 (ent_policy_Apply (R := R)) :=
  ent_of (F := fun xs => policy_Apply (gL [(entry xs) 0] 0) (gI ((entry xs) 1).cells 0) (gI ((entry xs) 1).cells 1) (gI ((entry xs) 1).cells 2) (gB ((entry xs) 1).cells 3) (gB ((entry xs) 1).cells 4) (gB ((entry xs) 1).cells 5) (gB ((entry xs) 1).cells 6) (gB ((entry xs) 1).cells 7) (gB ((entry xs) 1).cells 8) (gB ((entry xs) 1).cells 9) (gB ((entry xs) 1).cells 10) (gI ((entry xs) 1).cells 11) (gS ((entry xs) 1).cells 12) (gI ((entry xs) 1).cells 13) (gL ((entry xs) 1).cells 14) (gL ((entry xs) 1).cells 15) (gL ((entry xs) 1).cells 16) (gI ((entry xs) 2).cells 0) (gI ((entry xs) 2).cells 1) (gI ((entry xs) 2).cells 2) (gB ((entry xs) 2).cells 3) (gB ((entry xs) 2).cells 4) (gB ((entry xs) 2).cells 5) (gB ((entry xs) 2).cells 6) (gB ((entry xs) 2).cells 7) (gB ((entry xs) 2).cells 8) (gB ((entry xs) 2).cells 9) (gB ((entry xs) 2).cells 10) (gI ((entry xs) 2).cells 11) (gS ((entry xs) 2).cells 12) (gI ((entry xs) 2).cells 13) (gL ((entry xs) 2).cells 14) (gL ((entry xs) 2).cells 15) (gL ((entry xs) 2).cells 16)) (enc := enc_policy_Apply) tabOk follows Tryd.func18 (by kernel_rfl) c_policy_Apply (fun z r h => by
 obtain ⟨h1, h2⟩ := cond_some h
 cases h2
 exact (etaRV_eq h1).symm) ok_policy_Apply (er_of (by kernel_rfl)) shp_policy_Apply (fun xs => t_policy_Apply (gL [(entry xs) 0] 0) (gI ((entry xs) 1).cells 0) (gI ((entry xs) 1).cells 1) (gI ((entry xs) 1).cells 2) (gB ((entry xs) 1).cells 3) (gB ((entry xs) 1).cells 4) (gB ((entry xs) 1).cells 5) (gB ((entry xs) 1).cells 6) (gB ((entry xs) 1).cells 7) (gB ((entry xs) 1).cells 8) (gB ((entry xs) 1).cells 9) (gB ((entry xs) 1).cells 10) (gI ((entry xs) 1).cells 11) (gS ((entry xs) 1).cells 12) (gI ((entry xs) 1).cells 13) (gL ((entry xs) 1).cells 14) (gL ((entry xs) 1).cells 15) (gL ((entry xs) 1).cells 16) (gI ((entry xs) 2).cells 0) (gI ((entry xs) 2).cells 1) (gI ((entry xs) 2).cells 2) (gB ((entry xs) 2).cells 3) (gB ((entry xs) 2).cells 4) (gB ((entry xs) 2).cells 5) (gB ((entry xs) 2).cells 6) (gB ((entry xs) 2).cells 7) (gB ((entry xs) 2).cells 8) (gB ((entry xs) 2).cells 9) (gB ((entry xs) 2).cells 10) (gI ((entry xs) 2).cells 11) (gS ((entry xs) 2).cells 12) (gI ((entry xs) 2).cells 13) (gL ((entry xs) 2).cells 14) (gL ((entry xs) 2).cells 15) (gL ((entry xs) 2).cells 16)) (fun xs K r h => by
 unfold ent_policy_Apply at h
 exact ⟨(chk_some h).1, oB_some (chk_some h).2⟩)
def dec_policy_right_1 (z : AV) : Option Bool := cond (fitRV (.one .b) z) (some (aB z)) none
def enc_policy_right_1 (r : Bool) : AV := .bool r
def shp_policy_right_1 : Shp := ⟨[(0, .st [(.l .s), (.l (.i .i64)), (.l (.i .i64)), (.l .b), (.l (.i .u64)), (.l (.i .u64)), (.l .s), (.l .s), (.l .s), (.l (.i .i64)), (.l (.i .i64)), (.l (.i .i64)), (.l (.i .i64)), (.l (.i .i64)), (.l (.i .i64)), (.l (.i .u64))])], []⟩
noncomputable def policy_right_1_i (v0_0 : List UInt8) (v0_1 : Int) (v0_2 : Int) (v0_3 : Bool) (v0_4 : Int) (v0_5 : Int) (v0_6 : List UInt8) (v0_7 : List UInt8) (v0_8 : List UInt8) (v0_9 : Int) (v0_10 : Int) (v0_11 : Int) (v0_12 : Int) (v0_13 : Int) (v0_14 : Int) (v0_15 : Int) : Option Bool :=
  (bif (!(v0_0 == ([46] : List UInt8))) then (some true) else none)
noncomputable def policy_right_1 := hull policy_right_1_i
theorem policy_right_1_eq : policy_right_1 = policy_right_1_i := hull_eq _
noncomputable def a_policy_right_1 : AC Bool :=
  .seq (.reg [.op ⟨some 1, (.box (.t 0)), none⟩,
 .op ⟨some 2, (.mv (.c (.bool false))), none⟩]) (.seq (.reg [.op ⟨some 3, (.fa 0 (.t 1)), none⟩,
 .op ⟨some 4, (.load false 1 (.t 3)), none⟩,
 .op ⟨some 5, (.bin .neq (.t 4) (.c (.str [46]))), none⟩,
 .op ⟨some 6, (.mv (.t 5)), none⟩,
 .op ⟨some 7, (.load true 16 (.t 1)), (some (6, false))⟩,
 .call ⟨some 8, (.call 44 [.t 7]), (some (6, false))⟩ 44 ent_hVoid,
 .op ⟨some 9, (.un .not (.t 8)), (some (6, false))⟩,
 .op ⟨some 10, (.pick (.t 6) (.c (.bool true)) (.t 9)), none⟩,
 .op ⟨some 2, (.mv (.t 10)), none⟩]) (.ret))
theorem ok_policy_right_1 : AC.ok Tryd.prog (TIof Tryd.prog) 11 0 (kret [.t 2] dec_policy_right_1) a_policy_right_1 := (zA zT (zA (zA k_void zT) zT))
theorem t_policy_right_1 (v0_0 : List UInt8) (v0_1 : Int) (v0_2 : Int) (v0_3 : Bool) (v0_4 : Int) (v0_5 : Int) (v0_6 : List UInt8) (v0_7 : List UInt8) (v0_8 : List UInt8) (v0_9 : Int) (v0_10 : Int) (v0_11 : Int) (v0_12 : Int) (v0_13 : Int) (v0_14 : Int) (v0_15 : Int) : den 0 (kret [.t 2] dec_policy_right_1) a_policy_right_1 (envOf [(0, (.agg [(.str v0_0), (.int .i64 v0_1), (.int .i64 v0_2), (.bool v0_3), (.int .u64 v0_4), (.int .u64 v0_5), (.str v0_6), (.str v0_7), (.str v0_8), (.int .i64 v0_9), (.int .i64 v0_10), (.int .i64 v0_11), (.int .i64 v0_12), (.int .i64 v0_13), (.int .i64 v0_14), (.int .u64 v0_15)]))]) (memOf []) (kend (kret [.t 2] dec_policy_right_1)) = policy_right_1 v0_0 v0_1 v0_2 v0_3 v0_4 v0_5 v0_6 v0_7 v0_8 v0_9 v0_10 v0_11 v0_12 v0_13 v0_14 v0_15 := by
  rw [policy_right_1_eq]; kernel_rfl
theorem c_policy_right_1 : cFn (TIof Tryd.prog) Tryd.f43 = some ⟨11, [.t 2], scOf a_policy_right_1⟩ := by kernel_rfl
noncomputable def ent_policy_right_1 {R : Type} (xs : List AV) (K : AV → Option R) : Option R := chk (fitS shp_policy_right_1 (entry xs) Mem.none) (oB (policy_right_1 (gS ((entry xs) 0).cells 0) (gI ((entry xs) 0).cells 1) (gI ((entry xs) 0).cells 2) (gB ((entry xs) 0).cells 3) (gI ((entry xs) 0).cells 4) (gI ((entry xs) 0).cells 5) (gS ((entry xs) 0).cells 6) (gS ((entry xs) 0).cells 7) (gS ((entry xs) 0).cells 8) (gI ((entry xs) 0).cells 9) (gI ((entry xs) 0).cells 10) (gI ((entry xs) 0).cells 11) (gI ((entry xs) 0).cells 12) (gI ((entry xs) 0).cells 13) (gI ((entry xs) 0).cells 14) (gI ((entry xs) 0).cells 15)) fun r => K (enc_policy_right_1 r))
theorem k_policy_right_1 {R : Type} : EntOkB Tryd.prog 43 (ent_policy_right_1 (R := R)) :=
  ent_of (F := fun xs => policy_right_1 (gS ((entry xs) 0).cells 0) (gI ((entry xs) 0).cells 1) (gI ((entry xs) 0).cells 2) (gB ((entry xs) 0).cells 3) (gI ((entry xs) 0).cells 4) (gI ((entry xs) 0).cells 5) (gS ((entry xs) 0).cells 6) (gS ((entry xs) 0).cells 7) (gS ((entry xs) 0).cells 8) (gI ((entry xs) 0).cells 9) (gI ((entry xs) 0).cells 10) (gI ((entry xs) 0).cells 11) (gI ((entry xs) 0).cells 12) (gI ((entry xs) 0).cells 13) (gI ((entry xs) 0).cells 14) (gI ((entry xs) 0).cells 15)) (enc := enc_policy_right_1) tabOk follows Tryd.func43 (by kernel_rfl) c_policy_right_1 (fun z r h => by
 obtain ⟨h1, h2⟩ := cond_some h
 cases h2
 exact (etaRV_eq h1).symm) ok_policy_right_1 (er_of (by kernel_rfl)) shp_policy_right_1 (fun xs => t_policy_right_1 (gS ((entry xs) 0).cells 0) (gI ((entry xs) 0).cells 1) (gI ((entry xs) 0).cells 2) (gB ((entry xs) 0).cells 3) (gI ((entry xs) 0).cells 4) (gI ((entry xs) 0).cells 5) (gS ((entry xs) 0).cells 6) (gS ((entry xs) 0).cells 7) (gS ((entry xs) 0).cells 8) (gI ((entry xs) 0).cells 9) (gI ((entry xs) 0).cells 10) (gI ((entry xs) 0).cells 11) (gI ((entry xs) 0).cells 12) (gI ((entry xs) 0).cells 13) (gI ((entry xs) 0).cells 14) (gI ((entry xs) 0).cells 15)) (fun xs K r h => by
 unfold ent_policy_right_1 at h
 exact ⟨(chk_some h).1, oB_some (chk_some h).2⟩)
def dec_slices_IndexFunc_api_Record_api_Record__policy_right_1 (z : AV) : Option Int := cond (fitRV (.one (.i .i64)) z) (some (aI z)) none
def enc_slices_IndexFunc_api_Record_api_Record__policy_right_1 (r : Int) : AV := .int .i64 r
def shp_slices_IndexFunc_api_Record_api_Record__policy_right_1_L6 : Shp := ⟨[(0, .one (.l (.sl 16))), (1, .one (.fn 43 [])), (7, .one (.l (.i .i64))), (8, .one (.l (.i .i64)))], []⟩
noncomputable def slices_IndexFunc_api_Record_api_Record__policy_right_1_L6_b  (v0 : List AV) (v7 : Int) (v8 : Int) (next : Int → Option Int) (kx0 : Unit → Option Int) : Option Int :=
  (bif (decide (v8 < v7)) then (oB (ixB v0 v8) fun y1 => (bif fitC T_api_Record y1.cells then (oB (policy_right_1 (gS y1.cells 0) (gI y1.cells 1) (gI y1.cells 2) (gB y1.cells 3) (gI y1.cells 4) (gI y1.cells 5) (gS y1.cells 6) (gS y1.cells 7) (gS y1.cells 8) (gI y1.cells 9) (gI y1.cells 10) (gI y1.cells 11) (gI y1.cells 12) (gI y1.cells 13) (gI y1.cells 14) (gI y1.cells 15)) fun r2 => (bif r2 then (some v8) else (next (IntKind.i64.wrap (v8 + (1 : Int)))))) else none)) else (kx0 ()))
noncomputable def slices_IndexFunc_api_Record_api_Record__policy_right_1_L6_i  (v0 : List AV) (v7 : Int) (kx0 : Unit → Option Int) : Nat → Int → Option Int
  | 0 => (fun _ => none)
  | n + 1 => (fun v8 => slices_IndexFunc_api_Record_api_Record__policy_right_1_L6_b v0 v7 v8 (slices_IndexFunc_api_Record_api_Record__policy_right_1_L6_i v0 v7 kx0 n) kx0)
noncomputable def slices_IndexFunc_api_Record_api_Record__policy_right_1_L6 := hull (slices_IndexFunc_api_Record_api_Record__policy_right_1_L6_i)
theorem slices_IndexFunc_api_Record_api_Record__policy_right_1_L6_eq : slices_IndexFunc_api_Record_api_Record__policy_right_1_L6 = slices_IndexFunc_api_Record_api_Record__policy_right_1_L6_i := hull_eq _
noncomputable def a_slices_IndexFunc_api_Record_api_Record__policy_right_1_L6 : AC Int :=
  .seq (.reg [.op ⟨some 9, (.bin .lss (.t 8) (.t 7)), none⟩]) (.seq (.cond (.t 9) (.skip) (.seq (.view [.sel [] []]) (.exit 0))) (.seq (.block 1 (.seq (.reg [.op ⟨some 10, (.mv (.t 8)), none⟩,
 .op ⟨some 5, (.mv (.t 10)), none⟩]) (.seq (.reg [.op ⟨some 11, (.mv (.t 1)), none⟩,
 .op ⟨some 12, (.mv (.t 0)), none⟩,
 .op ⟨some 13, (.mv (.t 5)), none⟩,
 .op ⟨some 14, (.ia 16 (.t 12) (.t 13)), none⟩,
 .st (.etac 14 T_api_Record),
 .op ⟨some 15, (.load true 16 (.t 14)), none⟩,
 .call ⟨some 16, (.callv (.t 11) [.t 15]), none⟩ 43 ent_policy_right_1]) (.cond (.t 16) (.seq (.reg [.op ⟨some 17, (.mv (.t 5)), none⟩,
 .op ⟨some 4, (.mv (.t 17)), none⟩]) (.ret)) (.skip))))) (.seq (.reg [.op ⟨some 18, (.bin .add (.t 8) (.c (.int .i64 1))), none⟩,
 .op ⟨some 8, (.mv (.t 18)), none⟩]) (.view [.sel [0, 1, 7, 8] []]))))
theorem ok_slices_IndexFunc_api_Record_api_Record__policy_right_1_L6 : AC.ok Tryd.prog (TIof Tryd.prog) 19 0 (kret [.t 4] dec_slices_IndexFunc_api_Record_api_Record__policy_right_1) a_slices_IndexFunc_api_Record_api_Record__policy_right_1_L6 := (zA zT (zA (zA zT (zA zT zT)) (zA (zA zT (zA (zA (EntOkB.ok k_policy_right_1) zT) (zA (zA zT zT) zT))) (zA zT zT))))
theorem t_slices_IndexFunc_api_Record_api_Record__policy_right_1_L6_b (v0 : List AV) (v7 : Int) (v8 : Int) (K : Ex → Env → Mem → Option Int) : den 0 (kret [.t 4] dec_slices_IndexFunc_api_Record_api_Record__policy_right_1) a_slices_IndexFunc_api_Record_api_Record__policy_right_1_L6 (envOf [(0, (.sl 16 v0)), (1, (.func 43 [])), (7, (.int .i64 v7)), (8, (.int .i64 v8))]) (memOf []) K = slices_IndexFunc_api_Record_api_Record__policy_right_1_L6_b v0 v7 v8 (fun z_v8 => K .norm (envOf [(0, (.sl 16 v0)), (1, (.func 43 [])), (7, (.int .i64 v7)), (8, (.int .i64 z_v8))]) (memOf [])) (fun _ => K (.exit 0) (envOf []) (memOf [])) := by kernel_rfl
theorem t_slices_IndexFunc_api_Record_api_Record__policy_right_1_L6 (v0 : List AV) (v7 : Int) (K : Ex → Env → Mem → Option Int) : ∀ (n : Nat) (v8 : Int), iterD (den 0 (kret [.t 4] dec_slices_IndexFunc_api_Record_api_Record__policy_right_1) a_slices_IndexFunc_api_Record_api_Record__policy_right_1_L6) n (envOf [(0, (.sl 16 v0)), (1, (.func 43 [])), (7, (.int .i64 v7)), (8, (.int .i64 v8))]) (memOf []) K = slices_IndexFunc_api_Record_api_Record__policy_right_1_L6 v0 v7 (fun _ => K (.exit 0) (envOf []) (memOf [])) n v8 := by
  rw [slices_IndexFunc_api_Record_api_Record__policy_right_1_L6_eq]
  intro n
  induction n with
  | zero => intros; rfl
  | succ n ih =>
 intro v8
 exact (t_slices_IndexFunc_api_Record_api_Record__policy_right_1_L6_b v0 v7 v8 (itK (den 0 (kret [.t 4] dec_slices_IndexFunc_api_Record_api_Record__policy_right_1) a_slices_IndexFunc_api_Record_api_Record__policy_right_1_L6) n K)).trans (congrArg (fun q => slices_IndexFunc_api_Record_api_Record__policy_right_1_L6_b v0 v7 v8 q (fun _ => K (.exit 0) (envOf []) (memOf []))) (funext fun v8 => ih v8))
noncomputable def s_slices_IndexFunc_api_Record_api_Record__policy_right_1_L6 : Env → Mem → (Ex → Env → Mem → Option Int) → Option Int := fun t m K => chk (fitS0 shp_slices_IndexFunc_api_Record_api_Record__policy_right_1_L6 t m) (cond (hdS shp_slices_IndexFunc_api_Record_api_Record__policy_right_1_L6 t m) (slices_IndexFunc_api_Record_api_Record__policy_right_1_L6 (gL [t 0] 0) (gI [t 7] 0) (fun _ => K (.exit 0) (envOf []) (memOf [])) FU (gI [t 8] 0)) none)
theorem o_slices_IndexFunc_api_Record_api_Record__policy_right_1_L6 : SubOk Tryd.prog (TIof Tryd.prog) 19 0 (kret [.t 4] dec_slices_IndexFunc_api_Record_api_Record__policy_right_1) (.loop (scOf a_slices_IndexFunc_api_Record_api_Record__policy_right_1_L6)) s_slices_IndexFunc_api_Record_api_Record__policy_right_1_L6 :=
  loop_of tabOk follows ok_slices_IndexFunc_api_Record_api_Record__policy_right_1_L6 (er_of (by kernel_rfl)) shp_slices_IndexFunc_api_Record_api_Record__policy_right_1_L6 (fun t m K => congrArg (fun z => chk (fitS0 shp_slices_IndexFunc_api_Record_api_Record__policy_right_1_L6 t m) (cond (hdS shp_slices_IndexFunc_api_Record_api_Record__policy_right_1_L6 t m) z none)) (t_slices_IndexFunc_api_Record_api_Record__policy_right_1_L6 (gL [t 0] 0) (gI [t 7] 0) K FU (gI [t 8] 0)).symm)
def shp_slices_IndexFunc_api_Record_api_Record__policy_right_1 : Shp := ⟨[(0, .one (.l (.sl 16))), (1, .one (.fn 43 []))], []⟩
noncomputable def slices_IndexFunc_api_Record_api_Record__policy_right_1_i (v0 : List AV) : Option Int :=
  (slices_IndexFunc_api_Record_api_Record__policy_right_1_L6 v0 (v0.length : Int) (fun (_ : Unit) => (some (-1 : Int))) FU (0 : Int))
noncomputable def slices_IndexFunc_api_Record_api_Record__policy_right_1 := hull slices_IndexFunc_api_Record_api_Record__policy_right_1_i
theorem slices_IndexFunc_api_Record_api_Record__policy_right_1_eq : slices_IndexFunc_api_Record_api_Record__policy_right_1 = slices_IndexFunc_api_Record_api_Record__policy_right_1_i := hull_eq _
noncomputable def a_slices_IndexFunc_api_Record_api_Record__policy_right_1 : AC Int :=
  .seq (.reg [.op ⟨some 4, (.mv (.c (.int .i64 0))), none⟩]) (.seq (.seq (.reg [.op ⟨some 6, (.mv (.t 0)), none⟩,
 .op ⟨some 7, (.len false (.t 6)), none⟩,
 .op ⟨some 8, (.mv (.c (.int .i64 0))), none⟩]) (.block 0 (.seq (.view [.sel [0, 1, 7, 8] []]) (.sub (.loop (scOf a_slices_IndexFunc_api_Record_api_Record__policy_right_1_L6)) s_slices_IndexFunc_api_Record_api_Record__policy_right_1_L6)))) (.seq (.reg [.op ⟨some 4, (.mv (.c (.int .i64 (-1)))), none⟩]) (.ret)))
theorem ok_slices_IndexFunc_api_Record_api_Record__policy_right_1 : AC.ok Tryd.prog (TIof Tryd.prog) 19 0 (kret [.t 4] dec_slices_IndexFunc_api_Record_api_Record__policy_right_1) a_slices_IndexFunc_api_Record_api_Record__policy_right_1 := (zA zT (zA (zA zT (zA zT o_slices_IndexFunc_api_Record_api_Record__policy_right_1_L6)) (zA zT zT)))
theorem t_slices_IndexFunc_api_Record_api_Record__policy_right_1 (v0 : List AV) : den 0 (kret [.t 4] dec_slices_IndexFunc_api_Record_api_Record__policy_right_1) a_slices_IndexFunc_api_Record_api_Record__policy_right_1 (envOf [(0, (.sl 16 v0)), (1, (.func 43 []))]) (memOf []) (kend (kret [.t 4] dec_slices_IndexFunc_api_Record_api_Record__policy_right_1)) = slices_IndexFunc_api_Record_api_Record__policy_right_1 v0 := by
  rw [slices_IndexFunc_api_Record_api_Record__policy_right_1_eq]; kernel_rfl
theorem c_slices_IndexFunc_api_Record_api_Record__policy_right_1 : cFn (TIof Tryd.prog) Tryd.f55 = some ⟨19, [.t 4], scOf a_slices_IndexFunc_api_Record_api_Record__policy_right_1⟩ := by kernel_rfl
noncomputable def ent_slices_IndexFunc_api_Record_api_Record__policy_right_1 {R : Type} (xs : List AV) (K : AV → Option R) : Option R := chk (fitS shp_slices_IndexFunc_api_Record_api_Record__policy_right_1 (entry xs) Mem.none) (oB (slices_IndexFunc_api_Record_api_Record__policy_right_1 (gL [(entry xs) 0] 0)) fun r => K (enc_slices_IndexFunc_api_Record_api_Record__policy_right_1 r))
theorem k_slices_IndexFunc_api_Record_api_Record__policy_right_1 {R : Type} : EntOkB Tryd.prog 55 (ent_slices_IndexFunc_api_Record_api_Record__policy_right_1 (R := R)) :=
  ent_of (F := fun xs => slices_IndexFunc_api_Record_api_Record__policy_right_1 (gL [(entry xs) 0] 0)) (enc := enc_slices_IndexFunc_api_Record_api_Record__policy_right_1) tabOk follows Tryd.func55 (by kernel_rfl) c_slices_IndexFunc_api_Record_api_Record__policy_right_1 (fun z r h => by
 obtain ⟨h1, h2⟩ := cond_some h
 cases h2
 exact (etaRV_eq h1).symm) ok_slices_IndexFunc_api_Record_api_Record__policy_right_1 (er_of (by kernel_rfl)) shp_slices_IndexFunc_api_Record_api_Record__policy_right_1 (fun xs => t_slices_IndexFunc_api_Record_api_Record__policy_right_1 (gL [(entry xs) 0] 0)) (fun xs K r h => by
 unfold ent_slices_IndexFunc_api_Record_api_Record__policy_right_1 at h
 exact ⟨(chk_some h).1, oB_some (chk_some h).2⟩)
def dec_slices_ContainsFunc_api_Record_api_Record__policy_right_1 (z : AV) : Option Bool := cond (fitRV (.one .b) z) (some (aB z)) none
def enc_slices_ContainsFunc_api_Record_api_Record__policy_right_1 (r : Bool) : AV := .bool r
def shp_slices_ContainsFunc_api_Record_api_Record__policy_right_1 : Shp := ⟨[(0, .one (.l (.sl 16))), (1, .one (.fn 43 []))], []⟩
noncomputable def slices_ContainsFunc_api_Record_api_Record__policy_right_1_i (v0 : List AV) : Option Bool :=
  (oB (slices_IndexFunc_api_Record_api_Record__policy_right_1 v0) fun r1 => (some (decide (r1 ≥ (0 : Int)))))
noncomputable def slices_ContainsFunc_api_Record_api_Record__policy_right_1 := hull slices_ContainsFunc_api_Record_api_Record__policy_right_1_i
theorem slices_ContainsFunc_api_Record_api_Record__policy_right_1_eq : slices_ContainsFunc_api_Record_api_Record__policy_right_1 = slices_ContainsFunc_api_Record_api_Record__policy_right_1_i := hull_eq _
noncomputable def a_slices_ContainsFunc_api_Record_api_Record__policy_right_1 : AC Bool :=
  .seq (.reg [.op ⟨some 4, (.mv (.c (.bool false))), none⟩]) (.seq (.reg [.op ⟨some 5, (.mv (.t 0)), none⟩,
 .op ⟨some 6, (.mv (.t 1)), none⟩,
 .call ⟨some 7, (.call 55 [.t 5, .t 6]), none⟩ 55 ent_slices_IndexFunc_api_Record_api_Record__policy_right_1,
 .op ⟨some 8, (.bin .geq (.t 7) (.c (.int .i64 0))), none⟩,
 .op ⟨some 4, (.mv (.t 8)), none⟩]) (.ret))
theorem ok_slices_ContainsFunc_api_Record_api_Record__policy_right_1 : AC.ok Tryd.prog (TIof Tryd.prog) 9 0 (kret [.t 4] dec_slices_ContainsFunc_api_Record_api_Record__policy_right_1) a_slices_ContainsFunc_api_Record_api_Record__policy_right_1 := (zA zT (zA (zA (EntOkB.ok k_slices_IndexFunc_api_Record_api_Record__policy_right_1) zT) zT))
theorem t_slices_ContainsFunc_api_Record_api_Record__policy_right_1 (v0 : List AV) : den 0 (kret [.t 4] dec_slices_ContainsFunc_api_Record_api_Record__policy_right_1) a_slices_ContainsFunc_api_Record_api_Record__policy_right_1 (envOf [(0, (.sl 16 v0)), (1, (.func 43 []))]) (memOf []) (kend (kret [.t 4] dec_slices_ContainsFunc_api_Record_api_Record__policy_right_1)) = slices_ContainsFunc_api_Record_api_Record__policy_right_1 v0 := by
  rw [slices_ContainsFunc_api_Record_api_Record__policy_right_1_eq]; kernel_rfl
theorem c_slices_ContainsFunc_api_Record_api_Record__policy_right_1 : cFn (TIof Tryd.prog) Tryd.f36 = some ⟨9, [.t 4], scOf a_slices_ContainsFunc_api_Record_api_Record__policy_right_1⟩ := by kernel_rfl
noncomputable def ent_slices_ContainsFunc_api_Record_api_Record__policy_right_1 {R : Type} (xs : List AV) (K : AV → Option R) : Option R := chk (fitS shp_slices_ContainsFunc_api_Record_api_Record__policy_right_1 (entry xs) Mem.none) (oB (slices_ContainsFunc_api_Record_api_Record__policy_right_1 (gL [(entry xs) 0] 0)) fun r => K (enc_slices_ContainsFunc_api_Record_api_Record__policy_right_1 r))
theorem k_slices_ContainsFunc_api_Record_api_Record__policy_right_1 {R : Type} : EntOkB Tryd.prog 36 (ent_slices_ContainsFunc_api_Record_api_Record__policy_right_1 (R := R)) :=
  ent_of (F := fun xs => slices_ContainsFunc_api_Record_api_Record__policy_right_1 (gL [(entry xs) 0] 0)) (enc := enc_slices_ContainsFunc_api_Record_api_Record__policy_right_1) tabOk follows Tryd.func36 (by kernel_rfl) c_slices_ContainsFunc_api_Record_api_Record__policy_right_1 (fun z r h => by
 obtain ⟨h1, h2⟩ := cond_some h
 cases h2
 exact (etaRV_eq h1).symm) ok_slices_ContainsFunc_api_Record_api_Record__policy_right_1 (er_of (by kernel_rfl)) shp_slices_ContainsFunc_api_Record_api_Record__policy_right_1 (fun xs => t_slices_ContainsFunc_api_Record_api_Record__policy_right_1 (gL [(entry xs) 0] 0)) (fun xs K r h => by
 unfold ent_slices_ContainsFunc_api_Record_api_Record__policy_right_1 at h
 exact ⟨(chk_some h).1, oB_some (chk_some h).2⟩)
end Go.Proofs.YthhnnlipnpfkcaaDoor.Dn
