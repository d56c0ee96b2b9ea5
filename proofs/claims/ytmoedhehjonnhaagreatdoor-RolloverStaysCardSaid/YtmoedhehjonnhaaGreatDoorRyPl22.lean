import Derived.Test.YtmoedhehjonnhaaGreatDoorProg
import Derived.Test.YtmoedhehjonnhaaGreatDoorRyLibE
import Derived.WalkKit
import Derived.RegionTactic
import Derived.StillTailTactics
import Derived.Below
set_option linter.all false
namespace Go.Pev
open Go Go.RowKit Go.Proofs
set_option linter.unusedVariables false
set_option maxHeartbeats 4000000
set_option maxRecDepth 100000
theorem qbbr (b off : Nat) (w : World) :
    Calls Tryz.prog 78 #[.pointer (some ⟨b, off, none⟩), .int .u8 65] w fun e w' => e = .returned (.tuple #[.pointer (some ⟨b, off + 6, none⟩), .int .i64 2]) ∧ Below w.heap.size w w' := by
  go_enter Tryz.func78, Tryz.ntmps78
  go_wp2
  go_still_tail 18, (by kernel_rfl)
  change wpList _ _ _ _ _ w.drew
  have hd : Below w.heap.size w w.drew := (Below.refl _ _).drew
  generalize w.drew = w2 at hd ⊢
  go_wp2
  go_ret2
  exact ⟨rfl, hd.alloc hd.size _⟩
theorem qbbs (b off : Nat) (w : World) :
    Calls Tryz.prog 78 #[.pointer (some ⟨b, off, none⟩), .int .u8 66] w fun e w' => e = .returned (.tuple #[.pointer (some ⟨b, off + 7, none⟩), .int .i64 2]) ∧ Below w.heap.size w w' := by
  go_enter Tryz.func78, Tryz.ntmps78
  go_wp2
  go_still_tail 18, (by kernel_rfl)
  change wpList _ _ _ _ _ w.drew
  have hd : Below w.heap.size w w.drew := (Below.refl _ _).drew
  generalize w.drew = w2 at hd ⊢
  go_wp2
  go_ret2
  exact ⟨rfl, hd.alloc hd.size _⟩
theorem qbbt (b off : Nat) (w : World) :
    Calls Tryz.prog 78 #[.pointer (some ⟨b, off, none⟩), .int .u8 67] w fun e w' => e = .returned (.tuple #[.pointer (some ⟨b, off + 8, none⟩), .int .i64 2]) ∧ Below w.heap.size w w' := by
  go_enter Tryz.func78, Tryz.ntmps78
  go_wp2
  go_still_tail 18, (by kernel_rfl)
  change wpList _ _ _ _ _ w.drew
  have hd : Below w.heap.size w w.drew := (Below.refl _ _).drew
  generalize w.drew = w2 at hd ⊢
  go_wp2
  go_ret2
  exact ⟨rfl, hd.alloc hd.size _⟩
theorem qbbu (b off : Nat) (w : World) :
    Calls Tryz.prog 78 #[.pointer (some ⟨b, off, none⟩), .int .u8 68] w fun e w' => e = .returned (.tuple #[.pointer (some ⟨b, off + 9, none⟩), .int .i64 2]) ∧ Below w.heap.size w w' := by
  go_enter Tryz.func78, Tryz.ntmps78
  go_wp2
  go_still_tail 18, (by kernel_rfl)
  change wpList _ _ _ _ _ w.drew
  have hd : Below w.heap.size w w.drew := (Below.refl _ _).drew
  generalize w.drew = w2 at hd ⊢
  go_wp2
  go_ret2
  exact ⟨rfl, hd.alloc hd.size _⟩
theorem qbbv (b off : Nat) (w : World) :
    Calls Tryz.prog 78 #[.pointer (some ⟨b, off, none⟩), .int .u8 69] w fun e w' => e = .returned (.tuple #[.pointer (some ⟨b, off + 10, none⟩), .int .i64 2]) ∧ Below w.heap.size w w' := by
  go_enter Tryz.func78, Tryz.ntmps78
  go_wp2
  go_still_tail 18, (by kernel_rfl)
  change wpList _ _ _ _ _ w.drew
  have hd : Below w.heap.size w w.drew := (Below.refl _ _).drew
  generalize w.drew = w2 at hd ⊢
  go_wp2
  go_ret2
  exact ⟨rfl, hd.alloc hd.size _⟩
theorem qbbw (b off : Nat) (w : World) :
    Calls Tryz.prog 78 #[.pointer (some ⟨b, off, none⟩), .int .u8 70] w fun e w' => e = .returned (.tuple #[.pointer (some ⟨b, off + 11, none⟩), .int .i64 2]) ∧ Below w.heap.size w w' := by
  go_enter Tryz.func78, Tryz.ntmps78
  go_wp2
  go_still_tail 18, (by kernel_rfl)
  change wpList _ _ _ _ _ w.drew
  have hd : Below w.heap.size w w.drew := (Below.refl _ _).drew
  generalize w.drew = w2 at hd ⊢
  go_wp2
  go_ret2
  exact ⟨rfl, hd.alloc hd.size _⟩
theorem qbbx (b off : Nat) (w : World) :
    Calls Tryz.prog 78 #[.pointer (some ⟨b, off, none⟩), .int .u8 97] w fun e w' => e = .returned (.tuple #[.pointer (some ⟨b, off + 6, none⟩), .int .i64 1]) ∧ Below w.heap.size w w' := by
  go_enter Tryz.func78, Tryz.ntmps78
  go_wp2
  go_still_tail 18, (by kernel_rfl)
  change wpList _ _ _ _ _ w.drew
  have hd : Below w.heap.size w w.drew := (Below.refl _ _).drew
  generalize w.drew = w2 at hd ⊢
  go_wp2
  go_ret2
  exact ⟨rfl, hd.alloc hd.size _⟩
theorem qbby (b off : Nat) (w : World) :
    Calls Tryz.prog 78 #[.pointer (some ⟨b, off, none⟩), .int .u8 98] w fun e w' => e = .returned (.tuple #[.pointer (some ⟨b, off + 7, none⟩), .int .i64 1]) ∧ Below w.heap.size w w' := by
  go_enter Tryz.func78, Tryz.ntmps78
  go_wp2
  go_still_tail 18, (by kernel_rfl)
  change wpList _ _ _ _ _ w.drew
  have hd : Below w.heap.size w w.drew := (Below.refl _ _).drew
  generalize w.drew = w2 at hd ⊢
  go_wp2
  go_ret2
  exact ⟨rfl, hd.alloc hd.size _⟩
theorem qbbz (b off : Nat) (w : World) :
    Calls Tryz.prog 78 #[.pointer (some ⟨b, off, none⟩), .int .u8 99] w fun e w' => e = .returned (.tuple #[.pointer (some ⟨b, off + 8, none⟩), .int .i64 1]) ∧ Below w.heap.size w w' := by
  go_enter Tryz.func78, Tryz.ntmps78
  go_wp2
  go_still_tail 18, (by kernel_rfl)
  change wpList _ _ _ _ _ w.drew
  have hd : Below w.heap.size w w.drew := (Below.refl _ _).drew
  generalize w.drew = w2 at hd ⊢
  go_wp2
  go_ret2
  exact ⟨rfl, hd.alloc hd.size _⟩
theorem q99 (b off : Nat) (w : World) :
    Calls Tryz.prog 78 #[.pointer (some ⟨b, off, none⟩), .int .u8 100] w fun e w' => e = .returned (.tuple #[.pointer (some ⟨b, off + 9, none⟩), .int .i64 1]) ∧ Below w.heap.size w w' := by
  go_enter Tryz.func78, Tryz.ntmps78
  go_wp2
  go_still_tail 18, (by kernel_rfl)
  change wpList _ _ _ _ _ w.drew
  have hd : Below w.heap.size w w.drew := (Below.refl _ _).drew
  generalize w.drew = w2 at hd ⊢
  go_wp2
  go_ret2
  exact ⟨rfl, hd.alloc hd.size _⟩
theorem qbaa (b off : Nat) (w : World) :
    Calls Tryz.prog 78 #[.pointer (some ⟨b, off, none⟩), .int .u8 101] w fun e w' => e = .returned (.tuple #[.pointer (some ⟨b, off + 10, none⟩), .int .i64 1]) ∧ Below w.heap.size w w' := by
  go_enter Tryz.func78, Tryz.ntmps78
  go_wp2
  go_still_tail 18, (by kernel_rfl)
  change wpList _ _ _ _ _ w.drew
  have hd : Below w.heap.size w w.drew := (Below.refl _ _).drew
  generalize w.drew = w2 at hd ⊢
  go_wp2
  go_ret2
  exact ⟨rfl, hd.alloc hd.size _⟩
theorem qbab (b off : Nat) (w : World) :
    Calls Tryz.prog 78 #[.pointer (some ⟨b, off, none⟩), .int .u8 102] w fun e w' => e = .returned (.tuple #[.pointer (some ⟨b, off + 11, none⟩), .int .i64 1]) ∧ Below w.heap.size w w' := by
  go_enter Tryz.func78, Tryz.ntmps78
  go_wp2
  go_still_tail 18, (by kernel_rfl)
  change wpList _ _ _ _ _ w.drew
  have hd : Below w.heap.size w w.drew := (Below.refl _ _).drew
  generalize w.drew = w2 at hd ⊢
  go_wp2
  go_ret2
  exact ⟨rfl, hd.alloc hd.size _⟩
theorem qbac (b off : Nat) (w : World) :
    Calls Tryz.prog 78 #[.pointer (some ⟨b, off, none⟩), .int .u8 118] w fun e w' => e = .returned (.tuple #[.pointer (some ⟨b, off + 6, none⟩), .int .i64 4]) ∧ Below w.heap.size w w' := by
  go_enter Tryz.func78, Tryz.ntmps78
  go_wp2
  go_still_tail 18, (by kernel_rfl)
  change wpList _ _ _ _ _ w.drew
  have hd : Below w.heap.size w w.drew := (Below.refl _ _).drew
  generalize w.drew = w2 at hd ⊢
  go_wp2
  go_ret2
  exact ⟨rfl, hd.alloc hd.size _⟩
theorem qbad (b off : Nat) (w : World) :
    Calls Tryz.prog 78 #[.pointer (some ⟨b, off, none⟩), .int .u8 119] w fun e w' => e = .returned (.tuple #[.pointer (some ⟨b, off + 7, none⟩), .int .i64 4]) ∧ Below w.heap.size w w' := by
  go_enter Tryz.func78, Tryz.ntmps78
  go_wp2
  go_still_tail 18, (by kernel_rfl)
  change wpList _ _ _ _ _ w.drew
  have hd : Below w.heap.size w w.drew := (Below.refl _ _).drew
  generalize w.drew = w2 at hd ⊢
  go_wp2
  go_ret2
  exact ⟨rfl, hd.alloc hd.size _⟩
theorem qbae (b off : Nat) (w : World) :
    Calls Tryz.prog 78 #[.pointer (some ⟨b, off, none⟩), .int .u8 120] w fun e w' => e = .returned (.tuple #[.pointer (some ⟨b, off + 8, none⟩), .int .i64 4]) ∧ Below w.heap.size w w' := by
  go_enter Tryz.func78, Tryz.ntmps78
  go_wp2
  go_still_tail 18, (by kernel_rfl)
  change wpList _ _ _ _ _ w.drew
  have hd : Below w.heap.size w w.drew := (Below.refl _ _).drew
  generalize w.drew = w2 at hd ⊢
  go_wp2
  go_ret2
  exact ⟨rfl, hd.alloc hd.size _⟩
theorem qbaf (b off : Nat) (w : World) :
    Calls Tryz.prog 78 #[.pointer (some ⟨b, off, none⟩), .int .u8 121] w fun e w' => e = .returned (.tuple #[.pointer (some ⟨b, off + 9, none⟩), .int .i64 4]) ∧ Below w.heap.size w w' := by
  go_enter Tryz.func78, Tryz.ntmps78
  go_wp2
  go_still_tail 18, (by kernel_rfl)
  change wpList _ _ _ _ _ w.drew
  have hd : Below w.heap.size w w.drew := (Below.refl _ _).drew
  generalize w.drew = w2 at hd ⊢
  go_wp2
  go_ret2
  exact ⟨rfl, hd.alloc hd.size _⟩
theorem qbag (b off : Nat) (w : World) :
    Calls Tryz.prog 78 #[.pointer (some ⟨b, off, none⟩), .int .u8 122] w fun e w' => e = .returned (.tuple #[.pointer (some ⟨b, off + 10, none⟩), .int .i64 4]) ∧ Below w.heap.size w w' := by
  go_enter Tryz.func78, Tryz.ntmps78
  go_wp2
  go_still_tail 18, (by kernel_rfl)
  change wpList _ _ _ _ _ w.drew
  have hd : Below w.heap.size w w.drew := (Below.refl _ _).drew
  generalize w.drew = w2 at hd ⊢
  go_wp2
  go_ret2
  exact ⟨rfl, hd.alloc hd.size _⟩
section
variable {R : Type}
def qzj (vs : List AV) (m : Mem) (K : AV → Mem → Option R) : Option R :=
  match vs with
  | [.ptr r off, .int .u8 c] => (bif (c == (65 : Int)) then K (.tup [.ptr r (off + 6), .int .i64 2]) m else (bif (c == (66 : Int)) then K (.tup [.ptr r (off + 7), .int .i64 2]) m else (bif (c == (67 : Int)) then K (.tup [.ptr r (off + 8), .int .i64 2]) m else (bif (c == (68 : Int)) then K (.tup [.ptr r (off + 9), .int .i64 2]) m else (bif (c == (69 : Int)) then K (.tup [.ptr r (off + 10), .int .i64 2]) m else (bif (c == (70 : Int)) then K (.tup [.ptr r (off + 11), .int .i64 2]) m else (bif (c == (97 : Int)) then K (.tup [.ptr r (off + 6), .int .i64 1]) m else (bif (c == (98 : Int)) then K (.tup [.ptr r (off + 7), .int .i64 1]) m else (bif (c == (99 : Int)) then K (.tup [.ptr r (off + 8), .int .i64 1]) m else (bif (c == (100 : Int)) then K (.tup [.ptr r (off + 9), .int .i64 1]) m else (bif (c == (101 : Int)) then K (.tup [.ptr r (off + 10), .int .i64 1]) m else (bif (c == (102 : Int)) then K (.tup [.ptr r (off + 11), .int .i64 1]) m else (bif (c == (118 : Int)) then K (.tup [.ptr r (off + 6), .int .i64 4]) m else (bif (c == (119 : Int)) then K (.tup [.ptr r (off + 7), .int .i64 4]) m else (bif (c == (120 : Int)) then K (.tup [.ptr r (off + 8), .int .i64 4]) m else (bif (c == (121 : Int)) then K (.tup [.ptr r (off + 9), .int .i64 4]) m else (bif (c == (122 : Int)) then K (.tup [.ptr r (off + 10), .int .i64 4]) m else none)))))))))))))))))
  | _ => none
theorem qe8 {α : Type} {b : Bool} {x y : Option α} {r : α} (h : (bif b then x else y) = some r) : (b = true ∧ x = some r) ∨ (b = false ∧ y = some r) := by
  cases b with
  | true => exact .inl ⟨rfl, h⟩
  | false => exact .inr ⟨rfl, h⟩
theorem qcp {c : Int} {n : Nat} {z : Int} (h : ∀ (b off : Nat) (w : World), Calls Tryz.prog 78 #[.pointer (some ⟨b, off, none⟩), .int .u8 c] w fun e w' => e = .returned (.tuple #[.pointer (some ⟨b, off + n, none⟩), .int .i64 z]) ∧ Below w.heap.size w w')
    {r off : Nat} {m : Mem} {K : AV → Mem → Option R} {x : R} (hx : K (.tup [.ptr r (off + n), .int .i64 z]) m = some x) {g : Gh} {w : World} {args : Array Value} (hok : OK g m w) (hs : args.size = 2) (hrel : ∀ (k : Nat) (y : AV) (u : Value), [AV.ptr r off, .int .u8 c][k]? = some y → args[k]? = some u → VRel g m w y u) :
    Calls Tryz.prog 78 args w fun e w' => ∃ v y g' m', e = .returned v ∧ K y m' = some x ∧ OK g' m' w' ∧ VRel g' m' w' y v ∧ Ext g m w g' m' w' := by
  obtain ⟨a, b, rfl⟩ : ∃ a b, args = #[a, b] := by
    obtain ⟨l⟩ := args
    match l, hs with
    | [a, b], _ => exact ⟨a, b, rfl⟩
  have ha := hrel 0 _ a rfl rfl
  have hb := (hrel 1 _ b rfl rfl).int_inv
  subst hb
  cases ha with
  | c h0 => cases h0
  | ptr _ _ hr =>
    refine (h _ _ w).mono ?_
    rintro e w' ⟨rfl, hbel⟩
    obtain ⟨k1, k2⟩ := qwq hok hbel
    refine ⟨_, _, g, _, rfl, hx, k1, .tup _ _ rfl fun k y u hy hu => ?_, k2⟩
    match k with
    | 0 => simp at hy hu; subst hy hu; exact .ptr _ _ hr
    | 1 => simp at hy hu; subst hy hu; exact .c (.int _ _)
    | k + 2 => simp at hy
theorem qbb0 : qj9 Tryz.prog 78 (qzj (R := R)) := by
  intro vs m K r hr
  have hE : Ent Tryz.prog 78 := ⟨_, Tryz.func78, by kernel_rfl, by kernel_rfl⟩
  unfold qzj at hr
  split at hr
  case h_2 => cases hr
  rename_i rr off c
  rcases qe8 hr with ⟨hc, hr⟩ | ⟨_, hr⟩
  · have := eq_of_beq hc
    subst this
    exact .inl ⟨hE, fun g w args hok hsa hrel => qcp qbbr hr hok hsa hrel⟩
  rcases qe8 hr with ⟨hc, hr⟩ | ⟨_, hr⟩
  · have := eq_of_beq hc
    subst this
    exact .inl ⟨hE, fun g w args hok hsa hrel => qcp qbbs hr hok hsa hrel⟩
  rcases qe8 hr with ⟨hc, hr⟩ | ⟨_, hr⟩
  · have := eq_of_beq hc
    subst this
    exact .inl ⟨hE, fun g w args hok hsa hrel => qcp qbbt hr hok hsa hrel⟩
  rcases qe8 hr with ⟨hc, hr⟩ | ⟨_, hr⟩
  · have := eq_of_beq hc
    subst this
    exact .inl ⟨hE, fun g w args hok hsa hrel => qcp qbbu hr hok hsa hrel⟩
  rcases qe8 hr with ⟨hc, hr⟩ | ⟨_, hr⟩
  · have := eq_of_beq hc
    subst this
    exact .inl ⟨hE, fun g w args hok hsa hrel => qcp qbbv hr hok hsa hrel⟩
  rcases qe8 hr with ⟨hc, hr⟩ | ⟨_, hr⟩
  · have := eq_of_beq hc
    subst this
    exact .inl ⟨hE, fun g w args hok hsa hrel => qcp qbbw hr hok hsa hrel⟩
  rcases qe8 hr with ⟨hc, hr⟩ | ⟨_, hr⟩
  · have := eq_of_beq hc
    subst this
    exact .inl ⟨hE, fun g w args hok hsa hrel => qcp qbbx hr hok hsa hrel⟩
  rcases qe8 hr with ⟨hc, hr⟩ | ⟨_, hr⟩
  · have := eq_of_beq hc
    subst this
    exact .inl ⟨hE, fun g w args hok hsa hrel => qcp qbby hr hok hsa hrel⟩
  rcases qe8 hr with ⟨hc, hr⟩ | ⟨_, hr⟩
  · have := eq_of_beq hc
    subst this
    exact .inl ⟨hE, fun g w args hok hsa hrel => qcp qbbz hr hok hsa hrel⟩
  rcases qe8 hr with ⟨hc, hr⟩ | ⟨_, hr⟩
  · have := eq_of_beq hc
    subst this
    exact .inl ⟨hE, fun g w args hok hsa hrel => qcp q99 hr hok hsa hrel⟩
  rcases qe8 hr with ⟨hc, hr⟩ | ⟨_, hr⟩
  · have := eq_of_beq hc
    subst this
    exact .inl ⟨hE, fun g w args hok hsa hrel => qcp qbaa hr hok hsa hrel⟩
  rcases qe8 hr with ⟨hc, hr⟩ | ⟨_, hr⟩
  · have := eq_of_beq hc
    subst this
    exact .inl ⟨hE, fun g w args hok hsa hrel => qcp qbab hr hok hsa hrel⟩
  rcases qe8 hr with ⟨hc, hr⟩ | ⟨_, hr⟩
  · have := eq_of_beq hc
    subst this
    exact .inl ⟨hE, fun g w args hok hsa hrel => qcp qbac hr hok hsa hrel⟩
  rcases qe8 hr with ⟨hc, hr⟩ | ⟨_, hr⟩
  · have := eq_of_beq hc
    subst this
    exact .inl ⟨hE, fun g w args hok hsa hrel => qcp qbad hr hok hsa hrel⟩
  rcases qe8 hr with ⟨hc, hr⟩ | ⟨_, hr⟩
  · have := eq_of_beq hc
    subst this
    exact .inl ⟨hE, fun g w args hok hsa hrel => qcp qbae hr hok hsa hrel⟩
  rcases qe8 hr with ⟨hc, hr⟩ | ⟨_, hr⟩
  · have := eq_of_beq hc
    subst this
    exact .inl ⟨hE, fun g w args hok hsa hrel => qcp qbaf hr hok hsa hrel⟩
  rcases qe8 hr with ⟨hc, hr⟩ | ⟨_, hr⟩
  · have := eq_of_beq hc
    subst this
    exact .inl ⟨hE, fun g w args hok hsa hrel => qcp qbag hr hok hsa hrel⟩
  cases hr
end
end Go.Pev
