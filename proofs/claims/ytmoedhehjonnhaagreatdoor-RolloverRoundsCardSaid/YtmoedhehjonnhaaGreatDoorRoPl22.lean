import Derived.Test.YtmoedhehjonnhaaGreatDoorProg
import Derived.Test.YtmoedhehjonnhaaGreatDoorRoLibE
import Derived.WalkKit
import Derived.RegionTactic
import Derived.StillTailTactics
import Derived.Below
set_option linter.all false
namespace Go.Pev
open Go Go.RowKit Go.Proofs
set_option linter.unusedVariables false
set_option maxHeartbeats 4000000
set_option maxRecDepth 100000
theorem qbaz (b off : Nat) (w : World) :
    Calls Tryz.prog 78 #[.pointer (some ⟨b, off, none⟩), .int .u8 65] w fun e w' => e = .returned (.tuple #[.pointer (some ⟨b, off + 6, none⟩), .int .i64 2]) ∧ Below w.heap.size w w' := by
  go_enter Tryz.func78, Tryz.ntmps78
  go_wp2
  go_still_tail 18, (by kernel_rfl)
  change wpList _ _ _ _ _ w.drew
  have hd : Below w.heap.size w w.drew := (Below.refl _ _).drew
  generalize w.drew = w2 at hd ⊢
  go_wp2
  go_ret2
  exact ⟨rfl, hd.alloc hd.size _⟩
theorem qba0 (b off : Nat) (w : World) :
    Calls Tryz.prog 78 #[.pointer (some ⟨b, off, none⟩), .int .u8 66] w fun e w' => e = .returned (.tuple #[.pointer (some ⟨b, off + 7, none⟩), .int .i64 2]) ∧ Below w.heap.size w w' := by
  go_enter Tryz.func78, Tryz.ntmps78
  go_wp2
  go_still_tail 18, (by kernel_rfl)
  change wpList _ _ _ _ _ w.drew
  have hd : Below w.heap.size w w.drew := (Below.refl _ _).drew
  generalize w.drew = w2 at hd ⊢
  go_wp2
  go_ret2
  exact ⟨rfl, hd.alloc hd.size _⟩
theorem qba1 (b off : Nat) (w : World) :
    Calls Tryz.prog 78 #[.pointer (some ⟨b, off, none⟩), .int .u8 67] w fun e w' => e = .returned (.tuple #[.pointer (some ⟨b, off + 8, none⟩), .int .i64 2]) ∧ Below w.heap.size w w' := by
  go_enter Tryz.func78, Tryz.ntmps78
  go_wp2
  go_still_tail 18, (by kernel_rfl)
  change wpList _ _ _ _ _ w.drew
  have hd : Below w.heap.size w w.drew := (Below.refl _ _).drew
  generalize w.drew = w2 at hd ⊢
  go_wp2
  go_ret2
  exact ⟨rfl, hd.alloc hd.size _⟩
theorem qba2 (b off : Nat) (w : World) :
    Calls Tryz.prog 78 #[.pointer (some ⟨b, off, none⟩), .int .u8 68] w fun e w' => e = .returned (.tuple #[.pointer (some ⟨b, off + 9, none⟩), .int .i64 2]) ∧ Below w.heap.size w w' := by
  go_enter Tryz.func78, Tryz.ntmps78
  go_wp2
  go_still_tail 18, (by kernel_rfl)
  change wpList _ _ _ _ _ w.drew
  have hd : Below w.heap.size w w.drew := (Below.refl _ _).drew
  generalize w.drew = w2 at hd ⊢
  go_wp2
  go_ret2
  exact ⟨rfl, hd.alloc hd.size _⟩
theorem qba3 (b off : Nat) (w : World) :
    Calls Tryz.prog 78 #[.pointer (some ⟨b, off, none⟩), .int .u8 69] w fun e w' => e = .returned (.tuple #[.pointer (some ⟨b, off + 10, none⟩), .int .i64 2]) ∧ Below w.heap.size w w' := by
  go_enter Tryz.func78, Tryz.ntmps78
  go_wp2
  go_still_tail 18, (by kernel_rfl)
  change wpList _ _ _ _ _ w.drew
  have hd : Below w.heap.size w w.drew := (Below.refl _ _).drew
  generalize w.drew = w2 at hd ⊢
  go_wp2
  go_ret2
  exact ⟨rfl, hd.alloc hd.size _⟩
theorem qba4 (b off : Nat) (w : World) :
    Calls Tryz.prog 78 #[.pointer (some ⟨b, off, none⟩), .int .u8 70] w fun e w' => e = .returned (.tuple #[.pointer (some ⟨b, off + 11, none⟩), .int .i64 2]) ∧ Below w.heap.size w w' := by
  go_enter Tryz.func78, Tryz.ntmps78
  go_wp2
  go_still_tail 18, (by kernel_rfl)
  change wpList _ _ _ _ _ w.drew
  have hd : Below w.heap.size w w.drew := (Below.refl _ _).drew
  generalize w.drew = w2 at hd ⊢
  go_wp2
  go_ret2
  exact ⟨rfl, hd.alloc hd.size _⟩
theorem qba5 (b off : Nat) (w : World) :
    Calls Tryz.prog 78 #[.pointer (some ⟨b, off, none⟩), .int .u8 97] w fun e w' => e = .returned (.tuple #[.pointer (some ⟨b, off + 6, none⟩), .int .i64 1]) ∧ Below w.heap.size w w' := by
  go_enter Tryz.func78, Tryz.ntmps78
  go_wp2
  go_still_tail 18, (by kernel_rfl)
  change wpList _ _ _ _ _ w.drew
  have hd : Below w.heap.size w w.drew := (Below.refl _ _).drew
  generalize w.drew = w2 at hd ⊢
  go_wp2
  go_ret2
  exact ⟨rfl, hd.alloc hd.size _⟩
theorem qba6 (b off : Nat) (w : World) :
    Calls Tryz.prog 78 #[.pointer (some ⟨b, off, none⟩), .int .u8 98] w fun e w' => e = .returned (.tuple #[.pointer (some ⟨b, off + 7, none⟩), .int .i64 1]) ∧ Below w.heap.size w w' := by
  go_enter Tryz.func78, Tryz.ntmps78
  go_wp2
  go_still_tail 18, (by kernel_rfl)
  change wpList _ _ _ _ _ w.drew
  have hd : Below w.heap.size w w.drew := (Below.refl _ _).drew
  generalize w.drew = w2 at hd ⊢
  go_wp2
  go_ret2
  exact ⟨rfl, hd.alloc hd.size _⟩
theorem qba7 (b off : Nat) (w : World) :
    Calls Tryz.prog 78 #[.pointer (some ⟨b, off, none⟩), .int .u8 99] w fun e w' => e = .returned (.tuple #[.pointer (some ⟨b, off + 8, none⟩), .int .i64 1]) ∧ Below w.heap.size w w' := by
  go_enter Tryz.func78, Tryz.ntmps78
  go_wp2
  go_still_tail 18, (by kernel_rfl)
  change wpList _ _ _ _ _ w.drew
  have hd : Below w.heap.size w w.drew := (Below.refl _ _).drew
  generalize w.drew = w2 at hd ⊢
  go_wp2
  go_ret2
  exact ⟨rfl, hd.alloc hd.size _⟩
theorem q9i (b off : Nat) (w : World) :
    Calls Tryz.prog 78 #[.pointer (some ⟨b, off, none⟩), .int .u8 100] w fun e w' => e = .returned (.tuple #[.pointer (some ⟨b, off + 9, none⟩), .int .i64 1]) ∧ Below w.heap.size w w' := by
  go_enter Tryz.func78, Tryz.ntmps78
  go_wp2
  go_still_tail 18, (by kernel_rfl)
  change wpList _ _ _ _ _ w.drew
  have hd : Below w.heap.size w w.drew := (Below.refl _ _).drew
  generalize w.drew = w2 at hd ⊢
  go_wp2
  go_ret2
  exact ⟨rfl, hd.alloc hd.size _⟩
theorem q9j (b off : Nat) (w : World) :
    Calls Tryz.prog 78 #[.pointer (some ⟨b, off, none⟩), .int .u8 101] w fun e w' => e = .returned (.tuple #[.pointer (some ⟨b, off + 10, none⟩), .int .i64 1]) ∧ Below w.heap.size w w' := by
  go_enter Tryz.func78, Tryz.ntmps78
  go_wp2
  go_still_tail 18, (by kernel_rfl)
  change wpList _ _ _ _ _ w.drew
  have hd : Below w.heap.size w w.drew := (Below.refl _ _).drew
  generalize w.drew = w2 at hd ⊢
  go_wp2
  go_ret2
  exact ⟨rfl, hd.alloc hd.size _⟩
theorem q9k (b off : Nat) (w : World) :
    Calls Tryz.prog 78 #[.pointer (some ⟨b, off, none⟩), .int .u8 102] w fun e w' => e = .returned (.tuple #[.pointer (some ⟨b, off + 11, none⟩), .int .i64 1]) ∧ Below w.heap.size w w' := by
  go_enter Tryz.func78, Tryz.ntmps78
  go_wp2
  go_still_tail 18, (by kernel_rfl)
  change wpList _ _ _ _ _ w.drew
  have hd : Below w.heap.size w w.drew := (Below.refl _ _).drew
  generalize w.drew = w2 at hd ⊢
  go_wp2
  go_ret2
  exact ⟨rfl, hd.alloc hd.size _⟩
theorem q9l (b off : Nat) (w : World) :
    Calls Tryz.prog 78 #[.pointer (some ⟨b, off, none⟩), .int .u8 118] w fun e w' => e = .returned (.tuple #[.pointer (some ⟨b, off + 6, none⟩), .int .i64 4]) ∧ Below w.heap.size w w' := by
  go_enter Tryz.func78, Tryz.ntmps78
  go_wp2
  go_still_tail 18, (by kernel_rfl)
  change wpList _ _ _ _ _ w.drew
  have hd : Below w.heap.size w w.drew := (Below.refl _ _).drew
  generalize w.drew = w2 at hd ⊢
  go_wp2
  go_ret2
  exact ⟨rfl, hd.alloc hd.size _⟩
theorem q9m (b off : Nat) (w : World) :
    Calls Tryz.prog 78 #[.pointer (some ⟨b, off, none⟩), .int .u8 119] w fun e w' => e = .returned (.tuple #[.pointer (some ⟨b, off + 7, none⟩), .int .i64 4]) ∧ Below w.heap.size w w' := by
  go_enter Tryz.func78, Tryz.ntmps78
  go_wp2
  go_still_tail 18, (by kernel_rfl)
  change wpList _ _ _ _ _ w.drew
  have hd : Below w.heap.size w w.drew := (Below.refl _ _).drew
  generalize w.drew = w2 at hd ⊢
  go_wp2
  go_ret2
  exact ⟨rfl, hd.alloc hd.size _⟩
theorem q9n (b off : Nat) (w : World) :
    Calls Tryz.prog 78 #[.pointer (some ⟨b, off, none⟩), .int .u8 120] w fun e w' => e = .returned (.tuple #[.pointer (some ⟨b, off + 8, none⟩), .int .i64 4]) ∧ Below w.heap.size w w' := by
  go_enter Tryz.func78, Tryz.ntmps78
  go_wp2
  go_still_tail 18, (by kernel_rfl)
  change wpList _ _ _ _ _ w.drew
  have hd : Below w.heap.size w w.drew := (Below.refl _ _).drew
  generalize w.drew = w2 at hd ⊢
  go_wp2
  go_ret2
  exact ⟨rfl, hd.alloc hd.size _⟩
theorem q9o (b off : Nat) (w : World) :
    Calls Tryz.prog 78 #[.pointer (some ⟨b, off, none⟩), .int .u8 121] w fun e w' => e = .returned (.tuple #[.pointer (some ⟨b, off + 9, none⟩), .int .i64 4]) ∧ Below w.heap.size w w' := by
  go_enter Tryz.func78, Tryz.ntmps78
  go_wp2
  go_still_tail 18, (by kernel_rfl)
  change wpList _ _ _ _ _ w.drew
  have hd : Below w.heap.size w w.drew := (Below.refl _ _).drew
  generalize w.drew = w2 at hd ⊢
  go_wp2
  go_ret2
  exact ⟨rfl, hd.alloc hd.size _⟩
theorem q9p (b off : Nat) (w : World) :
    Calls Tryz.prog 78 #[.pointer (some ⟨b, off, none⟩), .int .u8 122] w fun e w' => e = .returned (.tuple #[.pointer (some ⟨b, off + 10, none⟩), .int .i64 4]) ∧ Below w.heap.size w w' := by
  go_enter Tryz.func78, Tryz.ntmps78
  go_wp2
  go_still_tail 18, (by kernel_rfl)
  change wpList _ _ _ _ _ w.drew
  have hd : Below w.heap.size w w.drew := (Below.refl _ _).drew
  generalize w.drew = w2 at hd ⊢
  go_wp2
  go_ret2
  exact ⟨rfl, hd.alloc hd.size _⟩
section
variable {R : Type}
def qyo (vs : List AV) (m : Mem) (K : AV → Mem → Option R) : Option R :=
  match vs with
  | [.ptr r off, .int .u8 c] => (bif (c == (65 : Int)) then K (.tup [.ptr r (off + 6), .int .i64 2]) m else (bif (c == (66 : Int)) then K (.tup [.ptr r (off + 7), .int .i64 2]) m else (bif (c == (67 : Int)) then K (.tup [.ptr r (off + 8), .int .i64 2]) m else (bif (c == (68 : Int)) then K (.tup [.ptr r (off + 9), .int .i64 2]) m else (bif (c == (69 : Int)) then K (.tup [.ptr r (off + 10), .int .i64 2]) m else (bif (c == (70 : Int)) then K (.tup [.ptr r (off + 11), .int .i64 2]) m else (bif (c == (97 : Int)) then K (.tup [.ptr r (off + 6), .int .i64 1]) m else (bif (c == (98 : Int)) then K (.tup [.ptr r (off + 7), .int .i64 1]) m else (bif (c == (99 : Int)) then K (.tup [.ptr r (off + 8), .int .i64 1]) m else (bif (c == (100 : Int)) then K (.tup [.ptr r (off + 9), .int .i64 1]) m else (bif (c == (101 : Int)) then K (.tup [.ptr r (off + 10), .int .i64 1]) m else (bif (c == (102 : Int)) then K (.tup [.ptr r (off + 11), .int .i64 1]) m else (bif (c == (118 : Int)) then K (.tup [.ptr r (off + 6), .int .i64 4]) m else (bif (c == (119 : Int)) then K (.tup [.ptr r (off + 7), .int .i64 4]) m else (bif (c == (120 : Int)) then K (.tup [.ptr r (off + 8), .int .i64 4]) m else (bif (c == (121 : Int)) then K (.tup [.ptr r (off + 9), .int .i64 4]) m else (bif (c == (122 : Int)) then K (.tup [.ptr r (off + 10), .int .i64 4]) m else none)))))))))))))))))
  | _ => none
theorem qez {α : Type} {b : Bool} {x y : Option α} {r : α} (h : (bif b then x else y) = some r) : (b = true ∧ x = some r) ∨ (b = false ∧ y = some r) := by
  cases b with
  | true => exact .inl ⟨rfl, h⟩
  | false => exact .inr ⟨rfl, h⟩
theorem qcm {c : Int} {n : Nat} {z : Int} (h : ∀ (b off : Nat) (w : World), Calls Tryz.prog 78 #[.pointer (some ⟨b, off, none⟩), .int .u8 c] w fun e w' => e = .returned (.tuple #[.pointer (some ⟨b, off + n, none⟩), .int .i64 z]) ∧ Below w.heap.size w w')
    {r off : Nat} {m : Mem} {K : AV → Mem → Option R} {x : R} (hx : K (.tup [.ptr r (off + n), .int .i64 z]) m = some x) {g : Gh} {w : World} {args : Array Value} (hok : OK g m w) (hs : args.size = 2) (hrel : ∀ (k : Nat) (y : AV) (u : Value), [AV.ptr r off, .int .u8 c][k]? = some y → args[k]? = some u → VRel g m w y u) :
    Calls Tryz.prog 78 args w fun e w' => ∃ v y g' m', e = .returned v ∧ K y m' = some x ∧ OK g' m' w' ∧ VRel g' m' w' y v ∧ Ext g m w g' m' w' := by
  obtain ⟨a, b, rfl⟩ : ∃ a b, args = #[a, b] := by
    obtain ⟨l⟩ := args
    match l, hs with
    | [a, b], _ => exact ⟨a, b, rfl⟩
  have ha := hrel 0 _ a rfl rfl
  have hb := (hrel 1 _ b rfl rfl).int_inv
  subst hb
  cases ha with
  | c h0 => cases h0
  | ptr _ _ hr =>
    refine (h _ _ w).mono ?_
    rintro e w' ⟨rfl, hbel⟩
    obtain ⟨k1, k2⟩ := qvx hok hbel
    refine ⟨_, _, g, _, rfl, hx, k1, .tup _ _ rfl fun k y u hy hu => ?_, k2⟩
    match k with
    | 0 => simp at hy hu; subst hy hu; exact .ptr _ _ hr
    | 1 => simp at hy hu; subst hy hu; exact .c (.int _ _)
    | k + 2 => simp at hy
theorem qba8 : qju Tryz.prog 78 (qyo (R := R)) := by
  intro vs m K r hr
  have hE : Ent Tryz.prog 78 := ⟨_, Tryz.func78, by kernel_rfl, by kernel_rfl⟩
  unfold qyo at hr
  split at hr
  case h_2 => cases hr
  rename_i rr off c
  rcases qez hr with ⟨hc, hr⟩ | ⟨_, hr⟩
  · have := eq_of_beq hc
    subst this
    exact .inl ⟨hE, fun g w args hok hsa hrel => qcm qbaz hr hok hsa hrel⟩
  rcases qez hr with ⟨hc, hr⟩ | ⟨_, hr⟩
  · have := eq_of_beq hc
    subst this
    exact .inl ⟨hE, fun g w args hok hsa hrel => qcm qba0 hr hok hsa hrel⟩
  rcases qez hr with ⟨hc, hr⟩ | ⟨_, hr⟩
  · have := eq_of_beq hc
    subst this
    exact .inl ⟨hE, fun g w args hok hsa hrel => qcm qba1 hr hok hsa hrel⟩
  rcases qez hr with ⟨hc, hr⟩ | ⟨_, hr⟩
  · have := eq_of_beq hc
    subst this
    exact .inl ⟨hE, fun g w args hok hsa hrel => qcm qba2 hr hok hsa hrel⟩
  rcases qez hr with ⟨hc, hr⟩ | ⟨_, hr⟩
  · have := eq_of_beq hc
    subst this
    exact .inl ⟨hE, fun g w args hok hsa hrel => qcm qba3 hr hok hsa hrel⟩
  rcases qez hr with ⟨hc, hr⟩ | ⟨_, hr⟩
  · have := eq_of_beq hc
    subst this
    exact .inl ⟨hE, fun g w args hok hsa hrel => qcm qba4 hr hok hsa hrel⟩
  rcases qez hr with ⟨hc, hr⟩ | ⟨_, hr⟩
  · have := eq_of_beq hc
    subst this
    exact .inl ⟨hE, fun g w args hok hsa hrel => qcm qba5 hr hok hsa hrel⟩
  rcases qez hr with ⟨hc, hr⟩ | ⟨_, hr⟩
  · have := eq_of_beq hc
    subst this
    exact .inl ⟨hE, fun g w args hok hsa hrel => qcm qba6 hr hok hsa hrel⟩
  rcases qez hr with ⟨hc, hr⟩ | ⟨_, hr⟩
  · have := eq_of_beq hc
    subst this
    exact .inl ⟨hE, fun g w args hok hsa hrel => qcm qba7 hr hok hsa hrel⟩
  rcases qez hr with ⟨hc, hr⟩ | ⟨_, hr⟩
  · have := eq_of_beq hc
    subst this
    exact .inl ⟨hE, fun g w args hok hsa hrel => qcm q9i hr hok hsa hrel⟩
  rcases qez hr with ⟨hc, hr⟩ | ⟨_, hr⟩
  · have := eq_of_beq hc
    subst this
    exact .inl ⟨hE, fun g w args hok hsa hrel => qcm q9j hr hok hsa hrel⟩
  rcases qez hr with ⟨hc, hr⟩ | ⟨_, hr⟩
  · have := eq_of_beq hc
    subst this
    exact .inl ⟨hE, fun g w args hok hsa hrel => qcm q9k hr hok hsa hrel⟩
  rcases qez hr with ⟨hc, hr⟩ | ⟨_, hr⟩
  · have := eq_of_beq hc
    subst this
    exact .inl ⟨hE, fun g w args hok hsa hrel => qcm q9l hr hok hsa hrel⟩
  rcases qez hr with ⟨hc, hr⟩ | ⟨_, hr⟩
  · have := eq_of_beq hc
    subst this
    exact .inl ⟨hE, fun g w args hok hsa hrel => qcm q9m hr hok hsa hrel⟩
  rcases qez hr with ⟨hc, hr⟩ | ⟨_, hr⟩
  · have := eq_of_beq hc
    subst this
    exact .inl ⟨hE, fun g w args hok hsa hrel => qcm q9n hr hok hsa hrel⟩
  rcases qez hr with ⟨hc, hr⟩ | ⟨_, hr⟩
  · have := eq_of_beq hc
    subst this
    exact .inl ⟨hE, fun g w args hok hsa hrel => qcm q9o hr hok hsa hrel⟩
  rcases qez hr with ⟨hc, hr⟩ | ⟨_, hr⟩
  · have := eq_of_beq hc
    subst this
    exact .inl ⟨hE, fun g w args hok hsa hrel => qcm q9p hr hok hsa hrel⟩
  cases hr
end
end Go.Pev
