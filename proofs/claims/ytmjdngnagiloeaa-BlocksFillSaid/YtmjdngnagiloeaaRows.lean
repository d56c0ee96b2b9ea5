/-
  No cell of these rows narrows 'for every input' (looked for: loops, veiled, ifaces, maps, wideKeys, modest, calm, conditions, laid).
  DERIVED. THE GIVEN ROWS OF THIS SEAT. 7 by the template 'for every input the law returns true; each argument reads behind the call as it read before'; 0 by the template 'total and deterministic' (their statements: YtmjdngnagiloeaaTotals.lean).
  GIVEN WITH THE SEED: the statements are not yours to turn. If you find one false, say at which input.
  Laid BY PROGRAM, IN A SANDBOX (cutbox-rows.mjs): the forced cells as the released guide's own fill.sh prints them over the translation ecd2abe98fb4a916… (all of the seat's roots in one cut). By AI agents, Wed Nov 11 2026. No macro, syntax, notation, axiom, sorry.
-/
import Derived.Test.YtmjdngnagiloeaaChecked
import GoSem.Claim
import GoSem.ClaimJoined
import GoSem.ClaimMapViews
import Derived.JoinedTies
import Derived.KernelRfl
namespace Go.Proofs.Ytmjdngnagiloeaa
/- THE CELL 'sum', in the pinned program and in every row, IS THE sha256 OF THE DUMP (.gsa) THAT YtmjdngnagiloeaaProg.lean LOADS. Nothing in Lean hashes anything: it is a label: what it is worth is what the hold of that sum in a sandbox is worth. -/
noncomputable def Try.pinned : Pinned := { name := "ytmjdngnagiloeaa", sum := "ecd2abe98fb4a916167fc2354e27b765d0ed2c1ba27aef30faa64f7a72c732d2", checked := Try.checked }
namespace Rows
def none {H : Type} : Left H := { results := [], args := [] }

/-- 'ddilaw46.BlocksChecks': WHATEVER THE INPUT: true; the input reads as it did. -/
def blocksChecksSpec : ChangeSpec := { name := "blocksChecks", fn := fun _ => fun
  | [d] => { results := [.lit (.bool true)], args := [d] }
  | _ => none }
def blocksChecksRow : OpenClaim := { program := "ytmjdngnagiloeaa", sum := "ecd2abe98fb4a916167fc2354e27b765d0ed2c1ba27aef30faa64f7a72c732d2", func := "ddi/ddilaw46.BlocksChecks", spec := "blocksChecks", inPlace := ["slices.overlaps[ddi/api.Block]"], unfollowed := true, recurses := true, apart := false }
def BlocksChecksSaid : Prop := blocksChecksRow.holds Try.pinned (OpenSpec.ofChange blocksChecksSpec)

/-- ITS FALSE NEIGHBOUR: 'it returns false'. Refute it at one input. -/
def blocksChecksWrong : ChangeSpec := { name := "blocksChecks", fn := fun _ => fun
  | [d] => { results := [.lit (.bool false)], args := [d] }
  | _ => none }
def BlocksChecksWrongFalsely : Prop := blocksChecksRow.holds Try.pinned (OpenSpec.ofChange blocksChecksWrong)

/-- 'ddilaw46.BlocksChanges': WHATEVER THE INPUT: true; the input reads as it did. -/
def blocksChangesSpec : ChangeSpec := { name := "blocksChanges", fn := fun _ => fun
  | [d1, d2, d3] => { results := [.lit (.bool true)], args := [d1, d2, d3] }
  | _ => none }
def blocksChangesRow : OpenClaim := { program := "ytmjdngnagiloeaa", sum := "ecd2abe98fb4a916167fc2354e27b765d0ed2c1ba27aef30faa64f7a72c732d2", func := "ddi/ddilaw46.BlocksChanges", spec := "blocksChanges", inPlace := ["slices.overlaps[ddi/api.Block]"], unfollowed := true, recurses := true, apart := false }
def BlocksChangesSaid : Prop := blocksChangesRow.holds Try.pinned (OpenSpec.ofChange blocksChangesSpec)

/-- ITS FALSE NEIGHBOUR: 'it returns false'. Refute it at one input. -/
def blocksChangesWrong : ChangeSpec := { name := "blocksChanges", fn := fun _ => fun
  | [d1, d2, d3] => { results := [.lit (.bool false)], args := [d1, d2, d3] }
  | _ => none }
def BlocksChangesWrongFalsely : Prop := blocksChangesRow.holds Try.pinned (OpenSpec.ofChange blocksChangesWrong)

/-- 'ddilaw46.BlocksFinds': WHATEVER THE INPUT: true; the input reads as it did. -/
def blocksFindsSpec : ChangeSpec := { name := "blocksFinds", fn := fun _ => fun
  | [d1, d2, d3] => { results := [.lit (.bool true)], args := [d1, d2, d3] }
  | _ => none }
def blocksFindsRow : OpenClaim := { program := "ytmjdngnagiloeaa", sum := "ecd2abe98fb4a916167fc2354e27b765d0ed2c1ba27aef30faa64f7a72c732d2", func := "ddi/ddilaw46.BlocksFinds", spec := "blocksFinds", inPlace := ["slices.overlaps[ddi/api.Block]"], unfollowed := true, recurses := true, apart := false }
def BlocksFindsSaid : Prop := blocksFindsRow.holds Try.pinned (OpenSpec.ofChange blocksFindsSpec)

/-- ITS FALSE NEIGHBOUR: 'it returns false'. Refute it at one input. -/
def blocksFindsWrong : ChangeSpec := { name := "blocksFinds", fn := fun _ => fun
  | [d1, d2, d3] => { results := [.lit (.bool false)], args := [d1, d2, d3] }
  | _ => none }
def BlocksFindsWrongFalsely : Prop := blocksFindsRow.holds Try.pinned (OpenSpec.ofChange blocksFindsWrong)

/-- 'ddilaw46.BlocksStay': WHATEVER THE INPUT: true; the input reads as it did. -/
def blocksStaySpec : ChangeSpec := { name := "blocksStay", fn := fun _ => fun
  | [d1, d2, d3] => { results := [.lit (.bool true)], args := [d1, d2, d3] }
  | _ => none }
def blocksStayRow : OpenClaim := { program := "ytmjdngnagiloeaa", sum := "ecd2abe98fb4a916167fc2354e27b765d0ed2c1ba27aef30faa64f7a72c732d2", func := "ddi/ddilaw46.BlocksStay", spec := "blocksStay", inPlace := ["slices.overlaps[ddi/api.Block]"], unfollowed := true, recurses := true, apart := false }
def BlocksStaySaid : Prop := blocksStayRow.holds Try.pinned (OpenSpec.ofChange blocksStaySpec)

/-- ITS FALSE NEIGHBOUR: 'it returns false'. Refute it at one input. -/
def blocksStayWrong : ChangeSpec := { name := "blocksStay", fn := fun _ => fun
  | [d1, d2, d3] => { results := [.lit (.bool false)], args := [d1, d2, d3] }
  | _ => none }
def BlocksStayWrongFalsely : Prop := blocksStayRow.holds Try.pinned (OpenSpec.ofChange blocksStayWrong)

/-- 'ddilaw46.BlocksHold': WHATEVER THE INPUT: true; the input reads as it did. -/
def blocksHoldSpec : ChangeSpec := { name := "blocksHold", fn := fun _ => fun
  | [d1, d2] => { results := [.lit (.bool true)], args := [d1, d2] }
  | _ => none }
def blocksHoldRow : OpenClaim := { program := "ytmjdngnagiloeaa", sum := "ecd2abe98fb4a916167fc2354e27b765d0ed2c1ba27aef30faa64f7a72c732d2", func := "ddi/ddilaw46.BlocksHold", spec := "blocksHold", inPlace := ["slices.overlaps[ddi/api.Block]"], unfollowed := true, recurses := true, apart := false }
def BlocksHoldSaid : Prop := blocksHoldRow.holds Try.pinned (OpenSpec.ofChange blocksHoldSpec)

/-- ITS FALSE NEIGHBOUR: 'it returns false'. Refute it at one input. -/
def blocksHoldWrong : ChangeSpec := { name := "blocksHold", fn := fun _ => fun
  | [d1, d2] => { results := [.lit (.bool false)], args := [d1, d2] }
  | _ => none }
def BlocksHoldWrongFalsely : Prop := blocksHoldRow.holds Try.pinned (OpenSpec.ofChange blocksHoldWrong)

/-- 'ddilaw46.BlocksNest': WHATEVER THE INPUT: true; the input reads as it did. -/
def blocksNestSpec : ChangeSpec := { name := "blocksNest", fn := fun _ => fun
  | [d1, d2] => { results := [.lit (.bool true)], args := [d1, d2] }
  | _ => none }
def blocksNestRow : OpenClaim := { program := "ytmjdngnagiloeaa", sum := "ecd2abe98fb4a916167fc2354e27b765d0ed2c1ba27aef30faa64f7a72c732d2", func := "ddi/ddilaw46.BlocksNest", spec := "blocksNest", inPlace := ["slices.overlaps[ddi/api.Block]"], unfollowed := true, recurses := true, apart := false }
def BlocksNestSaid : Prop := blocksNestRow.holds Try.pinned (OpenSpec.ofChange blocksNestSpec)

/-- ITS FALSE NEIGHBOUR: 'it returns false'. Refute it at one input. -/
def blocksNestWrong : ChangeSpec := { name := "blocksNest", fn := fun _ => fun
  | [d1, d2] => { results := [.lit (.bool false)], args := [d1, d2] }
  | _ => none }
def BlocksNestWrongFalsely : Prop := blocksNestRow.holds Try.pinned (OpenSpec.ofChange blocksNestWrong)

/-- 'ddilaw46.BlocksFill': WHATEVER THE INPUT: true; the input reads as it did. -/
def blocksFillSpec : ChangeSpec := { name := "blocksFill", fn := fun _ => fun
  | [d1, d2, d3] => { results := [.lit (.bool true)], args := [d1, d2, d3] }
  | _ => none }
def blocksFillRow : OpenClaim := { program := "ytmjdngnagiloeaa", sum := "ecd2abe98fb4a916167fc2354e27b765d0ed2c1ba27aef30faa64f7a72c732d2", func := "ddi/ddilaw46.BlocksFill", spec := "blocksFill", inPlace := ["slices.overlaps[ddi/api.Block]", "math/bits.Add64"], unfollowed := true, recurses := true, apart := false }
def BlocksFillSaid : Prop := blocksFillRow.holds Try.pinned (OpenSpec.ofChange blocksFillSpec)

/-- ITS FALSE NEIGHBOUR: 'it returns false'. Refute it at one input. -/
def blocksFillWrong : ChangeSpec := { name := "blocksFill", fn := fun _ => fun
  | [d1, d2, d3] => { results := [.lit (.bool false)], args := [d1, d2, d3] }
  | _ => none }
def BlocksFillWrongFalsely : Prop := blocksFillRow.holds Try.pinned (OpenSpec.ofChange blocksFillWrong)

/- THE SECOND FORM. 'bulk': how many values and letters a reading holds, each counted each time it is reached (what is shared counts as often as it is met; a slice's spare places count too). A statement '..UptoSaid' is the law's where the arguments, and the package variables that the reading takes, are together of bulk at most 1048576: NARROWER than '..Said'. Prove '..Said' where nothing that the law and all that it calls make is longer than what came in: it says more and counts as full. Else prove '..UptoSaid'. A law counts once. -/
mutual
def uptoBulk {H : Type} : DataW H → Nat
  | .lit (.string bytes) => bytes.length + 1
  | .lit _ => 1
  | .nil => 1
  | .ptr d => uptoBulk d + 1
  | .slice elems spare => uptoBulkAll elems + uptoBulkAll spare + 1
  | .agg parts => uptoBulkAll parts + 1
  | .iface _ d => uptoBulk d + 1
  | .map entries => uptoBulkEntries entries + 1
  | .held _ => 1
def uptoBulkAll {H : Type} : List (DataW H) → Nat
  | [] => 0
  | d :: r => uptoBulk d + uptoBulkAll r
def uptoBulkEntries {H : Type} : List (Lit × DataW H) → Nat
  | [] => 0
  | x :: r => uptoBulkEntry x + uptoBulkEntries r
def uptoBulkEntry {H : Type} : Lit × DataW H → Nat
  | (.string bytes, d) => bytes.length + uptoBulk d + 1
  | (_, d) => uptoBulk d + 1
 end
def uptoSmall : (H : Type) → List (DataW H) → Bool := fun _ ds => decide (uptoBulkAll ds ≤ 1048576)
def OpenSpec.upto (s : _root_.Go.ChangeSpec) : _root_.Go.OpenSpec := { _root_.Go.OpenSpec.ofChange s with cond := some uptoSmall }

/-- 'ddilaw46.BlocksChecks', WHERE WHAT IT READS IS OF BULK AT MOST 1048576: true; the input reads as it did. -/
def blocksChecksUptoRow : OpenClaim := { program := "ytmjdngnagiloeaa", sum := "ecd2abe98fb4a916167fc2354e27b765d0ed2c1ba27aef30faa64f7a72c732d2", func := "ddi/ddilaw46.BlocksChecks", spec := "blocksChecks", inPlace := ["slices.overlaps[ddi/api.Block]"], unfollowed := true, recurses := true, apart := false, narrowed := true }
def BlocksChecksUptoSaid : Prop := blocksChecksUptoRow.holds Try.pinned (OpenSpec.upto blocksChecksSpec)

/-- 'ddilaw46.BlocksChanges', WHERE WHAT IT READS IS OF BULK AT MOST 1048576: true; the input reads as it did. -/
def blocksChangesUptoRow : OpenClaim := { program := "ytmjdngnagiloeaa", sum := "ecd2abe98fb4a916167fc2354e27b765d0ed2c1ba27aef30faa64f7a72c732d2", func := "ddi/ddilaw46.BlocksChanges", spec := "blocksChanges", inPlace := ["slices.overlaps[ddi/api.Block]"], unfollowed := true, recurses := true, apart := false, narrowed := true }
def BlocksChangesUptoSaid : Prop := blocksChangesUptoRow.holds Try.pinned (OpenSpec.upto blocksChangesSpec)

/-- 'ddilaw46.BlocksFinds', WHERE WHAT IT READS IS OF BULK AT MOST 1048576: true; the input reads as it did. -/
def blocksFindsUptoRow : OpenClaim := { program := "ytmjdngnagiloeaa", sum := "ecd2abe98fb4a916167fc2354e27b765d0ed2c1ba27aef30faa64f7a72c732d2", func := "ddi/ddilaw46.BlocksFinds", spec := "blocksFinds", inPlace := ["slices.overlaps[ddi/api.Block]"], unfollowed := true, recurses := true, apart := false, narrowed := true }
def BlocksFindsUptoSaid : Prop := blocksFindsUptoRow.holds Try.pinned (OpenSpec.upto blocksFindsSpec)

/-- 'ddilaw46.BlocksStay', WHERE WHAT IT READS IS OF BULK AT MOST 1048576: true; the input reads as it did. -/
def blocksStayUptoRow : OpenClaim := { program := "ytmjdngnagiloeaa", sum := "ecd2abe98fb4a916167fc2354e27b765d0ed2c1ba27aef30faa64f7a72c732d2", func := "ddi/ddilaw46.BlocksStay", spec := "blocksStay", inPlace := ["slices.overlaps[ddi/api.Block]"], unfollowed := true, recurses := true, apart := false, narrowed := true }
def BlocksStayUptoSaid : Prop := blocksStayUptoRow.holds Try.pinned (OpenSpec.upto blocksStaySpec)

/-- 'ddilaw46.BlocksHold', WHERE WHAT IT READS IS OF BULK AT MOST 1048576: true; the input reads as it did. -/
def blocksHoldUptoRow : OpenClaim := { program := "ytmjdngnagiloeaa", sum := "ecd2abe98fb4a916167fc2354e27b765d0ed2c1ba27aef30faa64f7a72c732d2", func := "ddi/ddilaw46.BlocksHold", spec := "blocksHold", inPlace := ["slices.overlaps[ddi/api.Block]"], unfollowed := true, recurses := true, apart := false, narrowed := true }
def BlocksHoldUptoSaid : Prop := blocksHoldUptoRow.holds Try.pinned (OpenSpec.upto blocksHoldSpec)

/-- 'ddilaw46.BlocksNest', WHERE WHAT IT READS IS OF BULK AT MOST 1048576: true; the input reads as it did. -/
def blocksNestUptoRow : OpenClaim := { program := "ytmjdngnagiloeaa", sum := "ecd2abe98fb4a916167fc2354e27b765d0ed2c1ba27aef30faa64f7a72c732d2", func := "ddi/ddilaw46.BlocksNest", spec := "blocksNest", inPlace := ["slices.overlaps[ddi/api.Block]"], unfollowed := true, recurses := true, apart := false, narrowed := true }
def BlocksNestUptoSaid : Prop := blocksNestUptoRow.holds Try.pinned (OpenSpec.upto blocksNestSpec)

/-- 'ddilaw46.BlocksFill', WHERE WHAT IT READS IS OF BULK AT MOST 1048576: true; the input reads as it did. -/
def blocksFillUptoRow : OpenClaim := { program := "ytmjdngnagiloeaa", sum := "ecd2abe98fb4a916167fc2354e27b765d0ed2c1ba27aef30faa64f7a72c732d2", func := "ddi/ddilaw46.BlocksFill", spec := "blocksFill", inPlace := ["slices.overlaps[ddi/api.Block]", "math/bits.Add64"], unfollowed := true, recurses := true, apart := false, narrowed := true }
def BlocksFillUptoSaid : Prop := blocksFillUptoRow.holds Try.pinned (OpenSpec.upto blocksFillSpec)

end Rows
end Go.Proofs.Ytmjdngnagiloeaa
