/-
  No cell of these rows narrows 'for every input' (looked for: loops, veiled, ifaces, maps, wideKeys, modest, calm, conditions, laid).
  DERIVED. THE GIVEN ROWS OF THIS SEAT. 6 by the template 'for every input the law returns true; each argument reads behind the call as it read before'; 0 by the template 'total and deterministic' (their statements: YtmfghgaboaocgaaTotals.lean).
  GIVEN WITH THE SEED: the statements are not yours to turn. If you find one false, say at which input.
  Laid BY PROGRAM, IN A SANDBOX (cutbox-rows.mjs): the forced cells as the released guide's own fill.sh prints them over the translation 47e662f30b9a89b1… (all of the seat's roots in one cut). By AI agents, Wed Nov 11 2026. No macro, syntax, notation, axiom, sorry.
-/
import Derived.Test.YtmfghgaboaocgaaChecked
import GoSem.Claim
import GoSem.ClaimJoined
import GoSem.ClaimMapViews
import Derived.JoinedTies
import Derived.KernelRfl
namespace Go.Proofs.Ytmfghgaboaocgaa
/- THE CELL 'sum', in the pinned program and in every row, IS THE sha256 OF THE DUMP (.gsa) THAT YtmfghgaboaocgaaProg.lean LOADS. Nothing in Lean hashes anything: it is a label: what it is worth is what the hold of that sum in a sandbox is worth. -/
noncomputable def Try.pinned : Pinned := { name := "ytmfghgaboaocgaa", sum := "47e662f30b9a89b15f373efc0dc2c4bae25cbaeae4dc27db3dcc48e92237eb55", checked := Try.checked }
namespace Rows
def none {H : Type} : Left H := { results := [], args := [] }

/-- 'ddilaw47.AllocateAddresses': WHATEVER THE INPUT: true; the input reads as it did. -/
def allocateAddressesSpec : ChangeSpec := { name := "allocateAddresses", fn := fun _ => fun
  | [d1, d2, d3] => { results := [.lit (.bool true)], args := [d1, d2, d3] }
  | _ => none }
def allocateAddressesRow : OpenClaim := { program := "ytmfghgaboaocgaa", sum := "47e662f30b9a89b15f373efc0dc2c4bae25cbaeae4dc27db3dcc48e92237eb55", func := "ddi/ddilaw47.AllocateAddresses", spec := "allocateAddresses", inPlace := ["math/bits.Add64"], unfollowed := true, recurses := true, plainKeys := false, apart := false }
def AllocateAddressesSaid : Prop := allocateAddressesRow.holds Try.pinned (OpenSpec.ofChange allocateAddressesSpec)

/-- ITS FALSE NEIGHBOUR: 'it returns false'. Refute it at one input. -/
def allocateAddressesWrong : ChangeSpec := { name := "allocateAddresses", fn := fun _ => fun
  | [d1, d2, d3] => { results := [.lit (.bool false)], args := [d1, d2, d3] }
  | _ => none }
def AllocateAddressesWrongFalsely : Prop := allocateAddressesRow.holds Try.pinned (OpenSpec.ofChange allocateAddressesWrong)

/-- 'ddilaw47.AllocateChooses': WHATEVER THE INPUT: true; the input reads as it did. -/
def allocateChoosesSpec : ChangeSpec := { name := "allocateChooses", fn := fun _ => fun
  | [d1, d2] => { results := [.lit (.bool true)], args := [d1, d2] }
  | _ => none }
def allocateChoosesRow : OpenClaim := { program := "ytmfghgaboaocgaa", sum := "47e662f30b9a89b15f373efc0dc2c4bae25cbaeae4dc27db3dcc48e92237eb55", func := "ddi/ddilaw47.AllocateChooses", spec := "allocateChooses", inPlace := ["slices.overlaps[ddi/api.Block]"], unfollowed := true, recurses := true, plainKeys := false, apart := false }
def AllocateChoosesSaid : Prop := allocateChoosesRow.holds Try.pinned (OpenSpec.ofChange allocateChoosesSpec)

/-- ITS FALSE NEIGHBOUR: 'it returns false'. Refute it at one input. -/
def allocateChoosesWrong : ChangeSpec := { name := "allocateChooses", fn := fun _ => fun
  | [d1, d2] => { results := [.lit (.bool false)], args := [d1, d2] }
  | _ => none }
def AllocateChoosesWrongFalsely : Prop := allocateChoosesRow.holds Try.pinned (OpenSpec.ofChange allocateChoosesWrong)

/-- 'ddilaw47.AllocateFree': WHATEVER THE INPUT: true; the input reads as it did. -/
def allocateFreeSpec : ChangeSpec := { name := "allocateFree", fn := fun _ => fun
  | [d1, d2] => { results := [.lit (.bool true)], args := [d1, d2] }
  | _ => none }
def allocateFreeRow : OpenClaim := { program := "ytmfghgaboaocgaa", sum := "47e662f30b9a89b15f373efc0dc2c4bae25cbaeae4dc27db3dcc48e92237eb55", func := "ddi/ddilaw47.AllocateFree", spec := "allocateFree", inPlace := ["slices.overlaps[ddi/api.Block]"], unfollowed := true, recurses := true, plainKeys := false, apart := false }
def AllocateFreeSaid : Prop := allocateFreeRow.holds Try.pinned (OpenSpec.ofChange allocateFreeSpec)

/-- ITS FALSE NEIGHBOUR: 'it returns false'. Refute it at one input. -/
def allocateFreeWrong : ChangeSpec := { name := "allocateFree", fn := fun _ => fun
  | [d1, d2] => { results := [.lit (.bool false)], args := [d1, d2] }
  | _ => none }
def AllocateFreeWrongFalsely : Prop := allocateFreeRow.holds Try.pinned (OpenSpec.ofChange allocateFreeWrong)

/-- 'ddilaw47.AllocateFits': WHATEVER THE INPUT: true; the input reads as it did. -/
def allocateFitsSpec : ChangeSpec := { name := "allocateFits", fn := fun _ => fun
  | [d1, d2, d3] => { results := [.lit (.bool true)], args := [d1, d2, d3] }
  | _ => none }
def allocateFitsRow : OpenClaim := { program := "ytmfghgaboaocgaa", sum := "47e662f30b9a89b15f373efc0dc2c4bae25cbaeae4dc27db3dcc48e92237eb55", func := "ddi/ddilaw47.AllocateFits", spec := "allocateFits", unfollowed := true, recurses := true, plainKeys := false, apart := false }
def AllocateFitsSaid : Prop := allocateFitsRow.holds Try.pinned (OpenSpec.ofChange allocateFitsSpec)

/-- ITS FALSE NEIGHBOUR: 'it returns false'. Refute it at one input. -/
def allocateFitsWrong : ChangeSpec := { name := "allocateFits", fn := fun _ => fun
  | [d1, d2, d3] => { results := [.lit (.bool false)], args := [d1, d2, d3] }
  | _ => none }
def AllocateFitsWrongFalsely : Prop := allocateFitsRow.holds Try.pinned (OpenSpec.ofChange allocateFitsWrong)

/-- 'ddilaw47.AllocateLowest': WHATEVER THE INPUT: true; the input reads as it did. -/
def allocateLowestSpec : ChangeSpec := { name := "allocateLowest", fn := fun _ => fun
  | [d1, d2, d3, d4] => { results := [.lit (.bool true)], args := [d1, d2, d3, d4] }
  | _ => none }
def allocateLowestRow : OpenClaim := { program := "ytmfghgaboaocgaa", sum := "47e662f30b9a89b15f373efc0dc2c4bae25cbaeae4dc27db3dcc48e92237eb55", func := "ddi/ddilaw47.AllocateLowest", spec := "allocateLowest", unfollowed := true, recurses := true, plainKeys := false, apart := false }
def AllocateLowestSaid : Prop := allocateLowestRow.holds Try.pinned (OpenSpec.ofChange allocateLowestSpec)

/-- ITS FALSE NEIGHBOUR: 'it returns false'. Refute it at one input. -/
def allocateLowestWrong : ChangeSpec := { name := "allocateLowest", fn := fun _ => fun
  | [d1, d2, d3, d4] => { results := [.lit (.bool false)], args := [d1, d2, d3, d4] }
  | _ => none }
def AllocateLowestWrongFalsely : Prop := allocateLowestRow.holds Try.pinned (OpenSpec.ofChange allocateLowestWrong)

/-- 'ddilaw47.AllocateFewer': WHATEVER THE INPUT: true; the input reads as it did. -/
def allocateFewerSpec : ChangeSpec := { name := "allocateFewer", fn := fun _ => fun
  | [d1, d2, d3, d4] => { results := [.lit (.bool true)], args := [d1, d2, d3, d4] }
  | _ => none }
def allocateFewerRow : OpenClaim := { program := "ytmfghgaboaocgaa", sum := "47e662f30b9a89b15f373efc0dc2c4bae25cbaeae4dc27db3dcc48e92237eb55", func := "ddi/ddilaw47.AllocateFewer", spec := "allocateFewer", unfollowed := true, recurses := true, plainKeys := false, apart := false }
def AllocateFewerSaid : Prop := allocateFewerRow.holds Try.pinned (OpenSpec.ofChange allocateFewerSpec)

/-- ITS FALSE NEIGHBOUR: 'it returns false'. Refute it at one input. -/
def allocateFewerWrong : ChangeSpec := { name := "allocateFewer", fn := fun _ => fun
  | [d1, d2, d3, d4] => { results := [.lit (.bool false)], args := [d1, d2, d3, d4] }
  | _ => none }
def AllocateFewerWrongFalsely : Prop := allocateFewerRow.holds Try.pinned (OpenSpec.ofChange allocateFewerWrong)

/- THE SECOND FORM. 'bulk': how many values and letters a reading holds, each counted each time it is reached (what is shared counts as often as it is met; a slice's spare places count too). A statement '..UptoSaid' is the law's where the arguments, and the package variables that the reading takes, are together of bulk at most 1048576: NARROWER than '..Said'. Prove '..Said' where nothing that the law and all that it calls make is longer than what came in: it says more and counts as full. Else prove '..UptoSaid'. A law counts once. -/
mutual
def uptoBulk {H : Type} : DataW H → Nat
  | .lit (.string bytes) => bytes.length + 1
  | .lit _ => 1
  | .nil => 1
  | .ptr d => uptoBulk d + 1
  | .slice elems spare => uptoBulkAll elems + uptoBulkAll spare + 1
  | .agg parts => uptoBulkAll parts + 1
  | .iface _ d => uptoBulk d + 1
  | .map entries => uptoBulkEntries entries + 1
  | .held _ => 1
def uptoBulkAll {H : Type} : List (DataW H) → Nat
  | [] => 0
  | d :: r => uptoBulk d + uptoBulkAll r
def uptoBulkEntries {H : Type} : List (Lit × DataW H) → Nat
  | [] => 0
  | x :: r => uptoBulkEntry x + uptoBulkEntries r
def uptoBulkEntry {H : Type} : Lit × DataW H → Nat
  | (.string bytes, d) => bytes.length + uptoBulk d + 1
  | (_, d) => uptoBulk d + 1
 end
def uptoSmall : (H : Type) → List (DataW H) → Bool := fun _ ds => decide (uptoBulkAll ds ≤ 1048576)
def OpenSpec.upto (s : _root_.Go.ChangeSpec) : _root_.Go.OpenSpec := { _root_.Go.OpenSpec.ofChange s with cond := some uptoSmall }

/-- 'ddilaw47.AllocateAddresses', WHERE WHAT IT READS IS OF BULK AT MOST 1048576: true; the input reads as it did. -/
def allocateAddressesUptoRow : OpenClaim := { program := "ytmfghgaboaocgaa", sum := "47e662f30b9a89b15f373efc0dc2c4bae25cbaeae4dc27db3dcc48e92237eb55", func := "ddi/ddilaw47.AllocateAddresses", spec := "allocateAddresses", inPlace := ["math/bits.Add64"], unfollowed := true, recurses := true, plainKeys := false, apart := false, narrowed := true }
def AllocateAddressesUptoSaid : Prop := allocateAddressesUptoRow.holds Try.pinned (OpenSpec.upto allocateAddressesSpec)

/-- 'ddilaw47.AllocateChooses', WHERE WHAT IT READS IS OF BULK AT MOST 1048576: true; the input reads as it did. -/
def allocateChoosesUptoRow : OpenClaim := { program := "ytmfghgaboaocgaa", sum := "47e662f30b9a89b15f373efc0dc2c4bae25cbaeae4dc27db3dcc48e92237eb55", func := "ddi/ddilaw47.AllocateChooses", spec := "allocateChooses", inPlace := ["slices.overlaps[ddi/api.Block]"], unfollowed := true, recurses := true, plainKeys := false, apart := false, narrowed := true }
def AllocateChoosesUptoSaid : Prop := allocateChoosesUptoRow.holds Try.pinned (OpenSpec.upto allocateChoosesSpec)

/-- 'ddilaw47.AllocateFree', WHERE WHAT IT READS IS OF BULK AT MOST 1048576: true; the input reads as it did. -/
def allocateFreeUptoRow : OpenClaim := { program := "ytmfghgaboaocgaa", sum := "47e662f30b9a89b15f373efc0dc2c4bae25cbaeae4dc27db3dcc48e92237eb55", func := "ddi/ddilaw47.AllocateFree", spec := "allocateFree", inPlace := ["slices.overlaps[ddi/api.Block]"], unfollowed := true, recurses := true, plainKeys := false, apart := false, narrowed := true }
def AllocateFreeUptoSaid : Prop := allocateFreeUptoRow.holds Try.pinned (OpenSpec.upto allocateFreeSpec)

/-- 'ddilaw47.AllocateFits', WHERE WHAT IT READS IS OF BULK AT MOST 1048576: true; the input reads as it did. -/
def allocateFitsUptoRow : OpenClaim := { program := "ytmfghgaboaocgaa", sum := "47e662f30b9a89b15f373efc0dc2c4bae25cbaeae4dc27db3dcc48e92237eb55", func := "ddi/ddilaw47.AllocateFits", spec := "allocateFits", unfollowed := true, recurses := true, plainKeys := false, apart := false, narrowed := true }
def AllocateFitsUptoSaid : Prop := allocateFitsUptoRow.holds Try.pinned (OpenSpec.upto allocateFitsSpec)

/-- 'ddilaw47.AllocateLowest', WHERE WHAT IT READS IS OF BULK AT MOST 1048576: true; the input reads as it did. -/
def allocateLowestUptoRow : OpenClaim := { program := "ytmfghgaboaocgaa", sum := "47e662f30b9a89b15f373efc0dc2c4bae25cbaeae4dc27db3dcc48e92237eb55", func := "ddi/ddilaw47.AllocateLowest", spec := "allocateLowest", unfollowed := true, recurses := true, plainKeys := false, apart := false, narrowed := true }
def AllocateLowestUptoSaid : Prop := allocateLowestUptoRow.holds Try.pinned (OpenSpec.upto allocateLowestSpec)

/-- 'ddilaw47.AllocateFewer', WHERE WHAT IT READS IS OF BULK AT MOST 1048576: true; the input reads as it did. -/
def allocateFewerUptoRow : OpenClaim := { program := "ytmfghgaboaocgaa", sum := "47e662f30b9a89b15f373efc0dc2c4bae25cbaeae4dc27db3dcc48e92237eb55", func := "ddi/ddilaw47.AllocateFewer", spec := "allocateFewer", unfollowed := true, recurses := true, plainKeys := false, apart := false, narrowed := true }
def AllocateFewerUptoSaid : Prop := allocateFewerUptoRow.holds Try.pinned (OpenSpec.upto allocateFewerSpec)

end Rows
end Go.Proofs.Ytmfghgaboaocgaa
