/-
  NARROWER THAN 'FOR EVERY INPUT', by the rows' own cells (each row's printed sentence says how): ChangeApplies: laid · ChangeInverts: laid · ChangeRuns: laid · ChangeRebases: laid · ChangeChecks: laid · ChangeUndone: laid · ChangeAtomic: laid · ChangeBetween: laid.
  DERIVED. THE GIVEN ROWS OF THIS SEAT. 8 by the template 'for every input the law returns true; each argument reads behind the call as it read before'; 0 by the template 'total and deterministic' (their statements: YtoaaphlopbabeaaGreatDoorTotals.lean).
  GIVEN WITH THE SEED: the statements are not yours to turn. If you find one false, say at which input.
  Laid BY PROGRAM, IN A SANDBOX (cutbox-rows.mjs): the forced cells as the released guide's own fill.sh prints them over the translation 41fe5443f3def029… (all of the seat's roots in one cut). By AI agents, Wed Nov 11 2026. No macro, syntax, notation, axiom, sorry.
-/
import Derived.Test.YtoaaphlopbabeaaGreatDoorChecked
import GoSem.PinnedTables
import GoSem.Claim
import GoSem.ClaimJoined
import GoSem.ClaimMapViews
import Derived.JoinedTies
import Derived.KernelRfl
namespace Go.Proofs.YtoaaphlopbabeaaGreatDoor
/- THE CELL 'sum', in the pinned program and in every row, IS THE sha256 OF THE DUMP (.gsa) THAT YtoaaphlopbabeaaGreatDoorProg.lean LOADS. Nothing in Lean hashes anything: it is a label: what it is worth is what the hold of that sum in a sandbox is worth. -/
noncomputable def Tryz.pinned : Pinned := { name := "ytoaaphlopbabeaagreatdoor", sum := "41fe5443f3def029f4414a84c4263cee7b8e4df1c7ac51553782ac160fee44b0", checked := Tryz.checked }
namespace Rows
def none {H : Type} : Left H := { results := [], args := [] }

/- WHAT THE LISTED PACKAGE-LEVEL VARIABLES READ AS WHEN THE CALL BEGINS. Each datum BY PROGRAM (the guide's laid-datum.mjs) off the statement by which the dump's own 'gosem.cut.vars' lays the variable. In a bare row this is a premise. The card (YtoaaphlopbabeaaGreatDoorCards.lean) ties it to the program's text. -/
def laid_unicode_utf8_acceptRanges {H : Type} : DataW H := .agg [.agg [.lit (.int .u8 128), .lit (.int .u8 191)], .agg [.lit (.int .u8 160), .lit (.int .u8 191)], .agg [.lit (.int .u8 128), .lit (.int .u8 159)], .agg [.lit (.int .u8 144), .lit (.int .u8 191)], .agg [.lit (.int .u8 128), .lit (.int .u8 143)], .agg [.lit (.int .u8 0), .lit (.int .u8 0)], .agg [.lit (.int .u8 0), .lit (.int .u8 0)], .agg [.lit (.int .u8 0), .lit (.int .u8 0)], .agg [.lit (.int .u8 0), .lit (.int .u8 0)], .agg [.lit (.int .u8 0), .lit (.int .u8 0)], .agg [.lit (.int .u8 0), .lit (.int .u8 0)], .agg [.lit (.int .u8 0), .lit (.int .u8 0)], .agg [.lit (.int .u8 0), .lit (.int .u8 0)], .agg [.lit (.int .u8 0), .lit (.int .u8 0)], .agg [.lit (.int .u8 0), .lit (.int .u8 0)], .agg [.lit (.int .u8 0), .lit (.int .u8 0)]]
/-- One of Go's own tables, pinned by name: the form's constant. -/
def laid_unicode_utf8_first : DataW Unit := Go.Pinned.utf8First

/-- 'ddilaw51.ChangeApplies': WHATEVER THE INPUT: true; the input reads as it did. -/
def changeAppliesSpec : ChangeSpec := { name := "changeApplies", fn := fun _ => fun
  | [d1, d2] => { results := [.lit (.bool true)], args := [d1, d2] }
  | _ => none }
def changeAppliesRow : OpenClaim := { program := "ytoaaphlopbabeaagreatdoor", sum := "41fe5443f3def029f4414a84c4263cee7b8e4df1c7ac51553782ac160fee44b0", func := "ddi/ddilaw51.ChangeApplies", spec := "changeApplies", inPlace := ["slices.overlaps[ddi/api.Block]", "internal/bytealg.CountString", "internal/bytealg.IndexByteString", "internal/bytealg.IndexString", "internal/bytealg.abigen_runtime_cmpstring", "slices.overlaps[ddi/api.Host]"], unfollowed := true, recurses := true, named := ["unicode/utf8.first", "unicode/utf8.acceptRanges", "internal/bytealg.MaxLen"], apart := false, laid := [("unicode/utf8.acceptRanges", laid_unicode_utf8_acceptRanges), ("unicode/utf8.first", laid_unicode_utf8_first)] }
def ChangeAppliesSaid : Prop := changeAppliesRow.holds Tryz.pinned (OpenSpec.ofChange changeAppliesSpec)

/-- ITS FALSE NEIGHBOUR: 'it returns false'. Refute it at one input. -/
def changeAppliesWrong : ChangeSpec := { name := "changeApplies", fn := fun _ => fun
  | [d1, d2] => { results := [.lit (.bool false)], args := [d1, d2] }
  | _ => none }
def ChangeAppliesWrongFalsely : Prop := changeAppliesRow.holds Tryz.pinned (OpenSpec.ofChange changeAppliesWrong)

/-- 'ddilaw51.ChangeInverts': WHATEVER THE INPUT: true; the input reads as it did. -/
def changeInvertsSpec : ChangeSpec := { name := "changeInverts", fn := fun _ => fun
  | [d1, d2] => { results := [.lit (.bool true)], args := [d1, d2] }
  | _ => none }
def changeInvertsRow : OpenClaim := { program := "ytoaaphlopbabeaagreatdoor", sum := "41fe5443f3def029f4414a84c4263cee7b8e4df1c7ac51553782ac160fee44b0", func := "ddi/ddilaw51.ChangeInverts", spec := "changeInverts", inPlace := ["slices.overlaps[ddi/api.Block]", "internal/bytealg.CountString", "internal/bytealg.IndexByteString", "internal/bytealg.IndexString", "internal/bytealg.abigen_runtime_cmpstring", "slices.overlaps[ddi/api.Host]"], unfollowed := true, recurses := true, named := ["unicode/utf8.first", "unicode/utf8.acceptRanges", "internal/bytealg.MaxLen"], apart := false, laid := [("unicode/utf8.acceptRanges", laid_unicode_utf8_acceptRanges), ("unicode/utf8.first", laid_unicode_utf8_first)] }
def ChangeInvertsSaid : Prop := changeInvertsRow.holds Tryz.pinned (OpenSpec.ofChange changeInvertsSpec)

/-- ITS FALSE NEIGHBOUR: 'it returns false'. Refute it at one input. -/
def changeInvertsWrong : ChangeSpec := { name := "changeInverts", fn := fun _ => fun
  | [d1, d2] => { results := [.lit (.bool false)], args := [d1, d2] }
  | _ => none }
def ChangeInvertsWrongFalsely : Prop := changeInvertsRow.holds Tryz.pinned (OpenSpec.ofChange changeInvertsWrong)

/-- 'ddilaw51.ChangeRuns': WHATEVER THE INPUT: true; the input reads as it did. -/
def changeRunsSpec : ChangeSpec := { name := "changeRuns", fn := fun _ => fun
  | [d1, d2] => { results := [.lit (.bool true)], args := [d1, d2] }
  | _ => none }
def changeRunsRow : OpenClaim := { program := "ytoaaphlopbabeaagreatdoor", sum := "41fe5443f3def029f4414a84c4263cee7b8e4df1c7ac51553782ac160fee44b0", func := "ddi/ddilaw51.ChangeRuns", spec := "changeRuns", inPlace := ["slices.overlaps[ddi/api.Block]", "internal/bytealg.CountString", "internal/bytealg.IndexByteString", "internal/bytealg.IndexString", "internal/bytealg.abigen_runtime_cmpstring", "slices.overlaps[ddi/api.Host]"], unfollowed := true, recurses := true, named := ["unicode/utf8.first", "unicode/utf8.acceptRanges", "internal/bytealg.MaxLen"], apart := false, laid := [("unicode/utf8.acceptRanges", laid_unicode_utf8_acceptRanges), ("unicode/utf8.first", laid_unicode_utf8_first)] }
def ChangeRunsSaid : Prop := changeRunsRow.holds Tryz.pinned (OpenSpec.ofChange changeRunsSpec)

/-- ITS FALSE NEIGHBOUR: 'it returns false'. Refute it at one input. -/
def changeRunsWrong : ChangeSpec := { name := "changeRuns", fn := fun _ => fun
  | [d1, d2] => { results := [.lit (.bool false)], args := [d1, d2] }
  | _ => none }
def ChangeRunsWrongFalsely : Prop := changeRunsRow.holds Tryz.pinned (OpenSpec.ofChange changeRunsWrong)

/-- 'ddilaw51.ChangeRebases': WHATEVER THE INPUT: true; the input reads as it did. -/
def changeRebasesSpec : ChangeSpec := { name := "changeRebases", fn := fun _ => fun
  | [d1, d2, d3] => { results := [.lit (.bool true)], args := [d1, d2, d3] }
  | _ => none }
def changeRebasesRow : OpenClaim := { program := "ytoaaphlopbabeaagreatdoor", sum := "41fe5443f3def029f4414a84c4263cee7b8e4df1c7ac51553782ac160fee44b0", func := "ddi/ddilaw51.ChangeRebases", spec := "changeRebases", inPlace := ["slices.overlaps[ddi/api.Block]", "internal/bytealg.CountString", "internal/bytealg.IndexByteString", "internal/bytealg.IndexString", "internal/bytealg.abigen_runtime_cmpstring", "slices.overlaps[ddi/api.Host]"], unfollowed := true, recurses := true, named := ["unicode/utf8.first", "unicode/utf8.acceptRanges", "internal/bytealg.MaxLen"], apart := false, laid := [("unicode/utf8.acceptRanges", laid_unicode_utf8_acceptRanges), ("unicode/utf8.first", laid_unicode_utf8_first)] }
def ChangeRebasesSaid : Prop := changeRebasesRow.holds Tryz.pinned (OpenSpec.ofChange changeRebasesSpec)

/-- ITS FALSE NEIGHBOUR: 'it returns false'. Refute it at one input. -/
def changeRebasesWrong : ChangeSpec := { name := "changeRebases", fn := fun _ => fun
  | [d1, d2, d3] => { results := [.lit (.bool false)], args := [d1, d2, d3] }
  | _ => none }
def ChangeRebasesWrongFalsely : Prop := changeRebasesRow.holds Tryz.pinned (OpenSpec.ofChange changeRebasesWrong)

/-- 'ddilaw51.ChangeChecks': WHATEVER THE INPUT: true; the input reads as it did. -/
def changeChecksSpec : ChangeSpec := { name := "changeChecks", fn := fun _ => fun
  | [d] => { results := [.lit (.bool true)], args := [d] }
  | _ => none }
def changeChecksRow : OpenClaim := { program := "ytoaaphlopbabeaagreatdoor", sum := "41fe5443f3def029f4414a84c4263cee7b8e4df1c7ac51553782ac160fee44b0", func := "ddi/ddilaw51.ChangeChecks", spec := "changeChecks", inPlace := ["slices.overlaps[ddi/api.Block]", "internal/bytealg.CountString", "internal/bytealg.IndexByteString", "internal/bytealg.IndexString", "internal/bytealg.abigen_runtime_cmpstring", "slices.overlaps[ddi/api.Host]"], unfollowed := true, recurses := true, named := ["unicode/utf8.first", "unicode/utf8.acceptRanges", "internal/bytealg.MaxLen"], apart := false, laid := [("unicode/utf8.acceptRanges", laid_unicode_utf8_acceptRanges), ("unicode/utf8.first", laid_unicode_utf8_first)] }
def ChangeChecksSaid : Prop := changeChecksRow.holds Tryz.pinned (OpenSpec.ofChange changeChecksSpec)

/-- ITS FALSE NEIGHBOUR: 'it returns false'. Refute it at one input. -/
def changeChecksWrong : ChangeSpec := { name := "changeChecks", fn := fun _ => fun
  | [d] => { results := [.lit (.bool false)], args := [d] }
  | _ => none }
def ChangeChecksWrongFalsely : Prop := changeChecksRow.holds Tryz.pinned (OpenSpec.ofChange changeChecksWrong)

/-- 'ddilaw51.ChangeUndone': WHATEVER THE INPUT: true; the input reads as it did. -/
def changeUndoneSpec : ChangeSpec := { name := "changeUndone", fn := fun _ => fun
  | [d1, d2] => { results := [.lit (.bool true)], args := [d1, d2] }
  | _ => none }
def changeUndoneRow : OpenClaim := { program := "ytoaaphlopbabeaagreatdoor", sum := "41fe5443f3def029f4414a84c4263cee7b8e4df1c7ac51553782ac160fee44b0", func := "ddi/ddilaw51.ChangeUndone", spec := "changeUndone", inPlace := ["internal/bytealg.CountString", "internal/bytealg.IndexByteString", "internal/bytealg.IndexString", "internal/bytealg.abigen_runtime_cmpstring", "slices.overlaps[ddi/api.Block]", "slices.overlaps[ddi/api.Host]"], unfollowed := true, recurses := true, named := ["unicode/utf8.first", "unicode/utf8.acceptRanges", "internal/bytealg.MaxLen"], apart := false, laid := [("unicode/utf8.acceptRanges", laid_unicode_utf8_acceptRanges), ("unicode/utf8.first", laid_unicode_utf8_first)] }
def ChangeUndoneSaid : Prop := changeUndoneRow.holds Tryz.pinned (OpenSpec.ofChange changeUndoneSpec)

/-- ITS FALSE NEIGHBOUR: 'it returns false'. Refute it at one input. -/
def changeUndoneWrong : ChangeSpec := { name := "changeUndone", fn := fun _ => fun
  | [d1, d2] => { results := [.lit (.bool false)], args := [d1, d2] }
  | _ => none }
def ChangeUndoneWrongFalsely : Prop := changeUndoneRow.holds Tryz.pinned (OpenSpec.ofChange changeUndoneWrong)

/-- 'ddilaw51.ChangeAtomic': WHATEVER THE INPUT: true; the input reads as it did. -/
def changeAtomicSpec : ChangeSpec := { name := "changeAtomic", fn := fun _ => fun
  | [d1, d2] => { results := [.lit (.bool true)], args := [d1, d2] }
  | _ => none }
def changeAtomicRow : OpenClaim := { program := "ytoaaphlopbabeaagreatdoor", sum := "41fe5443f3def029f4414a84c4263cee7b8e4df1c7ac51553782ac160fee44b0", func := "ddi/ddilaw51.ChangeAtomic", spec := "changeAtomic", inPlace := ["internal/bytealg.CountString", "internal/bytealg.IndexByteString", "internal/bytealg.IndexString", "internal/bytealg.abigen_runtime_cmpstring", "slices.overlaps[ddi/api.Block]", "slices.overlaps[ddi/api.Host]"], unfollowed := true, recurses := true, named := ["unicode/utf8.first", "unicode/utf8.acceptRanges", "internal/bytealg.MaxLen"], apart := false, laid := [("unicode/utf8.acceptRanges", laid_unicode_utf8_acceptRanges), ("unicode/utf8.first", laid_unicode_utf8_first)] }
def ChangeAtomicSaid : Prop := changeAtomicRow.holds Tryz.pinned (OpenSpec.ofChange changeAtomicSpec)

/-- ITS FALSE NEIGHBOUR: 'it returns false'. Refute it at one input. -/
def changeAtomicWrong : ChangeSpec := { name := "changeAtomic", fn := fun _ => fun
  | [d1, d2] => { results := [.lit (.bool false)], args := [d1, d2] }
  | _ => none }
def ChangeAtomicWrongFalsely : Prop := changeAtomicRow.holds Tryz.pinned (OpenSpec.ofChange changeAtomicWrong)

/-- 'ddilaw51.ChangeBetween': WHATEVER THE INPUT: true; the input reads as it did. -/
def changeBetweenSpec : ChangeSpec := { name := "changeBetween", fn := fun _ => fun
  | [d1, d2] => { results := [.lit (.bool true)], args := [d1, d2] }
  | _ => none }
def changeBetweenRow : OpenClaim := { program := "ytoaaphlopbabeaagreatdoor", sum := "41fe5443f3def029f4414a84c4263cee7b8e4df1c7ac51553782ac160fee44b0", func := "ddi/ddilaw51.ChangeBetween", spec := "changeBetween", inPlace := ["slices.overlaps[ddi/api.Block]", "internal/bytealg.CountString", "internal/bytealg.IndexByteString", "internal/bytealg.IndexString", "internal/bytealg.abigen_runtime_cmpstring", "slices.overlaps[ddi/api.Host]"], unfollowed := true, recurses := true, named := ["unicode/utf8.first", "unicode/utf8.acceptRanges", "internal/bytealg.MaxLen"], apart := false, laid := [("unicode/utf8.acceptRanges", laid_unicode_utf8_acceptRanges), ("unicode/utf8.first", laid_unicode_utf8_first)] }
def ChangeBetweenSaid : Prop := changeBetweenRow.holds Tryz.pinned (OpenSpec.ofChange changeBetweenSpec)

/-- ITS FALSE NEIGHBOUR: 'it returns false'. Refute it at one input. -/
def changeBetweenWrong : ChangeSpec := { name := "changeBetween", fn := fun _ => fun
  | [d1, d2] => { results := [.lit (.bool false)], args := [d1, d2] }
  | _ => none }
def ChangeBetweenWrongFalsely : Prop := changeBetweenRow.holds Tryz.pinned (OpenSpec.ofChange changeBetweenWrong)

/- THE SECOND FORM. 'bulk': how many values and letters a reading holds, each counted each time it is reached (what is shared counts as often as it is met; a slice's spare places count too). A statement '..UptoSaid' is the law's where the arguments, and the package variables that the reading takes, are together of bulk at most 1048576: NARROWER than '..Said'. Prove '..Said' where nothing that the law and all that it calls make is longer than what came in: it says more and counts as full. Else prove '..UptoSaid'. A law counts once. -/
mutual
def uptoBulk {H : Type} : DataW H → Nat
  | .lit (.string bytes) => bytes.length + 1
  | .lit _ => 1
  | .nil => 1
  | .ptr d => uptoBulk d + 1
  | .slice elems spare => uptoBulkAll elems + uptoBulkAll spare + 1
  | .agg parts => uptoBulkAll parts + 1
  | .iface _ d => uptoBulk d + 1
  | .map entries => uptoBulkEntries entries + 1
  | .held _ => 1
def uptoBulkAll {H : Type} : List (DataW H) → Nat
  | [] => 0
  | d :: r => uptoBulk d + uptoBulkAll r
def uptoBulkEntries {H : Type} : List (Lit × DataW H) → Nat
  | [] => 0
  | x :: r => uptoBulkEntry x + uptoBulkEntries r
def uptoBulkEntry {H : Type} : Lit × DataW H → Nat
  | (.string bytes, d) => bytes.length + uptoBulk d + 1
  | (_, d) => uptoBulk d + 1
 end
def uptoSmall : (H : Type) → List (DataW H) → Bool := fun _ ds => decide (uptoBulkAll ds ≤ 1048576)
def OpenSpec.upto (s : _root_.Go.ChangeSpec) : _root_.Go.OpenSpec := { _root_.Go.OpenSpec.ofChange s with cond := some uptoSmall }

/-- 'ddilaw51.ChangeApplies', WHERE WHAT IT READS IS OF BULK AT MOST 1048576: true; the input reads as it did. -/
def changeAppliesUptoRow : OpenClaim := { program := "ytoaaphlopbabeaagreatdoor", sum := "41fe5443f3def029f4414a84c4263cee7b8e4df1c7ac51553782ac160fee44b0", func := "ddi/ddilaw51.ChangeApplies", spec := "changeApplies", inPlace := ["slices.overlaps[ddi/api.Block]", "internal/bytealg.CountString", "internal/bytealg.IndexByteString", "internal/bytealg.IndexString", "internal/bytealg.abigen_runtime_cmpstring", "slices.overlaps[ddi/api.Host]"], unfollowed := true, recurses := true, named := ["unicode/utf8.first", "unicode/utf8.acceptRanges", "internal/bytealg.MaxLen"], apart := false, laid := [("unicode/utf8.acceptRanges", laid_unicode_utf8_acceptRanges), ("unicode/utf8.first", laid_unicode_utf8_first)], narrowed := true }
def ChangeAppliesUptoSaid : Prop := changeAppliesUptoRow.holds Tryz.pinned (OpenSpec.upto changeAppliesSpec)

/-- 'ddilaw51.ChangeInverts', WHERE WHAT IT READS IS OF BULK AT MOST 1048576: true; the input reads as it did. -/
def changeInvertsUptoRow : OpenClaim := { program := "ytoaaphlopbabeaagreatdoor", sum := "41fe5443f3def029f4414a84c4263cee7b8e4df1c7ac51553782ac160fee44b0", func := "ddi/ddilaw51.ChangeInverts", spec := "changeInverts", inPlace := ["slices.overlaps[ddi/api.Block]", "internal/bytealg.CountString", "internal/bytealg.IndexByteString", "internal/bytealg.IndexString", "internal/bytealg.abigen_runtime_cmpstring", "slices.overlaps[ddi/api.Host]"], unfollowed := true, recurses := true, named := ["unicode/utf8.first", "unicode/utf8.acceptRanges", "internal/bytealg.MaxLen"], apart := false, laid := [("unicode/utf8.acceptRanges", laid_unicode_utf8_acceptRanges), ("unicode/utf8.first", laid_unicode_utf8_first)], narrowed := true }
def ChangeInvertsUptoSaid : Prop := changeInvertsUptoRow.holds Tryz.pinned (OpenSpec.upto changeInvertsSpec)

/-- 'ddilaw51.ChangeRuns', WHERE WHAT IT READS IS OF BULK AT MOST 1048576: true; the input reads as it did. -/
def changeRunsUptoRow : OpenClaim := { program := "ytoaaphlopbabeaagreatdoor", sum := "41fe5443f3def029f4414a84c4263cee7b8e4df1c7ac51553782ac160fee44b0", func := "ddi/ddilaw51.ChangeRuns", spec := "changeRuns", inPlace := ["slices.overlaps[ddi/api.Block]", "internal/bytealg.CountString", "internal/bytealg.IndexByteString", "internal/bytealg.IndexString", "internal/bytealg.abigen_runtime_cmpstring", "slices.overlaps[ddi/api.Host]"], unfollowed := true, recurses := true, named := ["unicode/utf8.first", "unicode/utf8.acceptRanges", "internal/bytealg.MaxLen"], apart := false, laid := [("unicode/utf8.acceptRanges", laid_unicode_utf8_acceptRanges), ("unicode/utf8.first", laid_unicode_utf8_first)], narrowed := true }
def ChangeRunsUptoSaid : Prop := changeRunsUptoRow.holds Tryz.pinned (OpenSpec.upto changeRunsSpec)

/-- 'ddilaw51.ChangeRebases', WHERE WHAT IT READS IS OF BULK AT MOST 1048576: true; the input reads as it did. -/
def changeRebasesUptoRow : OpenClaim := { program := "ytoaaphlopbabeaagreatdoor", sum := "41fe5443f3def029f4414a84c4263cee7b8e4df1c7ac51553782ac160fee44b0", func := "ddi/ddilaw51.ChangeRebases", spec := "changeRebases", inPlace := ["slices.overlaps[ddi/api.Block]", "internal/bytealg.CountString", "internal/bytealg.IndexByteString", "internal/bytealg.IndexString", "internal/bytealg.abigen_runtime_cmpstring", "slices.overlaps[ddi/api.Host]"], unfollowed := true, recurses := true, named := ["unicode/utf8.first", "unicode/utf8.acceptRanges", "internal/bytealg.MaxLen"], apart := false, laid := [("unicode/utf8.acceptRanges", laid_unicode_utf8_acceptRanges), ("unicode/utf8.first", laid_unicode_utf8_first)], narrowed := true }
def ChangeRebasesUptoSaid : Prop := changeRebasesUptoRow.holds Tryz.pinned (OpenSpec.upto changeRebasesSpec)

/-- 'ddilaw51.ChangeChecks', WHERE WHAT IT READS IS OF BULK AT MOST 1048576: true; the input reads as it did. -/
def changeChecksUptoRow : OpenClaim := { program := "ytoaaphlopbabeaagreatdoor", sum := "41fe5443f3def029f4414a84c4263cee7b8e4df1c7ac51553782ac160fee44b0", func := "ddi/ddilaw51.ChangeChecks", spec := "changeChecks", inPlace := ["slices.overlaps[ddi/api.Block]", "internal/bytealg.CountString", "internal/bytealg.IndexByteString", "internal/bytealg.IndexString", "internal/bytealg.abigen_runtime_cmpstring", "slices.overlaps[ddi/api.Host]"], unfollowed := true, recurses := true, named := ["unicode/utf8.first", "unicode/utf8.acceptRanges", "internal/bytealg.MaxLen"], apart := false, laid := [("unicode/utf8.acceptRanges", laid_unicode_utf8_acceptRanges), ("unicode/utf8.first", laid_unicode_utf8_first)], narrowed := true }
def ChangeChecksUptoSaid : Prop := changeChecksUptoRow.holds Tryz.pinned (OpenSpec.upto changeChecksSpec)

/-- 'ddilaw51.ChangeUndone', WHERE WHAT IT READS IS OF BULK AT MOST 1048576: true; the input reads as it did. -/
def changeUndoneUptoRow : OpenClaim := { program := "ytoaaphlopbabeaagreatdoor", sum := "41fe5443f3def029f4414a84c4263cee7b8e4df1c7ac51553782ac160fee44b0", func := "ddi/ddilaw51.ChangeUndone", spec := "changeUndone", inPlace := ["internal/bytealg.CountString", "internal/bytealg.IndexByteString", "internal/bytealg.IndexString", "internal/bytealg.abigen_runtime_cmpstring", "slices.overlaps[ddi/api.Block]", "slices.overlaps[ddi/api.Host]"], unfollowed := true, recurses := true, named := ["unicode/utf8.first", "unicode/utf8.acceptRanges", "internal/bytealg.MaxLen"], apart := false, laid := [("unicode/utf8.acceptRanges", laid_unicode_utf8_acceptRanges), ("unicode/utf8.first", laid_unicode_utf8_first)], narrowed := true }
def ChangeUndoneUptoSaid : Prop := changeUndoneUptoRow.holds Tryz.pinned (OpenSpec.upto changeUndoneSpec)

/-- 'ddilaw51.ChangeAtomic', WHERE WHAT IT READS IS OF BULK AT MOST 1048576: true; the input reads as it did. -/
def changeAtomicUptoRow : OpenClaim := { program := "ytoaaphlopbabeaagreatdoor", sum := "41fe5443f3def029f4414a84c4263cee7b8e4df1c7ac51553782ac160fee44b0", func := "ddi/ddilaw51.ChangeAtomic", spec := "changeAtomic", inPlace := ["internal/bytealg.CountString", "internal/bytealg.IndexByteString", "internal/bytealg.IndexString", "internal/bytealg.abigen_runtime_cmpstring", "slices.overlaps[ddi/api.Block]", "slices.overlaps[ddi/api.Host]"], unfollowed := true, recurses := true, named := ["unicode/utf8.first", "unicode/utf8.acceptRanges", "internal/bytealg.MaxLen"], apart := false, laid := [("unicode/utf8.acceptRanges", laid_unicode_utf8_acceptRanges), ("unicode/utf8.first", laid_unicode_utf8_first)], narrowed := true }
def ChangeAtomicUptoSaid : Prop := changeAtomicUptoRow.holds Tryz.pinned (OpenSpec.upto changeAtomicSpec)

/-- 'ddilaw51.ChangeBetween', WHERE WHAT IT READS IS OF BULK AT MOST 1048576: true; the input reads as it did. -/
def changeBetweenUptoRow : OpenClaim := { program := "ytoaaphlopbabeaagreatdoor", sum := "41fe5443f3def029f4414a84c4263cee7b8e4df1c7ac51553782ac160fee44b0", func := "ddi/ddilaw51.ChangeBetween", spec := "changeBetween", inPlace := ["slices.overlaps[ddi/api.Block]", "internal/bytealg.CountString", "internal/bytealg.IndexByteString", "internal/bytealg.IndexString", "internal/bytealg.abigen_runtime_cmpstring", "slices.overlaps[ddi/api.Host]"], unfollowed := true, recurses := true, named := ["unicode/utf8.first", "unicode/utf8.acceptRanges", "internal/bytealg.MaxLen"], apart := false, laid := [("unicode/utf8.acceptRanges", laid_unicode_utf8_acceptRanges), ("unicode/utf8.first", laid_unicode_utf8_first)], narrowed := true }
def ChangeBetweenUptoSaid : Prop := changeBetweenUptoRow.holds Tryz.pinned (OpenSpec.upto changeBetweenSpec)

end Rows
end Go.Proofs.YtoaaphlopbabeaaGreatDoor
