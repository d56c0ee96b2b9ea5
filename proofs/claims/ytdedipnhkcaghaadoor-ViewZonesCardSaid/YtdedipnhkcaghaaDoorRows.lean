/-
  NARROWER THAN 'FOR EVERY INPUT', by the rows' own cells (each row's printed sentence says how): ViewMatches: laid · ViewChecks: laid · ViewSelects: laid · ViewFirst: laid · ViewLists: laid · ViewZones: laid.
  DERIVED. THE GIVEN ROWS OF THIS SEAT. 6 by the template 'for every input the law returns true; each argument reads behind the call as it read before'; 0 by the template 'total and deterministic' (their statements: YtdedipnhkcaghaaDoorTotals.lean).
  GIVEN WITH THE SEED: the statements are not yours to turn. If you find one false, say at which input.
  Laid BY PROGRAM, IN A SANDBOX (cutbox-rows.mjs): the forced cells as the released guide's own fill.sh prints them over the translation 5a8cc0038213c167… (all of the seat's roots in one cut). By AI agents, Wed Nov 11 2026. No macro, syntax, notation, axiom, sorry.
-/
import Derived.Test.YtdedipnhkcaghaaDoorChecked
import GoSem.PinnedTables
import GoSem.Claim
import GoSem.ClaimJoined
import GoSem.ClaimMapViews
import Derived.JoinedTies
import Derived.KernelRfl
namespace Go.Proofs.YtdedipnhkcaghaaDoor
/- THE CELL 'sum', in the pinned program and in every row, IS THE sha256 OF THE DUMP (.gsa) THAT YtdedipnhkcaghaaDoorProg.lean LOADS. Nothing in Lean hashes anything: it is a label: what it is worth is what the hold of that sum in a sandbox is worth. -/
noncomputable def Tryd.pinned : Pinned := { name := "ytdedipnhkcaghaadoor", sum := "5a8cc0038213c16765b057246ba33c8b3ce6057e32c50d14ea843a83f44de740", checked := Tryd.checked }
namespace Rows
def none {H : Type} : Left H := { results := [], args := [] }

/- WHAT THE LISTED PACKAGE-LEVEL VARIABLES READ AS WHEN THE CALL BEGINS. Each datum BY PROGRAM (the guide's laid-datum.mjs) off the statement by which the dump's own 'gosem.cut.vars' lays the variable. In a bare row this is a premise. The card (YtdedipnhkcaghaaDoorCards.lean) ties it to the program's text. -/
def laid_unicode_utf8_acceptRanges {H : Type} : DataW H := .agg [.agg [.lit (.int .u8 128), .lit (.int .u8 191)], .agg [.lit (.int .u8 160), .lit (.int .u8 191)], .agg [.lit (.int .u8 128), .lit (.int .u8 159)], .agg [.lit (.int .u8 144), .lit (.int .u8 191)], .agg [.lit (.int .u8 128), .lit (.int .u8 143)], .agg [.lit (.int .u8 0), .lit (.int .u8 0)], .agg [.lit (.int .u8 0), .lit (.int .u8 0)], .agg [.lit (.int .u8 0), .lit (.int .u8 0)], .agg [.lit (.int .u8 0), .lit (.int .u8 0)], .agg [.lit (.int .u8 0), .lit (.int .u8 0)], .agg [.lit (.int .u8 0), .lit (.int .u8 0)], .agg [.lit (.int .u8 0), .lit (.int .u8 0)], .agg [.lit (.int .u8 0), .lit (.int .u8 0)], .agg [.lit (.int .u8 0), .lit (.int .u8 0)], .agg [.lit (.int .u8 0), .lit (.int .u8 0)], .agg [.lit (.int .u8 0), .lit (.int .u8 0)]]
/-- One of Go's own tables, pinned by name: the form's constant. -/
def laid_unicode_utf8_first : DataW Unit := Go.Pinned.utf8First

/-- 'ddilaw25.ViewMatches': WHATEVER THE INPUT: true; the input reads as it did. -/
def viewMatchesSpec : ChangeSpec := { name := "viewMatches", fn := fun _ => fun
  | [d1, d2] => { results := [.lit (.bool true)], args := [d1, d2] }
  | _ => none }
def viewMatchesRow : OpenClaim := { program := "ytdedipnhkcaghaadoor", sum := "5a8cc0038213c16765b057246ba33c8b3ce6057e32c50d14ea843a83f44de740", func := "ddi/ddilaw25.ViewMatches", spec := "viewMatches", inPlace := ["internal/bytealg.CountString", "internal/bytealg.IndexByteString", "internal/bytealg.IndexString"], unfollowed := true, recurses := true, named := ["unicode/utf8.first", "unicode/utf8.acceptRanges", "internal/bytealg.MaxLen"], apart := false, laid := [("unicode/utf8.acceptRanges", laid_unicode_utf8_acceptRanges), ("unicode/utf8.first", laid_unicode_utf8_first)] }
def ViewMatchesSaid : Prop := viewMatchesRow.holds Tryd.pinned (OpenSpec.ofChange viewMatchesSpec)

/-- ITS FALSE NEIGHBOUR: 'it returns false'. Refute it at one input. -/
def viewMatchesWrong : ChangeSpec := { name := "viewMatches", fn := fun _ => fun
  | [d1, d2] => { results := [.lit (.bool false)], args := [d1, d2] }
  | _ => none }
def ViewMatchesWrongFalsely : Prop := viewMatchesRow.holds Tryd.pinned (OpenSpec.ofChange viewMatchesWrong)

/-- 'ddilaw25.ViewChecks': WHATEVER THE INPUT: true; the input reads as it did. -/
def viewChecksSpec : ChangeSpec := { name := "viewChecks", fn := fun _ => fun
  | [d] => { results := [.lit (.bool true)], args := [d] }
  | _ => none }
def viewChecksRow : OpenClaim := { program := "ytdedipnhkcaghaadoor", sum := "5a8cc0038213c16765b057246ba33c8b3ce6057e32c50d14ea843a83f44de740", func := "ddi/ddilaw25.ViewChecks", spec := "viewChecks", inPlace := ["internal/bytealg.CountString", "internal/bytealg.IndexByteString", "internal/bytealg.IndexString"], unfollowed := true, recurses := true, named := ["unicode/utf8.first", "unicode/utf8.acceptRanges", "internal/bytealg.MaxLen"], apart := false, laid := [("unicode/utf8.acceptRanges", laid_unicode_utf8_acceptRanges), ("unicode/utf8.first", laid_unicode_utf8_first)] }
def ViewChecksSaid : Prop := viewChecksRow.holds Tryd.pinned (OpenSpec.ofChange viewChecksSpec)

/-- ITS FALSE NEIGHBOUR: 'it returns false'. Refute it at one input. -/
def viewChecksWrong : ChangeSpec := { name := "viewChecks", fn := fun _ => fun
  | [d] => { results := [.lit (.bool false)], args := [d] }
  | _ => none }
def ViewChecksWrongFalsely : Prop := viewChecksRow.holds Tryd.pinned (OpenSpec.ofChange viewChecksWrong)

/-- 'ddilaw25.ViewSelects': WHATEVER THE INPUT: true; the input reads as it did. -/
def viewSelectsSpec : ChangeSpec := { name := "viewSelects", fn := fun _ => fun
  | [d1, d2, d3] => { results := [.lit (.bool true)], args := [d1, d2, d3] }
  | _ => none }
def viewSelectsRow : OpenClaim := { program := "ytdedipnhkcaghaadoor", sum := "5a8cc0038213c16765b057246ba33c8b3ce6057e32c50d14ea843a83f44de740", func := "ddi/ddilaw25.ViewSelects", spec := "viewSelects", inPlace := ["internal/bytealg.CountString", "internal/bytealg.IndexByteString", "internal/bytealg.IndexString"], unfollowed := true, recurses := true, named := ["unicode/utf8.first", "unicode/utf8.acceptRanges", "internal/bytealg.MaxLen"], apart := false, laid := [("unicode/utf8.acceptRanges", laid_unicode_utf8_acceptRanges), ("unicode/utf8.first", laid_unicode_utf8_first)] }
def ViewSelectsSaid : Prop := viewSelectsRow.holds Tryd.pinned (OpenSpec.ofChange viewSelectsSpec)

/-- ITS FALSE NEIGHBOUR: 'it returns false'. Refute it at one input. -/
def viewSelectsWrong : ChangeSpec := { name := "viewSelects", fn := fun _ => fun
  | [d1, d2, d3] => { results := [.lit (.bool false)], args := [d1, d2, d3] }
  | _ => none }
def ViewSelectsWrongFalsely : Prop := viewSelectsRow.holds Tryd.pinned (OpenSpec.ofChange viewSelectsWrong)

/-- 'ddilaw25.ViewFirst': WHATEVER THE INPUT: true; the input reads as it did. -/
def viewFirstSpec : ChangeSpec := { name := "viewFirst", fn := fun _ => fun
  | [d1, d2, d3] => { results := [.lit (.bool true)], args := [d1, d2, d3] }
  | _ => none }
def viewFirstRow : OpenClaim := { program := "ytdedipnhkcaghaadoor", sum := "5a8cc0038213c16765b057246ba33c8b3ce6057e32c50d14ea843a83f44de740", func := "ddi/ddilaw25.ViewFirst", spec := "viewFirst", inPlace := ["internal/bytealg.CountString", "internal/bytealg.IndexByteString", "internal/bytealg.IndexString"], unfollowed := true, recurses := true, named := ["unicode/utf8.first", "unicode/utf8.acceptRanges", "internal/bytealg.MaxLen"], apart := false, laid := [("unicode/utf8.acceptRanges", laid_unicode_utf8_acceptRanges), ("unicode/utf8.first", laid_unicode_utf8_first)] }
def ViewFirstSaid : Prop := viewFirstRow.holds Tryd.pinned (OpenSpec.ofChange viewFirstSpec)

/-- ITS FALSE NEIGHBOUR: 'it returns false'. Refute it at one input. -/
def viewFirstWrong : ChangeSpec := { name := "viewFirst", fn := fun _ => fun
  | [d1, d2, d3] => { results := [.lit (.bool false)], args := [d1, d2, d3] }
  | _ => none }
def ViewFirstWrongFalsely : Prop := viewFirstRow.holds Tryd.pinned (OpenSpec.ofChange viewFirstWrong)

/-- 'ddilaw25.ViewLists': WHATEVER THE INPUT: true; the input reads as it did. -/
def viewListsSpec : ChangeSpec := { name := "viewLists", fn := fun _ => fun
  | [d1, d2] => { results := [.lit (.bool true)], args := [d1, d2] }
  | _ => none }
def viewListsRow : OpenClaim := { program := "ytdedipnhkcaghaadoor", sum := "5a8cc0038213c16765b057246ba33c8b3ce6057e32c50d14ea843a83f44de740", func := "ddi/ddilaw25.ViewLists", spec := "viewLists", inPlace := ["internal/bytealg.CountString", "internal/bytealg.IndexByteString", "internal/bytealg.IndexString"], unfollowed := true, recurses := true, named := ["unicode/utf8.first", "unicode/utf8.acceptRanges", "internal/bytealg.MaxLen"], apart := false, laid := [("unicode/utf8.acceptRanges", laid_unicode_utf8_acceptRanges), ("unicode/utf8.first", laid_unicode_utf8_first)] }
def ViewListsSaid : Prop := viewListsRow.holds Tryd.pinned (OpenSpec.ofChange viewListsSpec)

/-- ITS FALSE NEIGHBOUR: 'it returns false'. Refute it at one input. -/
def viewListsWrong : ChangeSpec := { name := "viewLists", fn := fun _ => fun
  | [d1, d2] => { results := [.lit (.bool false)], args := [d1, d2] }
  | _ => none }
def ViewListsWrongFalsely : Prop := viewListsRow.holds Tryd.pinned (OpenSpec.ofChange viewListsWrong)

/-- 'ddilaw25.ViewZones': WHATEVER THE INPUT: true; the input reads as it did. -/
def viewZonesSpec : ChangeSpec := { name := "viewZones", fn := fun _ => fun
  | [d1, d2] => { results := [.lit (.bool true)], args := [d1, d2] }
  | _ => none }
def viewZonesRow : OpenClaim := { program := "ytdedipnhkcaghaadoor", sum := "5a8cc0038213c16765b057246ba33c8b3ce6057e32c50d14ea843a83f44de740", func := "ddi/ddilaw25.ViewZones", spec := "viewZones", inPlace := ["internal/bytealg.CountString", "internal/bytealg.IndexByteString", "internal/bytealg.IndexString"], unfollowed := true, recurses := true, named := ["unicode/utf8.first", "unicode/utf8.acceptRanges", "internal/bytealg.MaxLen"], apart := false, laid := [("unicode/utf8.acceptRanges", laid_unicode_utf8_acceptRanges), ("unicode/utf8.first", laid_unicode_utf8_first)] }
def ViewZonesSaid : Prop := viewZonesRow.holds Tryd.pinned (OpenSpec.ofChange viewZonesSpec)

/-- ITS FALSE NEIGHBOUR: 'it returns false'. Refute it at one input. -/
def viewZonesWrong : ChangeSpec := { name := "viewZones", fn := fun _ => fun
  | [d1, d2] => { results := [.lit (.bool false)], args := [d1, d2] }
  | _ => none }
def ViewZonesWrongFalsely : Prop := viewZonesRow.holds Tryd.pinned (OpenSpec.ofChange viewZonesWrong)

/- THE SECOND FORM. 'bulk': how many values and letters a reading holds, each counted each time it is reached (what is shared counts as often as it is met; a slice's spare places count too). A statement '..UptoSaid' is the law's where the arguments, and the package variables that the reading takes, are together of bulk at most 1048576: NARROWER than '..Said'. Prove '..Said' where nothing that the law and all that it calls make is longer than what came in: it says more and counts as full. Else prove '..UptoSaid'. A law counts once. -/
mutual
def uptoBulk {H : Type} : DataW H → Nat
  | .lit (.string bytes) => bytes.length + 1
  | .lit _ => 1
  | .nil => 1
  | .ptr d => uptoBulk d + 1
  | .slice elems spare => uptoBulkAll elems + uptoBulkAll spare + 1
  | .agg parts => uptoBulkAll parts + 1
  | .iface _ d => uptoBulk d + 1
  | .map entries => uptoBulkEntries entries + 1
  | .held _ => 1
def uptoBulkAll {H : Type} : List (DataW H) → Nat
  | [] => 0
  | d :: r => uptoBulk d + uptoBulkAll r
def uptoBulkEntries {H : Type} : List (Lit × DataW H) → Nat
  | [] => 0
  | x :: r => uptoBulkEntry x + uptoBulkEntries r
def uptoBulkEntry {H : Type} : Lit × DataW H → Nat
  | (.string bytes, d) => bytes.length + uptoBulk d + 1
  | (_, d) => uptoBulk d + 1
 end
def uptoSmall : (H : Type) → List (DataW H) → Bool := fun _ ds => decide (uptoBulkAll ds ≤ 1048576)
def OpenSpec.upto (s : _root_.Go.ChangeSpec) : _root_.Go.OpenSpec := { _root_.Go.OpenSpec.ofChange s with cond := some uptoSmall }

/-- 'ddilaw25.ViewMatches', WHERE WHAT IT READS IS OF BULK AT MOST 1048576: true; the input reads as it did. -/
def viewMatchesUptoRow : OpenClaim := { program := "ytdedipnhkcaghaadoor", sum := "5a8cc0038213c16765b057246ba33c8b3ce6057e32c50d14ea843a83f44de740", func := "ddi/ddilaw25.ViewMatches", spec := "viewMatches", inPlace := ["internal/bytealg.CountString", "internal/bytealg.IndexByteString", "internal/bytealg.IndexString"], unfollowed := true, recurses := true, named := ["unicode/utf8.first", "unicode/utf8.acceptRanges", "internal/bytealg.MaxLen"], apart := false, laid := [("unicode/utf8.acceptRanges", laid_unicode_utf8_acceptRanges), ("unicode/utf8.first", laid_unicode_utf8_first)], narrowed := true }
def ViewMatchesUptoSaid : Prop := viewMatchesUptoRow.holds Tryd.pinned (OpenSpec.upto viewMatchesSpec)

/-- 'ddilaw25.ViewChecks', WHERE WHAT IT READS IS OF BULK AT MOST 1048576: true; the input reads as it did. -/
def viewChecksUptoRow : OpenClaim := { program := "ytdedipnhkcaghaadoor", sum := "5a8cc0038213c16765b057246ba33c8b3ce6057e32c50d14ea843a83f44de740", func := "ddi/ddilaw25.ViewChecks", spec := "viewChecks", inPlace := ["internal/bytealg.CountString", "internal/bytealg.IndexByteString", "internal/bytealg.IndexString"], unfollowed := true, recurses := true, named := ["unicode/utf8.first", "unicode/utf8.acceptRanges", "internal/bytealg.MaxLen"], apart := false, laid := [("unicode/utf8.acceptRanges", laid_unicode_utf8_acceptRanges), ("unicode/utf8.first", laid_unicode_utf8_first)], narrowed := true }
def ViewChecksUptoSaid : Prop := viewChecksUptoRow.holds Tryd.pinned (OpenSpec.upto viewChecksSpec)

/-- 'ddilaw25.ViewSelects', WHERE WHAT IT READS IS OF BULK AT MOST 1048576: true; the input reads as it did. -/
def viewSelectsUptoRow : OpenClaim := { program := "ytdedipnhkcaghaadoor", sum := "5a8cc0038213c16765b057246ba33c8b3ce6057e32c50d14ea843a83f44de740", func := "ddi/ddilaw25.ViewSelects", spec := "viewSelects", inPlace := ["internal/bytealg.CountString", "internal/bytealg.IndexByteString", "internal/bytealg.IndexString"], unfollowed := true, recurses := true, named := ["unicode/utf8.first", "unicode/utf8.acceptRanges", "internal/bytealg.MaxLen"], apart := false, laid := [("unicode/utf8.acceptRanges", laid_unicode_utf8_acceptRanges), ("unicode/utf8.first", laid_unicode_utf8_first)], narrowed := true }
def ViewSelectsUptoSaid : Prop := viewSelectsUptoRow.holds Tryd.pinned (OpenSpec.upto viewSelectsSpec)

/-- 'ddilaw25.ViewFirst', WHERE WHAT IT READS IS OF BULK AT MOST 1048576: true; the input reads as it did. -/
def viewFirstUptoRow : OpenClaim := { program := "ytdedipnhkcaghaadoor", sum := "5a8cc0038213c16765b057246ba33c8b3ce6057e32c50d14ea843a83f44de740", func := "ddi/ddilaw25.ViewFirst", spec := "viewFirst", inPlace := ["internal/bytealg.CountString", "internal/bytealg.IndexByteString", "internal/bytealg.IndexString"], unfollowed := true, recurses := true, named := ["unicode/utf8.first", "unicode/utf8.acceptRanges", "internal/bytealg.MaxLen"], apart := false, laid := [("unicode/utf8.acceptRanges", laid_unicode_utf8_acceptRanges), ("unicode/utf8.first", laid_unicode_utf8_first)], narrowed := true }
def ViewFirstUptoSaid : Prop := viewFirstUptoRow.holds Tryd.pinned (OpenSpec.upto viewFirstSpec)

/-- 'ddilaw25.ViewLists', WHERE WHAT IT READS IS OF BULK AT MOST 1048576: true; the input reads as it did. -/
def viewListsUptoRow : OpenClaim := { program := "ytdedipnhkcaghaadoor", sum := "5a8cc0038213c16765b057246ba33c8b3ce6057e32c50d14ea843a83f44de740", func := "ddi/ddilaw25.ViewLists", spec := "viewLists", inPlace := ["internal/bytealg.CountString", "internal/bytealg.IndexByteString", "internal/bytealg.IndexString"], unfollowed := true, recurses := true, named := ["unicode/utf8.first", "unicode/utf8.acceptRanges", "internal/bytealg.MaxLen"], apart := false, laid := [("unicode/utf8.acceptRanges", laid_unicode_utf8_acceptRanges), ("unicode/utf8.first", laid_unicode_utf8_first)], narrowed := true }
def ViewListsUptoSaid : Prop := viewListsUptoRow.holds Tryd.pinned (OpenSpec.upto viewListsSpec)

/-- 'ddilaw25.ViewZones', WHERE WHAT IT READS IS OF BULK AT MOST 1048576: true; the input reads as it did. -/
def viewZonesUptoRow : OpenClaim := { program := "ytdedipnhkcaghaadoor", sum := "5a8cc0038213c16765b057246ba33c8b3ce6057e32c50d14ea843a83f44de740", func := "ddi/ddilaw25.ViewZones", spec := "viewZones", inPlace := ["internal/bytealg.CountString", "internal/bytealg.IndexByteString", "internal/bytealg.IndexString"], unfollowed := true, recurses := true, named := ["unicode/utf8.first", "unicode/utf8.acceptRanges", "internal/bytealg.MaxLen"], apart := false, laid := [("unicode/utf8.acceptRanges", laid_unicode_utf8_acceptRanges), ("unicode/utf8.first", laid_unicode_utf8_first)], narrowed := true }
def ViewZonesUptoSaid : Prop := viewZonesUptoRow.holds Tryd.pinned (OpenSpec.upto viewZonesSpec)

end Rows
end Go.Proofs.YtdedipnhkcaghaaDoor
