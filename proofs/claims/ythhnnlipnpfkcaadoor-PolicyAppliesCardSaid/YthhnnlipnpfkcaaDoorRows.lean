/-
  NARROWER THAN 'FOR EVERY INPUT', by the rows' own cells (each row's printed sentence says how): PolicyTriggers: laid · PolicyChecks: laid · PolicyApplies: laid · PolicyUntouched: laid · PolicyReplaced: laid.
  DERIVED. THE GIVEN ROWS OF THIS SEAT. 5 by the template 'for every input the law returns true; each argument reads behind the call as it read before'; 0 by the template 'total and deterministic' (their statements: YthhnnlipnpfkcaaDoorTotals.lean).
  GIVEN WITH THE SEED: the statements are not yours to turn. If you find one false, say at which input.
  Laid BY PROGRAM, IN A SANDBOX (cutbox-rows.mjs): the forced cells as the released guide's own fill.sh prints them over the translation 0f8f3f87a5c6c8de… (all of the seat's roots in one cut). By AI agents, Wed Nov 11 2026. No macro, syntax, notation, axiom, sorry.
-/
import Derived.Test.YthhnnlipnpfkcaaDoorChecked
import GoSem.PinnedTables
import GoSem.Claim
import GoSem.ClaimJoined
import GoSem.ClaimMapViews
import Derived.JoinedTies
import Derived.KernelRfl
namespace Go.Proofs.YthhnnlipnpfkcaaDoor
/- THE CELL 'sum', in the pinned program and in every row, IS THE sha256 OF THE DUMP (.gsa) THAT YthhnnlipnpfkcaaDoorProg.lean LOADS. Nothing in Lean hashes anything: it is a label: what it is worth is what the hold of that sum in a sandbox is worth. -/
noncomputable def Tryd.pinned : Pinned := { name := "ythhnnlipnpfkcaadoor", sum := "0f8f3f87a5c6c8de8f54c66fe841119d3005f3c8149df3cacf66a140aa40d9e8", checked := Tryd.checked }
namespace Rows
def none {H : Type} : Left H := { results := [], args := [] }

/- WHAT THE LISTED PACKAGE-LEVEL VARIABLES READ AS WHEN THE CALL BEGINS. Each datum BY PROGRAM (the guide's laid-datum.mjs) off the statement by which the dump's own 'gosem.cut.vars' lays the variable. In a bare row this is a premise. The card (YthhnnlipnpfkcaaDoorCards.lean) ties it to the program's text. -/
def laid_unicode_utf8_acceptRanges {H : Type} : DataW H := .agg [.agg [.lit (.int .u8 128), .lit (.int .u8 191)], .agg [.lit (.int .u8 160), .lit (.int .u8 191)], .agg [.lit (.int .u8 128), .lit (.int .u8 159)], .agg [.lit (.int .u8 144), .lit (.int .u8 191)], .agg [.lit (.int .u8 128), .lit (.int .u8 143)], .agg [.lit (.int .u8 0), .lit (.int .u8 0)], .agg [.lit (.int .u8 0), .lit (.int .u8 0)], .agg [.lit (.int .u8 0), .lit (.int .u8 0)], .agg [.lit (.int .u8 0), .lit (.int .u8 0)], .agg [.lit (.int .u8 0), .lit (.int .u8 0)], .agg [.lit (.int .u8 0), .lit (.int .u8 0)], .agg [.lit (.int .u8 0), .lit (.int .u8 0)], .agg [.lit (.int .u8 0), .lit (.int .u8 0)], .agg [.lit (.int .u8 0), .lit (.int .u8 0)], .agg [.lit (.int .u8 0), .lit (.int .u8 0)], .agg [.lit (.int .u8 0), .lit (.int .u8 0)]]
/-- One of Go's own tables, pinned by name: the form's constant. -/
def laid_unicode_utf8_first : DataW Unit := Go.Pinned.utf8First

/-- 'ddilaw26.PolicyTriggers': WHATEVER THE INPUT: true; the input reads as it did. -/
def policyTriggersSpec : ChangeSpec := { name := "policyTriggers", fn := fun _ => fun
  | [d1, d2] => { results := [.lit (.bool true)], args := [d1, d2] }
  | _ => none }
def policyTriggersRow : OpenClaim := { program := "ythhnnlipnpfkcaadoor", sum := "0f8f3f87a5c6c8de8f54c66fe841119d3005f3c8149df3cacf66a140aa40d9e8", func := "ddi/ddilaw26.PolicyTriggers", spec := "policyTriggers", inPlace := ["internal/bytealg.CountString", "internal/bytealg.IndexByteString", "internal/bytealg.IndexString"], unfollowed := true, recurses := true, named := ["unicode/utf8.first", "unicode/utf8.acceptRanges", "internal/bytealg.MaxLen"], apart := false, laid := [("unicode/utf8.acceptRanges", laid_unicode_utf8_acceptRanges), ("unicode/utf8.first", laid_unicode_utf8_first)] }
def PolicyTriggersSaid : Prop := policyTriggersRow.holds Tryd.pinned (OpenSpec.ofChange policyTriggersSpec)

/-- ITS FALSE NEIGHBOUR: 'it returns false'. Refute it at one input. -/
def policyTriggersWrong : ChangeSpec := { name := "policyTriggers", fn := fun _ => fun
  | [d1, d2] => { results := [.lit (.bool false)], args := [d1, d2] }
  | _ => none }
def PolicyTriggersWrongFalsely : Prop := policyTriggersRow.holds Tryd.pinned (OpenSpec.ofChange policyTriggersWrong)

/-- 'ddilaw26.PolicyChecks': WHATEVER THE INPUT: true; the input reads as it did. -/
def policyChecksSpec : ChangeSpec := { name := "policyChecks", fn := fun _ => fun
  | [d] => { results := [.lit (.bool true)], args := [d] }
  | _ => none }
def policyChecksRow : OpenClaim := { program := "ythhnnlipnpfkcaadoor", sum := "0f8f3f87a5c6c8de8f54c66fe841119d3005f3c8149df3cacf66a140aa40d9e8", func := "ddi/ddilaw26.PolicyChecks", spec := "policyChecks", inPlace := ["internal/bytealg.CountString", "internal/bytealg.IndexByteString", "internal/bytealg.IndexString"], unfollowed := true, recurses := true, named := ["unicode/utf8.first", "unicode/utf8.acceptRanges", "internal/bytealg.MaxLen"], apart := false, laid := [("unicode/utf8.acceptRanges", laid_unicode_utf8_acceptRanges), ("unicode/utf8.first", laid_unicode_utf8_first)] }
def PolicyChecksSaid : Prop := policyChecksRow.holds Tryd.pinned (OpenSpec.ofChange policyChecksSpec)

/-- ITS FALSE NEIGHBOUR: 'it returns false'. Refute it at one input. -/
def policyChecksWrong : ChangeSpec := { name := "policyChecks", fn := fun _ => fun
  | [d] => { results := [.lit (.bool false)], args := [d] }
  | _ => none }
def PolicyChecksWrongFalsely : Prop := policyChecksRow.holds Tryd.pinned (OpenSpec.ofChange policyChecksWrong)

/-- 'ddilaw26.PolicyApplies': WHATEVER THE INPUT: true; the input reads as it did. -/
def policyAppliesSpec : ChangeSpec := { name := "policyApplies", fn := fun _ => fun
  | [d1, d2, d3] => { results := [.lit (.bool true)], args := [d1, d2, d3] }
  | _ => none }
def policyAppliesRow : OpenClaim := { program := "ythhnnlipnpfkcaadoor", sum := "0f8f3f87a5c6c8de8f54c66fe841119d3005f3c8149df3cacf66a140aa40d9e8", func := "ddi/ddilaw26.PolicyApplies", spec := "policyApplies", inPlace := ["internal/bytealg.CountString", "internal/bytealg.IndexByteString", "internal/bytealg.IndexString"], unfollowed := true, recurses := true, named := ["unicode/utf8.first", "unicode/utf8.acceptRanges", "internal/bytealg.MaxLen"], apart := false, laid := [("unicode/utf8.acceptRanges", laid_unicode_utf8_acceptRanges), ("unicode/utf8.first", laid_unicode_utf8_first)] }
def PolicyAppliesSaid : Prop := policyAppliesRow.holds Tryd.pinned (OpenSpec.ofChange policyAppliesSpec)

/-- ITS FALSE NEIGHBOUR: 'it returns false'. Refute it at one input. -/
def policyAppliesWrong : ChangeSpec := { name := "policyApplies", fn := fun _ => fun
  | [d1, d2, d3] => { results := [.lit (.bool false)], args := [d1, d2, d3] }
  | _ => none }
def PolicyAppliesWrongFalsely : Prop := policyAppliesRow.holds Tryd.pinned (OpenSpec.ofChange policyAppliesWrong)

/-- 'ddilaw26.PolicyUntouched': WHATEVER THE INPUT: true; the input reads as it did. -/
def policyUntouchedSpec : ChangeSpec := { name := "policyUntouched", fn := fun _ => fun
  | [d1, d2, d3] => { results := [.lit (.bool true)], args := [d1, d2, d3] }
  | _ => none }
def policyUntouchedRow : OpenClaim := { program := "ythhnnlipnpfkcaadoor", sum := "0f8f3f87a5c6c8de8f54c66fe841119d3005f3c8149df3cacf66a140aa40d9e8", func := "ddi/ddilaw26.PolicyUntouched", spec := "policyUntouched", inPlace := ["internal/bytealg.CountString", "internal/bytealg.IndexByteString", "internal/bytealg.IndexString"], unfollowed := true, recurses := true, named := ["unicode/utf8.first", "unicode/utf8.acceptRanges", "internal/bytealg.MaxLen"], apart := false, laid := [("unicode/utf8.acceptRanges", laid_unicode_utf8_acceptRanges), ("unicode/utf8.first", laid_unicode_utf8_first)] }
def PolicyUntouchedSaid : Prop := policyUntouchedRow.holds Tryd.pinned (OpenSpec.ofChange policyUntouchedSpec)

/-- ITS FALSE NEIGHBOUR: 'it returns false'. Refute it at one input. -/
def policyUntouchedWrong : ChangeSpec := { name := "policyUntouched", fn := fun _ => fun
  | [d1, d2, d3] => { results := [.lit (.bool false)], args := [d1, d2, d3] }
  | _ => none }
def PolicyUntouchedWrongFalsely : Prop := policyUntouchedRow.holds Tryd.pinned (OpenSpec.ofChange policyUntouchedWrong)

/-- 'ddilaw26.PolicyReplaced': WHATEVER THE INPUT: true; the input reads as it did. -/
def policyReplacedSpec : ChangeSpec := { name := "policyReplaced", fn := fun _ => fun
  | [d1, d2, d3] => { results := [.lit (.bool true)], args := [d1, d2, d3] }
  | _ => none }
def policyReplacedRow : OpenClaim := { program := "ythhnnlipnpfkcaadoor", sum := "0f8f3f87a5c6c8de8f54c66fe841119d3005f3c8149df3cacf66a140aa40d9e8", func := "ddi/ddilaw26.PolicyReplaced", spec := "policyReplaced", inPlace := ["internal/bytealg.CountString", "internal/bytealg.IndexByteString", "internal/bytealg.IndexString"], unfollowed := true, recurses := true, named := ["unicode/utf8.first", "unicode/utf8.acceptRanges", "internal/bytealg.MaxLen"], apart := false, laid := [("unicode/utf8.acceptRanges", laid_unicode_utf8_acceptRanges), ("unicode/utf8.first", laid_unicode_utf8_first)] }
def PolicyReplacedSaid : Prop := policyReplacedRow.holds Tryd.pinned (OpenSpec.ofChange policyReplacedSpec)

/-- ITS FALSE NEIGHBOUR: 'it returns false'. Refute it at one input. -/
def policyReplacedWrong : ChangeSpec := { name := "policyReplaced", fn := fun _ => fun
  | [d1, d2, d3] => { results := [.lit (.bool false)], args := [d1, d2, d3] }
  | _ => none }
def PolicyReplacedWrongFalsely : Prop := policyReplacedRow.holds Tryd.pinned (OpenSpec.ofChange policyReplacedWrong)

/- THE SECOND FORM. 'bulk': how many values and letters a reading holds, each counted each time it is reached (what is shared counts as often as it is met; a slice's spare places count too). A statement '..UptoSaid' is the law's where the arguments, and the package variables that the reading takes, are together of bulk at most 1048576: NARROWER than '..Said'. Prove '..Said' where nothing that the law and all that it calls make is longer than what came in: it says more and counts as full. Else prove '..UptoSaid'. A law counts once. -/
mutual
def uptoBulk {H : Type} : DataW H → Nat
  | .lit (.string bytes) => bytes.length + 1
  | .lit _ => 1
  | .nil => 1
  | .ptr d => uptoBulk d + 1
  | .slice elems spare => uptoBulkAll elems + uptoBulkAll spare + 1
  | .agg parts => uptoBulkAll parts + 1
  | .iface _ d => uptoBulk d + 1
  | .map entries => uptoBulkEntries entries + 1
  | .held _ => 1
def uptoBulkAll {H : Type} : List (DataW H) → Nat
  | [] => 0
  | d :: r => uptoBulk d + uptoBulkAll r
def uptoBulkEntries {H : Type} : List (Lit × DataW H) → Nat
  | [] => 0
  | x :: r => uptoBulkEntry x + uptoBulkEntries r
def uptoBulkEntry {H : Type} : Lit × DataW H → Nat
  | (.string bytes, d) => bytes.length + uptoBulk d + 1
  | (_, d) => uptoBulk d + 1
 end
def uptoSmall : (H : Type) → List (DataW H) → Bool := fun _ ds => decide (uptoBulkAll ds ≤ 1048576)
def OpenSpec.upto (s : _root_.Go.ChangeSpec) : _root_.Go.OpenSpec := { _root_.Go.OpenSpec.ofChange s with cond := some uptoSmall }

/-- 'ddilaw26.PolicyTriggers', WHERE WHAT IT READS IS OF BULK AT MOST 1048576: true; the input reads as it did. -/
def policyTriggersUptoRow : OpenClaim := { program := "ythhnnlipnpfkcaadoor", sum := "0f8f3f87a5c6c8de8f54c66fe841119d3005f3c8149df3cacf66a140aa40d9e8", func := "ddi/ddilaw26.PolicyTriggers", spec := "policyTriggers", inPlace := ["internal/bytealg.CountString", "internal/bytealg.IndexByteString", "internal/bytealg.IndexString"], unfollowed := true, recurses := true, named := ["unicode/utf8.first", "unicode/utf8.acceptRanges", "internal/bytealg.MaxLen"], apart := false, laid := [("unicode/utf8.acceptRanges", laid_unicode_utf8_acceptRanges), ("unicode/utf8.first", laid_unicode_utf8_first)], narrowed := true }
def PolicyTriggersUptoSaid : Prop := policyTriggersUptoRow.holds Tryd.pinned (OpenSpec.upto policyTriggersSpec)

/-- 'ddilaw26.PolicyChecks', WHERE WHAT IT READS IS OF BULK AT MOST 1048576: true; the input reads as it did. -/
def policyChecksUptoRow : OpenClaim := { program := "ythhnnlipnpfkcaadoor", sum := "0f8f3f87a5c6c8de8f54c66fe841119d3005f3c8149df3cacf66a140aa40d9e8", func := "ddi/ddilaw26.PolicyChecks", spec := "policyChecks", inPlace := ["internal/bytealg.CountString", "internal/bytealg.IndexByteString", "internal/bytealg.IndexString"], unfollowed := true, recurses := true, named := ["unicode/utf8.first", "unicode/utf8.acceptRanges", "internal/bytealg.MaxLen"], apart := false, laid := [("unicode/utf8.acceptRanges", laid_unicode_utf8_acceptRanges), ("unicode/utf8.first", laid_unicode_utf8_first)], narrowed := true }
def PolicyChecksUptoSaid : Prop := policyChecksUptoRow.holds Tryd.pinned (OpenSpec.upto policyChecksSpec)

/-- 'ddilaw26.PolicyApplies', WHERE WHAT IT READS IS OF BULK AT MOST 1048576: true; the input reads as it did. -/
def policyAppliesUptoRow : OpenClaim := { program := "ythhnnlipnpfkcaadoor", sum := "0f8f3f87a5c6c8de8f54c66fe841119d3005f3c8149df3cacf66a140aa40d9e8", func := "ddi/ddilaw26.PolicyApplies", spec := "policyApplies", inPlace := ["internal/bytealg.CountString", "internal/bytealg.IndexByteString", "internal/bytealg.IndexString"], unfollowed := true, recurses := true, named := ["unicode/utf8.first", "unicode/utf8.acceptRanges", "internal/bytealg.MaxLen"], apart := false, laid := [("unicode/utf8.acceptRanges", laid_unicode_utf8_acceptRanges), ("unicode/utf8.first", laid_unicode_utf8_first)], narrowed := true }
def PolicyAppliesUptoSaid : Prop := policyAppliesUptoRow.holds Tryd.pinned (OpenSpec.upto policyAppliesSpec)

/-- 'ddilaw26.PolicyUntouched', WHERE WHAT IT READS IS OF BULK AT MOST 1048576: true; the input reads as it did. -/
def policyUntouchedUptoRow : OpenClaim := { program := "ythhnnlipnpfkcaadoor", sum := "0f8f3f87a5c6c8de8f54c66fe841119d3005f3c8149df3cacf66a140aa40d9e8", func := "ddi/ddilaw26.PolicyUntouched", spec := "policyUntouched", inPlace := ["internal/bytealg.CountString", "internal/bytealg.IndexByteString", "internal/bytealg.IndexString"], unfollowed := true, recurses := true, named := ["unicode/utf8.first", "unicode/utf8.acceptRanges", "internal/bytealg.MaxLen"], apart := false, laid := [("unicode/utf8.acceptRanges", laid_unicode_utf8_acceptRanges), ("unicode/utf8.first", laid_unicode_utf8_first)], narrowed := true }
def PolicyUntouchedUptoSaid : Prop := policyUntouchedUptoRow.holds Tryd.pinned (OpenSpec.upto policyUntouchedSpec)

/-- 'ddilaw26.PolicyReplaced', WHERE WHAT IT READS IS OF BULK AT MOST 1048576: true; the input reads as it did. -/
def policyReplacedUptoRow : OpenClaim := { program := "ythhnnlipnpfkcaadoor", sum := "0f8f3f87a5c6c8de8f54c66fe841119d3005f3c8149df3cacf66a140aa40d9e8", func := "ddi/ddilaw26.PolicyReplaced", spec := "policyReplaced", inPlace := ["internal/bytealg.CountString", "internal/bytealg.IndexByteString", "internal/bytealg.IndexString"], unfollowed := true, recurses := true, named := ["unicode/utf8.first", "unicode/utf8.acceptRanges", "internal/bytealg.MaxLen"], apart := false, laid := [("unicode/utf8.acceptRanges", laid_unicode_utf8_acceptRanges), ("unicode/utf8.first", laid_unicode_utf8_first)], narrowed := true }
def PolicyReplacedUptoSaid : Prop := policyReplacedUptoRow.holds Tryd.pinned (OpenSpec.upto policyReplacedSpec)

end Rows
end Go.Proofs.YthhnnlipnpfkcaaDoor
