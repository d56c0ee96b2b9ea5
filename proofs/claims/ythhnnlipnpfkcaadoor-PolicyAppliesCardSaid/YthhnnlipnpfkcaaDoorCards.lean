/-
  DERIVED. GIVEN WITH THE SEED: THE CARDS: each row of YthhnnlipnpfkcaaDoorRows.lean that lists a variable, with what it lists TIED to the program's text (the seventh form; the later family's looks); each row that meets fmt, with fmt's text TOLD by the authors' own Lean function (tested against real Go, not proved from fmt's source: count such statements apart). THE CARD IS WHAT COUNTS. Prove the row's statement (the work); the ties are given (YthhnnlipnpfkcaaDoorTie.lean); close each card by the builder's one call (the guide's Derived/Test/ToyasCard.lean, 'card_holds'). Laid BY PROGRAM, IN A SANDBOX (cutbox-door.mjs). By AI agents, Wed Nov 11 2026. No macro, syntax, notation, axiom, sorry.
-/
import Derived.Test.YthhnnlipnpfkcaaDoorRows
import GoSem.ClaimSeven
namespace Go.Proofs.YthhnnlipnpfkcaaDoor
namespace Rows

/-- THE TIED CARD OF 'ddilaw26.PolicyTriggers'. -/
def policyTriggersCard : Claim7 := { stood := { row := policyTriggersRow, standIns := [], harness := (true, "027f8092f5197d82a28fc40ef7a9899722f6df8721db98e6aaa58f5918944129"), looks := false }, kinds := [], alts := [], laidByText := true, laidKinds := [.data, .pinned], laidTests := true, laidLooks := .later }
def PolicyTriggersCardSaid : Prop := Claim7.holds Tryd.pinned (.plain (OpenSpec.ofChange policyTriggersSpec)) policyTriggersCard

/-- THE TIED CARD OF 'ddilaw26.PolicyChecks'. -/
def policyChecksCard : Claim7 := { stood := { row := policyChecksRow, standIns := [], harness := (true, "027f8092f5197d82a28fc40ef7a9899722f6df8721db98e6aaa58f5918944129"), looks := false }, kinds := [], alts := [], laidByText := true, laidKinds := [.data, .pinned], laidTests := true, laidLooks := .later }
def PolicyChecksCardSaid : Prop := Claim7.holds Tryd.pinned (.plain (OpenSpec.ofChange policyChecksSpec)) policyChecksCard

/-- THE TIED CARD OF 'ddilaw26.PolicyApplies'. -/
def policyAppliesCard : Claim7 := { stood := { row := policyAppliesRow, standIns := [], harness := (true, "027f8092f5197d82a28fc40ef7a9899722f6df8721db98e6aaa58f5918944129"), looks := false }, kinds := [], alts := [], laidByText := true, laidKinds := [.data, .pinned], laidTests := true, laidLooks := .later }
def PolicyAppliesCardSaid : Prop := Claim7.holds Tryd.pinned (.plain (OpenSpec.ofChange policyAppliesSpec)) policyAppliesCard

/-- THE TIED CARD OF 'ddilaw26.PolicyUntouched'. -/
def policyUntouchedCard : Claim7 := { stood := { row := policyUntouchedRow, standIns := [], harness := (true, "027f8092f5197d82a28fc40ef7a9899722f6df8721db98e6aaa58f5918944129"), looks := false }, kinds := [], alts := [], laidByText := true, laidKinds := [.data, .pinned], laidTests := true, laidLooks := .later }
def PolicyUntouchedCardSaid : Prop := Claim7.holds Tryd.pinned (.plain (OpenSpec.ofChange policyUntouchedSpec)) policyUntouchedCard

/-- THE TIED CARD OF 'ddilaw26.PolicyReplaced'. -/
def policyReplacedCard : Claim7 := { stood := { row := policyReplacedRow, standIns := [], harness := (true, "027f8092f5197d82a28fc40ef7a9899722f6df8721db98e6aaa58f5918944129"), looks := false }, kinds := [], alts := [], laidByText := true, laidKinds := [.data, .pinned], laidTests := true, laidLooks := .later }
def PolicyReplacedCardSaid : Prop := Claim7.holds Tryd.pinned (.plain (OpenSpec.ofChange policyReplacedSpec)) policyReplacedCard

/-- THE SECOND FORM's CARD OF 'ddilaw26.PolicyTriggers'. -/
def policyTriggersUptoCard : Claim7 := { stood := { row := policyTriggersUptoRow, standIns := [], harness := (true, "027f8092f5197d82a28fc40ef7a9899722f6df8721db98e6aaa58f5918944129"), looks := false }, kinds := [], alts := [], laidByText := true, laidKinds := [.data, .pinned], laidTests := true, laidLooks := .later }
def PolicyTriggersUptoCardSaid : Prop := Claim7.holds Tryd.pinned (.plain (OpenSpec.upto policyTriggersSpec)) policyTriggersUptoCard

/-- THE SECOND FORM's CARD OF 'ddilaw26.PolicyChecks'. -/
def policyChecksUptoCard : Claim7 := { stood := { row := policyChecksUptoRow, standIns := [], harness := (true, "027f8092f5197d82a28fc40ef7a9899722f6df8721db98e6aaa58f5918944129"), looks := false }, kinds := [], alts := [], laidByText := true, laidKinds := [.data, .pinned], laidTests := true, laidLooks := .later }
def PolicyChecksUptoCardSaid : Prop := Claim7.holds Tryd.pinned (.plain (OpenSpec.upto policyChecksSpec)) policyChecksUptoCard

/-- THE SECOND FORM's CARD OF 'ddilaw26.PolicyApplies'. -/
def policyAppliesUptoCard : Claim7 := { stood := { row := policyAppliesUptoRow, standIns := [], harness := (true, "027f8092f5197d82a28fc40ef7a9899722f6df8721db98e6aaa58f5918944129"), looks := false }, kinds := [], alts := [], laidByText := true, laidKinds := [.data, .pinned], laidTests := true, laidLooks := .later }
def PolicyAppliesUptoCardSaid : Prop := Claim7.holds Tryd.pinned (.plain (OpenSpec.upto policyAppliesSpec)) policyAppliesUptoCard

/-- THE SECOND FORM's CARD OF 'ddilaw26.PolicyUntouched'. -/
def policyUntouchedUptoCard : Claim7 := { stood := { row := policyUntouchedUptoRow, standIns := [], harness := (true, "027f8092f5197d82a28fc40ef7a9899722f6df8721db98e6aaa58f5918944129"), looks := false }, kinds := [], alts := [], laidByText := true, laidKinds := [.data, .pinned], laidTests := true, laidLooks := .later }
def PolicyUntouchedUptoCardSaid : Prop := Claim7.holds Tryd.pinned (.plain (OpenSpec.upto policyUntouchedSpec)) policyUntouchedUptoCard

/-- THE SECOND FORM's CARD OF 'ddilaw26.PolicyReplaced'. -/
def policyReplacedUptoCard : Claim7 := { stood := { row := policyReplacedUptoRow, standIns := [], harness := (true, "027f8092f5197d82a28fc40ef7a9899722f6df8721db98e6aaa58f5918944129"), looks := false }, kinds := [], alts := [], laidByText := true, laidKinds := [.data, .pinned], laidTests := true, laidLooks := .later }
def PolicyReplacedUptoCardSaid : Prop := Claim7.holds Tryd.pinned (.plain (OpenSpec.upto policyReplacedSpec)) policyReplacedUptoCard
end Rows
end Go.Proofs.YthhnnlipnpfkcaaDoor
