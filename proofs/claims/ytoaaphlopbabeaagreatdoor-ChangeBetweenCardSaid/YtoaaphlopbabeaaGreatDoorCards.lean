/-
  DERIVED. GIVEN WITH THE SEED: THE CARDS: each row of YtoaaphlopbabeaaGreatDoorRows.lean that lists a variable, with what it lists TIED to the program's text (the seventh form; the later family's looks); each row that meets fmt, with fmt's text TOLD by the authors' own Lean function (tested against real Go, not proved from fmt's source: count such statements apart). THE CARD IS WHAT COUNTS. Prove the row's statement (the work); the ties are given (YtoaaphlopbabeaaGreatDoorTie.lean); close each card by the builder's one call (the guide's Derived/Test/ToyasCard.lean, 'card_holds'). Laid BY PROGRAM, IN A SANDBOX (cutbox-door.mjs). By AI agents, Wed Nov 11 2026. No macro, syntax, notation, axiom, sorry.
-/
import Derived.Test.YtoaaphlopbabeaaGreatDoorRows
import GoSem.ClaimSeven
namespace Go.Proofs.YtoaaphlopbabeaaGreatDoor
namespace Rows

/-- THE TIED CARD OF 'ddilaw51.ChangeApplies'. -/
def changeAppliesCard : Claim7 := { stood := { row := changeAppliesRow, standIns := [], harness := (true, "87d6cce8978fe730db3ba867738b08c07e00c43514e660ec9fecb4e8c7b3ebda"), looks := false }, kinds := [], alts := [], laidByText := true, laidKinds := [.data, .pinned], laidTests := true, laidLooks := .later }
def ChangeAppliesCardSaid : Prop := Claim7.holds Tryz.pinned (.plain (OpenSpec.ofChange changeAppliesSpec)) changeAppliesCard

/-- THE TIED CARD OF 'ddilaw51.ChangeInverts'. -/
def changeInvertsCard : Claim7 := { stood := { row := changeInvertsRow, standIns := [], harness := (true, "87d6cce8978fe730db3ba867738b08c07e00c43514e660ec9fecb4e8c7b3ebda"), looks := false }, kinds := [], alts := [], laidByText := true, laidKinds := [.data, .pinned], laidTests := true, laidLooks := .later }
def ChangeInvertsCardSaid : Prop := Claim7.holds Tryz.pinned (.plain (OpenSpec.ofChange changeInvertsSpec)) changeInvertsCard

/-- THE TIED CARD OF 'ddilaw51.ChangeRuns'. -/
def changeRunsCard : Claim7 := { stood := { row := changeRunsRow, standIns := [], harness := (true, "87d6cce8978fe730db3ba867738b08c07e00c43514e660ec9fecb4e8c7b3ebda"), looks := false }, kinds := [], alts := [], laidByText := true, laidKinds := [.data, .pinned], laidTests := true, laidLooks := .later }
def ChangeRunsCardSaid : Prop := Claim7.holds Tryz.pinned (.plain (OpenSpec.ofChange changeRunsSpec)) changeRunsCard

/-- THE TIED CARD OF 'ddilaw51.ChangeRebases'. -/
def changeRebasesCard : Claim7 := { stood := { row := changeRebasesRow, standIns := [], harness := (true, "87d6cce8978fe730db3ba867738b08c07e00c43514e660ec9fecb4e8c7b3ebda"), looks := false }, kinds := [], alts := [], laidByText := true, laidKinds := [.data, .pinned], laidTests := true, laidLooks := .later }
def ChangeRebasesCardSaid : Prop := Claim7.holds Tryz.pinned (.plain (OpenSpec.ofChange changeRebasesSpec)) changeRebasesCard

/-- THE TIED CARD OF 'ddilaw51.ChangeChecks'. -/
def changeChecksCard : Claim7 := { stood := { row := changeChecksRow, standIns := [], harness := (true, "87d6cce8978fe730db3ba867738b08c07e00c43514e660ec9fecb4e8c7b3ebda"), looks := false }, kinds := [], alts := [], laidByText := true, laidKinds := [.data, .pinned], laidTests := true, laidLooks := .later }
def ChangeChecksCardSaid : Prop := Claim7.holds Tryz.pinned (.plain (OpenSpec.ofChange changeChecksSpec)) changeChecksCard

/-- THE TIED CARD OF 'ddilaw51.ChangeUndone'. -/
def changeUndoneCard : Claim7 := { stood := { row := changeUndoneRow, standIns := [], harness := (true, "87d6cce8978fe730db3ba867738b08c07e00c43514e660ec9fecb4e8c7b3ebda"), looks := false }, kinds := [], alts := [], laidByText := true, laidKinds := [.data, .pinned], laidTests := true, laidLooks := .later }
def ChangeUndoneCardSaid : Prop := Claim7.holds Tryz.pinned (.plain (OpenSpec.ofChange changeUndoneSpec)) changeUndoneCard

/-- THE TIED CARD OF 'ddilaw51.ChangeAtomic'. -/
def changeAtomicCard : Claim7 := { stood := { row := changeAtomicRow, standIns := [], harness := (true, "87d6cce8978fe730db3ba867738b08c07e00c43514e660ec9fecb4e8c7b3ebda"), looks := false }, kinds := [], alts := [], laidByText := true, laidKinds := [.data, .pinned], laidTests := true, laidLooks := .later }
def ChangeAtomicCardSaid : Prop := Claim7.holds Tryz.pinned (.plain (OpenSpec.ofChange changeAtomicSpec)) changeAtomicCard

/-- THE TIED CARD OF 'ddilaw51.ChangeBetween'. -/
def changeBetweenCard : Claim7 := { stood := { row := changeBetweenRow, standIns := [], harness := (true, "87d6cce8978fe730db3ba867738b08c07e00c43514e660ec9fecb4e8c7b3ebda"), looks := false }, kinds := [], alts := [], laidByText := true, laidKinds := [.data, .pinned], laidTests := true, laidLooks := .later }
def ChangeBetweenCardSaid : Prop := Claim7.holds Tryz.pinned (.plain (OpenSpec.ofChange changeBetweenSpec)) changeBetweenCard

/-- THE SECOND FORM's CARD OF 'ddilaw51.ChangeApplies'. -/
def changeAppliesUptoCard : Claim7 := { stood := { row := changeAppliesUptoRow, standIns := [], harness := (true, "87d6cce8978fe730db3ba867738b08c07e00c43514e660ec9fecb4e8c7b3ebda"), looks := false }, kinds := [], alts := [], laidByText := true, laidKinds := [.data, .pinned], laidTests := true, laidLooks := .later }
def ChangeAppliesUptoCardSaid : Prop := Claim7.holds Tryz.pinned (.plain (OpenSpec.upto changeAppliesSpec)) changeAppliesUptoCard

/-- THE SECOND FORM's CARD OF 'ddilaw51.ChangeInverts'. -/
def changeInvertsUptoCard : Claim7 := { stood := { row := changeInvertsUptoRow, standIns := [], harness := (true, "87d6cce8978fe730db3ba867738b08c07e00c43514e660ec9fecb4e8c7b3ebda"), looks := false }, kinds := [], alts := [], laidByText := true, laidKinds := [.data, .pinned], laidTests := true, laidLooks := .later }
def ChangeInvertsUptoCardSaid : Prop := Claim7.holds Tryz.pinned (.plain (OpenSpec.upto changeInvertsSpec)) changeInvertsUptoCard

/-- THE SECOND FORM's CARD OF 'ddilaw51.ChangeRuns'. -/
def changeRunsUptoCard : Claim7 := { stood := { row := changeRunsUptoRow, standIns := [], harness := (true, "87d6cce8978fe730db3ba867738b08c07e00c43514e660ec9fecb4e8c7b3ebda"), looks := false }, kinds := [], alts := [], laidByText := true, laidKinds := [.data, .pinned], laidTests := true, laidLooks := .later }
def ChangeRunsUptoCardSaid : Prop := Claim7.holds Tryz.pinned (.plain (OpenSpec.upto changeRunsSpec)) changeRunsUptoCard

/-- THE SECOND FORM's CARD OF 'ddilaw51.ChangeRebases'. -/
def changeRebasesUptoCard : Claim7 := { stood := { row := changeRebasesUptoRow, standIns := [], harness := (true, "87d6cce8978fe730db3ba867738b08c07e00c43514e660ec9fecb4e8c7b3ebda"), looks := false }, kinds := [], alts := [], laidByText := true, laidKinds := [.data, .pinned], laidTests := true, laidLooks := .later }
def ChangeRebasesUptoCardSaid : Prop := Claim7.holds Tryz.pinned (.plain (OpenSpec.upto changeRebasesSpec)) changeRebasesUptoCard

/-- THE SECOND FORM's CARD OF 'ddilaw51.ChangeChecks'. -/
def changeChecksUptoCard : Claim7 := { stood := { row := changeChecksUptoRow, standIns := [], harness := (true, "87d6cce8978fe730db3ba867738b08c07e00c43514e660ec9fecb4e8c7b3ebda"), looks := false }, kinds := [], alts := [], laidByText := true, laidKinds := [.data, .pinned], laidTests := true, laidLooks := .later }
def ChangeChecksUptoCardSaid : Prop := Claim7.holds Tryz.pinned (.plain (OpenSpec.upto changeChecksSpec)) changeChecksUptoCard

/-- THE SECOND FORM's CARD OF 'ddilaw51.ChangeUndone'. -/
def changeUndoneUptoCard : Claim7 := { stood := { row := changeUndoneUptoRow, standIns := [], harness := (true, "87d6cce8978fe730db3ba867738b08c07e00c43514e660ec9fecb4e8c7b3ebda"), looks := false }, kinds := [], alts := [], laidByText := true, laidKinds := [.data, .pinned], laidTests := true, laidLooks := .later }
def ChangeUndoneUptoCardSaid : Prop := Claim7.holds Tryz.pinned (.plain (OpenSpec.upto changeUndoneSpec)) changeUndoneUptoCard

/-- THE SECOND FORM's CARD OF 'ddilaw51.ChangeAtomic'. -/
def changeAtomicUptoCard : Claim7 := { stood := { row := changeAtomicUptoRow, standIns := [], harness := (true, "87d6cce8978fe730db3ba867738b08c07e00c43514e660ec9fecb4e8c7b3ebda"), looks := false }, kinds := [], alts := [], laidByText := true, laidKinds := [.data, .pinned], laidTests := true, laidLooks := .later }
def ChangeAtomicUptoCardSaid : Prop := Claim7.holds Tryz.pinned (.plain (OpenSpec.upto changeAtomicSpec)) changeAtomicUptoCard

/-- THE SECOND FORM's CARD OF 'ddilaw51.ChangeBetween'. -/
def changeBetweenUptoCard : Claim7 := { stood := { row := changeBetweenUptoRow, standIns := [], harness := (true, "87d6cce8978fe730db3ba867738b08c07e00c43514e660ec9fecb4e8c7b3ebda"), looks := false }, kinds := [], alts := [], laidByText := true, laidKinds := [.data, .pinned], laidTests := true, laidLooks := .later }
def ChangeBetweenUptoCardSaid : Prop := Claim7.holds Tryz.pinned (.plain (OpenSpec.upto changeBetweenSpec)) changeBetweenUptoCard
end Rows
end Go.Proofs.YtoaaphlopbabeaaGreatDoor
