/-
  DERIVED. GIVEN WITH THE SEED: THE CARDS: each row of YtdedipnhkcaghaaDoorRows.lean that lists a variable, with what it lists TIED to the program's text (the seventh form; the later family's looks); each row that meets fmt, with fmt's text TOLD by the authors' own Lean function (tested against real Go, not proved from fmt's source: count such statements apart). THE CARD IS WHAT COUNTS. Prove the row's statement (the work); the ties are given (YtdedipnhkcaghaaDoorTie.lean); close each card by the builder's one call (the guide's Derived/Test/ToyasCard.lean, 'card_holds'). Laid BY PROGRAM, IN A SANDBOX (cutbox-door.mjs). By AI agents, Wed Nov 11 2026. No macro, syntax, notation, axiom, sorry.
-/
import Derived.Test.YtdedipnhkcaghaaDoorRows
import GoSem.ClaimSeven
namespace Go.Proofs.YtdedipnhkcaghaaDoor
namespace Rows

/-- THE TIED CARD OF 'ddilaw25.ViewMatches'. -/
def viewMatchesCard : Claim7 := { stood := { row := viewMatchesRow, standIns := [], harness := (true, "bf7f7aef6ec8a4ad889280a32fc27a85922836afbb31e2c58089aae790350d3d"), looks := false }, kinds := [], alts := [], laidByText := true, laidKinds := [.data, .pinned], laidTests := true, laidLooks := .later }
def ViewMatchesCardSaid : Prop := Claim7.holds Tryd.pinned (.plain (OpenSpec.ofChange viewMatchesSpec)) viewMatchesCard

/-- THE TIED CARD OF 'ddilaw25.ViewChecks'. -/
def viewChecksCard : Claim7 := { stood := { row := viewChecksRow, standIns := [], harness := (true, "bf7f7aef6ec8a4ad889280a32fc27a85922836afbb31e2c58089aae790350d3d"), looks := false }, kinds := [], alts := [], laidByText := true, laidKinds := [.data, .pinned], laidTests := true, laidLooks := .later }
def ViewChecksCardSaid : Prop := Claim7.holds Tryd.pinned (.plain (OpenSpec.ofChange viewChecksSpec)) viewChecksCard

/-- THE TIED CARD OF 'ddilaw25.ViewSelects'. -/
def viewSelectsCard : Claim7 := { stood := { row := viewSelectsRow, standIns := [], harness := (true, "bf7f7aef6ec8a4ad889280a32fc27a85922836afbb31e2c58089aae790350d3d"), looks := false }, kinds := [], alts := [], laidByText := true, laidKinds := [.data, .pinned], laidTests := true, laidLooks := .later }
def ViewSelectsCardSaid : Prop := Claim7.holds Tryd.pinned (.plain (OpenSpec.ofChange viewSelectsSpec)) viewSelectsCard

/-- THE TIED CARD OF 'ddilaw25.ViewFirst'. -/
def viewFirstCard : Claim7 := { stood := { row := viewFirstRow, standIns := [], harness := (true, "bf7f7aef6ec8a4ad889280a32fc27a85922836afbb31e2c58089aae790350d3d"), looks := false }, kinds := [], alts := [], laidByText := true, laidKinds := [.data, .pinned], laidTests := true, laidLooks := .later }
def ViewFirstCardSaid : Prop := Claim7.holds Tryd.pinned (.plain (OpenSpec.ofChange viewFirstSpec)) viewFirstCard

/-- THE TIED CARD OF 'ddilaw25.ViewLists'. -/
def viewListsCard : Claim7 := { stood := { row := viewListsRow, standIns := [], harness := (true, "bf7f7aef6ec8a4ad889280a32fc27a85922836afbb31e2c58089aae790350d3d"), looks := false }, kinds := [], alts := [], laidByText := true, laidKinds := [.data, .pinned], laidTests := true, laidLooks := .later }
def ViewListsCardSaid : Prop := Claim7.holds Tryd.pinned (.plain (OpenSpec.ofChange viewListsSpec)) viewListsCard

/-- THE TIED CARD OF 'ddilaw25.ViewZones'. -/
def viewZonesCard : Claim7 := { stood := { row := viewZonesRow, standIns := [], harness := (true, "bf7f7aef6ec8a4ad889280a32fc27a85922836afbb31e2c58089aae790350d3d"), looks := false }, kinds := [], alts := [], laidByText := true, laidKinds := [.data, .pinned], laidTests := true, laidLooks := .later }
def ViewZonesCardSaid : Prop := Claim7.holds Tryd.pinned (.plain (OpenSpec.ofChange viewZonesSpec)) viewZonesCard

/-- THE SECOND FORM's CARD OF 'ddilaw25.ViewMatches'. -/
def viewMatchesUptoCard : Claim7 := { stood := { row := viewMatchesUptoRow, standIns := [], harness := (true, "bf7f7aef6ec8a4ad889280a32fc27a85922836afbb31e2c58089aae790350d3d"), looks := false }, kinds := [], alts := [], laidByText := true, laidKinds := [.data, .pinned], laidTests := true, laidLooks := .later }
def ViewMatchesUptoCardSaid : Prop := Claim7.holds Tryd.pinned (.plain (OpenSpec.upto viewMatchesSpec)) viewMatchesUptoCard

/-- THE SECOND FORM's CARD OF 'ddilaw25.ViewChecks'. -/
def viewChecksUptoCard : Claim7 := { stood := { row := viewChecksUptoRow, standIns := [], harness := (true, "bf7f7aef6ec8a4ad889280a32fc27a85922836afbb31e2c58089aae790350d3d"), looks := false }, kinds := [], alts := [], laidByText := true, laidKinds := [.data, .pinned], laidTests := true, laidLooks := .later }
def ViewChecksUptoCardSaid : Prop := Claim7.holds Tryd.pinned (.plain (OpenSpec.upto viewChecksSpec)) viewChecksUptoCard

/-- THE SECOND FORM's CARD OF 'ddilaw25.ViewSelects'. -/
def viewSelectsUptoCard : Claim7 := { stood := { row := viewSelectsUptoRow, standIns := [], harness := (true, "bf7f7aef6ec8a4ad889280a32fc27a85922836afbb31e2c58089aae790350d3d"), looks := false }, kinds := [], alts := [], laidByText := true, laidKinds := [.data, .pinned], laidTests := true, laidLooks := .later }
def ViewSelectsUptoCardSaid : Prop := Claim7.holds Tryd.pinned (.plain (OpenSpec.upto viewSelectsSpec)) viewSelectsUptoCard

/-- THE SECOND FORM's CARD OF 'ddilaw25.ViewFirst'. -/
def viewFirstUptoCard : Claim7 := { stood := { row := viewFirstUptoRow, standIns := [], harness := (true, "bf7f7aef6ec8a4ad889280a32fc27a85922836afbb31e2c58089aae790350d3d"), looks := false }, kinds := [], alts := [], laidByText := true, laidKinds := [.data, .pinned], laidTests := true, laidLooks := .later }
def ViewFirstUptoCardSaid : Prop := Claim7.holds Tryd.pinned (.plain (OpenSpec.upto viewFirstSpec)) viewFirstUptoCard

/-- THE SECOND FORM's CARD OF 'ddilaw25.ViewLists'. -/
def viewListsUptoCard : Claim7 := { stood := { row := viewListsUptoRow, standIns := [], harness := (true, "bf7f7aef6ec8a4ad889280a32fc27a85922836afbb31e2c58089aae790350d3d"), looks := false }, kinds := [], alts := [], laidByText := true, laidKinds := [.data, .pinned], laidTests := true, laidLooks := .later }
def ViewListsUptoCardSaid : Prop := Claim7.holds Tryd.pinned (.plain (OpenSpec.upto viewListsSpec)) viewListsUptoCard

/-- THE SECOND FORM's CARD OF 'ddilaw25.ViewZones'. -/
def viewZonesUptoCard : Claim7 := { stood := { row := viewZonesUptoRow, standIns := [], harness := (true, "bf7f7aef6ec8a4ad889280a32fc27a85922836afbb31e2c58089aae790350d3d"), looks := false }, kinds := [], alts := [], laidByText := true, laidKinds := [.data, .pinned], laidTests := true, laidLooks := .later }
def ViewZonesUptoCardSaid : Prop := Claim7.holds Tryd.pinned (.plain (OpenSpec.upto viewZonesSpec)) viewZonesUptoCard
end Rows
end Go.Proofs.YtdedipnhkcaghaaDoor
