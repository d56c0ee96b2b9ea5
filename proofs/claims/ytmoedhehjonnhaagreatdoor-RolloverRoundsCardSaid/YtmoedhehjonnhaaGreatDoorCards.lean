/-
  DERIVED. GIVEN WITH THE SEED: THE CARDS: each row of YtmoedhehjonnhaaGreatDoorRows.lean that lists a variable, with what it lists TIED to the program's text (the seventh form; the later family's looks); each row that meets fmt, with fmt's text TOLD by the authors' own Lean function (tested against real Go, not proved from fmt's source: count such statements apart). THE CARD IS WHAT COUNTS. Prove the row's statement (the work); the ties are given (YtmoedhehjonnhaaGreatDoorTie.lean); close each card by the builder's one call (the guide's Derived/Test/ToyasCard.lean, 'card_holds'). Laid BY PROGRAM, IN A SANDBOX (cutbox-door.mjs). By AI agents, Wed Nov 11 2026. No macro, syntax, notation, axiom, sorry.
-/
import Derived.Test.YtmoedhehjonnhaaGreatDoorRows
import GoSem.ClaimSeven
namespace Go.Proofs.YtmoedhehjonnhaaGreatDoor
namespace Rows

/-- THE TIED CARD OF 'ddilaw22.RolloverSafes'. -/
def rolloverSafesCard : Claim7 := { stood := { row := rolloverSafesRow, standIns := [], harness := (true, "2491601c12b85b6bdb41ab1badfd15ac348b79fafd239d6fb52f3a9c86f8ade3"), looks := false }, kinds := [], alts := [], laidByText := true, laidKinds := [.data, .data, .data, .data, .pinned], laidTests := true, laidLooks := .later }
def RolloverSafesCardSaid : Prop := Claim7.holds Tryz.pinned (.plain (OpenSpec.ofChange rolloverSafesSpec)) rolloverSafesCard

/-- THE TIED CARD OF 'ddilaw22.RolloverRolls'. -/
def rolloverRollsCard : Claim7 := { stood := { row := rolloverRollsRow, standIns := [], harness := (true, "2491601c12b85b6bdb41ab1badfd15ac348b79fafd239d6fb52f3a9c86f8ade3"), looks := false }, kinds := [], alts := [], laidByText := true, laidKinds := [.data, .data, .data, .data, .pinned], laidTests := true, laidLooks := .later }
def RolloverRollsCardSaid : Prop := Claim7.holds Tryz.pinned (.plain (OpenSpec.ofChange rolloverRollsSpec)) rolloverRollsCard

/-- THE TIED CARD OF 'ddilaw22.RolloverStays'. -/
def rolloverStaysCard : Claim7 := { stood := { row := rolloverStaysRow, standIns := [], harness := (true, "2491601c12b85b6bdb41ab1badfd15ac348b79fafd239d6fb52f3a9c86f8ade3"), looks := false }, kinds := [], alts := [], laidByText := true, laidKinds := [.data, .data, .data, .data, .pinned], laidTests := true, laidLooks := .later }
def RolloverStaysCardSaid : Prop := Claim7.holds Tryz.pinned (.plain (OpenSpec.ofChange rolloverStaysSpec)) rolloverStaysCard

/-- THE TIED CARD OF 'ddilaw22.RolloverRounds'. -/
def rolloverRoundsCard : Claim7 := { stood := { row := rolloverRoundsRow, standIns := [], harness := (true, "2491601c12b85b6bdb41ab1badfd15ac348b79fafd239d6fb52f3a9c86f8ade3"), looks := false }, kinds := [], alts := [], laidByText := true, laidKinds := [.data, .data, .data, .data, .pinned], laidTests := true, laidLooks := .later }
def RolloverRoundsCardSaid : Prop := Claim7.holds Tryz.pinned (.plain (OpenSpec.ofChange rolloverRoundsSpec)) rolloverRoundsCard

/-- THE TIED CARD OF 'ddilaw22.RolloverChecks'. -/
def rolloverChecksCard : Claim7 := { stood := { row := rolloverChecksRow, standIns := [], harness := (true, "2491601c12b85b6bdb41ab1badfd15ac348b79fafd239d6fb52f3a9c86f8ade3"), looks := false }, kinds := [], alts := [], laidByText := true, laidKinds := [.data, .data, .data, .data, .pinned], laidTests := true, laidLooks := .later }
def RolloverChecksCardSaid : Prop := Claim7.holds Tryz.pinned (.plain (OpenSpec.ofChange rolloverChecksSpec)) rolloverChecksCard

/-- THE TIED CARD OF 'ddilaw22.RolloverTries'. -/
def rolloverTriesCard : Claim7 := { stood := { row := rolloverTriesRow, standIns := [], harness := (true, "2491601c12b85b6bdb41ab1badfd15ac348b79fafd239d6fb52f3a9c86f8ade3"), looks := false }, kinds := [], alts := [], laidByText := true, laidKinds := [.data, .data, .data, .data, .pinned], laidTests := true, laidLooks := .later }
def RolloverTriesCardSaid : Prop := Claim7.holds Tryz.pinned (.plain (OpenSpec.ofChange rolloverTriesSpec)) rolloverTriesCard

/-- THE SECOND FORM's CARD OF 'ddilaw22.RolloverSafes'. -/
def rolloverSafesUptoCard : Claim7 := { stood := { row := rolloverSafesUptoRow, standIns := [], harness := (true, "2491601c12b85b6bdb41ab1badfd15ac348b79fafd239d6fb52f3a9c86f8ade3"), looks := false }, kinds := [], alts := [], laidByText := true, laidKinds := [.data, .data, .data, .data, .pinned], laidTests := true, laidLooks := .later }
def RolloverSafesUptoCardSaid : Prop := Claim7.holds Tryz.pinned (.plain (OpenSpec.upto rolloverSafesSpec)) rolloverSafesUptoCard

/-- THE SECOND FORM's CARD OF 'ddilaw22.RolloverRolls'. -/
def rolloverRollsUptoCard : Claim7 := { stood := { row := rolloverRollsUptoRow, standIns := [], harness := (true, "2491601c12b85b6bdb41ab1badfd15ac348b79fafd239d6fb52f3a9c86f8ade3"), looks := false }, kinds := [], alts := [], laidByText := true, laidKinds := [.data, .data, .data, .data, .pinned], laidTests := true, laidLooks := .later }
def RolloverRollsUptoCardSaid : Prop := Claim7.holds Tryz.pinned (.plain (OpenSpec.upto rolloverRollsSpec)) rolloverRollsUptoCard

/-- THE SECOND FORM's CARD OF 'ddilaw22.RolloverStays'. -/
def rolloverStaysUptoCard : Claim7 := { stood := { row := rolloverStaysUptoRow, standIns := [], harness := (true, "2491601c12b85b6bdb41ab1badfd15ac348b79fafd239d6fb52f3a9c86f8ade3"), looks := false }, kinds := [], alts := [], laidByText := true, laidKinds := [.data, .data, .data, .data, .pinned], laidTests := true, laidLooks := .later }
def RolloverStaysUptoCardSaid : Prop := Claim7.holds Tryz.pinned (.plain (OpenSpec.upto rolloverStaysSpec)) rolloverStaysUptoCard

/-- THE SECOND FORM's CARD OF 'ddilaw22.RolloverRounds'. -/
def rolloverRoundsUptoCard : Claim7 := { stood := { row := rolloverRoundsUptoRow, standIns := [], harness := (true, "2491601c12b85b6bdb41ab1badfd15ac348b79fafd239d6fb52f3a9c86f8ade3"), looks := false }, kinds := [], alts := [], laidByText := true, laidKinds := [.data, .data, .data, .data, .pinned], laidTests := true, laidLooks := .later }
def RolloverRoundsUptoCardSaid : Prop := Claim7.holds Tryz.pinned (.plain (OpenSpec.upto rolloverRoundsSpec)) rolloverRoundsUptoCard

/-- THE SECOND FORM's CARD OF 'ddilaw22.RolloverChecks'. -/
def rolloverChecksUptoCard : Claim7 := { stood := { row := rolloverChecksUptoRow, standIns := [], harness := (true, "2491601c12b85b6bdb41ab1badfd15ac348b79fafd239d6fb52f3a9c86f8ade3"), looks := false }, kinds := [], alts := [], laidByText := true, laidKinds := [.data, .data, .data, .data, .pinned], laidTests := true, laidLooks := .later }
def RolloverChecksUptoCardSaid : Prop := Claim7.holds Tryz.pinned (.plain (OpenSpec.upto rolloverChecksSpec)) rolloverChecksUptoCard

/-- THE SECOND FORM's CARD OF 'ddilaw22.RolloverTries'. -/
def rolloverTriesUptoCard : Claim7 := { stood := { row := rolloverTriesUptoRow, standIns := [], harness := (true, "2491601c12b85b6bdb41ab1badfd15ac348b79fafd239d6fb52f3a9c86f8ade3"), looks := false }, kinds := [], alts := [], laidByText := true, laidKinds := [.data, .data, .data, .data, .pinned], laidTests := true, laidLooks := .later }
def RolloverTriesUptoCardSaid : Prop := Claim7.holds Tryz.pinned (.plain (OpenSpec.upto rolloverTriesSpec)) rolloverTriesUptoCard
end Rows
end Go.Proofs.YtmoedhehjonnhaaGreatDoor
