/-
  DERIVED. GIVEN WITH THE SEED: THE CARDS: each row of YtmficjbenbhneaaDoorRows.lean that lists a variable, with what it lists TIED to the program's text (the seventh form; the later family's looks); each row that meets fmt, with fmt's text TOLD by the authors' own Lean function (tested against real Go, not proved from fmt's source: count such statements apart). THE CARD IS WHAT COUNTS. Prove the row's statement (the work); the ties are given (YtmficjbenbhneaaDoorTie.lean); close each card by the builder's one call (the guide's Derived/Test/ToyasCard.lean, 'card_holds'). Laid BY PROGRAM, IN A SANDBOX (cutbox-door.mjs). By AI agents, Wed Nov 11 2026. No macro, syntax, notation, axiom, sorry.
-/
import Derived.Test.YtmficjbenbhneaaDoorRows
import GoSem.ClaimSeven
namespace Go.Proofs.YtmficjbenbhneaaDoor
namespace Rows

/-- THE TIED CARD OF 'ddilaw29.CacheShape'. -/
def cacheShapeCard : Claim7 := { stood := { row := cacheShapeRow, standIns := [], harness := (true, "ee3040eb3db5c2505c5cbaf23a73818475d171723b0ef53d58f172bca2db5c5a"), looks := false }, kinds := [], alts := [], laidByText := true, laidKinds := [.data, .pinned], laidTests := true, laidLooks := .later }
def CacheShapeCardSaid : Prop := Claim7.holds Tryd.pinned (.plain (OpenSpec.ofChange cacheShapeSpec)) cacheShapeCard

/-- THE TIED CARD OF 'ddilaw29.CacheTold'. -/
def cacheToldCard : Claim7 := { stood := { row := cacheToldRow, standIns := [], harness := (true, "ee3040eb3db5c2505c5cbaf23a73818475d171723b0ef53d58f172bca2db5c5a"), looks := false }, kinds := [], alts := [], laidByText := true, laidKinds := [.data, .pinned], laidTests := true, laidLooks := .later }
def CacheToldCardSaid : Prop := Claim7.holds Tryd.pinned (.plain (OpenSpec.ofChange cacheToldSpec)) cacheToldCard

/-- THE TIED CARD OF 'ddilaw29.CacheReads'. -/
def cacheReadsCard : Claim7 := { stood := { row := cacheReadsRow, standIns := [], harness := (true, "ee3040eb3db5c2505c5cbaf23a73818475d171723b0ef53d58f172bca2db5c5a"), looks := false }, kinds := [], alts := [], laidByText := true, laidKinds := [.data, .pinned], laidTests := true, laidLooks := .later }
def CacheReadsCardSaid : Prop := Claim7.holds Tryd.pinned (.plain (OpenSpec.ofChange cacheReadsSpec)) cacheReadsCard

/-- THE TIED CARD OF 'ddilaw29.CachePurges'. -/
def cachePurgesCard : Claim7 := { stood := { row := cachePurgesRow, standIns := [], harness := (true, "ee3040eb3db5c2505c5cbaf23a73818475d171723b0ef53d58f172bca2db5c5a"), looks := false }, kinds := [], alts := [], laidByText := true, laidKinds := [.data, .pinned], laidTests := true, laidLooks := .later }
def CachePurgesCardSaid : Prop := Claim7.holds Tryd.pinned (.plain (OpenSpec.ofChange cachePurgesSpec)) cachePurgesCard

/-- THE SECOND FORM's CARD OF 'ddilaw29.CacheShape'. -/
def cacheShapeUptoCard : Claim7 := { stood := { row := cacheShapeUptoRow, standIns := [], harness := (true, "ee3040eb3db5c2505c5cbaf23a73818475d171723b0ef53d58f172bca2db5c5a"), looks := false }, kinds := [], alts := [], laidByText := true, laidKinds := [.data, .pinned], laidTests := true, laidLooks := .later }
def CacheShapeUptoCardSaid : Prop := Claim7.holds Tryd.pinned (.plain (OpenSpec.upto cacheShapeSpec)) cacheShapeUptoCard

/-- THE SECOND FORM's CARD OF 'ddilaw29.CacheTold'. -/
def cacheToldUptoCard : Claim7 := { stood := { row := cacheToldUptoRow, standIns := [], harness := (true, "ee3040eb3db5c2505c5cbaf23a73818475d171723b0ef53d58f172bca2db5c5a"), looks := false }, kinds := [], alts := [], laidByText := true, laidKinds := [.data, .pinned], laidTests := true, laidLooks := .later }
def CacheToldUptoCardSaid : Prop := Claim7.holds Tryd.pinned (.plain (OpenSpec.upto cacheToldSpec)) cacheToldUptoCard

/-- THE SECOND FORM's CARD OF 'ddilaw29.CacheReads'. -/
def cacheReadsUptoCard : Claim7 := { stood := { row := cacheReadsUptoRow, standIns := [], harness := (true, "ee3040eb3db5c2505c5cbaf23a73818475d171723b0ef53d58f172bca2db5c5a"), looks := false }, kinds := [], alts := [], laidByText := true, laidKinds := [.data, .pinned], laidTests := true, laidLooks := .later }
def CacheReadsUptoCardSaid : Prop := Claim7.holds Tryd.pinned (.plain (OpenSpec.upto cacheReadsSpec)) cacheReadsUptoCard

/-- THE SECOND FORM's CARD OF 'ddilaw29.CachePurges'. -/
def cachePurgesUptoCard : Claim7 := { stood := { row := cachePurgesUptoRow, standIns := [], harness := (true, "ee3040eb3db5c2505c5cbaf23a73818475d171723b0ef53d58f172bca2db5c5a"), looks := false }, kinds := [], alts := [], laidByText := true, laidKinds := [.data, .pinned], laidTests := true, laidLooks := .later }
def CachePurgesUptoCardSaid : Prop := Claim7.holds Tryd.pinned (.plain (OpenSpec.upto cachePurgesSpec)) cachePurgesUptoCard
end Rows
end Go.Proofs.YtmficjbenbhneaaDoor
