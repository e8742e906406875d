/-
  DERIVED. GIVEN WITH THE SEED: THE CARDS: each row of YtmbblhajbecomaaDoorRows.lean that lists a variable, with what it lists TIED to the program's text (the seventh form; the later family's looks); each row that meets fmt, with fmt's text TOLD by the authors' own Lean function (tested against real Go, not proved from fmt's source: count such statements apart). THE CARD IS WHAT COUNTS. Prove the row's statement (the work); the ties are given (YtmbblhajbecomaaDoorTie.lean); close each card by the builder's one call (the guide's Derived/Test/ToyasCard.lean, 'card_holds'). Laid BY PROGRAM, IN A SANDBOX (cutbox-door.mjs). By AI agents, Wed Nov 11 2026. No macro, syntax, notation, axiom, sorry.
-/
import Derived.Test.YtmbblhajbecomaaDoorRows
import GoSem.ClaimSeven
namespace Go.Proofs.YtmbblhajbecomaaDoor
namespace Rows

/-- THE TIED CARD OF 'angeluslaw18.CutCuts'. -/
def cutCutsCard : Claim7 := { stood := { row := cutCutsRow, standIns := [], harness := (true, "d7c5143af6fc1bc6730002573771954a4a87ea3b82fc1fec314d75e77fa79815"), looks := false }, kinds := [], alts := [], laidByText := true, laidKinds := [.data], laidTests := true, laidLooks := .later }
def CutCutsCardSaid : Prop := Claim7.holds Tryd.pinned (.plain (OpenSpec.ofChange cutCutsSpec)) cutCutsCard

/-- THE TIED CARD OF 'angeluslaw18.CutSafe'. -/
def cutSafeCard : Claim7 := { stood := { row := cutSafeRow, standIns := [], harness := (true, "d7c5143af6fc1bc6730002573771954a4a87ea3b82fc1fec314d75e77fa79815"), looks := false }, kinds := [], alts := [], laidByText := true, laidKinds := [.data], laidTests := true, laidLooks := .later }
def CutSafeCardSaid : Prop := Claim7.holds Tryd.pinned (.plain (OpenSpec.ofChange cutSafeSpec)) cutSafeCard

/-- THE TIED CARD OF 'angeluslaw18.CutSets'. -/
def cutSetsCard : Claim7 := { stood := { row := cutSetsRow, standIns := [], harness := (true, "d7c5143af6fc1bc6730002573771954a4a87ea3b82fc1fec314d75e77fa79815"), looks := false }, kinds := [], alts := [], laidByText := true, laidKinds := [.data], laidTests := true, laidLooks := .later }
def CutSetsCardSaid : Prop := Claim7.holds Tryd.pinned (.plain (OpenSpec.ofChange cutSetsSpec)) cutSetsCard

/-- THE TIED CARD OF 'angeluslaw18.CutLess'. -/
def cutLessCard : Claim7 := { stood := { row := cutLessRow, standIns := [], harness := (true, "d7c5143af6fc1bc6730002573771954a4a87ea3b82fc1fec314d75e77fa79815"), looks := false }, kinds := [], alts := [], laidByText := true, laidKinds := [.data], laidTests := true, laidLooks := .later }
def CutLessCardSaid : Prop := Claim7.holds Tryd.pinned (.plain (OpenSpec.ofChange cutLessSpec)) cutLessCard

/-- THE TIED CARD OF 'angeluslaw18.CutMore'. -/
def cutMoreCard : Claim7 := { stood := { row := cutMoreRow, standIns := [], harness := (true, "d7c5143af6fc1bc6730002573771954a4a87ea3b82fc1fec314d75e77fa79815"), looks := false }, kinds := [], alts := [], laidByText := true, laidKinds := [.data], laidTests := true, laidLooks := .later }
def CutMoreCardSaid : Prop := Claim7.holds Tryd.pinned (.plain (OpenSpec.ofChange cutMoreSpec)) cutMoreCard

/-- THE TIED CARD OF 'angeluslaw32.FloodRuns'. -/
def floodRunsCard : Claim7 := { stood := { row := floodRunsRow, standIns := [], harness := (true, "d7c5143af6fc1bc6730002573771954a4a87ea3b82fc1fec314d75e77fa79815"), looks := false }, kinds := [], alts := [], laidByText := true, laidKinds := [.data], laidTests := true, laidLooks := .later }
def FloodRunsCardSaid : Prop := Claim7.holds Tryd.pinned (.plain (OpenSpec.ofChange floodRunsSpec)) floodRunsCard

/-- THE TIED CARD OF 'angeluslaw32.FloodAll'. -/
def floodAllCard : Claim7 := { stood := { row := floodAllRow, standIns := [], harness := (true, "d7c5143af6fc1bc6730002573771954a4a87ea3b82fc1fec314d75e77fa79815"), looks := false }, kinds := [], alts := [], laidByText := true, laidKinds := [.data], laidTests := true, laidLooks := .later }
def FloodAllCardSaid : Prop := Claim7.holds Tryd.pinned (.plain (OpenSpec.ofChange floodAllSpec)) floodAllCard

/-- THE TIED CARD OF 'angeluslaw32.FloodPaths'. -/
def floodPathsCard : Claim7 := { stood := { row := floodPathsRow, standIns := [], harness := (true, "d7c5143af6fc1bc6730002573771954a4a87ea3b82fc1fec314d75e77fa79815"), looks := false }, kinds := [], alts := [], laidByText := true, laidKinds := [.data], laidTests := true, laidLooks := .later }
def FloodPathsCardSaid : Prop := Claim7.holds Tryd.pinned (.plain (OpenSpec.ofChange floodPathsSpec)) floodPathsCard

/-- THE TIED CARD OF 'angeluslaw32.FloodTells'. -/
def floodTellsCard : Claim7 := { stood := { row := floodTellsRow, standIns := [], harness := (true, "d7c5143af6fc1bc6730002573771954a4a87ea3b82fc1fec314d75e77fa79815"), looks := false }, kinds := [], alts := [], laidByText := true, laidKinds := [.data], laidTests := true, laidLooks := .later }
def FloodTellsCardSaid : Prop := Claim7.holds Tryd.pinned (.plain (OpenSpec.ofChange floodTellsSpec)) floodTellsCard

/-- THE SECOND FORM's CARD OF 'angeluslaw18.CutCuts'. -/
def cutCutsUptoCard : Claim7 := { stood := { row := cutCutsUptoRow, standIns := [], harness := (true, "d7c5143af6fc1bc6730002573771954a4a87ea3b82fc1fec314d75e77fa79815"), looks := false }, kinds := [], alts := [], laidByText := true, laidKinds := [.data], laidTests := true, laidLooks := .later }
def CutCutsUptoCardSaid : Prop := Claim7.holds Tryd.pinned (.plain (OpenSpec.upto cutCutsSpec)) cutCutsUptoCard

/-- THE SECOND FORM's CARD OF 'angeluslaw18.CutSafe'. -/
def cutSafeUptoCard : Claim7 := { stood := { row := cutSafeUptoRow, standIns := [], harness := (true, "d7c5143af6fc1bc6730002573771954a4a87ea3b82fc1fec314d75e77fa79815"), looks := false }, kinds := [], alts := [], laidByText := true, laidKinds := [.data], laidTests := true, laidLooks := .later }
def CutSafeUptoCardSaid : Prop := Claim7.holds Tryd.pinned (.plain (OpenSpec.upto cutSafeSpec)) cutSafeUptoCard

/-- THE SECOND FORM's CARD OF 'angeluslaw18.CutSets'. -/
def cutSetsUptoCard : Claim7 := { stood := { row := cutSetsUptoRow, standIns := [], harness := (true, "d7c5143af6fc1bc6730002573771954a4a87ea3b82fc1fec314d75e77fa79815"), looks := false }, kinds := [], alts := [], laidByText := true, laidKinds := [.data], laidTests := true, laidLooks := .later }
def CutSetsUptoCardSaid : Prop := Claim7.holds Tryd.pinned (.plain (OpenSpec.upto cutSetsSpec)) cutSetsUptoCard

/-- THE SECOND FORM's CARD OF 'angeluslaw18.CutLess'. -/
def cutLessUptoCard : Claim7 := { stood := { row := cutLessUptoRow, standIns := [], harness := (true, "d7c5143af6fc1bc6730002573771954a4a87ea3b82fc1fec314d75e77fa79815"), looks := false }, kinds := [], alts := [], laidByText := true, laidKinds := [.data], laidTests := true, laidLooks := .later }
def CutLessUptoCardSaid : Prop := Claim7.holds Tryd.pinned (.plain (OpenSpec.upto cutLessSpec)) cutLessUptoCard

/-- THE SECOND FORM's CARD OF 'angeluslaw18.CutMore'. -/
def cutMoreUptoCard : Claim7 := { stood := { row := cutMoreUptoRow, standIns := [], harness := (true, "d7c5143af6fc1bc6730002573771954a4a87ea3b82fc1fec314d75e77fa79815"), looks := false }, kinds := [], alts := [], laidByText := true, laidKinds := [.data], laidTests := true, laidLooks := .later }
def CutMoreUptoCardSaid : Prop := Claim7.holds Tryd.pinned (.plain (OpenSpec.upto cutMoreSpec)) cutMoreUptoCard

/-- THE SECOND FORM's CARD OF 'angeluslaw32.FloodRuns'. -/
def floodRunsUptoCard : Claim7 := { stood := { row := floodRunsUptoRow, standIns := [], harness := (true, "d7c5143af6fc1bc6730002573771954a4a87ea3b82fc1fec314d75e77fa79815"), looks := false }, kinds := [], alts := [], laidByText := true, laidKinds := [.data], laidTests := true, laidLooks := .later }
def FloodRunsUptoCardSaid : Prop := Claim7.holds Tryd.pinned (.plain (OpenSpec.upto floodRunsSpec)) floodRunsUptoCard

/-- THE SECOND FORM's CARD OF 'angeluslaw32.FloodAll'. -/
def floodAllUptoCard : Claim7 := { stood := { row := floodAllUptoRow, standIns := [], harness := (true, "d7c5143af6fc1bc6730002573771954a4a87ea3b82fc1fec314d75e77fa79815"), looks := false }, kinds := [], alts := [], laidByText := true, laidKinds := [.data], laidTests := true, laidLooks := .later }
def FloodAllUptoCardSaid : Prop := Claim7.holds Tryd.pinned (.plain (OpenSpec.upto floodAllSpec)) floodAllUptoCard

/-- THE SECOND FORM's CARD OF 'angeluslaw32.FloodPaths'. -/
def floodPathsUptoCard : Claim7 := { stood := { row := floodPathsUptoRow, standIns := [], harness := (true, "d7c5143af6fc1bc6730002573771954a4a87ea3b82fc1fec314d75e77fa79815"), looks := false }, kinds := [], alts := [], laidByText := true, laidKinds := [.data], laidTests := true, laidLooks := .later }
def FloodPathsUptoCardSaid : Prop := Claim7.holds Tryd.pinned (.plain (OpenSpec.upto floodPathsSpec)) floodPathsUptoCard

/-- THE SECOND FORM's CARD OF 'angeluslaw32.FloodTells'. -/
def floodTellsUptoCard : Claim7 := { stood := { row := floodTellsUptoRow, standIns := [], harness := (true, "d7c5143af6fc1bc6730002573771954a4a87ea3b82fc1fec314d75e77fa79815"), looks := false }, kinds := [], alts := [], laidByText := true, laidKinds := [.data], laidTests := true, laidLooks := .later }
def FloodTellsUptoCardSaid : Prop := Claim7.holds Tryd.pinned (.plain (OpenSpec.upto floodTellsSpec)) floodTellsUptoCard
end Rows
end Go.Proofs.YtmbblhajbecomaaDoor
