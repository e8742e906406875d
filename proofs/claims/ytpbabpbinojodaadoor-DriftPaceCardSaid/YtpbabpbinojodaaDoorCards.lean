/-
  DERIVED. GIVEN WITH THE SEED: THE CARDS: each row of YtpbabpbinojodaaDoorRows.lean that lists a variable, with what it lists TIED to the program's text (the seventh form; the later family's looks); each row that meets fmt, with fmt's text TOLD by the authors' own Lean function (tested against real Go, not proved from fmt's source: count such statements apart). THE CARD IS WHAT COUNTS. Prove the row's statement (the work); the ties are given (YtpbabpbinojodaaDoorTie.lean); close each card by the builder's one call (the guide's Derived/Test/ToyasCard.lean, 'card_holds'). Laid BY PROGRAM, IN A SANDBOX (cutbox-door.mjs). By AI agents, Wed Nov 11 2026. No macro, syntax, notation, axiom, sorry.
-/
import Derived.Test.YtpbabpbinojodaaDoorRows
import GoSem.ClaimSeven
namespace Go.Proofs.YtpbabpbinojodaaDoor
namespace Rows

/-- THE TIED CARD OF 'angeluslaw28.DriftWatches'. -/
def driftWatchesCard : Claim7 := { stood := { row := driftWatchesRow, standIns := [], harness := (true, "01409d6f74816a0f9f48fc3fd2c0a9ba0cb305411a192e9ba0df48b678123989"), looks := false }, kinds := [], alts := [], laidByText := true, laidKinds := [.data], laidTests := true, laidLooks := .later }
def DriftWatchesCardSaid : Prop := Claim7.holds Tryd.pinned (.plain (OpenSpec.ofChange driftWatchesSpec)) driftWatchesCard

/-- THE TIED CARD OF 'angeluslaw28.DriftPace'. -/
def driftPaceCard : Claim7 := { stood := { row := driftPaceRow, standIns := [], harness := (true, "01409d6f74816a0f9f48fc3fd2c0a9ba0cb305411a192e9ba0df48b678123989"), looks := false }, kinds := [], alts := [], laidByText := true, laidKinds := [.data], laidTests := true, laidLooks := .later }
def DriftPaceCardSaid : Prop := Claim7.holds Tryd.pinned (.plain (OpenSpec.ofChange driftPaceSpec)) driftPaceCard

/-- THE TIED CARD OF 'angeluslaw28.DriftNil'. -/
def driftNilCard : Claim7 := { stood := { row := driftNilRow, standIns := [], harness := (true, "01409d6f74816a0f9f48fc3fd2c0a9ba0cb305411a192e9ba0df48b678123989"), looks := false }, kinds := [], alts := [], laidByText := true, laidKinds := [.data], laidTests := true, laidLooks := .later }
def DriftNilCardSaid : Prop := Claim7.holds Tryd.pinned (.plain (OpenSpec.ofChange driftNilSpec)) driftNilCard

/-- THE SECOND FORM's CARD OF 'angeluslaw28.DriftWatches'. -/
def driftWatchesUptoCard : Claim7 := { stood := { row := driftWatchesUptoRow, standIns := [], harness := (true, "01409d6f74816a0f9f48fc3fd2c0a9ba0cb305411a192e9ba0df48b678123989"), looks := false }, kinds := [], alts := [], laidByText := true, laidKinds := [.data], laidTests := true, laidLooks := .later }
def DriftWatchesUptoCardSaid : Prop := Claim7.holds Tryd.pinned (.plain (OpenSpec.upto driftWatchesSpec)) driftWatchesUptoCard

/-- THE SECOND FORM's CARD OF 'angeluslaw28.DriftPace'. -/
def driftPaceUptoCard : Claim7 := { stood := { row := driftPaceUptoRow, standIns := [], harness := (true, "01409d6f74816a0f9f48fc3fd2c0a9ba0cb305411a192e9ba0df48b678123989"), looks := false }, kinds := [], alts := [], laidByText := true, laidKinds := [.data], laidTests := true, laidLooks := .later }
def DriftPaceUptoCardSaid : Prop := Claim7.holds Tryd.pinned (.plain (OpenSpec.upto driftPaceSpec)) driftPaceUptoCard

/-- THE SECOND FORM's CARD OF 'angeluslaw28.DriftNil'. -/
def driftNilUptoCard : Claim7 := { stood := { row := driftNilUptoRow, standIns := [], harness := (true, "01409d6f74816a0f9f48fc3fd2c0a9ba0cb305411a192e9ba0df48b678123989"), looks := false }, kinds := [], alts := [], laidByText := true, laidKinds := [.data], laidTests := true, laidLooks := .later }
def DriftNilUptoCardSaid : Prop := Claim7.holds Tryd.pinned (.plain (OpenSpec.upto driftNilSpec)) driftNilUptoCard
end Rows
end Go.Proofs.YtpbabpbinojodaaDoor
