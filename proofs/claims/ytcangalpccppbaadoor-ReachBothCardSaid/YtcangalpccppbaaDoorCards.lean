/-
  DERIVED. GIVEN WITH THE SEED: THE CARDS: each row of YtcangalpccppbaaDoorRows.lean that lists a variable, with what it lists TIED to the program's text (the seventh form; the later family's looks); each row that meets fmt, with fmt's text TOLD by the authors' own Lean function (tested against real Go, not proved from fmt's source: count such statements apart). THE CARD IS WHAT COUNTS. Prove the row's statement (the work); the ties are given (YtcangalpccppbaaDoorTie.lean); close each card by the builder's one call (the guide's Derived/Test/ToyasCard.lean, 'card_holds'). Laid BY PROGRAM, IN A SANDBOX (cutbox-door.mjs). By AI agents, Wed Nov 11 2026. No macro, syntax, notation, axiom, sorry.
-/
import Derived.Test.YtcangalpccppbaaDoorRows
import GoSem.ClaimSeven
namespace Go.Proofs.YtcangalpccppbaaDoor
namespace Rows

/-- THE TIED CARD OF 'angeluslaw16.GraphNew'. -/
def graphNewCard : Claim7 := { stood := { row := graphNewRow, standIns := [], harness := (true, "f21cb655ad613552518f8362c752002e74a53e51d5f078dce9f5d058c19c1edb"), looks := false }, kinds := [], alts := [], laidByText := true, laidKinds := [.data], laidTests := true, laidLooks := .later }
def GraphNewCardSaid : Prop := Claim7.holds Tryd.pinned (.plain (OpenSpec.ofChange graphNewSpec)) graphNewCard

/-- THE TIED CARD OF 'angeluslaw16.GraphBack'. -/
def graphBackCard : Claim7 := { stood := { row := graphBackRow, standIns := [], harness := (true, "f21cb655ad613552518f8362c752002e74a53e51d5f078dce9f5d058c19c1edb"), looks := false }, kinds := [], alts := [], laidByText := true, laidKinds := [.data], laidTests := true, laidLooks := .later }
def GraphBackCardSaid : Prop := Claim7.holds Tryd.pinned (.plain (OpenSpec.ofChange graphBackSpec)) graphBackCard

/-- THE TIED CARD OF 'angeluslaw16.GraphLinked'. -/
def graphLinkedCard : Claim7 := { stood := { row := graphLinkedRow, standIns := [], harness := (true, "f21cb655ad613552518f8362c752002e74a53e51d5f078dce9f5d058c19c1edb"), looks := false }, kinds := [], alts := [], laidByText := true, laidKinds := [.data], laidTests := true, laidLooks := .later }
def GraphLinkedCardSaid : Prop := Claim7.holds Tryd.pinned (.plain (OpenSpec.ofChange graphLinkedSpec)) graphLinkedCard

/-- THE TIED CARD OF 'angeluslaw16.GraphWithout'. -/
def graphWithoutCard : Claim7 := { stood := { row := graphWithoutRow, standIns := [], harness := (true, "f21cb655ad613552518f8362c752002e74a53e51d5f078dce9f5d058c19c1edb"), looks := false }, kinds := [], alts := [], laidByText := true, laidKinds := [.data], laidTests := true, laidLooks := .later }
def GraphWithoutCardSaid : Prop := Claim7.holds Tryd.pinned (.plain (OpenSpec.ofChange graphWithoutSpec)) graphWithoutCard

/-- THE TIED CARD OF 'angeluslaw16.GraphNil'. -/
def graphNilCard : Claim7 := { stood := { row := graphNilRow, standIns := [], harness := (true, "f21cb655ad613552518f8362c752002e74a53e51d5f078dce9f5d058c19c1edb"), looks := false }, kinds := [], alts := [], laidByText := true, laidKinds := [.data], laidTests := true, laidLooks := .later }
def GraphNilCardSaid : Prop := Claim7.holds Tryd.pinned (.plain (OpenSpec.ofChange graphNilSpec)) graphNilCard

/-- THE TIED CARD OF 'angeluslaw16.GraphShapes'. -/
def graphShapesCard : Claim7 := { stood := { row := graphShapesRow, standIns := [], harness := (true, "f21cb655ad613552518f8362c752002e74a53e51d5f078dce9f5d058c19c1edb"), looks := false }, kinds := [], alts := [], laidByText := true, laidKinds := [.data], laidTests := true, laidLooks := .later }
def GraphShapesCardSaid : Prop := Claim7.holds Tryd.pinned (.plain (OpenSpec.ofChange graphShapesSpec)) graphShapesCard

/-- THE TIED CARD OF 'angeluslaw17.ReachDist'. -/
def reachDistCard : Claim7 := { stood := { row := reachDistRow, standIns := [], harness := (true, "f21cb655ad613552518f8362c752002e74a53e51d5f078dce9f5d058c19c1edb"), looks := false }, kinds := [], alts := [], laidByText := true, laidKinds := [.data], laidTests := true, laidLooks := .later }
def ReachDistCardSaid : Prop := Claim7.holds Tryd.pinned (.plain (OpenSpec.ofChange reachDistSpec)) reachDistCard

/-- THE TIED CARD OF 'angeluslaw17.ReachWide'. -/
def reachWideCard : Claim7 := { stood := { row := reachWideRow, standIns := [], harness := (true, "f21cb655ad613552518f8362c752002e74a53e51d5f078dce9f5d058c19c1edb"), looks := false }, kinds := [], alts := [], laidByText := true, laidKinds := [.data], laidTests := true, laidLooks := .later }
def ReachWideCardSaid : Prop := Claim7.holds Tryd.pinned (.plain (OpenSpec.ofChange reachWideSpec)) reachWideCard

/-- THE TIED CARD OF 'angeluslaw17.ReachBalls'. -/
def reachBallsCard : Claim7 := { stood := { row := reachBallsRow, standIns := [], harness := (true, "f21cb655ad613552518f8362c752002e74a53e51d5f078dce9f5d058c19c1edb"), looks := false }, kinds := [], alts := [], laidByText := true, laidKinds := [.data], laidTests := true, laidLooks := .later }
def ReachBallsCardSaid : Prop := Claim7.holds Tryd.pinned (.plain (OpenSpec.ofChange reachBallsSpec)) reachBallsCard

/-- THE TIED CARD OF 'angeluslaw17.ReachBoth'. -/
def reachBothCard : Claim7 := { stood := { row := reachBothRow, standIns := [], harness := (true, "f21cb655ad613552518f8362c752002e74a53e51d5f078dce9f5d058c19c1edb"), looks := false }, kinds := [], alts := [], laidByText := true, laidKinds := [.data], laidTests := true, laidLooks := .later }
def ReachBothCardSaid : Prop := Claim7.holds Tryd.pinned (.plain (OpenSpec.ofChange reachBothSpec)) reachBothCard

/-- THE TIED CARD OF 'angeluslaw17.ReachNil'. -/
def reachNilCard : Claim7 := { stood := { row := reachNilRow, standIns := [], harness := (true, "f21cb655ad613552518f8362c752002e74a53e51d5f078dce9f5d058c19c1edb"), looks := false }, kinds := [], alts := [], laidByText := true, laidKinds := [.data], laidTests := true, laidLooks := .later }
def ReachNilCardSaid : Prop := Claim7.holds Tryd.pinned (.plain (OpenSpec.ofChange reachNilSpec)) reachNilCard

/-- THE SECOND FORM's CARD OF 'angeluslaw16.GraphNew'. -/
def graphNewUptoCard : Claim7 := { stood := { row := graphNewUptoRow, standIns := [], harness := (true, "f21cb655ad613552518f8362c752002e74a53e51d5f078dce9f5d058c19c1edb"), looks := false }, kinds := [], alts := [], laidByText := true, laidKinds := [.data], laidTests := true, laidLooks := .later }
def GraphNewUptoCardSaid : Prop := Claim7.holds Tryd.pinned (.plain (OpenSpec.upto graphNewSpec)) graphNewUptoCard

/-- THE SECOND FORM's CARD OF 'angeluslaw16.GraphBack'. -/
def graphBackUptoCard : Claim7 := { stood := { row := graphBackUptoRow, standIns := [], harness := (true, "f21cb655ad613552518f8362c752002e74a53e51d5f078dce9f5d058c19c1edb"), looks := false }, kinds := [], alts := [], laidByText := true, laidKinds := [.data], laidTests := true, laidLooks := .later }
def GraphBackUptoCardSaid : Prop := Claim7.holds Tryd.pinned (.plain (OpenSpec.upto graphBackSpec)) graphBackUptoCard

/-- THE SECOND FORM's CARD OF 'angeluslaw16.GraphLinked'. -/
def graphLinkedUptoCard : Claim7 := { stood := { row := graphLinkedUptoRow, standIns := [], harness := (true, "f21cb655ad613552518f8362c752002e74a53e51d5f078dce9f5d058c19c1edb"), looks := false }, kinds := [], alts := [], laidByText := true, laidKinds := [.data], laidTests := true, laidLooks := .later }
def GraphLinkedUptoCardSaid : Prop := Claim7.holds Tryd.pinned (.plain (OpenSpec.upto graphLinkedSpec)) graphLinkedUptoCard

/-- THE SECOND FORM's CARD OF 'angeluslaw16.GraphWithout'. -/
def graphWithoutUptoCard : Claim7 := { stood := { row := graphWithoutUptoRow, standIns := [], harness := (true, "f21cb655ad613552518f8362c752002e74a53e51d5f078dce9f5d058c19c1edb"), looks := false }, kinds := [], alts := [], laidByText := true, laidKinds := [.data], laidTests := true, laidLooks := .later }
def GraphWithoutUptoCardSaid : Prop := Claim7.holds Tryd.pinned (.plain (OpenSpec.upto graphWithoutSpec)) graphWithoutUptoCard

/-- THE SECOND FORM's CARD OF 'angeluslaw16.GraphNil'. -/
def graphNilUptoCard : Claim7 := { stood := { row := graphNilUptoRow, standIns := [], harness := (true, "f21cb655ad613552518f8362c752002e74a53e51d5f078dce9f5d058c19c1edb"), looks := false }, kinds := [], alts := [], laidByText := true, laidKinds := [.data], laidTests := true, laidLooks := .later }
def GraphNilUptoCardSaid : Prop := Claim7.holds Tryd.pinned (.plain (OpenSpec.upto graphNilSpec)) graphNilUptoCard

/-- THE SECOND FORM's CARD OF 'angeluslaw16.GraphShapes'. -/
def graphShapesUptoCard : Claim7 := { stood := { row := graphShapesUptoRow, standIns := [], harness := (true, "f21cb655ad613552518f8362c752002e74a53e51d5f078dce9f5d058c19c1edb"), looks := false }, kinds := [], alts := [], laidByText := true, laidKinds := [.data], laidTests := true, laidLooks := .later }
def GraphShapesUptoCardSaid : Prop := Claim7.holds Tryd.pinned (.plain (OpenSpec.upto graphShapesSpec)) graphShapesUptoCard

/-- THE SECOND FORM's CARD OF 'angeluslaw17.ReachDist'. -/
def reachDistUptoCard : Claim7 := { stood := { row := reachDistUptoRow, standIns := [], harness := (true, "f21cb655ad613552518f8362c752002e74a53e51d5f078dce9f5d058c19c1edb"), looks := false }, kinds := [], alts := [], laidByText := true, laidKinds := [.data], laidTests := true, laidLooks := .later }
def ReachDistUptoCardSaid : Prop := Claim7.holds Tryd.pinned (.plain (OpenSpec.upto reachDistSpec)) reachDistUptoCard

/-- THE SECOND FORM's CARD OF 'angeluslaw17.ReachWide'. -/
def reachWideUptoCard : Claim7 := { stood := { row := reachWideUptoRow, standIns := [], harness := (true, "f21cb655ad613552518f8362c752002e74a53e51d5f078dce9f5d058c19c1edb"), looks := false }, kinds := [], alts := [], laidByText := true, laidKinds := [.data], laidTests := true, laidLooks := .later }
def ReachWideUptoCardSaid : Prop := Claim7.holds Tryd.pinned (.plain (OpenSpec.upto reachWideSpec)) reachWideUptoCard

/-- THE SECOND FORM's CARD OF 'angeluslaw17.ReachBalls'. -/
def reachBallsUptoCard : Claim7 := { stood := { row := reachBallsUptoRow, standIns := [], harness := (true, "f21cb655ad613552518f8362c752002e74a53e51d5f078dce9f5d058c19c1edb"), looks := false }, kinds := [], alts := [], laidByText := true, laidKinds := [.data], laidTests := true, laidLooks := .later }
def ReachBallsUptoCardSaid : Prop := Claim7.holds Tryd.pinned (.plain (OpenSpec.upto reachBallsSpec)) reachBallsUptoCard

/-- THE SECOND FORM's CARD OF 'angeluslaw17.ReachBoth'. -/
def reachBothUptoCard : Claim7 := { stood := { row := reachBothUptoRow, standIns := [], harness := (true, "f21cb655ad613552518f8362c752002e74a53e51d5f078dce9f5d058c19c1edb"), looks := false }, kinds := [], alts := [], laidByText := true, laidKinds := [.data], laidTests := true, laidLooks := .later }
def ReachBothUptoCardSaid : Prop := Claim7.holds Tryd.pinned (.plain (OpenSpec.upto reachBothSpec)) reachBothUptoCard

/-- THE SECOND FORM's CARD OF 'angeluslaw17.ReachNil'. -/
def reachNilUptoCard : Claim7 := { stood := { row := reachNilUptoRow, standIns := [], harness := (true, "f21cb655ad613552518f8362c752002e74a53e51d5f078dce9f5d058c19c1edb"), looks := false }, kinds := [], alts := [], laidByText := true, laidKinds := [.data], laidTests := true, laidLooks := .later }
def ReachNilUptoCardSaid : Prop := Claim7.holds Tryd.pinned (.plain (OpenSpec.upto reachNilSpec)) reachNilUptoCard
end Rows
end Go.Proofs.YtcangalpccppbaaDoor
