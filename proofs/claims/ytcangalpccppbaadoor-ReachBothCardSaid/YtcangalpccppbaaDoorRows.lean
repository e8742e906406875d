/-
  NARROWER THAN 'FOR EVERY INPUT', by the rows' own cells (each row's printed sentence says how): GraphNew: laid · GraphBack: laid · GraphLinked: laid · GraphWithout: laid · GraphNil: laid · GraphShapes: laid · ReachDist: laid · ReachWide: laid · ReachBalls: laid · ReachBoth: laid · ReachNil: laid.
  DERIVED. THE GIVEN ROWS OF THIS SEAT. 11 by the template 'for every input the law returns true; each argument reads behind the call as it read before'; 0 by the template 'total and deterministic' (their statements: YtcangalpccppbaaDoorTotals.lean).
  GIVEN WITH THE SEED: the statements are not yours to turn. If you find one false, say at which input.
  Laid BY PROGRAM, IN A SANDBOX (cutbox-rows.mjs): the forced cells as the released guide's own fill.sh prints them over the translation 0926d325003fbe77… (all of the seat's roots in one cut). By AI agents, Wed Nov 11 2026. No macro, syntax, notation, axiom, sorry.
-/
import Derived.Test.YtcangalpccppbaaDoorChecked
import GoSem.Claim
import GoSem.ClaimJoined
import GoSem.ClaimMapViews
import Derived.JoinedTies
import Derived.KernelRfl
namespace Go.Proofs.YtcangalpccppbaaDoor
/- THE CELL 'sum', in the pinned program and in every row, IS THE sha256 OF THE DUMP (.gsa) THAT YtcangalpccppbaaDoorProg.lean LOADS. Nothing in Lean hashes anything: it is a label: what it is worth is what the hold of that sum in a sandbox is worth. -/
noncomputable def Tryd.pinned : Pinned := { name := "ytcangalpccppbaadoor", sum := "0926d325003fbe77490d2387859f26d30acf78e7d4b5588e1b4cc9bd38ccf481", checked := Tryd.checked }
namespace Rows
def none {H : Type} : Left H := { results := [], args := [] }

/- WHAT THE LISTED PACKAGE-LEVEL VARIABLES READ AS WHEN THE CALL BEGINS. Each datum BY PROGRAM (the guide's laid-datum.mjs) off the statement by which the dump's own 'gosem.cut.vars' lays the variable. In a bare row this is a premise. The card (YtcangalpccppbaaDoorCards.lean) ties it to the program's text. -/
def laid_math_bits_deBruijn64tab {H : Type} : DataW H := .agg [.lit (.int .u8 0), .lit (.int .u8 1), .lit (.int .u8 56), .lit (.int .u8 2), .lit (.int .u8 57), .lit (.int .u8 49), .lit (.int .u8 28), .lit (.int .u8 3), .lit (.int .u8 61), .lit (.int .u8 58), .lit (.int .u8 42), .lit (.int .u8 50), .lit (.int .u8 38), .lit (.int .u8 29), .lit (.int .u8 17), .lit (.int .u8 4), .lit (.int .u8 62), .lit (.int .u8 47), .lit (.int .u8 59), .lit (.int .u8 36), .lit (.int .u8 45), .lit (.int .u8 43), .lit (.int .u8 51), .lit (.int .u8 22), .lit (.int .u8 53), .lit (.int .u8 39), .lit (.int .u8 33), .lit (.int .u8 30), .lit (.int .u8 24), .lit (.int .u8 18), .lit (.int .u8 12), .lit (.int .u8 5), .lit (.int .u8 63), .lit (.int .u8 55), .lit (.int .u8 48), .lit (.int .u8 27), .lit (.int .u8 60), .lit (.int .u8 41), .lit (.int .u8 37), .lit (.int .u8 16), .lit (.int .u8 46), .lit (.int .u8 35), .lit (.int .u8 44), .lit (.int .u8 21), .lit (.int .u8 52), .lit (.int .u8 32), .lit (.int .u8 23), .lit (.int .u8 11), .lit (.int .u8 54), .lit (.int .u8 26), .lit (.int .u8 40), .lit (.int .u8 15), .lit (.int .u8 34), .lit (.int .u8 20), .lit (.int .u8 31), .lit (.int .u8 10), .lit (.int .u8 25), .lit (.int .u8 14), .lit (.int .u8 19), .lit (.int .u8 9), .lit (.int .u8 13), .lit (.int .u8 8), .lit (.int .u8 7), .lit (.int .u8 6)]

/-- 'angeluslaw16.GraphNew': WHATEVER THE INPUT: true; the input reads as it did. -/
def graphNewSpec : ChangeSpec := { name := "graphNew", fn := fun _ => fun
  | [d1, d2] => { results := [.lit (.bool true)], args := [d1, d2] }
  | _ => none }
def graphNewRow : OpenClaim := { program := "ytcangalpccppbaadoor", sum := "0926d325003fbe77490d2387859f26d30acf78e7d4b5588e1b4cc9bd38ccf481", func := "angelus/angeluslaw16.GraphNew", spec := "graphNew", unfollowed := true, recurses := true, named := ["math/bits.deBruijn64tab"], plainKeys := false, apart := false, laid := [("math/bits.deBruijn64tab", laid_math_bits_deBruijn64tab)] }
def GraphNewSaid : Prop := graphNewRow.holds Tryd.pinned (OpenSpec.ofChange graphNewSpec)

/-- ITS FALSE NEIGHBOUR: 'it returns false'. Refute it at one input. -/
def graphNewWrong : ChangeSpec := { name := "graphNew", fn := fun _ => fun
  | [d1, d2] => { results := [.lit (.bool false)], args := [d1, d2] }
  | _ => none }
def GraphNewWrongFalsely : Prop := graphNewRow.holds Tryd.pinned (OpenSpec.ofChange graphNewWrong)

/-- 'angeluslaw16.GraphBack': WHATEVER THE INPUT: true; the input reads as it did. -/
def graphBackSpec : ChangeSpec := { name := "graphBack", fn := fun _ => fun
  | [d1, d2] => { results := [.lit (.bool true)], args := [d1, d2] }
  | _ => none }
def graphBackRow : OpenClaim := { program := "ytcangalpccppbaadoor", sum := "0926d325003fbe77490d2387859f26d30acf78e7d4b5588e1b4cc9bd38ccf481", func := "angelus/angeluslaw16.GraphBack", spec := "graphBack", unfollowed := true, recurses := true, named := ["math/bits.deBruijn64tab"], plainKeys := false, apart := false, laid := [("math/bits.deBruijn64tab", laid_math_bits_deBruijn64tab)] }
def GraphBackSaid : Prop := graphBackRow.holds Tryd.pinned (OpenSpec.ofChange graphBackSpec)

/-- ITS FALSE NEIGHBOUR: 'it returns false'. Refute it at one input. -/
def graphBackWrong : ChangeSpec := { name := "graphBack", fn := fun _ => fun
  | [d1, d2] => { results := [.lit (.bool false)], args := [d1, d2] }
  | _ => none }
def GraphBackWrongFalsely : Prop := graphBackRow.holds Tryd.pinned (OpenSpec.ofChange graphBackWrong)

/-- 'angeluslaw16.GraphLinked': WHATEVER THE INPUT: true; the input reads as it did. -/
def graphLinkedSpec : ChangeSpec := { name := "graphLinked", fn := fun _ => fun
  | [d1, d2, d3] => { results := [.lit (.bool true)], args := [d1, d2, d3] }
  | _ => none }
def graphLinkedRow : OpenClaim := { program := "ytcangalpccppbaadoor", sum := "0926d325003fbe77490d2387859f26d30acf78e7d4b5588e1b4cc9bd38ccf481", func := "angelus/angeluslaw16.GraphLinked", spec := "graphLinked", unfollowed := true, recurses := true, named := ["math/bits.deBruijn64tab"], plainKeys := false, apart := false, laid := [("math/bits.deBruijn64tab", laid_math_bits_deBruijn64tab)] }
def GraphLinkedSaid : Prop := graphLinkedRow.holds Tryd.pinned (OpenSpec.ofChange graphLinkedSpec)

/-- ITS FALSE NEIGHBOUR: 'it returns false'. Refute it at one input. -/
def graphLinkedWrong : ChangeSpec := { name := "graphLinked", fn := fun _ => fun
  | [d1, d2, d3] => { results := [.lit (.bool false)], args := [d1, d2, d3] }
  | _ => none }
def GraphLinkedWrongFalsely : Prop := graphLinkedRow.holds Tryd.pinned (OpenSpec.ofChange graphLinkedWrong)

/-- 'angeluslaw16.GraphWithout': WHATEVER THE INPUT: true; the input reads as it did. -/
def graphWithoutSpec : ChangeSpec := { name := "graphWithout", fn := fun _ => fun
  | [d1, d2, d3] => { results := [.lit (.bool true)], args := [d1, d2, d3] }
  | _ => none }
def graphWithoutRow : OpenClaim := { program := "ytcangalpccppbaadoor", sum := "0926d325003fbe77490d2387859f26d30acf78e7d4b5588e1b4cc9bd38ccf481", func := "angelus/angeluslaw16.GraphWithout", spec := "graphWithout", unfollowed := true, recurses := true, named := ["math/bits.deBruijn64tab"], plainKeys := false, apart := false, laid := [("math/bits.deBruijn64tab", laid_math_bits_deBruijn64tab)] }
def GraphWithoutSaid : Prop := graphWithoutRow.holds Tryd.pinned (OpenSpec.ofChange graphWithoutSpec)

/-- ITS FALSE NEIGHBOUR: 'it returns false'. Refute it at one input. -/
def graphWithoutWrong : ChangeSpec := { name := "graphWithout", fn := fun _ => fun
  | [d1, d2, d3] => { results := [.lit (.bool false)], args := [d1, d2, d3] }
  | _ => none }
def GraphWithoutWrongFalsely : Prop := graphWithoutRow.holds Tryd.pinned (OpenSpec.ofChange graphWithoutWrong)

/-- 'angeluslaw16.GraphNil': WHATEVER THE INPUT: true; the input reads as it did. -/
def graphNilSpec : ChangeSpec := { name := "graphNil", fn := fun _ => fun
  | [d1, d2] => { results := [.lit (.bool true)], args := [d1, d2] }
  | _ => none }
def graphNilRow : OpenClaim := { program := "ytcangalpccppbaadoor", sum := "0926d325003fbe77490d2387859f26d30acf78e7d4b5588e1b4cc9bd38ccf481", func := "angelus/angeluslaw16.GraphNil", spec := "graphNil", unfollowed := true, recurses := true, named := ["math/bits.deBruijn64tab"], plainKeys := false, apart := false, laid := [("math/bits.deBruijn64tab", laid_math_bits_deBruijn64tab)] }
def GraphNilSaid : Prop := graphNilRow.holds Tryd.pinned (OpenSpec.ofChange graphNilSpec)

/-- ITS FALSE NEIGHBOUR: 'it returns false'. Refute it at one input. -/
def graphNilWrong : ChangeSpec := { name := "graphNil", fn := fun _ => fun
  | [d1, d2] => { results := [.lit (.bool false)], args := [d1, d2] }
  | _ => none }
def GraphNilWrongFalsely : Prop := graphNilRow.holds Tryd.pinned (OpenSpec.ofChange graphNilWrong)

/-- 'angeluslaw16.GraphShapes': WHATEVER THE INPUT: true; the input reads as it did. -/
def graphShapesSpec : ChangeSpec := { name := "graphShapes", fn := fun _ => fun
  | [d] => { results := [.lit (.bool true)], args := [d] }
  | _ => none }
def graphShapesRow : OpenClaim := { program := "ytcangalpccppbaadoor", sum := "0926d325003fbe77490d2387859f26d30acf78e7d4b5588e1b4cc9bd38ccf481", func := "angelus/angeluslaw16.GraphShapes", spec := "graphShapes", unfollowed := true, recurses := true, named := ["math/bits.deBruijn64tab"], plainKeys := false, apart := false, laid := [("math/bits.deBruijn64tab", laid_math_bits_deBruijn64tab)] }
def GraphShapesSaid : Prop := graphShapesRow.holds Tryd.pinned (OpenSpec.ofChange graphShapesSpec)

/-- ITS FALSE NEIGHBOUR: 'it returns false'. Refute it at one input. -/
def graphShapesWrong : ChangeSpec := { name := "graphShapes", fn := fun _ => fun
  | [d] => { results := [.lit (.bool false)], args := [d] }
  | _ => none }
def GraphShapesWrongFalsely : Prop := graphShapesRow.holds Tryd.pinned (OpenSpec.ofChange graphShapesWrong)

/-- 'angeluslaw17.ReachDist': WHATEVER THE INPUT: true; the input reads as it did. -/
def reachDistSpec : ChangeSpec := { name := "reachDist", fn := fun _ => fun
  | [d1, d2, d3] => { results := [.lit (.bool true)], args := [d1, d2, d3] }
  | _ => none }
def reachDistRow : OpenClaim := { program := "ytcangalpccppbaadoor", sum := "0926d325003fbe77490d2387859f26d30acf78e7d4b5588e1b4cc9bd38ccf481", func := "angelus/angeluslaw17.ReachDist", spec := "reachDist", unfollowed := true, recurses := true, named := ["math/bits.deBruijn64tab"], plainKeys := false, apart := false, laid := [("math/bits.deBruijn64tab", laid_math_bits_deBruijn64tab)] }
def ReachDistSaid : Prop := reachDistRow.holds Tryd.pinned (OpenSpec.ofChange reachDistSpec)

/-- ITS FALSE NEIGHBOUR: 'it returns false'. Refute it at one input. -/
def reachDistWrong : ChangeSpec := { name := "reachDist", fn := fun _ => fun
  | [d1, d2, d3] => { results := [.lit (.bool false)], args := [d1, d2, d3] }
  | _ => none }
def ReachDistWrongFalsely : Prop := reachDistRow.holds Tryd.pinned (OpenSpec.ofChange reachDistWrong)

/-- 'angeluslaw17.ReachWide': WHATEVER THE INPUT: true; the input reads as it did. -/
def reachWideSpec : ChangeSpec := { name := "reachWide", fn := fun _ => fun
  | [d1, d2] => { results := [.lit (.bool true)], args := [d1, d2] }
  | _ => none }
def reachWideRow : OpenClaim := { program := "ytcangalpccppbaadoor", sum := "0926d325003fbe77490d2387859f26d30acf78e7d4b5588e1b4cc9bd38ccf481", func := "angelus/angeluslaw17.ReachWide", spec := "reachWide", unfollowed := true, recurses := true, named := ["math/bits.deBruijn64tab"], plainKeys := false, apart := false, laid := [("math/bits.deBruijn64tab", laid_math_bits_deBruijn64tab)] }
def ReachWideSaid : Prop := reachWideRow.holds Tryd.pinned (OpenSpec.ofChange reachWideSpec)

/-- ITS FALSE NEIGHBOUR: 'it returns false'. Refute it at one input. -/
def reachWideWrong : ChangeSpec := { name := "reachWide", fn := fun _ => fun
  | [d1, d2] => { results := [.lit (.bool false)], args := [d1, d2] }
  | _ => none }
def ReachWideWrongFalsely : Prop := reachWideRow.holds Tryd.pinned (OpenSpec.ofChange reachWideWrong)

/-- 'angeluslaw17.ReachBalls': WHATEVER THE INPUT: true; the input reads as it did. -/
def reachBallsSpec : ChangeSpec := { name := "reachBalls", fn := fun _ => fun
  | [d1, d2, d3] => { results := [.lit (.bool true)], args := [d1, d2, d3] }
  | _ => none }
def reachBallsRow : OpenClaim := { program := "ytcangalpccppbaadoor", sum := "0926d325003fbe77490d2387859f26d30acf78e7d4b5588e1b4cc9bd38ccf481", func := "angelus/angeluslaw17.ReachBalls", spec := "reachBalls", unfollowed := true, recurses := true, named := ["math/bits.deBruijn64tab"], plainKeys := false, apart := false, laid := [("math/bits.deBruijn64tab", laid_math_bits_deBruijn64tab)] }
def ReachBallsSaid : Prop := reachBallsRow.holds Tryd.pinned (OpenSpec.ofChange reachBallsSpec)

/-- ITS FALSE NEIGHBOUR: 'it returns false'. Refute it at one input. -/
def reachBallsWrong : ChangeSpec := { name := "reachBalls", fn := fun _ => fun
  | [d1, d2, d3] => { results := [.lit (.bool false)], args := [d1, d2, d3] }
  | _ => none }
def ReachBallsWrongFalsely : Prop := reachBallsRow.holds Tryd.pinned (OpenSpec.ofChange reachBallsWrong)

/-- 'angeluslaw17.ReachBoth': WHATEVER THE INPUT: true; the input reads as it did. -/
def reachBothSpec : ChangeSpec := { name := "reachBoth", fn := fun _ => fun
  | [d1, d2] => { results := [.lit (.bool true)], args := [d1, d2] }
  | _ => none }
def reachBothRow : OpenClaim := { program := "ytcangalpccppbaadoor", sum := "0926d325003fbe77490d2387859f26d30acf78e7d4b5588e1b4cc9bd38ccf481", func := "angelus/angeluslaw17.ReachBoth", spec := "reachBoth", unfollowed := true, recurses := true, named := ["math/bits.deBruijn64tab"], plainKeys := false, apart := false, laid := [("math/bits.deBruijn64tab", laid_math_bits_deBruijn64tab)] }
def ReachBothSaid : Prop := reachBothRow.holds Tryd.pinned (OpenSpec.ofChange reachBothSpec)

/-- ITS FALSE NEIGHBOUR: 'it returns false'. Refute it at one input. -/
def reachBothWrong : ChangeSpec := { name := "reachBoth", fn := fun _ => fun
  | [d1, d2] => { results := [.lit (.bool false)], args := [d1, d2] }
  | _ => none }
def ReachBothWrongFalsely : Prop := reachBothRow.holds Tryd.pinned (OpenSpec.ofChange reachBothWrong)

/-- 'angeluslaw17.ReachNil': WHATEVER THE INPUT: true; the input reads as it did. -/
def reachNilSpec : ChangeSpec := { name := "reachNil", fn := fun _ => fun
  | [d1, d2] => { results := [.lit (.bool true)], args := [d1, d2] }
  | _ => none }
def reachNilRow : OpenClaim := { program := "ytcangalpccppbaadoor", sum := "0926d325003fbe77490d2387859f26d30acf78e7d4b5588e1b4cc9bd38ccf481", func := "angelus/angeluslaw17.ReachNil", spec := "reachNil", unfollowed := true, recurses := true, named := ["math/bits.deBruijn64tab"], plainKeys := false, apart := false, laid := [("math/bits.deBruijn64tab", laid_math_bits_deBruijn64tab)] }
def ReachNilSaid : Prop := reachNilRow.holds Tryd.pinned (OpenSpec.ofChange reachNilSpec)

/-- ITS FALSE NEIGHBOUR: 'it returns false'. Refute it at one input. -/
def reachNilWrong : ChangeSpec := { name := "reachNil", fn := fun _ => fun
  | [d1, d2] => { results := [.lit (.bool false)], args := [d1, d2] }
  | _ => none }
def ReachNilWrongFalsely : Prop := reachNilRow.holds Tryd.pinned (OpenSpec.ofChange reachNilWrong)

/- THE SECOND FORM. 'bulk': how many values and letters a reading holds, each counted each time it is reached (what is shared counts as often as it is met; a slice's spare places count too). A statement '..UptoSaid' is the law's where the arguments, and the package variables that the reading takes, are together of bulk at most 1048576: NARROWER than '..Said'. Prove '..Said' where nothing that the law and all that it calls make is longer than what came in: it says more and counts as full. Else prove '..UptoSaid'. A law counts once. -/
mutual
def uptoBulk {H : Type} : DataW H → Nat
  | .lit (.string bytes) => bytes.length + 1
  | .lit _ => 1
  | .nil => 1
  | .ptr d => uptoBulk d + 1
  | .slice elems spare => uptoBulkAll elems + uptoBulkAll spare + 1
  | .agg parts => uptoBulkAll parts + 1
  | .iface _ d => uptoBulk d + 1
  | .map entries => uptoBulkEntries entries + 1
  | .held _ => 1
def uptoBulkAll {H : Type} : List (DataW H) → Nat
  | [] => 0
  | d :: r => uptoBulk d + uptoBulkAll r
def uptoBulkEntries {H : Type} : List (Lit × DataW H) → Nat
  | [] => 0
  | x :: r => uptoBulkEntry x + uptoBulkEntries r
def uptoBulkEntry {H : Type} : Lit × DataW H → Nat
  | (.string bytes, d) => bytes.length + uptoBulk d + 1
  | (_, d) => uptoBulk d + 1
 end
def uptoSmall : (H : Type) → List (DataW H) → Bool := fun _ ds => decide (uptoBulkAll ds ≤ 1048576)
def OpenSpec.upto (s : _root_.Go.ChangeSpec) : _root_.Go.OpenSpec := { _root_.Go.OpenSpec.ofChange s with cond := some uptoSmall }

/-- 'angeluslaw16.GraphNew', WHERE WHAT IT READS IS OF BULK AT MOST 1048576: true; the input reads as it did. -/
def graphNewUptoRow : OpenClaim := { program := "ytcangalpccppbaadoor", sum := "0926d325003fbe77490d2387859f26d30acf78e7d4b5588e1b4cc9bd38ccf481", func := "angelus/angeluslaw16.GraphNew", spec := "graphNew", unfollowed := true, recurses := true, named := ["math/bits.deBruijn64tab"], plainKeys := false, apart := false, laid := [("math/bits.deBruijn64tab", laid_math_bits_deBruijn64tab)], narrowed := true }
def GraphNewUptoSaid : Prop := graphNewUptoRow.holds Tryd.pinned (OpenSpec.upto graphNewSpec)

/-- 'angeluslaw16.GraphBack', WHERE WHAT IT READS IS OF BULK AT MOST 1048576: true; the input reads as it did. -/
def graphBackUptoRow : OpenClaim := { program := "ytcangalpccppbaadoor", sum := "0926d325003fbe77490d2387859f26d30acf78e7d4b5588e1b4cc9bd38ccf481", func := "angelus/angeluslaw16.GraphBack", spec := "graphBack", unfollowed := true, recurses := true, named := ["math/bits.deBruijn64tab"], plainKeys := false, apart := false, laid := [("math/bits.deBruijn64tab", laid_math_bits_deBruijn64tab)], narrowed := true }
def GraphBackUptoSaid : Prop := graphBackUptoRow.holds Tryd.pinned (OpenSpec.upto graphBackSpec)

/-- 'angeluslaw16.GraphLinked', WHERE WHAT IT READS IS OF BULK AT MOST 1048576: true; the input reads as it did. -/
def graphLinkedUptoRow : OpenClaim := { program := "ytcangalpccppbaadoor", sum := "0926d325003fbe77490d2387859f26d30acf78e7d4b5588e1b4cc9bd38ccf481", func := "angelus/angeluslaw16.GraphLinked", spec := "graphLinked", unfollowed := true, recurses := true, named := ["math/bits.deBruijn64tab"], plainKeys := false, apart := false, laid := [("math/bits.deBruijn64tab", laid_math_bits_deBruijn64tab)], narrowed := true }
def GraphLinkedUptoSaid : Prop := graphLinkedUptoRow.holds Tryd.pinned (OpenSpec.upto graphLinkedSpec)

/-- 'angeluslaw16.GraphWithout', WHERE WHAT IT READS IS OF BULK AT MOST 1048576: true; the input reads as it did. -/
def graphWithoutUptoRow : OpenClaim := { program := "ytcangalpccppbaadoor", sum := "0926d325003fbe77490d2387859f26d30acf78e7d4b5588e1b4cc9bd38ccf481", func := "angelus/angeluslaw16.GraphWithout", spec := "graphWithout", unfollowed := true, recurses := true, named := ["math/bits.deBruijn64tab"], plainKeys := false, apart := false, laid := [("math/bits.deBruijn64tab", laid_math_bits_deBruijn64tab)], narrowed := true }
def GraphWithoutUptoSaid : Prop := graphWithoutUptoRow.holds Tryd.pinned (OpenSpec.upto graphWithoutSpec)

/-- 'angeluslaw16.GraphNil', WHERE WHAT IT READS IS OF BULK AT MOST 1048576: true; the input reads as it did. -/
def graphNilUptoRow : OpenClaim := { program := "ytcangalpccppbaadoor", sum := "0926d325003fbe77490d2387859f26d30acf78e7d4b5588e1b4cc9bd38ccf481", func := "angelus/angeluslaw16.GraphNil", spec := "graphNil", unfollowed := true, recurses := true, named := ["math/bits.deBruijn64tab"], plainKeys := false, apart := false, laid := [("math/bits.deBruijn64tab", laid_math_bits_deBruijn64tab)], narrowed := true }
def GraphNilUptoSaid : Prop := graphNilUptoRow.holds Tryd.pinned (OpenSpec.upto graphNilSpec)

/-- 'angeluslaw16.GraphShapes', WHERE WHAT IT READS IS OF BULK AT MOST 1048576: true; the input reads as it did. -/
def graphShapesUptoRow : OpenClaim := { program := "ytcangalpccppbaadoor", sum := "0926d325003fbe77490d2387859f26d30acf78e7d4b5588e1b4cc9bd38ccf481", func := "angelus/angeluslaw16.GraphShapes", spec := "graphShapes", unfollowed := true, recurses := true, named := ["math/bits.deBruijn64tab"], plainKeys := false, apart := false, laid := [("math/bits.deBruijn64tab", laid_math_bits_deBruijn64tab)], narrowed := true }
def GraphShapesUptoSaid : Prop := graphShapesUptoRow.holds Tryd.pinned (OpenSpec.upto graphShapesSpec)

/-- 'angeluslaw17.ReachDist', WHERE WHAT IT READS IS OF BULK AT MOST 1048576: true; the input reads as it did. -/
def reachDistUptoRow : OpenClaim := { program := "ytcangalpccppbaadoor", sum := "0926d325003fbe77490d2387859f26d30acf78e7d4b5588e1b4cc9bd38ccf481", func := "angelus/angeluslaw17.ReachDist", spec := "reachDist", unfollowed := true, recurses := true, named := ["math/bits.deBruijn64tab"], plainKeys := false, apart := false, laid := [("math/bits.deBruijn64tab", laid_math_bits_deBruijn64tab)], narrowed := true }
def ReachDistUptoSaid : Prop := reachDistUptoRow.holds Tryd.pinned (OpenSpec.upto reachDistSpec)

/-- 'angeluslaw17.ReachWide', WHERE WHAT IT READS IS OF BULK AT MOST 1048576: true; the input reads as it did. -/
def reachWideUptoRow : OpenClaim := { program := "ytcangalpccppbaadoor", sum := "0926d325003fbe77490d2387859f26d30acf78e7d4b5588e1b4cc9bd38ccf481", func := "angelus/angeluslaw17.ReachWide", spec := "reachWide", unfollowed := true, recurses := true, named := ["math/bits.deBruijn64tab"], plainKeys := false, apart := false, laid := [("math/bits.deBruijn64tab", laid_math_bits_deBruijn64tab)], narrowed := true }
def ReachWideUptoSaid : Prop := reachWideUptoRow.holds Tryd.pinned (OpenSpec.upto reachWideSpec)

/-- 'angeluslaw17.ReachBalls', WHERE WHAT IT READS IS OF BULK AT MOST 1048576: true; the input reads as it did. -/
def reachBallsUptoRow : OpenClaim := { program := "ytcangalpccppbaadoor", sum := "0926d325003fbe77490d2387859f26d30acf78e7d4b5588e1b4cc9bd38ccf481", func := "angelus/angeluslaw17.ReachBalls", spec := "reachBalls", unfollowed := true, recurses := true, named := ["math/bits.deBruijn64tab"], plainKeys := false, apart := false, laid := [("math/bits.deBruijn64tab", laid_math_bits_deBruijn64tab)], narrowed := true }
def ReachBallsUptoSaid : Prop := reachBallsUptoRow.holds Tryd.pinned (OpenSpec.upto reachBallsSpec)

/-- 'angeluslaw17.ReachBoth', WHERE WHAT IT READS IS OF BULK AT MOST 1048576: true; the input reads as it did. -/
def reachBothUptoRow : OpenClaim := { program := "ytcangalpccppbaadoor", sum := "0926d325003fbe77490d2387859f26d30acf78e7d4b5588e1b4cc9bd38ccf481", func := "angelus/angeluslaw17.ReachBoth", spec := "reachBoth", unfollowed := true, recurses := true, named := ["math/bits.deBruijn64tab"], plainKeys := false, apart := false, laid := [("math/bits.deBruijn64tab", laid_math_bits_deBruijn64tab)], narrowed := true }
def ReachBothUptoSaid : Prop := reachBothUptoRow.holds Tryd.pinned (OpenSpec.upto reachBothSpec)

/-- 'angeluslaw17.ReachNil', WHERE WHAT IT READS IS OF BULK AT MOST 1048576: true; the input reads as it did. -/
def reachNilUptoRow : OpenClaim := { program := "ytcangalpccppbaadoor", sum := "0926d325003fbe77490d2387859f26d30acf78e7d4b5588e1b4cc9bd38ccf481", func := "angelus/angeluslaw17.ReachNil", spec := "reachNil", unfollowed := true, recurses := true, named := ["math/bits.deBruijn64tab"], plainKeys := false, apart := false, laid := [("math/bits.deBruijn64tab", laid_math_bits_deBruijn64tab)], narrowed := true }
def ReachNilUptoSaid : Prop := reachNilUptoRow.holds Tryd.pinned (OpenSpec.upto reachNilSpec)

end Rows
end Go.Proofs.YtcangalpccppbaaDoor
