/-
  NARROWER THAN 'FOR EVERY INPUT', by the rows' own cells (each row's printed sentence says how): CutCuts: laid · CutSafe: laid · CutSets: laid · CutLess: laid · CutMore: laid · FloodRuns: laid · FloodAll: laid · FloodPaths: laid · FloodTells: laid.
  DERIVED. THE GIVEN ROWS OF THIS SEAT. 9 by the template 'for every input the law returns true; each argument reads behind the call as it read before'; 0 by the template 'total and deterministic' (their statements: YtmbblhajbecomaaDoorTotals.lean).
  GIVEN WITH THE SEED: the statements are not yours to turn. If you find one false, say at which input.
  Laid BY PROGRAM, IN A SANDBOX (cutbox-rows.mjs): the forced cells as the released guide's own fill.sh prints them over the translation 5c8ff5873ea8b9bd… (all of the seat's roots in one cut). By AI agents, Wed Nov 11 2026. No macro, syntax, notation, axiom, sorry.
-/
import Derived.Test.YtmbblhajbecomaaDoorChecked
import GoSem.Claim
import GoSem.ClaimJoined
import GoSem.ClaimMapViews
import Derived.JoinedTies
import Derived.KernelRfl
namespace Go.Proofs.YtmbblhajbecomaaDoor
/- THE CELL 'sum', in the pinned program and in every row, IS THE sha256 OF THE DUMP (.gsa) THAT YtmbblhajbecomaaDoorProg.lean LOADS. Nothing in Lean hashes anything: it is a label: what it is worth is what the hold of that sum in a sandbox is worth. -/
noncomputable def Tryd.pinned : Pinned := { name := "ytmbblhajbecomaadoor", sum := "5c8ff5873ea8b9bd402cf43d6efc0b4cc44b6588a671a68d67e7193d4a18ad9d", checked := Tryd.checked }
namespace Rows
def none {H : Type} : Left H := { results := [], args := [] }

/- WHAT THE LISTED PACKAGE-LEVEL VARIABLES READ AS WHEN THE CALL BEGINS. Each datum BY PROGRAM (the guide's laid-datum.mjs) off the statement by which the dump's own 'gosem.cut.vars' lays the variable. In a bare row this is a premise. The card (YtmbblhajbecomaaDoorCards.lean) ties it to the program's text. -/
def laid_math_bits_deBruijn64tab {H : Type} : DataW H := .agg [.lit (.int .u8 0), .lit (.int .u8 1), .lit (.int .u8 56), .lit (.int .u8 2), .lit (.int .u8 57), .lit (.int .u8 49), .lit (.int .u8 28), .lit (.int .u8 3), .lit (.int .u8 61), .lit (.int .u8 58), .lit (.int .u8 42), .lit (.int .u8 50), .lit (.int .u8 38), .lit (.int .u8 29), .lit (.int .u8 17), .lit (.int .u8 4), .lit (.int .u8 62), .lit (.int .u8 47), .lit (.int .u8 59), .lit (.int .u8 36), .lit (.int .u8 45), .lit (.int .u8 43), .lit (.int .u8 51), .lit (.int .u8 22), .lit (.int .u8 53), .lit (.int .u8 39), .lit (.int .u8 33), .lit (.int .u8 30), .lit (.int .u8 24), .lit (.int .u8 18), .lit (.int .u8 12), .lit (.int .u8 5), .lit (.int .u8 63), .lit (.int .u8 55), .lit (.int .u8 48), .lit (.int .u8 27), .lit (.int .u8 60), .lit (.int .u8 41), .lit (.int .u8 37), .lit (.int .u8 16), .lit (.int .u8 46), .lit (.int .u8 35), .lit (.int .u8 44), .lit (.int .u8 21), .lit (.int .u8 52), .lit (.int .u8 32), .lit (.int .u8 23), .lit (.int .u8 11), .lit (.int .u8 54), .lit (.int .u8 26), .lit (.int .u8 40), .lit (.int .u8 15), .lit (.int .u8 34), .lit (.int .u8 20), .lit (.int .u8 31), .lit (.int .u8 10), .lit (.int .u8 25), .lit (.int .u8 14), .lit (.int .u8 19), .lit (.int .u8 9), .lit (.int .u8 13), .lit (.int .u8 8), .lit (.int .u8 7), .lit (.int .u8 6)]

/-- 'angeluslaw18.CutCuts': WHATEVER THE INPUT: true; the input reads as it did. -/
def cutCutsSpec : ChangeSpec := { name := "cutCuts", fn := fun _ => fun
  | [d1, d2, d3] => { results := [.lit (.bool true)], args := [d1, d2, d3] }
  | _ => none }
def cutCutsRow : OpenClaim := { program := "ytmbblhajbecomaadoor", sum := "5c8ff5873ea8b9bd402cf43d6efc0b4cc44b6588a671a68d67e7193d4a18ad9d", func := "angelus/angeluslaw18.CutCuts", spec := "cutCuts", unfollowed := true, recurses := true, named := ["math/bits.deBruijn64tab"], plainKeys := false, apart := false, laid := [("math/bits.deBruijn64tab", laid_math_bits_deBruijn64tab)] }
def CutCutsSaid : Prop := cutCutsRow.holds Tryd.pinned (OpenSpec.ofChange cutCutsSpec)

/-- ITS FALSE NEIGHBOUR: 'it returns false'. Refute it at one input. -/
def cutCutsWrong : ChangeSpec := { name := "cutCuts", fn := fun _ => fun
  | [d1, d2, d3] => { results := [.lit (.bool false)], args := [d1, d2, d3] }
  | _ => none }
def CutCutsWrongFalsely : Prop := cutCutsRow.holds Tryd.pinned (OpenSpec.ofChange cutCutsWrong)

/-- 'angeluslaw18.CutSafe': WHATEVER THE INPUT: true; the input reads as it did. -/
def cutSafeSpec : ChangeSpec := { name := "cutSafe", fn := fun _ => fun
  | [d1, d2] => { results := [.lit (.bool true)], args := [d1, d2] }
  | _ => none }
def cutSafeRow : OpenClaim := { program := "ytmbblhajbecomaadoor", sum := "5c8ff5873ea8b9bd402cf43d6efc0b4cc44b6588a671a68d67e7193d4a18ad9d", func := "angelus/angeluslaw18.CutSafe", spec := "cutSafe", unfollowed := true, recurses := true, named := ["math/bits.deBruijn64tab"], plainKeys := false, apart := false, laid := [("math/bits.deBruijn64tab", laid_math_bits_deBruijn64tab)] }
def CutSafeSaid : Prop := cutSafeRow.holds Tryd.pinned (OpenSpec.ofChange cutSafeSpec)

/-- ITS FALSE NEIGHBOUR: 'it returns false'. Refute it at one input. -/
def cutSafeWrong : ChangeSpec := { name := "cutSafe", fn := fun _ => fun
  | [d1, d2] => { results := [.lit (.bool false)], args := [d1, d2] }
  | _ => none }
def CutSafeWrongFalsely : Prop := cutSafeRow.holds Tryd.pinned (OpenSpec.ofChange cutSafeWrong)

/-- 'angeluslaw18.CutSets': WHATEVER THE INPUT: true; the input reads as it did. -/
def cutSetsSpec : ChangeSpec := { name := "cutSets", fn := fun _ => fun
  | [d1, d2, d3] => { results := [.lit (.bool true)], args := [d1, d2, d3] }
  | _ => none }
def cutSetsRow : OpenClaim := { program := "ytmbblhajbecomaadoor", sum := "5c8ff5873ea8b9bd402cf43d6efc0b4cc44b6588a671a68d67e7193d4a18ad9d", func := "angelus/angeluslaw18.CutSets", spec := "cutSets", unfollowed := true, recurses := true, named := ["math/bits.deBruijn64tab"], plainKeys := false, apart := false, laid := [("math/bits.deBruijn64tab", laid_math_bits_deBruijn64tab)] }
def CutSetsSaid : Prop := cutSetsRow.holds Tryd.pinned (OpenSpec.ofChange cutSetsSpec)

/-- ITS FALSE NEIGHBOUR: 'it returns false'. Refute it at one input. -/
def cutSetsWrong : ChangeSpec := { name := "cutSets", fn := fun _ => fun
  | [d1, d2, d3] => { results := [.lit (.bool false)], args := [d1, d2, d3] }
  | _ => none }
def CutSetsWrongFalsely : Prop := cutSetsRow.holds Tryd.pinned (OpenSpec.ofChange cutSetsWrong)

/-- 'angeluslaw18.CutLess': WHATEVER THE INPUT: true; the input reads as it did. -/
def cutLessSpec : ChangeSpec := { name := "cutLess", fn := fun _ => fun
  | [d1, d2] => { results := [.lit (.bool true)], args := [d1, d2] }
  | _ => none }
def cutLessRow : OpenClaim := { program := "ytmbblhajbecomaadoor", sum := "5c8ff5873ea8b9bd402cf43d6efc0b4cc44b6588a671a68d67e7193d4a18ad9d", func := "angelus/angeluslaw18.CutLess", spec := "cutLess", unfollowed := true, recurses := true, named := ["math/bits.deBruijn64tab"], plainKeys := false, apart := false, laid := [("math/bits.deBruijn64tab", laid_math_bits_deBruijn64tab)] }
def CutLessSaid : Prop := cutLessRow.holds Tryd.pinned (OpenSpec.ofChange cutLessSpec)

/-- ITS FALSE NEIGHBOUR: 'it returns false'. Refute it at one input. -/
def cutLessWrong : ChangeSpec := { name := "cutLess", fn := fun _ => fun
  | [d1, d2] => { results := [.lit (.bool false)], args := [d1, d2] }
  | _ => none }
def CutLessWrongFalsely : Prop := cutLessRow.holds Tryd.pinned (OpenSpec.ofChange cutLessWrong)

/-- 'angeluslaw18.CutMore': WHATEVER THE INPUT: true; the input reads as it did. -/
def cutMoreSpec : ChangeSpec := { name := "cutMore", fn := fun _ => fun
  | [d1, d2, d3] => { results := [.lit (.bool true)], args := [d1, d2, d3] }
  | _ => none }
def cutMoreRow : OpenClaim := { program := "ytmbblhajbecomaadoor", sum := "5c8ff5873ea8b9bd402cf43d6efc0b4cc44b6588a671a68d67e7193d4a18ad9d", func := "angelus/angeluslaw18.CutMore", spec := "cutMore", unfollowed := true, recurses := true, named := ["math/bits.deBruijn64tab"], plainKeys := false, apart := false, laid := [("math/bits.deBruijn64tab", laid_math_bits_deBruijn64tab)] }
def CutMoreSaid : Prop := cutMoreRow.holds Tryd.pinned (OpenSpec.ofChange cutMoreSpec)

/-- ITS FALSE NEIGHBOUR: 'it returns false'. Refute it at one input. -/
def cutMoreWrong : ChangeSpec := { name := "cutMore", fn := fun _ => fun
  | [d1, d2, d3] => { results := [.lit (.bool false)], args := [d1, d2, d3] }
  | _ => none }
def CutMoreWrongFalsely : Prop := cutMoreRow.holds Tryd.pinned (OpenSpec.ofChange cutMoreWrong)

/-- 'angeluslaw32.FloodRuns': WHATEVER THE INPUT: true; the input reads as it did. -/
def floodRunsSpec : ChangeSpec := { name := "floodRuns", fn := fun _ => fun
  | [d] => { results := [.lit (.bool true)], args := [d] }
  | _ => none }
def floodRunsRow : OpenClaim := { program := "ytmbblhajbecomaadoor", sum := "5c8ff5873ea8b9bd402cf43d6efc0b4cc44b6588a671a68d67e7193d4a18ad9d", func := "angelus/angeluslaw32.FloodRuns", spec := "floodRuns", unfollowed := true, recurses := true, named := ["math/bits.deBruijn64tab"], plainKeys := false, apart := false, laid := [("math/bits.deBruijn64tab", laid_math_bits_deBruijn64tab)] }
def FloodRunsSaid : Prop := floodRunsRow.holds Tryd.pinned (OpenSpec.ofChange floodRunsSpec)

/-- ITS FALSE NEIGHBOUR: 'it returns false'. Refute it at one input. -/
def floodRunsWrong : ChangeSpec := { name := "floodRuns", fn := fun _ => fun
  | [d] => { results := [.lit (.bool false)], args := [d] }
  | _ => none }
def FloodRunsWrongFalsely : Prop := floodRunsRow.holds Tryd.pinned (OpenSpec.ofChange floodRunsWrong)

/-- 'angeluslaw32.FloodAll': WHATEVER THE INPUT: true; the input reads as it did. -/
def floodAllSpec : ChangeSpec := { name := "floodAll", fn := fun _ => fun
  | [d1, d2] => { results := [.lit (.bool true)], args := [d1, d2] }
  | _ => none }
def floodAllRow : OpenClaim := { program := "ytmbblhajbecomaadoor", sum := "5c8ff5873ea8b9bd402cf43d6efc0b4cc44b6588a671a68d67e7193d4a18ad9d", func := "angelus/angeluslaw32.FloodAll", spec := "floodAll", unfollowed := true, recurses := true, named := ["math/bits.deBruijn64tab"], plainKeys := false, apart := false, laid := [("math/bits.deBruijn64tab", laid_math_bits_deBruijn64tab)] }
def FloodAllSaid : Prop := floodAllRow.holds Tryd.pinned (OpenSpec.ofChange floodAllSpec)

/-- ITS FALSE NEIGHBOUR: 'it returns false'. Refute it at one input. -/
def floodAllWrong : ChangeSpec := { name := "floodAll", fn := fun _ => fun
  | [d1, d2] => { results := [.lit (.bool false)], args := [d1, d2] }
  | _ => none }
def FloodAllWrongFalsely : Prop := floodAllRow.holds Tryd.pinned (OpenSpec.ofChange floodAllWrong)

/-- 'angeluslaw32.FloodPaths': WHATEVER THE INPUT: true; the input reads as it did. -/
def floodPathsSpec : ChangeSpec := { name := "floodPaths", fn := fun _ => fun
  | [d] => { results := [.lit (.bool true)], args := [d] }
  | _ => none }
def floodPathsRow : OpenClaim := { program := "ytmbblhajbecomaadoor", sum := "5c8ff5873ea8b9bd402cf43d6efc0b4cc44b6588a671a68d67e7193d4a18ad9d", func := "angelus/angeluslaw32.FloodPaths", spec := "floodPaths", unfollowed := true, recurses := true, named := ["math/bits.deBruijn64tab"], plainKeys := false, apart := false, laid := [("math/bits.deBruijn64tab", laid_math_bits_deBruijn64tab)] }
def FloodPathsSaid : Prop := floodPathsRow.holds Tryd.pinned (OpenSpec.ofChange floodPathsSpec)

/-- ITS FALSE NEIGHBOUR: 'it returns false'. Refute it at one input. -/
def floodPathsWrong : ChangeSpec := { name := "floodPaths", fn := fun _ => fun
  | [d] => { results := [.lit (.bool false)], args := [d] }
  | _ => none }
def FloodPathsWrongFalsely : Prop := floodPathsRow.holds Tryd.pinned (OpenSpec.ofChange floodPathsWrong)

/-- 'angeluslaw32.FloodTells': WHATEVER THE INPUT: true; the input reads as it did. -/
def floodTellsSpec : ChangeSpec := { name := "floodTells", fn := fun _ => fun
  | [d1, d2, d3] => { results := [.lit (.bool true)], args := [d1, d2, d3] }
  | _ => none }
def floodTellsRow : OpenClaim := { program := "ytmbblhajbecomaadoor", sum := "5c8ff5873ea8b9bd402cf43d6efc0b4cc44b6588a671a68d67e7193d4a18ad9d", func := "angelus/angeluslaw32.FloodTells", spec := "floodTells", unfollowed := true, recurses := true, named := ["math/bits.deBruijn64tab"], plainKeys := false, apart := false, laid := [("math/bits.deBruijn64tab", laid_math_bits_deBruijn64tab)] }
def FloodTellsSaid : Prop := floodTellsRow.holds Tryd.pinned (OpenSpec.ofChange floodTellsSpec)

/-- ITS FALSE NEIGHBOUR: 'it returns false'. Refute it at one input. -/
def floodTellsWrong : ChangeSpec := { name := "floodTells", fn := fun _ => fun
  | [d1, d2, d3] => { results := [.lit (.bool false)], args := [d1, d2, d3] }
  | _ => none }
def FloodTellsWrongFalsely : Prop := floodTellsRow.holds Tryd.pinned (OpenSpec.ofChange floodTellsWrong)

/- THE SECOND FORM. 'bulk': how many values and letters a reading holds, each counted each time it is reached (what is shared counts as often as it is met; a slice's spare places count too). A statement '..UptoSaid' is the law's where the arguments, and the package variables that the reading takes, are together of bulk at most 1048576: NARROWER than '..Said'. Prove '..Said' where nothing that the law and all that it calls make is longer than what came in: it says more and counts as full. Else prove '..UptoSaid'. A law counts once. -/
mutual
def uptoBulk {H : Type} : DataW H → Nat
  | .lit (.string bytes) => bytes.length + 1
  | .lit _ => 1
  | .nil => 1
  | .ptr d => uptoBulk d + 1
  | .slice elems spare => uptoBulkAll elems + uptoBulkAll spare + 1
  | .agg parts => uptoBulkAll parts + 1
  | .iface _ d => uptoBulk d + 1
  | .map entries => uptoBulkEntries entries + 1
  | .held _ => 1
def uptoBulkAll {H : Type} : List (DataW H) → Nat
  | [] => 0
  | d :: r => uptoBulk d + uptoBulkAll r
def uptoBulkEntries {H : Type} : List (Lit × DataW H) → Nat
  | [] => 0
  | x :: r => uptoBulkEntry x + uptoBulkEntries r
def uptoBulkEntry {H : Type} : Lit × DataW H → Nat
  | (.string bytes, d) => bytes.length + uptoBulk d + 1
  | (_, d) => uptoBulk d + 1
 end
def uptoSmall : (H : Type) → List (DataW H) → Bool := fun _ ds => decide (uptoBulkAll ds ≤ 1048576)
def OpenSpec.upto (s : _root_.Go.ChangeSpec) : _root_.Go.OpenSpec := { _root_.Go.OpenSpec.ofChange s with cond := some uptoSmall }

/-- 'angeluslaw18.CutCuts', WHERE WHAT IT READS IS OF BULK AT MOST 1048576: true; the input reads as it did. -/
def cutCutsUptoRow : OpenClaim := { program := "ytmbblhajbecomaadoor", sum := "5c8ff5873ea8b9bd402cf43d6efc0b4cc44b6588a671a68d67e7193d4a18ad9d", func := "angelus/angeluslaw18.CutCuts", spec := "cutCuts", unfollowed := true, recurses := true, named := ["math/bits.deBruijn64tab"], plainKeys := false, apart := false, laid := [("math/bits.deBruijn64tab", laid_math_bits_deBruijn64tab)], narrowed := true }
def CutCutsUptoSaid : Prop := cutCutsUptoRow.holds Tryd.pinned (OpenSpec.upto cutCutsSpec)

/-- 'angeluslaw18.CutSafe', WHERE WHAT IT READS IS OF BULK AT MOST 1048576: true; the input reads as it did. -/
def cutSafeUptoRow : OpenClaim := { program := "ytmbblhajbecomaadoor", sum := "5c8ff5873ea8b9bd402cf43d6efc0b4cc44b6588a671a68d67e7193d4a18ad9d", func := "angelus/angeluslaw18.CutSafe", spec := "cutSafe", unfollowed := true, recurses := true, named := ["math/bits.deBruijn64tab"], plainKeys := false, apart := false, laid := [("math/bits.deBruijn64tab", laid_math_bits_deBruijn64tab)], narrowed := true }
def CutSafeUptoSaid : Prop := cutSafeUptoRow.holds Tryd.pinned (OpenSpec.upto cutSafeSpec)

/-- 'angeluslaw18.CutSets', WHERE WHAT IT READS IS OF BULK AT MOST 1048576: true; the input reads as it did. -/
def cutSetsUptoRow : OpenClaim := { program := "ytmbblhajbecomaadoor", sum := "5c8ff5873ea8b9bd402cf43d6efc0b4cc44b6588a671a68d67e7193d4a18ad9d", func := "angelus/angeluslaw18.CutSets", spec := "cutSets", unfollowed := true, recurses := true, named := ["math/bits.deBruijn64tab"], plainKeys := false, apart := false, laid := [("math/bits.deBruijn64tab", laid_math_bits_deBruijn64tab)], narrowed := true }
def CutSetsUptoSaid : Prop := cutSetsUptoRow.holds Tryd.pinned (OpenSpec.upto cutSetsSpec)

/-- 'angeluslaw18.CutLess', WHERE WHAT IT READS IS OF BULK AT MOST 1048576: true; the input reads as it did. -/
def cutLessUptoRow : OpenClaim := { program := "ytmbblhajbecomaadoor", sum := "5c8ff5873ea8b9bd402cf43d6efc0b4cc44b6588a671a68d67e7193d4a18ad9d", func := "angelus/angeluslaw18.CutLess", spec := "cutLess", unfollowed := true, recurses := true, named := ["math/bits.deBruijn64tab"], plainKeys := false, apart := false, laid := [("math/bits.deBruijn64tab", laid_math_bits_deBruijn64tab)], narrowed := true }
def CutLessUptoSaid : Prop := cutLessUptoRow.holds Tryd.pinned (OpenSpec.upto cutLessSpec)

/-- 'angeluslaw18.CutMore', WHERE WHAT IT READS IS OF BULK AT MOST 1048576: true; the input reads as it did. -/
def cutMoreUptoRow : OpenClaim := { program := "ytmbblhajbecomaadoor", sum := "5c8ff5873ea8b9bd402cf43d6efc0b4cc44b6588a671a68d67e7193d4a18ad9d", func := "angelus/angeluslaw18.CutMore", spec := "cutMore", unfollowed := true, recurses := true, named := ["math/bits.deBruijn64tab"], plainKeys := false, apart := false, laid := [("math/bits.deBruijn64tab", laid_math_bits_deBruijn64tab)], narrowed := true }
def CutMoreUptoSaid : Prop := cutMoreUptoRow.holds Tryd.pinned (OpenSpec.upto cutMoreSpec)

/-- 'angeluslaw32.FloodRuns', WHERE WHAT IT READS IS OF BULK AT MOST 1048576: true; the input reads as it did. -/
def floodRunsUptoRow : OpenClaim := { program := "ytmbblhajbecomaadoor", sum := "5c8ff5873ea8b9bd402cf43d6efc0b4cc44b6588a671a68d67e7193d4a18ad9d", func := "angelus/angeluslaw32.FloodRuns", spec := "floodRuns", unfollowed := true, recurses := true, named := ["math/bits.deBruijn64tab"], plainKeys := false, apart := false, laid := [("math/bits.deBruijn64tab", laid_math_bits_deBruijn64tab)], narrowed := true }
def FloodRunsUptoSaid : Prop := floodRunsUptoRow.holds Tryd.pinned (OpenSpec.upto floodRunsSpec)

/-- 'angeluslaw32.FloodAll', WHERE WHAT IT READS IS OF BULK AT MOST 1048576: true; the input reads as it did. -/
def floodAllUptoRow : OpenClaim := { program := "ytmbblhajbecomaadoor", sum := "5c8ff5873ea8b9bd402cf43d6efc0b4cc44b6588a671a68d67e7193d4a18ad9d", func := "angelus/angeluslaw32.FloodAll", spec := "floodAll", unfollowed := true, recurses := true, named := ["math/bits.deBruijn64tab"], plainKeys := false, apart := false, laid := [("math/bits.deBruijn64tab", laid_math_bits_deBruijn64tab)], narrowed := true }
def FloodAllUptoSaid : Prop := floodAllUptoRow.holds Tryd.pinned (OpenSpec.upto floodAllSpec)

/-- 'angeluslaw32.FloodPaths', WHERE WHAT IT READS IS OF BULK AT MOST 1048576: true; the input reads as it did. -/
def floodPathsUptoRow : OpenClaim := { program := "ytmbblhajbecomaadoor", sum := "5c8ff5873ea8b9bd402cf43d6efc0b4cc44b6588a671a68d67e7193d4a18ad9d", func := "angelus/angeluslaw32.FloodPaths", spec := "floodPaths", unfollowed := true, recurses := true, named := ["math/bits.deBruijn64tab"], plainKeys := false, apart := false, laid := [("math/bits.deBruijn64tab", laid_math_bits_deBruijn64tab)], narrowed := true }
def FloodPathsUptoSaid : Prop := floodPathsUptoRow.holds Tryd.pinned (OpenSpec.upto floodPathsSpec)

/-- 'angeluslaw32.FloodTells', WHERE WHAT IT READS IS OF BULK AT MOST 1048576: true; the input reads as it did. -/
def floodTellsUptoRow : OpenClaim := { program := "ytmbblhajbecomaadoor", sum := "5c8ff5873ea8b9bd402cf43d6efc0b4cc44b6588a671a68d67e7193d4a18ad9d", func := "angelus/angeluslaw32.FloodTells", spec := "floodTells", unfollowed := true, recurses := true, named := ["math/bits.deBruijn64tab"], plainKeys := false, apart := false, laid := [("math/bits.deBruijn64tab", laid_math_bits_deBruijn64tab)], narrowed := true }
def FloodTellsUptoSaid : Prop := floodTellsUptoRow.holds Tryd.pinned (OpenSpec.upto floodTellsSpec)

end Rows
end Go.Proofs.YtmbblhajbecomaaDoor
