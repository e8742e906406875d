/-
  No cell of these rows narrows 'for every input' (looked for: loops, veiled, ifaces, maps, wideKeys, modest, calm, conditions, laid).
  DERIVED. THE GIVEN ROWS OF THIS SEAT. 12 by the template 'for every input the law returns true; each argument reads behind the call as it read before'; 0 by the template 'total and deterministic' (their statements: YtcicnanchikpjaaTotals.lean).
  GIVEN WITH THE SEED: the statements are not yours to turn. If you find one false, say at which input.
  Laid BY PROGRAM, IN A SANDBOX (cutbox-rows.mjs): the forced cells as the released guide's own fill.sh prints them over the translation f9aa40ddd5fbf37d… (all of the seat's roots in one cut). By AI agents, Wed Nov 11 2026. No macro, syntax, notation, axiom, sorry.
-/
import Derived.Test.YtcicnanchikpjaaChecked
import GoSem.Claim
import GoSem.ClaimJoined
import GoSem.ClaimMapViews
import Derived.JoinedTies
import Derived.KernelRfl
namespace Go.Proofs.Ytcicnanchikpjaa
/- THE CELL 'sum', in the pinned program and in every row, IS THE sha256 OF THE DUMP (.gsa) THAT YtcicnanchikpjaaProg.lean LOADS. Nothing in Lean hashes anything: it is a label: what it is worth is what the hold of that sum in a sandbox is worth. -/
noncomputable def Try.pinned : Pinned := { name := "ytcicnanchikpjaa", sum := "f9aa40ddd5fbf37d5f30d636f89d729ca8b22122493efa46f96e66bd70f0da5e", checked := Try.checked }
namespace Rows
def none {H : Type} : Left H := { results := [], args := [] }

/-- 'angeluslaw08.AgendaOrder': WHATEVER THE INPUT: true; the input reads as it did. -/
def agendaOrderSpec : ChangeSpec := { name := "agendaOrder", fn := fun _ => fun
  | [d] => { results := [.lit (.bool true)], args := [d] }
  | _ => none }
def agendaOrderRow : OpenClaim := { program := "ytcicnanchikpjaa", sum := "f9aa40ddd5fbf37d5f30d636f89d729ca8b22122493efa46f96e66bd70f0da5e", func := "angelus/angeluslaw08.AgendaOrder", spec := "agendaOrder", apart := false }
def AgendaOrderSaid : Prop := agendaOrderRow.holds Try.pinned (OpenSpec.ofChange agendaOrderSpec)

/-- ITS FALSE NEIGHBOUR: 'it returns false'. Refute it at one input. -/
def agendaOrderWrong : ChangeSpec := { name := "agendaOrder", fn := fun _ => fun
  | [d] => { results := [.lit (.bool false)], args := [d] }
  | _ => none }
def AgendaOrderWrongFalsely : Prop := agendaOrderRow.holds Try.pinned (OpenSpec.ofChange agendaOrderWrong)

/-- 'angeluslaw08.AgendaWaits': WHATEVER THE INPUT: true; the input reads as it did. -/
def agendaWaitsSpec : ChangeSpec := { name := "agendaWaits", fn := fun _ => fun
  | [d1, d2] => { results := [.lit (.bool true)], args := [d1, d2] }
  | _ => none }
def agendaWaitsRow : OpenClaim := { program := "ytcicnanchikpjaa", sum := "f9aa40ddd5fbf37d5f30d636f89d729ca8b22122493efa46f96e66bd70f0da5e", func := "angelus/angeluslaw08.AgendaWaits", spec := "agendaWaits", apart := false }
def AgendaWaitsSaid : Prop := agendaWaitsRow.holds Try.pinned (OpenSpec.ofChange agendaWaitsSpec)

/-- ITS FALSE NEIGHBOUR: 'it returns false'. Refute it at one input. -/
def agendaWaitsWrong : ChangeSpec := { name := "agendaWaits", fn := fun _ => fun
  | [d1, d2] => { results := [.lit (.bool false)], args := [d1, d2] }
  | _ => none }
def AgendaWaitsWrongFalsely : Prop := agendaWaitsRow.holds Try.pinned (OpenSpec.ofChange agendaWaitsWrong)

/-- 'angeluslaw08.AgendaPlays': WHATEVER THE INPUT: true; the input reads as it did. -/
def agendaPlaysSpec : ChangeSpec := { name := "agendaPlays", fn := fun _ => fun
  | [d1, d2] => { results := [.lit (.bool true)], args := [d1, d2] }
  | _ => none }
def agendaPlaysRow : OpenClaim := { program := "ytcicnanchikpjaa", sum := "f9aa40ddd5fbf37d5f30d636f89d729ca8b22122493efa46f96e66bd70f0da5e", func := "angelus/angeluslaw08.AgendaPlays", spec := "agendaPlays", apart := false }
def AgendaPlaysSaid : Prop := agendaPlaysRow.holds Try.pinned (OpenSpec.ofChange agendaPlaysSpec)

/-- ITS FALSE NEIGHBOUR: 'it returns false'. Refute it at one input. -/
def agendaPlaysWrong : ChangeSpec := { name := "agendaPlays", fn := fun _ => fun
  | [d1, d2] => { results := [.lit (.bool false)], args := [d1, d2] }
  | _ => none }
def AgendaPlaysWrongFalsely : Prop := agendaPlaysRow.holds Try.pinned (OpenSpec.ofChange agendaPlaysWrong)

/-- 'angeluslaw08.AgendaNil': WHATEVER THE INPUT: true; the input reads as it did. -/
def agendaNilSpec : ChangeSpec := { name := "agendaNil", fn := fun _ => fun
  | [d] => { results := [.lit (.bool true)], args := [d] }
  | _ => none }
def agendaNilRow : OpenClaim := { program := "ytcicnanchikpjaa", sum := "f9aa40ddd5fbf37d5f30d636f89d729ca8b22122493efa46f96e66bd70f0da5e", func := "angelus/angeluslaw08.AgendaNil", spec := "agendaNil", apart := false }
def AgendaNilSaid : Prop := agendaNilRow.holds Try.pinned (OpenSpec.ofChange agendaNilSpec)

/-- ITS FALSE NEIGHBOUR: 'it returns false'. Refute it at one input. -/
def agendaNilWrong : ChangeSpec := { name := "agendaNil", fn := fun _ => fun
  | [d] => { results := [.lit (.bool false)], args := [d] }
  | _ => none }
def AgendaNilWrongFalsely : Prop := agendaNilRow.holds Try.pinned (OpenSpec.ofChange agendaNilWrong)

/-- 'angeluslaw19.HopsSpans': WHATEVER THE INPUT: true; the input reads as it did. -/
def hopsSpansSpec : ChangeSpec := { name := "hopsSpans", fn := fun _ => fun
  | [d1, d2, d3] => { results := [.lit (.bool true)], args := [d1, d2, d3] }
  | _ => none }
def hopsSpansRow : OpenClaim := { program := "ytcicnanchikpjaa", sum := "f9aa40ddd5fbf37d5f30d636f89d729ca8b22122493efa46f96e66bd70f0da5e", func := "angelus/angeluslaw19.HopsSpans", spec := "hopsSpans", apart := false }
def HopsSpansSaid : Prop := hopsSpansRow.holds Try.pinned (OpenSpec.ofChange hopsSpansSpec)

/-- ITS FALSE NEIGHBOUR: 'it returns false'. Refute it at one input. -/
def hopsSpansWrong : ChangeSpec := { name := "hopsSpans", fn := fun _ => fun
  | [d1, d2, d3] => { results := [.lit (.bool false)], args := [d1, d2, d3] }
  | _ => none }
def HopsSpansWrongFalsely : Prop := hopsSpansRow.holds Try.pinned (OpenSpec.ofChange hopsSpansWrong)

/-- 'angeluslaw19.HopsErrs': WHATEVER THE INPUT: true; the input reads as it did. -/
def hopsErrsSpec : ChangeSpec := { name := "hopsErrs", fn := fun _ => fun
  | [d1, d2, d3] => { results := [.lit (.bool true)], args := [d1, d2, d3] }
  | _ => none }
def hopsErrsRow : OpenClaim := { program := "ytcicnanchikpjaa", sum := "f9aa40ddd5fbf37d5f30d636f89d729ca8b22122493efa46f96e66bd70f0da5e", func := "angelus/angeluslaw19.HopsErrs", spec := "hopsErrs", apart := false }
def HopsErrsSaid : Prop := hopsErrsRow.holds Try.pinned (OpenSpec.ofChange hopsErrsSpec)

/-- ITS FALSE NEIGHBOUR: 'it returns false'. Refute it at one input. -/
def hopsErrsWrong : ChangeSpec := { name := "hopsErrs", fn := fun _ => fun
  | [d1, d2, d3] => { results := [.lit (.bool false)], args := [d1, d2, d3] }
  | _ => none }
def HopsErrsWrongFalsely : Prop := hopsErrsRow.holds Try.pinned (OpenSpec.ofChange hopsErrsWrong)

/-- 'angeluslaw19.HopsTrue': WHATEVER THE INPUT: true; the input reads as it did. -/
def hopsTrueSpec : ChangeSpec := { name := "hopsTrue", fn := fun _ => fun
  | [d] => { results := [.lit (.bool true)], args := [d] }
  | _ => none }
def hopsTrueRow : OpenClaim := { program := "ytcicnanchikpjaa", sum := "f9aa40ddd5fbf37d5f30d636f89d729ca8b22122493efa46f96e66bd70f0da5e", func := "angelus/angeluslaw19.HopsTrue", spec := "hopsTrue", apart := false }
def HopsTrueSaid : Prop := hopsTrueRow.holds Try.pinned (OpenSpec.ofChange hopsTrueSpec)

/-- ITS FALSE NEIGHBOUR: 'it returns false'. Refute it at one input. -/
def hopsTrueWrong : ChangeSpec := { name := "hopsTrue", fn := fun _ => fun
  | [d] => { results := [.lit (.bool false)], args := [d] }
  | _ => none }
def HopsTrueWrongFalsely : Prop := hopsTrueRow.holds Try.pinned (OpenSpec.ofChange hopsTrueWrong)

/-- 'angeluslaw23.ReadingEstimates': WHATEVER THE INPUT: true; the input reads as it did. -/
def readingEstimatesSpec : ChangeSpec := { name := "readingEstimates", fn := fun _ => fun
  | [d1, d2, d3] => { results := [.lit (.bool true)], args := [d1, d2, d3] }
  | _ => none }
def readingEstimatesRow : OpenClaim := { program := "ytcicnanchikpjaa", sum := "f9aa40ddd5fbf37d5f30d636f89d729ca8b22122493efa46f96e66bd70f0da5e", func := "angelus/angeluslaw23.ReadingEstimates", spec := "readingEstimates", unfollowed := true, recurses := true, apart := false }
def ReadingEstimatesSaid : Prop := readingEstimatesRow.holds Try.pinned (OpenSpec.ofChange readingEstimatesSpec)

/-- ITS FALSE NEIGHBOUR: 'it returns false'. Refute it at one input. -/
def readingEstimatesWrong : ChangeSpec := { name := "readingEstimates", fn := fun _ => fun
  | [d1, d2, d3] => { results := [.lit (.bool false)], args := [d1, d2, d3] }
  | _ => none }
def ReadingEstimatesWrongFalsely : Prop := readingEstimatesRow.holds Try.pinned (OpenSpec.ofChange readingEstimatesWrong)

/-- 'angeluslaw23.ReadingDiffs': WHATEVER THE INPUT: true; the input reads as it did. -/
def readingDiffsSpec : ChangeSpec := { name := "readingDiffs", fn := fun _ => fun
  | [d1, d2, d3] => { results := [.lit (.bool true)], args := [d1, d2, d3] }
  | _ => none }
def readingDiffsRow : OpenClaim := { program := "ytcicnanchikpjaa", sum := "f9aa40ddd5fbf37d5f30d636f89d729ca8b22122493efa46f96e66bd70f0da5e", func := "angelus/angeluslaw23.ReadingDiffs", spec := "readingDiffs", unfollowed := true, recurses := true, apart := false }
def ReadingDiffsSaid : Prop := readingDiffsRow.holds Try.pinned (OpenSpec.ofChange readingDiffsSpec)

/-- ITS FALSE NEIGHBOUR: 'it returns false'. Refute it at one input. -/
def readingDiffsWrong : ChangeSpec := { name := "readingDiffs", fn := fun _ => fun
  | [d1, d2, d3] => { results := [.lit (.bool false)], args := [d1, d2, d3] }
  | _ => none }
def ReadingDiffsWrongFalsely : Prop := readingDiffsRow.holds Try.pinned (OpenSpec.ofChange readingDiffsWrong)

/-- 'angeluslaw23.ReadingErrs': WHATEVER THE INPUT: true; the input reads as it did. -/
def readingErrsSpec : ChangeSpec := { name := "readingErrs", fn := fun _ => fun
  | [d1, d2] => { results := [.lit (.bool true)], args := [d1, d2] }
  | _ => none }
def readingErrsRow : OpenClaim := { program := "ytcicnanchikpjaa", sum := "f9aa40ddd5fbf37d5f30d636f89d729ca8b22122493efa46f96e66bd70f0da5e", func := "angelus/angeluslaw23.ReadingErrs", spec := "readingErrs", unfollowed := true, recurses := true, apart := false }
def ReadingErrsSaid : Prop := readingErrsRow.holds Try.pinned (OpenSpec.ofChange readingErrsSpec)

/-- ITS FALSE NEIGHBOUR: 'it returns false'. Refute it at one input. -/
def readingErrsWrong : ChangeSpec := { name := "readingErrs", fn := fun _ => fun
  | [d1, d2] => { results := [.lit (.bool false)], args := [d1, d2] }
  | _ => none }
def ReadingErrsWrongFalsely : Prop := readingErrsRow.holds Try.pinned (OpenSpec.ofChange readingErrsWrong)

/-- 'angeluslaw23.ReadingTrue': WHATEVER THE INPUT: true; the input reads as it did. -/
def readingTrueSpec : ChangeSpec := { name := "readingTrue", fn := fun _ => fun
  | [d] => { results := [.lit (.bool true)], args := [d] }
  | _ => none }
def readingTrueRow : OpenClaim := { program := "ytcicnanchikpjaa", sum := "f9aa40ddd5fbf37d5f30d636f89d729ca8b22122493efa46f96e66bd70f0da5e", func := "angelus/angeluslaw23.ReadingTrue", spec := "readingTrue", unfollowed := true, recurses := true, apart := false }
def ReadingTrueSaid : Prop := readingTrueRow.holds Try.pinned (OpenSpec.ofChange readingTrueSpec)

/-- ITS FALSE NEIGHBOUR: 'it returns false'. Refute it at one input. -/
def readingTrueWrong : ChangeSpec := { name := "readingTrue", fn := fun _ => fun
  | [d] => { results := [.lit (.bool false)], args := [d] }
  | _ => none }
def ReadingTrueWrongFalsely : Prop := readingTrueRow.holds Try.pinned (OpenSpec.ofChange readingTrueWrong)

/-- 'angeluslaw23.ReadingFar': WHATEVER THE INPUT: true; the input reads as it did. -/
def readingFarSpec : ChangeSpec := { name := "readingFar", fn := fun _ => fun
  | [d1, d2, d3] => { results := [.lit (.bool true)], args := [d1, d2, d3] }
  | _ => none }
def readingFarRow : OpenClaim := { program := "ytcicnanchikpjaa", sum := "f9aa40ddd5fbf37d5f30d636f89d729ca8b22122493efa46f96e66bd70f0da5e", func := "angelus/angeluslaw23.ReadingFar", spec := "readingFar", unfollowed := true, recurses := true, apart := false }
def ReadingFarSaid : Prop := readingFarRow.holds Try.pinned (OpenSpec.ofChange readingFarSpec)

/-- ITS FALSE NEIGHBOUR: 'it returns false'. Refute it at one input. -/
def readingFarWrong : ChangeSpec := { name := "readingFar", fn := fun _ => fun
  | [d1, d2, d3] => { results := [.lit (.bool false)], args := [d1, d2, d3] }
  | _ => none }
def ReadingFarWrongFalsely : Prop := readingFarRow.holds Try.pinned (OpenSpec.ofChange readingFarWrong)

/- THE SECOND FORM. 'bulk': how many values and letters a reading holds, each counted each time it is reached (what is shared counts as often as it is met; a slice's spare places count too). A statement '..UptoSaid' is the law's where the arguments, and the package variables that the reading takes, are together of bulk at most 1048576: NARROWER than '..Said'. Prove '..Said' where nothing that the law and all that it calls make is longer than what came in: it says more and counts as full. Else prove '..UptoSaid'. A law counts once. -/
mutual
def uptoBulk {H : Type} : DataW H → Nat
  | .lit (.string bytes) => bytes.length + 1
  | .lit _ => 1
  | .nil => 1
  | .ptr d => uptoBulk d + 1
  | .slice elems spare => uptoBulkAll elems + uptoBulkAll spare + 1
  | .agg parts => uptoBulkAll parts + 1
  | .iface _ d => uptoBulk d + 1
  | .map entries => uptoBulkEntries entries + 1
  | .held _ => 1
def uptoBulkAll {H : Type} : List (DataW H) → Nat
  | [] => 0
  | d :: r => uptoBulk d + uptoBulkAll r
def uptoBulkEntries {H : Type} : List (Lit × DataW H) → Nat
  | [] => 0
  | x :: r => uptoBulkEntry x + uptoBulkEntries r
def uptoBulkEntry {H : Type} : Lit × DataW H → Nat
  | (.string bytes, d) => bytes.length + uptoBulk d + 1
  | (_, d) => uptoBulk d + 1
 end
def uptoSmall : (H : Type) → List (DataW H) → Bool := fun _ ds => decide (uptoBulkAll ds ≤ 1048576)
def OpenSpec.upto (s : _root_.Go.ChangeSpec) : _root_.Go.OpenSpec := { _root_.Go.OpenSpec.ofChange s with cond := some uptoSmall }

/-- 'angeluslaw08.AgendaOrder', WHERE WHAT IT READS IS OF BULK AT MOST 1048576: true; the input reads as it did. -/
def agendaOrderUptoRow : OpenClaim := { program := "ytcicnanchikpjaa", sum := "f9aa40ddd5fbf37d5f30d636f89d729ca8b22122493efa46f96e66bd70f0da5e", func := "angelus/angeluslaw08.AgendaOrder", spec := "agendaOrder", apart := false, narrowed := true }
def AgendaOrderUptoSaid : Prop := agendaOrderUptoRow.holds Try.pinned (OpenSpec.upto agendaOrderSpec)

/-- 'angeluslaw08.AgendaWaits', WHERE WHAT IT READS IS OF BULK AT MOST 1048576: true; the input reads as it did. -/
def agendaWaitsUptoRow : OpenClaim := { program := "ytcicnanchikpjaa", sum := "f9aa40ddd5fbf37d5f30d636f89d729ca8b22122493efa46f96e66bd70f0da5e", func := "angelus/angeluslaw08.AgendaWaits", spec := "agendaWaits", apart := false, narrowed := true }
def AgendaWaitsUptoSaid : Prop := agendaWaitsUptoRow.holds Try.pinned (OpenSpec.upto agendaWaitsSpec)

/-- 'angeluslaw08.AgendaPlays', WHERE WHAT IT READS IS OF BULK AT MOST 1048576: true; the input reads as it did. -/
def agendaPlaysUptoRow : OpenClaim := { program := "ytcicnanchikpjaa", sum := "f9aa40ddd5fbf37d5f30d636f89d729ca8b22122493efa46f96e66bd70f0da5e", func := "angelus/angeluslaw08.AgendaPlays", spec := "agendaPlays", apart := false, narrowed := true }
def AgendaPlaysUptoSaid : Prop := agendaPlaysUptoRow.holds Try.pinned (OpenSpec.upto agendaPlaysSpec)

/-- 'angeluslaw08.AgendaNil', WHERE WHAT IT READS IS OF BULK AT MOST 1048576: true; the input reads as it did. -/
def agendaNilUptoRow : OpenClaim := { program := "ytcicnanchikpjaa", sum := "f9aa40ddd5fbf37d5f30d636f89d729ca8b22122493efa46f96e66bd70f0da5e", func := "angelus/angeluslaw08.AgendaNil", spec := "agendaNil", apart := false, narrowed := true }
def AgendaNilUptoSaid : Prop := agendaNilUptoRow.holds Try.pinned (OpenSpec.upto agendaNilSpec)

/-- 'angeluslaw19.HopsSpans', WHERE WHAT IT READS IS OF BULK AT MOST 1048576: true; the input reads as it did. -/
def hopsSpansUptoRow : OpenClaim := { program := "ytcicnanchikpjaa", sum := "f9aa40ddd5fbf37d5f30d636f89d729ca8b22122493efa46f96e66bd70f0da5e", func := "angelus/angeluslaw19.HopsSpans", spec := "hopsSpans", apart := false, narrowed := true }
def HopsSpansUptoSaid : Prop := hopsSpansUptoRow.holds Try.pinned (OpenSpec.upto hopsSpansSpec)

/-- 'angeluslaw19.HopsErrs', WHERE WHAT IT READS IS OF BULK AT MOST 1048576: true; the input reads as it did. -/
def hopsErrsUptoRow : OpenClaim := { program := "ytcicnanchikpjaa", sum := "f9aa40ddd5fbf37d5f30d636f89d729ca8b22122493efa46f96e66bd70f0da5e", func := "angelus/angeluslaw19.HopsErrs", spec := "hopsErrs", apart := false, narrowed := true }
def HopsErrsUptoSaid : Prop := hopsErrsUptoRow.holds Try.pinned (OpenSpec.upto hopsErrsSpec)

/-- 'angeluslaw19.HopsTrue', WHERE WHAT IT READS IS OF BULK AT MOST 1048576: true; the input reads as it did. -/
def hopsTrueUptoRow : OpenClaim := { program := "ytcicnanchikpjaa", sum := "f9aa40ddd5fbf37d5f30d636f89d729ca8b22122493efa46f96e66bd70f0da5e", func := "angelus/angeluslaw19.HopsTrue", spec := "hopsTrue", apart := false, narrowed := true }
def HopsTrueUptoSaid : Prop := hopsTrueUptoRow.holds Try.pinned (OpenSpec.upto hopsTrueSpec)

/-- 'angeluslaw23.ReadingEstimates', WHERE WHAT IT READS IS OF BULK AT MOST 1048576: true; the input reads as it did. -/
def readingEstimatesUptoRow : OpenClaim := { program := "ytcicnanchikpjaa", sum := "f9aa40ddd5fbf37d5f30d636f89d729ca8b22122493efa46f96e66bd70f0da5e", func := "angelus/angeluslaw23.ReadingEstimates", spec := "readingEstimates", unfollowed := true, recurses := true, apart := false, narrowed := true }
def ReadingEstimatesUptoSaid : Prop := readingEstimatesUptoRow.holds Try.pinned (OpenSpec.upto readingEstimatesSpec)

/-- 'angeluslaw23.ReadingDiffs', WHERE WHAT IT READS IS OF BULK AT MOST 1048576: true; the input reads as it did. -/
def readingDiffsUptoRow : OpenClaim := { program := "ytcicnanchikpjaa", sum := "f9aa40ddd5fbf37d5f30d636f89d729ca8b22122493efa46f96e66bd70f0da5e", func := "angelus/angeluslaw23.ReadingDiffs", spec := "readingDiffs", unfollowed := true, recurses := true, apart := false, narrowed := true }
def ReadingDiffsUptoSaid : Prop := readingDiffsUptoRow.holds Try.pinned (OpenSpec.upto readingDiffsSpec)

/-- 'angeluslaw23.ReadingErrs', WHERE WHAT IT READS IS OF BULK AT MOST 1048576: true; the input reads as it did. -/
def readingErrsUptoRow : OpenClaim := { program := "ytcicnanchikpjaa", sum := "f9aa40ddd5fbf37d5f30d636f89d729ca8b22122493efa46f96e66bd70f0da5e", func := "angelus/angeluslaw23.ReadingErrs", spec := "readingErrs", unfollowed := true, recurses := true, apart := false, narrowed := true }
def ReadingErrsUptoSaid : Prop := readingErrsUptoRow.holds Try.pinned (OpenSpec.upto readingErrsSpec)

/-- 'angeluslaw23.ReadingTrue', WHERE WHAT IT READS IS OF BULK AT MOST 1048576: true; the input reads as it did. -/
def readingTrueUptoRow : OpenClaim := { program := "ytcicnanchikpjaa", sum := "f9aa40ddd5fbf37d5f30d636f89d729ca8b22122493efa46f96e66bd70f0da5e", func := "angelus/angeluslaw23.ReadingTrue", spec := "readingTrue", unfollowed := true, recurses := true, apart := false, narrowed := true }
def ReadingTrueUptoSaid : Prop := readingTrueUptoRow.holds Try.pinned (OpenSpec.upto readingTrueSpec)

/-- 'angeluslaw23.ReadingFar', WHERE WHAT IT READS IS OF BULK AT MOST 1048576: true; the input reads as it did. -/
def readingFarUptoRow : OpenClaim := { program := "ytcicnanchikpjaa", sum := "f9aa40ddd5fbf37d5f30d636f89d729ca8b22122493efa46f96e66bd70f0da5e", func := "angelus/angeluslaw23.ReadingFar", spec := "readingFar", unfollowed := true, recurses := true, apart := false, narrowed := true }
def ReadingFarUptoSaid : Prop := readingFarUptoRow.holds Try.pinned (OpenSpec.upto readingFarSpec)

end Rows
end Go.Proofs.Ytcicnanchikpjaa
