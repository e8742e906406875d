/-
  No cell of these rows narrows 'for every input' (looked for: loops, veiled, ifaces, maps, wideKeys, modest, calm, conditions, laid).
  DERIVED. THE GIVEN ROWS OF THIS SEAT. 5 by the template 'for every input the law returns true; each argument reads behind the call as it read before'; 0 by the template 'total and deterministic' (their statements: YtpbabpbinojodaaTotals.lean).
  GIVEN WITH THE SEED: the statements are not yours to turn. If you find one false, say at which input.
  Laid BY PROGRAM, IN A SANDBOX (cutbox-rows.mjs): the forced cells as the released guide's own fill.sh prints them over the translation f2bcf17d0fef7818… (all of the seat's roots in one cut). By AI agents, Wed Nov 11 2026. No macro, syntax, notation, axiom, sorry.
-/
import Derived.Test.YtpbabpbinojodaaChecked
import GoSem.Claim
import GoSem.ClaimJoined
import GoSem.ClaimMapViews
import Derived.JoinedTies
import Derived.KernelRfl
namespace Go.Proofs.Ytpbabpbinojodaa
/- THE CELL 'sum', in the pinned program and in every row, IS THE sha256 OF THE DUMP (.gsa) THAT YtpbabpbinojodaaProg.lean LOADS. Nothing in Lean hashes anything: it is a label: what it is worth is what the hold of that sum in a sandbox is worth. -/
noncomputable def Try.pinned : Pinned := { name := "ytpbabpbinojodaa", sum := "f2bcf17d0fef7818783e4086cc8418b4bed720974ccce974816e0ff2e9ce84c5", checked := Try.checked }
namespace Rows
def none {H : Type} : Left H := { results := [], args := [] }

/-- 'angeluslaw26.BoundNumbers': WHATEVER THE INPUT: true; the input reads as it did. -/
def boundNumbersSpec : ChangeSpec := { name := "boundNumbers", fn := fun _ => fun
  | [d] => { results := [.lit (.bool true)], args := [d] }
  | _ => none }
def boundNumbersRow : OpenClaim := { program := "ytpbabpbinojodaa", sum := "f2bcf17d0fef7818783e4086cc8418b4bed720974ccce974816e0ff2e9ce84c5", func := "angelus/angeluslaw26.BoundNumbers", spec := "boundNumbers", unfollowed := true, recurses := true, apart := false }
def BoundNumbersSaid : Prop := boundNumbersRow.holds Try.pinned (OpenSpec.ofChange boundNumbersSpec)

/-- ITS FALSE NEIGHBOUR: 'it returns false'. Refute it at one input. -/
def boundNumbersWrong : ChangeSpec := { name := "boundNumbers", fn := fun _ => fun
  | [d] => { results := [.lit (.bool false)], args := [d] }
  | _ => none }
def BoundNumbersWrongFalsely : Prop := boundNumbersRow.holds Try.pinned (OpenSpec.ofChange boundNumbersWrong)

/-- 'angeluslaw26.BoundLate': WHATEVER THE INPUT: true; the input reads as it did. -/
def boundLateSpec : ChangeSpec := { name := "boundLate", fn := fun _ => fun
  | [d1, d2, d3] => { results := [.lit (.bool true)], args := [d1, d2, d3] }
  | _ => none }
def boundLateRow : OpenClaim := { program := "ytpbabpbinojodaa", sum := "f2bcf17d0fef7818783e4086cc8418b4bed720974ccce974816e0ff2e9ce84c5", func := "angelus/angeluslaw26.BoundLate", spec := "boundLate", unfollowed := true, recurses := true, apart := false }
def BoundLateSaid : Prop := boundLateRow.holds Try.pinned (OpenSpec.ofChange boundLateSpec)

/-- ITS FALSE NEIGHBOUR: 'it returns false'. Refute it at one input. -/
def boundLateWrong : ChangeSpec := { name := "boundLate", fn := fun _ => fun
  | [d1, d2, d3] => { results := [.lit (.bool false)], args := [d1, d2, d3] }
  | _ => none }
def BoundLateWrongFalsely : Prop := boundLateRow.holds Try.pinned (OpenSpec.ofChange boundLateWrong)

/-- 'angeluslaw26.BoundEnough': WHATEVER THE INPUT: true; the input reads as it did. -/
def boundEnoughSpec : ChangeSpec := { name := "boundEnough", fn := fun _ => fun
  | [d] => { results := [.lit (.bool true)], args := [d] }
  | _ => none }
def boundEnoughRow : OpenClaim := { program := "ytpbabpbinojodaa", sum := "f2bcf17d0fef7818783e4086cc8418b4bed720974ccce974816e0ff2e9ce84c5", func := "angelus/angeluslaw26.BoundEnough", spec := "boundEnough", unfollowed := true, recurses := true, apart := false }
def BoundEnoughSaid : Prop := boundEnoughRow.holds Try.pinned (OpenSpec.ofChange boundEnoughSpec)

/-- ITS FALSE NEIGHBOUR: 'it returns false'. Refute it at one input. -/
def boundEnoughWrong : ChangeSpec := { name := "boundEnough", fn := fun _ => fun
  | [d] => { results := [.lit (.bool false)], args := [d] }
  | _ => none }
def BoundEnoughWrongFalsely : Prop := boundEnoughRow.holds Try.pinned (OpenSpec.ofChange boundEnoughWrong)

/-- 'angeluslaw26.BoundHolds': WHATEVER THE INPUT: true; the input reads as it did. -/
def boundHoldsSpec : ChangeSpec := { name := "boundHolds", fn := fun _ => fun
  | [d1, d2] => { results := [.lit (.bool true)], args := [d1, d2] }
  | _ => none }
def boundHoldsRow : OpenClaim := { program := "ytpbabpbinojodaa", sum := "f2bcf17d0fef7818783e4086cc8418b4bed720974ccce974816e0ff2e9ce84c5", func := "angelus/angeluslaw26.BoundHolds", spec := "boundHolds", unfollowed := true, recurses := true, apart := false }
def BoundHoldsSaid : Prop := boundHoldsRow.holds Try.pinned (OpenSpec.ofChange boundHoldsSpec)

/-- ITS FALSE NEIGHBOUR: 'it returns false'. Refute it at one input. -/
def boundHoldsWrong : ChangeSpec := { name := "boundHolds", fn := fun _ => fun
  | [d1, d2] => { results := [.lit (.bool false)], args := [d1, d2] }
  | _ => none }
def BoundHoldsWrongFalsely : Prop := boundHoldsRow.holds Try.pinned (OpenSpec.ofChange boundHoldsWrong)

/-- 'angeluslaw26.BoundSuggests': WHATEVER THE INPUT: true; the input reads as it did. -/
def boundSuggestsSpec : ChangeSpec := { name := "boundSuggests", fn := fun _ => fun
  | [d] => { results := [.lit (.bool true)], args := [d] }
  | _ => none }
def boundSuggestsRow : OpenClaim := { program := "ytpbabpbinojodaa", sum := "f2bcf17d0fef7818783e4086cc8418b4bed720974ccce974816e0ff2e9ce84c5", func := "angelus/angeluslaw26.BoundSuggests", spec := "boundSuggests", unfollowed := true, recurses := true, apart := false }
def BoundSuggestsSaid : Prop := boundSuggestsRow.holds Try.pinned (OpenSpec.ofChange boundSuggestsSpec)

/-- ITS FALSE NEIGHBOUR: 'it returns false'. Refute it at one input. -/
def boundSuggestsWrong : ChangeSpec := { name := "boundSuggests", fn := fun _ => fun
  | [d] => { results := [.lit (.bool false)], args := [d] }
  | _ => none }
def BoundSuggestsWrongFalsely : Prop := boundSuggestsRow.holds Try.pinned (OpenSpec.ofChange boundSuggestsWrong)

/- THE SECOND FORM. 'bulk': how many values and letters a reading holds, each counted each time it is reached (what is shared counts as often as it is met; a slice's spare places count too). A statement '..UptoSaid' is the law's where the arguments, and the package variables that the reading takes, are together of bulk at most 1048576: NARROWER than '..Said'. Prove '..Said' where nothing that the law and all that it calls make is longer than what came in: it says more and counts as full. Else prove '..UptoSaid'. A law counts once. -/
mutual
def uptoBulk {H : Type} : DataW H → Nat
  | .lit (.string bytes) => bytes.length + 1
  | .lit _ => 1
  | .nil => 1
  | .ptr d => uptoBulk d + 1
  | .slice elems spare => uptoBulkAll elems + uptoBulkAll spare + 1
  | .agg parts => uptoBulkAll parts + 1
  | .iface _ d => uptoBulk d + 1
  | .map entries => uptoBulkEntries entries + 1
  | .held _ => 1
def uptoBulkAll {H : Type} : List (DataW H) → Nat
  | [] => 0
  | d :: r => uptoBulk d + uptoBulkAll r
def uptoBulkEntries {H : Type} : List (Lit × DataW H) → Nat
  | [] => 0
  | x :: r => uptoBulkEntry x + uptoBulkEntries r
def uptoBulkEntry {H : Type} : Lit × DataW H → Nat
  | (.string bytes, d) => bytes.length + uptoBulk d + 1
  | (_, d) => uptoBulk d + 1
 end
def uptoSmall : (H : Type) → List (DataW H) → Bool := fun _ ds => decide (uptoBulkAll ds ≤ 1048576)
def OpenSpec.upto (s : _root_.Go.ChangeSpec) : _root_.Go.OpenSpec := { _root_.Go.OpenSpec.ofChange s with cond := some uptoSmall }

/-- 'angeluslaw26.BoundNumbers', WHERE WHAT IT READS IS OF BULK AT MOST 1048576: true; the input reads as it did. -/
def boundNumbersUptoRow : OpenClaim := { program := "ytpbabpbinojodaa", sum := "f2bcf17d0fef7818783e4086cc8418b4bed720974ccce974816e0ff2e9ce84c5", func := "angelus/angeluslaw26.BoundNumbers", spec := "boundNumbers", unfollowed := true, recurses := true, apart := false, narrowed := true }
def BoundNumbersUptoSaid : Prop := boundNumbersUptoRow.holds Try.pinned (OpenSpec.upto boundNumbersSpec)

/-- 'angeluslaw26.BoundLate', WHERE WHAT IT READS IS OF BULK AT MOST 1048576: true; the input reads as it did. -/
def boundLateUptoRow : OpenClaim := { program := "ytpbabpbinojodaa", sum := "f2bcf17d0fef7818783e4086cc8418b4bed720974ccce974816e0ff2e9ce84c5", func := "angelus/angeluslaw26.BoundLate", spec := "boundLate", unfollowed := true, recurses := true, apart := false, narrowed := true }
def BoundLateUptoSaid : Prop := boundLateUptoRow.holds Try.pinned (OpenSpec.upto boundLateSpec)

/-- 'angeluslaw26.BoundEnough', WHERE WHAT IT READS IS OF BULK AT MOST 1048576: true; the input reads as it did. -/
def boundEnoughUptoRow : OpenClaim := { program := "ytpbabpbinojodaa", sum := "f2bcf17d0fef7818783e4086cc8418b4bed720974ccce974816e0ff2e9ce84c5", func := "angelus/angeluslaw26.BoundEnough", spec := "boundEnough", unfollowed := true, recurses := true, apart := false, narrowed := true }
def BoundEnoughUptoSaid : Prop := boundEnoughUptoRow.holds Try.pinned (OpenSpec.upto boundEnoughSpec)

/-- 'angeluslaw26.BoundHolds', WHERE WHAT IT READS IS OF BULK AT MOST 1048576: true; the input reads as it did. -/
def boundHoldsUptoRow : OpenClaim := { program := "ytpbabpbinojodaa", sum := "f2bcf17d0fef7818783e4086cc8418b4bed720974ccce974816e0ff2e9ce84c5", func := "angelus/angeluslaw26.BoundHolds", spec := "boundHolds", unfollowed := true, recurses := true, apart := false, narrowed := true }
def BoundHoldsUptoSaid : Prop := boundHoldsUptoRow.holds Try.pinned (OpenSpec.upto boundHoldsSpec)

/-- 'angeluslaw26.BoundSuggests', WHERE WHAT IT READS IS OF BULK AT MOST 1048576: true; the input reads as it did. -/
def boundSuggestsUptoRow : OpenClaim := { program := "ytpbabpbinojodaa", sum := "f2bcf17d0fef7818783e4086cc8418b4bed720974ccce974816e0ff2e9ce84c5", func := "angelus/angeluslaw26.BoundSuggests", spec := "boundSuggests", unfollowed := true, recurses := true, apart := false, narrowed := true }
def BoundSuggestsUptoSaid : Prop := boundSuggestsUptoRow.holds Try.pinned (OpenSpec.upto boundSuggestsSpec)

end Rows
end Go.Proofs.Ytpbabpbinojodaa
