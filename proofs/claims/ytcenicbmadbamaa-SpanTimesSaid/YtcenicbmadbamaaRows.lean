/-
  No cell of these rows narrows 'for every input' (looked for: loops, veiled, ifaces, maps, wideKeys, modest, calm, conditions, laid).
  DERIVED. THE GIVEN ROWS OF THIS SEAT. 8 by the template 'for every input the law returns true; each argument reads behind the call as it read before'; 0 by the template 'total and deterministic' (their statements: YtcenicbmadbamaaTotals.lean).
  GIVEN WITH THE SEED: the statements are not yours to turn. If you find one false, say at which input.
  Laid BY PROGRAM, IN A SANDBOX (cutbox-rows.mjs): the forced cells as the released guide's own fill.sh prints them over the translation 0a28f71d862115dd… (all of the seat's roots in one cut). By AI agents, Wed Nov 11 2026. No macro, syntax, notation, axiom, sorry.
-/
import Derived.Test.YtcenicbmadbamaaChecked
import GoSem.Claim
import GoSem.ClaimJoined
import GoSem.ClaimMapViews
import Derived.JoinedTies
import Derived.KernelRfl
namespace Go.Proofs.Ytcenicbmadbamaa
/- THE CELL 'sum', in the pinned program and in every row, IS THE sha256 OF THE DUMP (.gsa) THAT YtcenicbmadbamaaProg.lean LOADS. Nothing in Lean hashes anything: it is a label: what it is worth is what the hold of that sum in a sandbox is worth. -/
noncomputable def Try.pinned : Pinned := { name := "ytcenicbmadbamaa", sum := "0a28f71d862115dddfbe675ade29784aef1a4240971f103b8eb106fc861b5109", checked := Try.checked }
namespace Rows
def none {H : Type} : Left H := { results := [], args := [] }

/-- 'angeluslaw01.SpanSums': WHATEVER THE INPUT: true; the input reads as it did. -/
def spanSumsSpec : ChangeSpec := { name := "spanSums", fn := fun _ => fun
  | [d] => { results := [.lit (.bool true)], args := [d] }
  | _ => none }
def spanSumsRow : OpenClaim := { program := "ytcenicbmadbamaa", sum := "0a28f71d862115dddfbe675ade29784aef1a4240971f103b8eb106fc861b5109", func := "angelus/angeluslaw01.SpanSums", spec := "spanSums", inPlace := ["math/bits.Add64"], apart := false }
def SpanSumsSaid : Prop := spanSumsRow.holds Try.pinned (OpenSpec.ofChange spanSumsSpec)

/-- ITS FALSE NEIGHBOUR: 'it returns false'. Refute it at one input. -/
def spanSumsWrong : ChangeSpec := { name := "spanSums", fn := fun _ => fun
  | [d] => { results := [.lit (.bool false)], args := [d] }
  | _ => none }
def SpanSumsWrongFalsely : Prop := spanSumsRow.holds Try.pinned (OpenSpec.ofChange spanSumsWrong)

/-- 'angeluslaw01.SpanAdds': WHATEVER THE INPUT: true; the input reads as it did. -/
def spanAddsSpec : ChangeSpec := { name := "spanAdds", fn := fun _ => fun
  | [d1, d2] => { results := [.lit (.bool true)], args := [d1, d2] }
  | _ => none }
def spanAddsRow : OpenClaim := { program := "ytcenicbmadbamaa", sum := "0a28f71d862115dddfbe675ade29784aef1a4240971f103b8eb106fc861b5109", func := "angelus/angeluslaw01.SpanAdds", spec := "spanAdds", inPlace := ["math/bits.Add64"], apart := false }
def SpanAddsSaid : Prop := spanAddsRow.holds Try.pinned (OpenSpec.ofChange spanAddsSpec)

/-- ITS FALSE NEIGHBOUR: 'it returns false'. Refute it at one input. -/
def spanAddsWrong : ChangeSpec := { name := "spanAdds", fn := fun _ => fun
  | [d1, d2] => { results := [.lit (.bool false)], args := [d1, d2] }
  | _ => none }
def SpanAddsWrongFalsely : Prop := spanAddsRow.holds Try.pinned (OpenSpec.ofChange spanAddsWrong)

/-- 'angeluslaw01.SpanClamps': WHATEVER THE INPUT: true; the input reads as it did. -/
def spanClampsSpec : ChangeSpec := { name := "spanClamps", fn := fun _ => fun
  | [d1, d2, d3] => { results := [.lit (.bool true)], args := [d1, d2, d3] }
  | _ => none }
def spanClampsRow : OpenClaim := { program := "ytcenicbmadbamaa", sum := "0a28f71d862115dddfbe675ade29784aef1a4240971f103b8eb106fc861b5109", func := "angelus/angeluslaw01.SpanClamps", spec := "spanClamps", inPlace := ["math/bits.Add64"], apart := false }
def SpanClampsSaid : Prop := spanClampsRow.holds Try.pinned (OpenSpec.ofChange spanClampsSpec)

/-- ITS FALSE NEIGHBOUR: 'it returns false'. Refute it at one input. -/
def spanClampsWrong : ChangeSpec := { name := "spanClamps", fn := fun _ => fun
  | [d1, d2, d3] => { results := [.lit (.bool false)], args := [d1, d2, d3] }
  | _ => none }
def SpanClampsWrongFalsely : Prop := spanClampsRow.holds Try.pinned (OpenSpec.ofChange spanClampsWrong)

/-- 'angeluslaw01.SpanDivides': WHATEVER THE INPUT: true; the input reads as it did. -/
def spanDividesSpec : ChangeSpec := { name := "spanDivides", fn := fun _ => fun
  | [d1, d2] => { results := [.lit (.bool true)], args := [d1, d2] }
  | _ => none }
def spanDividesRow : OpenClaim := { program := "ytcenicbmadbamaa", sum := "0a28f71d862115dddfbe675ade29784aef1a4240971f103b8eb106fc861b5109", func := "angelus/angeluslaw01.SpanDivides", spec := "spanDivides", inPlace := ["math/bits.Add64"], apart := false }
def SpanDividesSaid : Prop := spanDividesRow.holds Try.pinned (OpenSpec.ofChange spanDividesSpec)

/-- ITS FALSE NEIGHBOUR: 'it returns false'. Refute it at one input. -/
def spanDividesWrong : ChangeSpec := { name := "spanDivides", fn := fun _ => fun
  | [d1, d2] => { results := [.lit (.bool false)], args := [d1, d2] }
  | _ => none }
def SpanDividesWrongFalsely : Prop := spanDividesRow.holds Try.pinned (OpenSpec.ofChange spanDividesWrong)

/-- 'angeluslaw01.SpanMids': WHATEVER THE INPUT: true; the input reads as it did. -/
def spanMidsSpec : ChangeSpec := { name := "spanMids", fn := fun _ => fun
  | [d1, d2] => { results := [.lit (.bool true)], args := [d1, d2] }
  | _ => none }
def spanMidsRow : OpenClaim := { program := "ytcenicbmadbamaa", sum := "0a28f71d862115dddfbe675ade29784aef1a4240971f103b8eb106fc861b5109", func := "angelus/angeluslaw01.SpanMids", spec := "spanMids", inPlace := ["math/bits.Add64"], recurses := true, apart := false }
def SpanMidsSaid : Prop := spanMidsRow.holds Try.pinned (OpenSpec.ofChange spanMidsSpec)

/-- ITS FALSE NEIGHBOUR: 'it returns false'. Refute it at one input. -/
def spanMidsWrong : ChangeSpec := { name := "spanMids", fn := fun _ => fun
  | [d1, d2] => { results := [.lit (.bool false)], args := [d1, d2] }
  | _ => none }
def SpanMidsWrongFalsely : Prop := spanMidsRow.holds Try.pinned (OpenSpec.ofChange spanMidsWrong)

/-- 'angeluslaw01.SpanBack': WHATEVER THE INPUT: true; the input reads as it did. -/
def spanBackSpec : ChangeSpec := { name := "spanBack", fn := fun _ => fun
  | [d1, d2] => { results := [.lit (.bool true)], args := [d1, d2] }
  | _ => none }
def spanBackRow : OpenClaim := { program := "ytcenicbmadbamaa", sum := "0a28f71d862115dddfbe675ade29784aef1a4240971f103b8eb106fc861b5109", func := "angelus/angeluslaw01.SpanBack", spec := "spanBack", inPlace := ["math/bits.Add64"], apart := false }
def SpanBackSaid : Prop := spanBackRow.holds Try.pinned (OpenSpec.ofChange spanBackSpec)

/-- ITS FALSE NEIGHBOUR: 'it returns false'. Refute it at one input. -/
def spanBackWrong : ChangeSpec := { name := "spanBack", fn := fun _ => fun
  | [d1, d2] => { results := [.lit (.bool false)], args := [d1, d2] }
  | _ => none }
def SpanBackWrongFalsely : Prop := spanBackRow.holds Try.pinned (OpenSpec.ofChange spanBackWrong)

/-- 'angeluslaw01.SpanTimes': WHATEVER THE INPUT: true; the input reads as it did. -/
def spanTimesSpec : ChangeSpec := { name := "spanTimes", fn := fun _ => fun
  | [d1, d2] => { results := [.lit (.bool true)], args := [d1, d2] }
  | _ => none }
def spanTimesRow : OpenClaim := { program := "ytcenicbmadbamaa", sum := "0a28f71d862115dddfbe675ade29784aef1a4240971f103b8eb106fc861b5109", func := "angelus/angeluslaw01.SpanTimes", spec := "spanTimes", inPlace := ["math/bits.Add64"], apart := false }
def SpanTimesSaid : Prop := spanTimesRow.holds Try.pinned (OpenSpec.ofChange spanTimesSpec)

/-- ITS FALSE NEIGHBOUR: 'it returns false'. Refute it at one input. -/
def spanTimesWrong : ChangeSpec := { name := "spanTimes", fn := fun _ => fun
  | [d1, d2] => { results := [.lit (.bool false)], args := [d1, d2] }
  | _ => none }
def SpanTimesWrongFalsely : Prop := spanTimesRow.holds Try.pinned (OpenSpec.ofChange spanTimesWrong)

/-- 'angeluslaw01.SpanRests': WHATEVER THE INPUT: true; the input reads as it did. -/
def spanRestsSpec : ChangeSpec := { name := "spanRests", fn := fun _ => fun
  | [d1, d2] => { results := [.lit (.bool true)], args := [d1, d2] }
  | _ => none }
def spanRestsRow : OpenClaim := { program := "ytcenicbmadbamaa", sum := "0a28f71d862115dddfbe675ade29784aef1a4240971f103b8eb106fc861b5109", func := "angelus/angeluslaw01.SpanRests", spec := "spanRests", inPlace := ["math/bits.Add64"], apart := false }
def SpanRestsSaid : Prop := spanRestsRow.holds Try.pinned (OpenSpec.ofChange spanRestsSpec)

/-- ITS FALSE NEIGHBOUR: 'it returns false'. Refute it at one input. -/
def spanRestsWrong : ChangeSpec := { name := "spanRests", fn := fun _ => fun
  | [d1, d2] => { results := [.lit (.bool false)], args := [d1, d2] }
  | _ => none }
def SpanRestsWrongFalsely : Prop := spanRestsRow.holds Try.pinned (OpenSpec.ofChange spanRestsWrong)

/- THE SECOND FORM. 'bulk': how many values and letters a reading holds, each counted each time it is reached (what is shared counts as often as it is met; a slice's spare places count too). A statement '..UptoSaid' is the law's where the arguments, and the package variables that the reading takes, are together of bulk at most 1048576: NARROWER than '..Said'. Prove '..Said' where nothing that the law and all that it calls make is longer than what came in: it says more and counts as full. Else prove '..UptoSaid'. A law counts once. -/
mutual
def uptoBulk {H : Type} : DataW H → Nat
  | .lit (.string bytes) => bytes.length + 1
  | .lit _ => 1
  | .nil => 1
  | .ptr d => uptoBulk d + 1
  | .slice elems spare => uptoBulkAll elems + uptoBulkAll spare + 1
  | .agg parts => uptoBulkAll parts + 1
  | .iface _ d => uptoBulk d + 1
  | .map entries => uptoBulkEntries entries + 1
  | .held _ => 1
def uptoBulkAll {H : Type} : List (DataW H) → Nat
  | [] => 0
  | d :: r => uptoBulk d + uptoBulkAll r
def uptoBulkEntries {H : Type} : List (Lit × DataW H) → Nat
  | [] => 0
  | x :: r => uptoBulkEntry x + uptoBulkEntries r
def uptoBulkEntry {H : Type} : Lit × DataW H → Nat
  | (.string bytes, d) => bytes.length + uptoBulk d + 1
  | (_, d) => uptoBulk d + 1
 end
def uptoSmall : (H : Type) → List (DataW H) → Bool := fun _ ds => decide (uptoBulkAll ds ≤ 1048576)
def OpenSpec.upto (s : _root_.Go.ChangeSpec) : _root_.Go.OpenSpec := { _root_.Go.OpenSpec.ofChange s with cond := some uptoSmall }

/-- 'angeluslaw01.SpanSums', WHERE WHAT IT READS IS OF BULK AT MOST 1048576: true; the input reads as it did. -/
def spanSumsUptoRow : OpenClaim := { program := "ytcenicbmadbamaa", sum := "0a28f71d862115dddfbe675ade29784aef1a4240971f103b8eb106fc861b5109", func := "angelus/angeluslaw01.SpanSums", spec := "spanSums", inPlace := ["math/bits.Add64"], apart := false, narrowed := true }
def SpanSumsUptoSaid : Prop := spanSumsUptoRow.holds Try.pinned (OpenSpec.upto spanSumsSpec)

/-- 'angeluslaw01.SpanAdds', WHERE WHAT IT READS IS OF BULK AT MOST 1048576: true; the input reads as it did. -/
def spanAddsUptoRow : OpenClaim := { program := "ytcenicbmadbamaa", sum := "0a28f71d862115dddfbe675ade29784aef1a4240971f103b8eb106fc861b5109", func := "angelus/angeluslaw01.SpanAdds", spec := "spanAdds", inPlace := ["math/bits.Add64"], apart := false, narrowed := true }
def SpanAddsUptoSaid : Prop := spanAddsUptoRow.holds Try.pinned (OpenSpec.upto spanAddsSpec)

/-- 'angeluslaw01.SpanClamps', WHERE WHAT IT READS IS OF BULK AT MOST 1048576: true; the input reads as it did. -/
def spanClampsUptoRow : OpenClaim := { program := "ytcenicbmadbamaa", sum := "0a28f71d862115dddfbe675ade29784aef1a4240971f103b8eb106fc861b5109", func := "angelus/angeluslaw01.SpanClamps", spec := "spanClamps", inPlace := ["math/bits.Add64"], apart := false, narrowed := true }
def SpanClampsUptoSaid : Prop := spanClampsUptoRow.holds Try.pinned (OpenSpec.upto spanClampsSpec)

/-- 'angeluslaw01.SpanDivides', WHERE WHAT IT READS IS OF BULK AT MOST 1048576: true; the input reads as it did. -/
def spanDividesUptoRow : OpenClaim := { program := "ytcenicbmadbamaa", sum := "0a28f71d862115dddfbe675ade29784aef1a4240971f103b8eb106fc861b5109", func := "angelus/angeluslaw01.SpanDivides", spec := "spanDivides", inPlace := ["math/bits.Add64"], apart := false, narrowed := true }
def SpanDividesUptoSaid : Prop := spanDividesUptoRow.holds Try.pinned (OpenSpec.upto spanDividesSpec)

/-- 'angeluslaw01.SpanMids', WHERE WHAT IT READS IS OF BULK AT MOST 1048576: true; the input reads as it did. -/
def spanMidsUptoRow : OpenClaim := { program := "ytcenicbmadbamaa", sum := "0a28f71d862115dddfbe675ade29784aef1a4240971f103b8eb106fc861b5109", func := "angelus/angeluslaw01.SpanMids", spec := "spanMids", inPlace := ["math/bits.Add64"], recurses := true, apart := false, narrowed := true }
def SpanMidsUptoSaid : Prop := spanMidsUptoRow.holds Try.pinned (OpenSpec.upto spanMidsSpec)

/-- 'angeluslaw01.SpanBack', WHERE WHAT IT READS IS OF BULK AT MOST 1048576: true; the input reads as it did. -/
def spanBackUptoRow : OpenClaim := { program := "ytcenicbmadbamaa", sum := "0a28f71d862115dddfbe675ade29784aef1a4240971f103b8eb106fc861b5109", func := "angelus/angeluslaw01.SpanBack", spec := "spanBack", inPlace := ["math/bits.Add64"], apart := false, narrowed := true }
def SpanBackUptoSaid : Prop := spanBackUptoRow.holds Try.pinned (OpenSpec.upto spanBackSpec)

/-- 'angeluslaw01.SpanTimes', WHERE WHAT IT READS IS OF BULK AT MOST 1048576: true; the input reads as it did. -/
def spanTimesUptoRow : OpenClaim := { program := "ytcenicbmadbamaa", sum := "0a28f71d862115dddfbe675ade29784aef1a4240971f103b8eb106fc861b5109", func := "angelus/angeluslaw01.SpanTimes", spec := "spanTimes", inPlace := ["math/bits.Add64"], apart := false, narrowed := true }
def SpanTimesUptoSaid : Prop := spanTimesUptoRow.holds Try.pinned (OpenSpec.upto spanTimesSpec)

/-- 'angeluslaw01.SpanRests', WHERE WHAT IT READS IS OF BULK AT MOST 1048576: true; the input reads as it did. -/
def spanRestsUptoRow : OpenClaim := { program := "ytcenicbmadbamaa", sum := "0a28f71d862115dddfbe675ade29784aef1a4240971f103b8eb106fc861b5109", func := "angelus/angeluslaw01.SpanRests", spec := "spanRests", inPlace := ["math/bits.Add64"], apart := false, narrowed := true }
def SpanRestsUptoSaid : Prop := spanRestsUptoRow.holds Try.pinned (OpenSpec.upto spanRestsSpec)

end Rows
end Go.Proofs.Ytcenicbmadbamaa
