/- The document's list of links, walked. -/
import Derived.Test.YtmbblhajbecomaaDoorRefLists
namespace Go.Proofs.YtmbblhajbecomaaDoor.Graph
set_option maxRecDepth 100000
open Go.RowKit
open Go.Proofs.YtmbblhajbecomaaDoor.RF Go.Proofs.YtmbblhajbecomaaDoor.Heap Go.Proofs.YtmbblhajbecomaaDoor.Nodes Go.Proofs.YtmbblhajbecomaaDoor.Seen
set_option linter.unusedVariables false
set_option linter.unusedSimpArgs false

/-- The links of node a with nodes above it, below m. -/
def refUpTo (m : Nat) (L : List (Int × Int)) (a : Nat) : List (Nat × Nat) := ((List.range m).filter fun b => decide (a < b) && refL L a b).map fun b => (a, b)
theorem refUpTo_start (L : List (Int × Int)) (a : Nat) : refUpTo (a + 1) L a = [] := by
  unfold refUpTo
  rw [List.map_eq_nil_iff, List.filter_eq_nil_iff]
  intro b hb
  rw [List.mem_range] at hb
  simp; omega
theorem refUpTo_succ {m a : Nat} (L : List (Int × Int)) (h : a < m) : refUpTo (m + 1) L a = refUpTo m L a ++ if refL L a m = true then [(a, m)] else [] := by
  unfold refUpTo
  rw [List.range_succ, List.filter_append, List.map_append]
  congr 1
  cases e : refL L a m <;> simp [h, e]
theorem refUpTo_len (m : Nat) (L : List (Int × Int)) (a : Nat) : (refUpTo m L a).length ≤ m := by
  have := List.length_filter_le (fun b : Nat => decide (a < b) && refL L a b) (List.range m)
  simpa [refUpTo] using this
theorem refTo_succ (n : Nat) (L : List (Int × Int)) (k : Nat) : refTo n L (k + 1) = refTo n L k ++ refUpTo n L k := by
  unfold refTo
  rw [List.range_succ, List.flatMap_append]
  simp [refUp, refUpTo]
theorem refTo_len (n : Nat) (L : List (Int × Int)) : ∀ k, (refTo n L k).length ≤ k * n
  | 0 => by simp [refTo]
  | k + 1 => by
    have h1 := refTo_len n L k
    have h2 := refUpTo_len n L k
    rw [refTo_succ, List.length_append, Nat.add_mul]; omega
end Go.Proofs.YtmbblhajbecomaaDoor.Graph
