/- The links of a graph, in plain Lean; graph.Graph in memory. -/
import Derived.Test.YtmbblhajbecomaaDoorEachLaw
namespace Go.Proofs.YtmbblhajbecomaaDoor.Graph
set_option maxRecDepth 100000
open Go.RowKit
open Go.Proofs.YtmbblhajbecomaaDoor.RF Go.Proofs.YtmbblhajbecomaaDoor.Heap Go.Proofs.YtmbblhajbecomaaDoor.Nodes
set_option linter.unusedVariables false

/-- A list of pairs as cells. -/
def pc (l : List (Nat × Nat)) : List Value := l.flatMap fun p => [.int .i64 p.1, .int .i64 p.2]
theorem pc_nil : pc [] = [] := rfl
theorem pc_snoc (l : List (Nat × Nat)) (p : Nat × Nat) : pc (l ++ [p]) = pc l ++ [.int .i64 p.1, .int .i64 p.2] := by simp [pc]
theorem pc_app (l m : List (Nat × Nat)) : pc (l ++ m) = pc l ++ pc m := by simp [pc]
/-- The links of node a with greater ones; all links. -/
def up (a : Nat) (l : List Nat) : List (Nat × Nat) := (l.filter fun b => decide (a < b)).map fun b => (a, b)
def linksTo (near : List Nat) (k : Nat) : List (Nat × Nat) := (List.range k).flatMap fun a => up a (ones (near.getD a 0))
def linksOf (near : List Nat) : List (Nat × Nat) := linksTo near near.length
theorem up_hit {a b : Nat} (l : List Nat) (h : a < b) : up a (l ++ [b]) = up a l ++ [(a, b)] := by simp [up, h]
theorem up_miss {a b : Nat} (l : List Nat) (h : ¬ a < b) : up a (l ++ [b]) = up a l := by simp [up, h]
theorem linksTo_succ (near : List Nat) (k : Nat) : linksTo near (k + 1) = linksTo near k ++ up k (ones (near.getD k 0)) := by simp [linksTo, List.range_succ]
theorem up_len (a : Nat) (l : List Nat) : (up a l).length ≤ l.length := by simp [up]; exact List.length_filter_le _ _
theorem ones_len (s : Nat) : (ones s).length ≤ 64 := by
  have := List.length_filter_le (fun i => s.testBit i) (List.range 64)
  simpa [ones] using this
theorem linksTo_len (near : List Nat) : ∀ k, (linksTo near k).length ≤ 64 * k
  | 0 => by simp [linksTo]
  | k + 1 => by
    have h1 := linksTo_len near k
    have h2 := up_len k (ones (near.getD k 0))
    have h3 := ones_len (near.getD k 0)
    rw [linksTo_succ, List.length_append]; omega
theorem prefix_len {pre l : List Nat} (h : pre <+: l) : pre.length ≤ l.length := h.length_le

/-- A graph lies: its block, its row of sets. -/
structure GraphAt (w : World) (G R : Nat) (near : List Nat) : Prop where
  box : Blk w G 93 #[.slice (some ⟨R, 0, none⟩) near.length near.length]
  row : Blk w R 31 (near.map fun s : Nat => Value.int .u64 s).toArray
  word : ∀ s ∈ near, s < 2 ^ 64
  few : near.length ≤ 64
section
variable {w w' : World} {G R : Nat} {near : List Nat}
theorem GraphAt.below {b : Nat} (h : GraphAt w G R near) (k : Below b w w') (hb : w.heap.size ≤ b) : GraphAt w' G R near :=
  ⟨h.box.below k (by have := h.box.lt; omega), h.row.below k (by have := h.row.lt; omega), h.word, h.few⟩
theorem GraphAt.at (h : GraphAt w G R near) {k : Nat} (hk : k < near.length) : w.cell? ⟨R, k, none⟩ = some (.int .u64 (near.getD k 0 : Nat)) := by
  rw [h.row.cell k]
  simp [List.getD, hk]
theorem GraphAt.lt (h : GraphAt w G R near) (k : Nat) : near.getD k 0 < 2 ^ 64 := by
  rw [List.getD]
  rcases hk : near[k]? with _ | s
  · simp
  · exact h.word s (List.mem_of_getElem? hk)
end
end Go.Proofs.YtmbblhajbecomaaDoor.Graph
