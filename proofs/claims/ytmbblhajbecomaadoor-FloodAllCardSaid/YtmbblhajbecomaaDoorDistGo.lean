/- reach's Dist: walked. -/
import Derived.Test.YtmbblhajbecomaaDoorReachBall
import Derived.Test.YtmbblhajbecomaaDoorMade
namespace Go.Proofs.YtmbblhajbecomaaDoor.Reach
set_option maxRecDepth 100000
open Go.RowKit
open Go.Proofs.YtmbblhajbecomaaDoor.RF Go.Proofs.YtmbblhajbecomaaDoor.Heap Go.Proofs.YtmbblhajbecomaaDoor.Nodes Go.Proofs.YtmbblhajbecomaaDoor.Graph
set_option linter.unusedVariables false
set_option linter.unusedSimpArgs false
attribute [local go_sem] Oper.semAt_some

/-- Numbers as cells. -/
def ic (l : List Int) : Array Value := (l.map (Value.int .i64)).toArray
theorem ic_set (l : List Int) (k : Nat) (x : Int) : (ic l).setIfInBounds k (.int .i64 x) = ic (l.set k x) := by
  simp [ic, List.map_set]
theorem ic_at {l : List Int} {k : Nat} (h : k < l.length) : (ic l)[k]? = some (.int .i64 (l.getD k (-1))) := by
  simp [ic, h]
theorem blk_ic {w : World} {g : Nat} {t : TypeId} {l : List Int} (h : Blk w g t (ic l)) (k : Nat) (x : Int) : Blk (w.setCell ⟨g, k, none⟩ (.int .i64 x)) g t (ic (l.set k x)) := by
  rw [← ic_set]; exact h.put k _
theorem made_int (n : Nat) : madeCells #[(.int .i64 0 : Value)] n = ic (List.replicate n 0) := by
  apply Array.ext
  · simp [madeCells, ic]
  · intro i h1 h2
    simp [madeCells, ic, Nat.mod_one]
def initL (n k : Nat) : List Int := List.replicate k (-1) ++ List.replicate (n - k) 0
theorem initL_zero (n : Nat) : initL n 0 = List.replicate n 0 := by simp [initL]
theorem initL_len {n k : Nat} (h : k ≤ n) : (initL n k).length = n := by simp [initL]; omega
theorem initL_succ {n k : Nat} (h : k < n) : (initL n k).set k (-1) = initL n (k + 1) := by
  unfold initL
  obtain ⟨m, hm⟩ : ∃ m, n - k = m + 1 := ⟨n - k - 1, by omega⟩
  rw [hm, show n - (k + 1) = m by omega, List.replicate_succ, List.replicate_succ', List.set_append_right _ _ (by simp)]
  simp
theorem initL_full (n : Nat) (l : List Nat) : initL n n = distTo n l 0 := by
  unfold initL distTo
  rw [Nat.sub_self, List.replicate_zero, List.append_nil]
  refine List.ext_getElem (by simp) fun j h1 h2 => by simp [dl]
/-- While a ring is gone through. -/
def part (n : Nat) (l : List Nat) (t : Nat) (pre : List Nat) : List Int := (List.range n).map fun j => if j ∈ pre then (t : Int) else dl l t j
theorem part_len (n : Nat) (l : List Nat) (t : Nat) (pre : List Nat) : (part n l t pre).length = n := by simp [part]
theorem part_nil (n : Nat) (l : List Nat) (t : Nat) : part n l t [] = distTo n l t := by simp [part, distTo]
theorem part_snoc (n : Nat) (l : List Nat) (t : Nat) (pre : List Nat) (x : Nat) : part n l t (pre ++ [x]) = (part n l t pre).set x t := by
  refine List.ext_getElem (by simp [part]) fun j h1 h2 => ?_
  rw [List.getElem_set]
  simp only [part, List.getElem_map, List.getElem_range, List.mem_append, List.mem_singleton]
  by_cases c : x = j
  · subst c; simp
  · rw [if_neg c]
    have d : ¬ j = x := fun e => c e.symm
    by_cases c2 : j ∈ pre <;> simp [c2, d]
theorem part_full (n : Nat) (l : List Nat) (t : Nat) (h : n ≤ 64) : part n l t (ones (l.getD t 0)) = distTo n l (t + 1) := by
  unfold part distTo
  refine List.map_congr_left fun j hj => ?_
  rw [List.mem_range] at hj
  rw [dl]
  by_cases c : (l.getD t 0).testBit j = true
  · rw [if_pos c, if_pos (mem_ones.2 ⟨by omega, c⟩)]
  · rw [if_neg c, if_neg (fun d => c (mem_ones.1 d).2)]
/-- Ahead of a round of the loop over the rings. -/
structure DLInv (w w1 : World) (n : Nat) (l : List Nat) (k : Nat) (ds : List Deferred) (W : World) : Prop where
  marks : Marked w.heap.size ds W
  d : Blk W w.heap.size 3 (ic (distTo n l k))
  x : Blk W (w.heap.size + 1) 51 #[.slice (some ⟨w.heap.size, 0, none⟩) n n]
  off : Off (fun j => j = w.heap.size) w1 W
/-- Ahead of a round of the loop over a ring. -/
structure DRInv (w w1 W Wr : World) (n : Nat) (l : List Nat) (k : Nat) (pre : List Nat) (V : World) : Prop where
  d : Blk V w.heap.size 3 (ic (part n l k pre))
  x : Blk V (w.heap.size + 1) 51 #[.slice (some ⟨w.heap.size, 0, none⟩) n n]
  far : Blk V W.heap.size 3 #[.int .i64 (k : Nat)]
  box : ∃ x, Blk V (W.heap.size + 1) 31 x
  off : Off (fun j => j = w.heap.size) w1 V
  kept : ∀ j : Nat, Wr.heap[j]? = some (Obj.deferred (some [])) → V.heap[j]? = some (Obj.deferred (some []))
  size : Wr.heap.size ≤ V.heap.size
theorem DRInv.hush {w w1 W Wr : World} {n : Nat} {l : List Nat} {k : Nat} {pre : List Nat} {V V' : World} (h : DRInv w w1 W Wr n l k pre V) (c : Hush (fun k => k = W.heap.size + 1) Wr.heap.size V V') (h1 : w.heap.size + 1 < W.heap.size) (h2 : w1.heap.size ≤ W.heap.size ∧ W.heap.size < Wr.heap.size) : DRInv w w1 W Wr n l k pre V' := by
  obtain ⟨x, hx⟩ := h.box
  refine ⟨c.blk h.d (by show ¬ w.heap.size = _; omega), c.blk h.x (by show ¬ w.heap.size + 1 = _; omega), c.blk h.far (by show ¬ W.heap.size = _; omega), c.kind _ _ _ hx, ?_, fun j hj => ?_, Nat.le_trans h.size c.size⟩
  · exact ⟨c.os.trans h.off.os, c.tape.trans h.off.tape, c.output.trans h.off.output, Nat.le_trans h.off.size c.size, fun j hj hn => by
      have e := h.off.block j hj hn
      rw [Array.getElem?_eq_getElem hj] at e
      exact (c.rest j _ e (by show ¬ j = _; omega) (.inl (by omega))).trans (Array.getElem?_eq_getElem hj).symm⟩
  · have hv := h.kept j hj
    refine c.rest j _ hv (fun e => ?_) (.inl (Array.getElem?_eq_some_iff.1 hj).1)
    subst e
    unfold Blk at hx
    rw [hx] at hv; cases hv
theorem DLInv.low {w w1 : World} {n : Nat} {l : List Nat} {k : Nat} {ds : List Deferred} {W : World} (h : DLInv w w1 n l k ds W) (h1 : Below w.heap.size w w1) : Below w.heap.size w W := by
  rcases h.off.below (b := w.heap.size) (fun k _ hk => by omega) with c | c
  · exact h1.trans c
  · have := h1.size; omega
end Go.Proofs.YtmbblhajbecomaaDoor.Reach
