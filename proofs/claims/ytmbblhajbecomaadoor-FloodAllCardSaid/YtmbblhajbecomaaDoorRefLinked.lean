/- The document's graph: is it a node, are two linked. -/
import Derived.Test.YtmbblhajbecomaaDoorGraphPure
namespace Go.Proofs.YtmbblhajbecomaaDoor.Graph
set_option maxRecDepth 100000
open Go.RowKit
open Go.Proofs.YtmbblhajbecomaaDoor.RF Go.Proofs.YtmbblhajbecomaaDoor.Heap Go.Proofs.YtmbblhajbecomaaDoor.Nodes Go.Proofs.YtmbblhajbecomaaDoor.Seen
set_option linter.unusedVariables false
set_option linter.unusedSimpArgs false

set_option maxRecDepth 100000 in
set_option maxHeartbeats 4000000 in
theorem reflinked_any (n : Nat) (v : Value) (L : List (Int × Int)) (a b : Int) (w : World) (hp : PairsAt w v L) (hlen : L.length ≤ 65536) :
    Calls Tryd.prog 25 #[.agg #[.int .i64 n, v], .int .i64 a, .int .i64 b] w fun e w' => e = .returned (.bool (refL L a b)) ∧ Below w.heap.size w w' := by
  obtain ⟨la, cap, rfl, hcell⟩ := hp.1
  obtain ⟨W, hW⟩ : ∃ W, w.alloc (.cells #[.int .i64 (n : Nat), .slice la L.length cap] 27) = W := ⟨_, rfl⟩
  have bW : Blk W w.heap.size 27 #[.int .i64 (n : Nat), .slice la L.length cap] := by rw [← hW]; exact Blk.new w _ _
  have lW : Below w.heap.size w W := by rw [← hW]; exact (Below.refl _ w).alloc (Nat.le_refl _) _
  have c0 := bW.cell 1
  simp at c0
  go_enter Tryd.func25, Tryd.ntmps25
  go_wp2_with (rw [hW])
  go_loop [7] (fun v7 => ∃ k : Nat, v7 = .int .i64 k ∧ k ≤ L.length ∧ refL (L.take k) a b = false) (fun v7 => match v7 with | .int _ k => L.length - k.toNat | _ => 0)
  case atStart => exact ⟨0, rfl, Nat.zero_le _, rfl⟩
  case round =>
    obtain ⟨k, rfl, hk, hn⟩ := hrel
    by_cases hlt : k < L.length
    · obtain ⟨p, hpk⟩ : ∃ p, L[k]? = some p := ⟨_, List.getElem?_eq_getElem hlt⟩
      obtain ⟨g, rfl, hb, e0, e1⟩ := hcell k p hpk
      have d0 := (lW.cell (p := ⟨g, k * 2, none⟩) hb).trans e0
      have d1 := (lW.cell (p := ⟨g, k * 2 + 1, none⟩) hb).trans e1
      have hst : refL (L.take (k + 1)) a b = (refL (L.take k) a b || hit a b p) := by
        rw [List.take_add_one, hpk]; simp [refL]
      rw [hn, Bool.false_or] at hst
      have l3 : (0 : Int) ≤ (k : Int) := by omega
      have l4 : (k : Int) < (L.length : Int) := by omega
      have l5 : (k : Int) + 1 ≤ 65536 := by omega
      obtain ⟨x, y⟩ := p
      simp only at d0 d1
      have all : hit a b (x, y) = true → refL L a b = true := fun h => by
        unfold refL
        rw [List.any_eq_true]
        exact ⟨_, List.mem_of_getElem? hpk, h⟩
      clear e0 e1 hcell
      clear hpk hb bW
      rcases e1 : x == a with _ | _ <;> rcases e2 : y == b with _ | _ <;> rcases e3 : x == b with _ | _ <;> rcases e4 : y == a with _ | _
      all_goals
        simp only [hit, e1, e2, e3, e4, Bool.and_self, Bool.and_false, Bool.false_and, Bool.or_false, Bool.or_true, Bool.or_self, Bool.false_or] at hst all
      all_goals first
        | (have hh := Lib.hid (show refL L a b = true from all trivial)
           clear hst all hn
           go_wp2
           go_ret
           exact ⟨ret_b hh.out.symm, lW⟩)
        | (have Hst := Lib.hid hst
           have Hn := Lib.hid hn
           clear hst all hn
           go_wp2
           go_round
           case rel => exact ⟨k + 1, rfl, hlt, Hst.out⟩
           case measure => simp; omega)
    · obtain rfl : k = L.length := by omega
      rw [List.take_length] at hn
      have Hn := Lib.hid hn
      clear hn
      go_wp2
      go_ret
      exact ⟨ret_b Hn.out.symm, lW⟩
end Go.Proofs.YtmbblhajbecomaaDoor.Graph
