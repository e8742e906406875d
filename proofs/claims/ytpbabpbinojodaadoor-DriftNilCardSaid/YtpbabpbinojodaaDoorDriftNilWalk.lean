/- A watch that is nil notes nothing: the law, walked. -/
import Derived.Test.YtpbabpbinojodaaDoorDriftWorks
namespace Go.Proofs.YtpbabpbinojodaaDoor.Drift
open Go.RowKit
open Go.Proofs.YtpbabpbinojodaaDoor.Arith Go.Proofs.YtpbabpbinojodaaDoor.Nodes Go.Proofs.YtpbabpbinojodaaDoor.Heap Go.Proofs.YtpbabpbinojodaaDoor.RF
set_option linter.unusedVariables false
set_option linter.unusedSimpArgs false
set_option maxRecDepth 100000 in
theorem nil_walk (w : World) (hT : Tab w) (t : Int) :
    Calls Tryd.prog 5 #[.int .i64 t] w fun e w' => e = .returned (.bool true) ∧ Below w.heap.size w w' := by
  have hw0 := hT.size
  have l1 : Below w.heap.size w (w.alloc (.cells #[.int .i64 t] 2)) := (Below.refl _ w).alloc (Nat.le_refl _) _
  have HWo := Lib.hid (works_any _ (hT.below l1 hw0))
  have HL := Lib.hid l1
  clear l1
  go_enter Tryd.func5, Tryd.ntmps5
  go_wp2_with (first
    | (go_at_call 9; refine (note_nil _ _ _ _).mono ?_; rintro e w' ⟨rfl, h⟩; rw [h]; clear h w')
    | (go_at_call 11; refine (worst_nil _).mono ?_; rintro e w' ⟨rfl, h⟩; rw [h]; clear h w')
    | (go_at_call 12; refine (count_nil _).mono ?_; rintro e w' ⟨rfl, h⟩; rw [h]; clear h w')
    | (go_at_call 13; refine (fine_nil _).mono ?_; rintro e w' ⟨rfl, h⟩; rw [h]; clear h w')
    | (go_at_call 14; refine HWo.out.mono ?_; rintro e w2 ⟨rfl, l2⟩))
  go_ret
  exact ⟨rfl, HL.out.trans (l2.mono (by simp))⟩
end Go.Proofs.YtpbabpbinojodaaDoor.Drift
