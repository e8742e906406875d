/- Contracts of the reference of layer 19, and the walks of the laws HopsSpans and HopsErrs. -/
import Derived.Test.YtcangalpccppbaaHops
namespace Go.Proofs.Ytcangalpccppbaa.Hops
open Go.Proofs.Ytcangalpccppbaa.Arith Go.Proofs.Ytcangalpccppbaa.Span
open Go.RowKit (wrap64 Below intOf)

theorem ex1 : spanLo 3 1 2 = 3 := rfl
theorem ex2 : spanHi 3 1 2 = 6 := rfl
theorem ex3 : goodH 3 1 2 = true := rfl
theorem ex4 : midH 3 1 2 = 4608 := rfl
theorem ex5 : errH 3 1 2 1 = 1542 := rfl
theorem ex6 : okE 3 1 2 1 = true := rfl
set_option maxHeartbeats 1000000 in
theorem works_any (w : World) :
    Calls Try.prog 8 #[] w fun e w' => e = .returned (.bool true) ∧ w = w' := by
  go_enter Try.func8, Try.ntmps8
  go_wp2_with (first
    | (go_at_call 14; refine (span_any _ _ _ _).mono ?_; rintro e w' ⟨rfl, rfl⟩; rw [ex1, ex2, ex3])
    | (go_at_call 15; refine (mid_h _ _ _ _).mono ?_; rintro e w' ⟨rfl, rfl⟩; rw [ex4, ex3])
    | (go_at_call 16; refine (err_h _ _ _ _ _).mono ?_; rintro e w' ⟨rfl, rfl⟩; rw [ex5, ex6]))
  go_ret
  exact ⟨rfl, rfl⟩

end Go.Proofs.Ytcangalpccppbaa.Hops
