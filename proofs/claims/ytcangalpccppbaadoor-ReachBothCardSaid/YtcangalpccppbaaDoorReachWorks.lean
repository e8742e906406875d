/- The chapter's example. -/
import Derived.Test.YtcangalpccppbaaDoorRefWide
import Derived.Test.YtcangalpccppbaaDoorShapes
namespace Go.Proofs.YtcangalpccppbaaDoor.Reach
open Go.RowKit
open Go.Proofs.YtcangalpccppbaaDoor.RF Go.Proofs.YtcangalpccppbaaDoor.Heap Go.Proofs.YtcangalpccppbaaDoor.Nodes Go.Proofs.YtcangalpccppbaaDoor.Graph
set_option linter.unusedVariables false
set_option linter.unusedSimpArgs false

def ring5 : List Nat := [18, 5, 10, 20, 9]
theorem ring5_new : newE 5 [] (zp (ringN 5)) = 0 := by decide
theorem ring5_near : nearOf 5 ((zp (ringN 5)).map lk) = ring5 := by decide
theorem ring5_match : Match 5 ring5 (zp (ringN 5)) := by
  have := match_new ring5_new
  rwa [ring5_near] at this
theorem ring5_dist : distF ring5 1 1 = [-1, 0, 1, 2, 3] := by decide +kernel
theorem ring5_wide : wideF ring5 1 = 3 := by decide +kernel
set_option maxRecDepth 100000 in
set_option maxHeartbeats 8000000 in
theorem reachworks_any (w : World) (hT : Tab w) :
    Calls Tryd.prog 38 #[] w fun e w' => e = .returned (.bool true) ∧ Below w.heap.size w w' := by
  have ok5 : Ok ring5 := ring5_match.ok (by omega)
  have sy5 : Sym ring5 := ring5_match.sym
  go_enter Tryd.func38, Tryd.ntmps38
  go_wp2_with fail
  refine (goring_any 5 w).mono ?_
  rintro e w1 ⟨v, rfl, hP, b1⟩
  go_wp2_with fail
  refine (new_yes 5 v (zp (ringN 5)) w1 (by omega) hP.out (by decide)).mono ?_
  rintro e w2 ⟨b2, (⟨_, G, R, rfl, g2⟩ | ⟨c, _⟩)⟩
  · rw [ring5_near] at g2
    have z1 := b1.size
    have B2 : Below w.heap.size w w2 := b1.trans (b2.mono z1)
    have T2 := hT.below B2 hT.size
    have z2 := B2.size
    clear hP b1 b2
    have HD := Lib.hid (dist_any g2 T2 ok5 1 1 (by decide))
    go_wp2_with fail
    refine HD.out.mono ?_
    rintro e w3 ⟨g, rfl, hg, hD, b3⟩
    rw [ring5_dist] at hD
    have B3 : Below w.heap.size w w3 := B2.trans (b3.mono z2)
    have g3 := g2.below b3 (Nat.le_refl _)
    have T3 := hT.below B3 hT.size
    have z3 := B3.size
    have HW := Lib.hid (wide_any g3 T3 ok5 1 (by decide))
    have hl5 : ring5.length = 5 := rfl
    rw [hl5]
    clear HD g2 T2
    go_wp2_with fail
    refine HW.out.mono ?_
    rintro e w4 ⟨rfl, b4⟩
    rw [ring5_wide]
    have hD4 := hD.below b4 hD.lt
    have c0 := hD4.cell 0
    have c4 := hD4.cell 4
    simp [ic] at c0 c4
    have B4 : Below w.heap.size w w4 := B3.trans (b4.mono z3)
    have g4 := g3.below b4 (Nat.le_refl _)
    have T4 := hT.below B4 hT.size
    have HO := Lib.hid (whole_any g4 T4 ok5 sy5 1 (by decide))
    clear HW g3 T3 g4 T4 hD hD4
    go_wp2_with (go_at_call 41; refine HO.out.mono ?_; rintro e w5 ⟨rfl, b5⟩; rw [ring5_wide])
    go_ret
    exact ⟨rfl, B4.trans (b5.mono B4.size)⟩
  · exact absurd ring5_new c
end Go.Proofs.YtcangalpccppbaaDoor.Reach
