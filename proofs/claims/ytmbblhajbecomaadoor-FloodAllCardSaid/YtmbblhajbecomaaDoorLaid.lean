/- The library's table, as the statements tell it: what it gives the walks. -/
import Derived.Test.YtmbblhajbecomaaDoorRows
import Derived.Test.YtmbblhajbecomaaDoorEach
import Derived.ProofKit
import Derived.LaidMore
import Derived.OpenShut
import Derived.Stop.Joined
namespace Go.Proofs.YtmbblhajbecomaaDoor.Laid
set_option maxRecDepth 100000
open Go.ChangeShapes Go.WideShapes Go.ChangeAt Go.WideMaps Go.WideElems Go.RowKit
set_option linter.unusedVariables false

def told : List (String × DataW Unit) := [("math/bits.deBruijn64tab", Rows.laid_math_bits_deBruijn64tab)]
theorem gTab : Tryd.prog.globalNamed "math/bits.deBruijn64tab" = some 0 := by kernel_rfl
theorem tTab : (Tryd.prog.globals[0]?).map (·.type) = some 141 := by kernel_rfl
/-- The door's own heap meets the condition. -/
theorem door_met (os : Os) (args : Array Value) : laidMetH Tryd.prog told ((World.doorLaid Tryd.prog 400 os).forCall (fun _ _ => 0) ⟨#[], args, []⟩).memory :=
  laidMetH_of_parts3 (fuel := 8) (laidMet_of_run' 8 (by kernel_rfl) (by kernel_rfl)) (by kernel_rfl) (by kernel_rfl)
theorem lit_eq : (Rows.laid_math_bits_deBruijn64tab : DataW Unit) = .agg (Lib.deBruijn64tab.map fun k : Nat => .lit (.int .u8 k)) := rfl
theorem of_laid {W : World} (h : laidMetH Tryd.prog told W) : Nodes.Tab W := by
  rw [MakeChecks.laidMetH_plain _ _ _ (by kernel_rfl)] at h
  obtain ⟨ps, ⟨g0, t0, cs0, f0, p0, q0, hg0, ht0, hv0, hd0, _⟩, _⟩ := h
  obtain rfl := Option.some.inj (gTab.symm.trans hg0)
  obtain rfl := Option.some.inj (tTab.symm.trans ht0)
  obtain ⟨xs, m1, rfl, hx1, hlen, hn3, hel⟩ := DataW.trod_array Tryd.underlying141 hd0
  have c3 : Tryd.prog.cellsOf 5 = 1 := by kernel_rfl
  intro j hj
  have hj64 : j < 64 := hj
  have h0 := hel j hj64
  rw [c3, Nat.mul_one] at h0
  obtain ⟨y, hy⟩ : ∃ y, xs[j]? = some y := ⟨_, List.getElem?_eq_getElem (by omega)⟩
  rw [hy] at h0
  obtain ⟨k, e1, e2, _⟩ := DataW.trod_int Tryd.underlying5 h0
  have e3 : cs0[j]? = some (.int .u8 k) := by
    have : ((cs0.toList.drop j).take 1)[0]? = some (.int .u8 k) := by rw [e1]; rfl
    simpa using this
  have e4 : (Lib.deBruijn64tab.map fun k : Nat => (DataW.lit (.int .u8 k) : DataW Unit))[j]? = some y.1 := by
    have hx := congrArg Prod.fst hx1
    simp only at hx
    rw [lit_eq] at hx
    injection hx with hx
    rw [hx, List.getElem?_map, hy]; rfl
  rw [World.var?_cell hg0 hv0 j, e3]
  rw [List.getElem?_map, e2] at e4
  rw [List.getD_eq_getElem?_getD]
  rcases ht : Lib.deBruijn64tab[j]? with _ | b
  · rw [ht] at e4; simp at e4
  · rw [ht] at e4
    simp at e4
    simp [e4]
end Go.Proofs.YtmbblhajbecomaaDoor.Laid
