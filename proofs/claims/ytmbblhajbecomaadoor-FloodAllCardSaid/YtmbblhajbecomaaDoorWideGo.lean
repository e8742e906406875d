/- reach's Wide: walked. -/
import Derived.Test.YtmbblhajbecomaaDoorDistGo
import Derived.LoopIn
import Derived.Deep.RegionHeld3
namespace Go.Proofs.YtmbblhajbecomaaDoor.Reach
set_option maxRecDepth 100000
open Go.RowKit
open Go.Proofs.YtmbblhajbecomaaDoor.RF Go.Proofs.YtmbblhajbecomaaDoor.Heap Go.Proofs.YtmbblhajbecomaaDoor.Nodes Go.Proofs.YtmbblhajbecomaaDoor.Graph
set_option linter.unusedVariables false
set_option linter.unusedSimpArgs false
attribute [local go_sem] Oper.semAt_some

theorem results_int {P : Program} {fn : Func} {a : Tmp} {t : TypeId} {tmps : Array Value} {w : World} {b : Nat} {x : Int} (h : fn.results = #[.cell a t]) (ha : tmps.getD a undef = .pointer (some ⟨b, 0, none⟩))
    (hu : ∀ w, (isAgg t).run P w = .ok false w) (hc : w.cell? ⟨b, 0, none⟩ = some (.int .i64 x)) :
    (results fn tmps).run P w = .ok (.int .i64 x) w := by
  have hp : (asAddr (.pointer (some ⟨b, 0, none⟩) : Value)).run P w = .ok ⟨b, 0, none⟩ w := by simp [asAddr]
  rw [Array.getD_eq_getD_getElem?] at ha
  simp [results, h, ha, Sem.run_bind, hp, loadVar, hu, go_sem, hc, Result.andThen]
theorem orT_lt (out : List Nat) (h : ∀ j, out.getD j 0 < 2 ^ 64) : ∀ t, orT out t < 2 ^ 64
  | 0 => by simp [orT]
  | t + 1 => by
    rw [orT]
    exact Nat.or_lt_two_pow (orT_lt out h t) (h t)
/-- What lies while Wide goes on. -/
structure WInv (w : World) (G n off : Nat) (r m : Int) (W : World) : Prop where
  g : Blk W w.heap.size 26 #[.pointer (some ⟨G, 0, none⟩)]
  o : Blk W (w.heap.size + 1) 31 #[.int .u64 (off : Nat)]
  r : Blk W (w.heap.size + 2) 3 #[.int .i64 r]
  m : Blk W (w.heap.size + 3) 3 #[.int .i64 m]
  t : Blk W (w.heap.size + 4) 31 #[.int .u64 (thereN n off : Nat)]
  low : Below w.heap.size w W
theorem WInv.hush {w : World} {G n off B : Nat} {r m : Int} {W V : World} (h : WInv w G n off r m W) {b : Nat} (c : Hush (fun k => k = B) b W V) (hb : w.heap.size ≤ b) (hB : w.heap.size + 5 ≤ B) : WInv w G n off r m V :=
  ⟨c.blk h.g (by show ¬ w.heap.size = B; omega), c.blk h.o (by show ¬ w.heap.size + 1 = B; omega), c.blk h.r (by show ¬ w.heap.size + 2 = B; omega), c.blk h.m (by show ¬ w.heap.size + 3 = B; omega), c.blk h.t (by show ¬ w.heap.size + 4 = B; omega), c.below h.low (Nat.le_refl _) hb (fun k hk => by omega)⟩
theorem WInv.below {w : World} {G n off : Nat} {r m : Int} {W V : World} (h : WInv w G n off r m W) (c : Below W.heap.size W V) : WInv w G n off r m V :=
  ⟨h.g.below c h.g.lt, h.o.below c h.o.lt, h.r.below c h.r.lt, h.m.below c h.m.lt, h.t.below c h.t.lt, h.low.trans (c.mono h.low.size)⟩
theorem WInv.put_m {w : World} {G n off : Nat} {r m : Int} {W : World} (h : WInv w G n off r m W) (x : Int) : WInv w G n off r x (W.setCell ⟨w.heap.size + 3, 0, none⟩ (.int .i64 x)) :=
  ⟨h.g.far (by show w.heap.size ≠ w.heap.size + 3; omega) _, h.o.far (by show w.heap.size + 1 ≠ w.heap.size + 3; omega) _, h.r.far (by show w.heap.size + 2 ≠ w.heap.size + 3; omega) _, h.m.put 0 _, h.t.far (by show w.heap.size + 4 ≠ w.heap.size + 3; omega) _, h.low.setCell (p := ⟨w.heap.size + 3, 0, none⟩) (by show w.heap.size ≤ w.heap.size + 3; omega) _⟩
theorem WInv.put_r {w : World} {G n off : Nat} {r m : Int} {W : World} (h : WInv w G n off r m W) (x : Int) : WInv w G n off x m (W.setCell ⟨w.heap.size + 2, 0, none⟩ (.int .i64 x)) :=
  ⟨h.g.far (by show w.heap.size ≠ w.heap.size + 2; omega) _, h.o.far (by show w.heap.size + 1 ≠ w.heap.size + 2; omega) _, h.r.put 0 _, h.m.far (by show w.heap.size + 3 ≠ w.heap.size + 2; omega) _, h.t.far (by show w.heap.size + 4 ≠ w.heap.size + 2; omega) _, h.low.setCell (p := ⟨w.heap.size + 2, 0, none⟩) (by show w.heap.size ≤ w.heap.size + 2; omega) _⟩
/-- What lies where Wide tells that it is not whole. -/
def WStop (w : World) (G : Nat) (near : List Nat) (off : Nat) (c : Code) (V : World) : Prop := c = .ret ∧ (∃ m, WInv w G near.length off (-1) m V) ∧ (∃ x, Blk V (w.heap.size + 5) 31 x) ∧ whole near off = false
end Go.Proofs.YtmbblhajbecomaaDoor.Reach
