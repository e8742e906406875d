/- Taking one operation of a region first, by its number: where it is wanted, and where its guard says that it is not. -/
import Derived.Deep.RegionHeld3
namespace Go.Proofs.YtmbblhajbecomaaDoor.Take
set_option maxRecDepth 100000
variable {P : Program} {ops : Array Oper} {Q : Exit → Act → World → Prop} {md : Region.Mode} {S : World → Prop}
theorem take {i : Nat} {oi : Oper} {t : Nat} {v : Value} {fuel : Nat} {listed : Array Bool} {a : Act} {w : World} (hi : ops[i]? = some oi) (ht : oi.dst = some t)
    (hs : Region.noSelect ops = true) (hf : Region.free md ops listed i = true) (hr : (Region.ready md ops listed).contains i = true)
    (hQ : ∀ c a w, Q (.panic c) (a.put oi.dst v) w → Q (.panic c) a w) (hw : Region.wanted oi (yielded ops a.tmps) = true)
    (hy : ∀ w, S w → (execOp a.eval oi).run P w = .ok (.value v) w) (hS : S w)
    (h : wpAnyH P md ops Q S fuel (listed.setIfInBounds i true) (a.put (some t) v) w) : wpAnyH P md ops Q S (fuel + 1) listed a w :=
  wpAnyH_take hi hs hf hr hQ (Or.inl ⟨hw, hy⟩) hS (by rw [ht]; exact h)
def dstGuard (o : Oper) : Option Nat × Option (Nat × Bool) := (o.dst, o.guard)
theorem skip {i : Nat} {t g : Nat} {b : Bool} {fuel : Nat} {listed : Array Bool} {a : Act} {w : World} (hi : (ops[i]?).map dstGuard = some (some t, some (g, b)))
    (hs : Region.noSelect ops = true) (hf : Region.free md ops listed i = true) (hr : (Region.ready md ops listed).contains i = true)
    (hQ : ∀ c a w, Q (.panic c) (a.put (some t) undef) w → Q (.panic c) a w) (hw : (yielded ops a.tmps g == some b) = false) (hS : S w)
    (h : wpAnyH P md ops Q S fuel (listed.setIfInBounds i true) (a.put (some t) undef) w) : wpAnyH P md ops Q S (fuel + 1) listed a w := by
  rcases e : ops[i]? with _ | oi
  · rw [e] at hi; cases hi
  · rw [e] at hi
    obtain ⟨h1, h2⟩ : oi.dst = some t ∧ oi.guard = some (g, b) := by
      have := Option.some.inj hi; exact Prod.mk.inj this
    exact wpAnyH_take e hs hf hr (by rw [h1]; exact hQ) (Or.inr ⟨by unfold Region.wanted; rw [h2]; exact hw, rfl⟩) hS (by rw [h1]; exact h)
end Go.Proofs.YtmbblhajbecomaaDoor.Take
