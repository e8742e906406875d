/- The numbers of a configuration as bound.Of and as the reference reckon them. -/
import Derived.Test.YtpbabpbinojodaaBoundGood
import Derived.Test.YtpbabpbinojodaaQuiet
import Derived.Deep.RegionHeld3
import Derived.Deep.DeepCutAuto
import Derived.Laws.EntriesVeiled
import Derived.Deep.MidRow
namespace Go.Proofs.Ytpbabpbinojodaa.Bound
open Go.Proofs.Ytpbabpbinojodaa.Arith Go.Proofs.Ytpbabpbinojodaa.Span Go.Proofs.Ytpbabpbinojodaa.Hops
open Go.RowKit (wrap64 Below intOf)

/-- A callee that leaves the world alone, met in a region that only reads: behind draws. -/
theorem quiet_l {f : FuncId} {args : Array Value} {w : World} {n : Nat} {v : Value} (h : Calls Try.prog f args (w.drewN n) fun e w' => e = .returned v ∧ w.drewN n = w') :
    Calls Try.prog f args (w.drewN n) fun e w'' => e = .returned v ∧ ∃ m, w'' = w.drewN m := h.mono fun _ _ ⟨he, hm⟩ => ⟨he, n, hm.symm⟩
/-- Two results, of which the first one lies in memory, cell by cell. -/
theorem results_cell_tmp {P : Program} {fn : Func} {a s : Tmp} {t : TypeId} {tmps : Array Value} {w : World} {b : Nat} {cs : List Value} {d : TypeDesc} (h : fn.results = #[.cell a t, .tmp s]) (ha : tmps.getD a undef = .pointer (some ⟨b, 0, none⟩))
    (hu : P.underlying t = some d) (hd : d.isRow = true) (hi : (P.info? t).map (·.size) = some cs.length) (hc : w.rangeAt b 0 cs) :
    (results fn tmps).run P w = .ok (.tuple #[.agg cs.toArray, tmps.getD s undef]) w := by
  have hl := run_loadVar_mid (P := P) w b 0 t cs d hc hu hd hi
  have hp : (asAddr (.pointer (some ⟨b, 0, none⟩) : Value)).run P w = .ok ⟨b, 0, none⟩ w := by simp [asAddr]
  rw [Array.getD_eq_getD_getElem?] at ha
  simp [results, h, ha, Sem.run_bind, hl, hp]
theorem range14 {w : World} {b : Nat} {c0 c1 c2 c3 c4 c5 c6 c7 c8 c9 c10 c11 c12 c13 : Value} (h0 : w.cell? ⟨b, 0, none⟩ = some c0) (h1 : w.cell? ⟨b, 1, none⟩ = some c1) (h2 : w.cell? ⟨b, 2, none⟩ = some c2) (h3 : w.cell? ⟨b, 3, none⟩ = some c3) (h4 : w.cell? ⟨b, 4, none⟩ = some c4) (h5 : w.cell? ⟨b, 5, none⟩ = some c5) (h6 : w.cell? ⟨b, 6, none⟩ = some c6) (h7 : w.cell? ⟨b, 7, none⟩ = some c7) (h8 : w.cell? ⟨b, 8, none⟩ = some c8) (h9 : w.cell? ⟨b, 9, none⟩ = some c9) (h10 : w.cell? ⟨b, 10, none⟩ = some c10) (h11 : w.cell? ⟨b, 11, none⟩ = some c11) (h12 : w.cell? ⟨b, 12, none⟩ = some c12) (h13 : w.cell? ⟨b, 13, none⟩ = some c13) :
    w.rangeAt b 0 [c0, c1, c2, c3, c4, c5, c6, c7, c8, c9, c10, c11, c12, c13] := by
  intro j v hj
  rcases j with _ | _ | _ | _ | _ | _ | _ | _ | _ | _ | _ | _ | _ | _ | j <;> simp at hj <;> subst hj <;> simpa
theorem below_dN {B : Nat} {a w : World} {n : Nat} (h : Below B a w) : Below B a (w.drewN n) := ⟨h.os, h.tape, h.output, h.size, h.block⟩
theorem errH_bd {h a b r : Int} (k : okE h a b r = true) : 0 ≤ errH h a b r ∧ errH h a b r ≤ 2322432 := by
  obtain ⟨g, r0, r1⟩ := okE_iff.1 k
  have g' := goodH_iff.1 g
  have g3 := hb_of g
  have g4 := prod_small r0 r1 g3.2.2.1 g3.2.2.2
  have g5 : h * a ≤ h * b := Int.mul_le_mul_of_nonneg_left g'.2.2.2.1 g'.1
  rw [errH_yes k]
  omega
theorem rerr_bd {a b r s : Int} (k : rerrOk a b r s = true) : 0 ≤ rerr a b r s ∧ rerr a b r s ≤ 57345 := by
  rw [rerr_yes k]
  simp only [rerrOk, Bool.and_eq_true] at k
  have g := goodH_iff.1 k.1
  have q := goodR_iff.1 k.2
  have pb := prod_small (x := 2 * r + s) (y := b) (m := 384) (n := 64) (by omega) (by omega) (by omega) (by omega)
  omega
theorem wan_bd {r g s : Int} (hr : 0 ≤ r ∧ r ≤ 64) (hg : 0 ≤ g ∧ g ≤ 1099511627776) (hs : 1 ≤ s) : 0 ≤ 2 * r * ticksR (2 * g) s ∧ 2 * r * ticksR (2 * g) s ≤ 281474976710912 := by
  have tb := ticks_bd (2 * g) s (by omega) hs
  have pb := prod_small (x := 2 * r) (y := ticksR (2 * g) s) (m := 128) (n := 2199023255554) (by omega) (by omega) (by omega) (by omega)
  omega

/-! ### the numbers, one by one, as the document has them -/
section
variable (N dmin dmax rho slew rnd win att : Int)
def nWw : Int := 2 * rho * ticksR (2 * win) (slowR rho slew)
def nWr : Int := 2 * rho * ticksR (2 * rnd) (slowR rho slew)
def nLink : Int := dmax * fastR rho slew
def nRead : Int := errH (N - 1) dmin dmax rho + nWw rho slew win
def nAgree : Int := 2 * nRead N dmin dmax rho slew win + 2
def nStart : Int := nAgree N dmin dmax rho slew win + nWr rho slew rnd
def nEps : Int := nStart N dmin dmax rho slew rnd win + nAgree N dmin dmax rho slew win + nWr rho slew rnd + 2 * fastR rho slew
def nMost : Int := nStart N dmin dmax rho slew rnd win + nRead N dmin dmax rho slew win + 2
def nRough : Int := nEps N dmin dmax rho slew rnd win + rerr dmin dmax rho slew + nMost N dmin dmax rho slew rnd win + nWr rho slew rnd + 4 * fastR rho slew
def nDelta : Int := (N - 1) * (nLink dmax rho slew + nEps N dmin dmax rho slew rnd win) + 2 * fastR rho slew
def nRest : Int := 2 * nEps N dmin dmax rho slew rnd win + 2 * nDelta N dmin dmax rho slew rnd win
def nDown : Int := ticksR (att + nRest N dmin dmax rho slew rnd win) (slowR rho slew)
def nJoin : Int := 2 * dmax + 8 + ticksR (2 * (rnd + win)) (slowR rho slew) + ticksR (2 * att + nRest N dmin dmax rho slew rnd win) (slowR rho slew)
end

end Go.Proofs.Ytpbabpbinojodaa.Bound
