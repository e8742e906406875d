/- Whether a configuration's periods are wide enough: package bound's answer. -/
import Derived.Test.YtpbabpbinojodaaBoundLateWalk
namespace Go.Proofs.Ytpbabpbinojodaa.Bound
open Go.Proofs.Ytpbabpbinojodaa.Arith Go.Proofs.Ytpbabpbinojodaa.Span Go.Proofs.Ytpbabpbinojodaa.Hops
open Go.RowKit (wrap64 Below intOf)
set_option linter.unusedVariables false
theorem nums_bd {N dmin dmax rho slew rnd win att : Int} (hgood : goodB N dmin dmax rho slew rnd win att = true) :
    (1025 ≤ fastR rho slew ∧ fastR rho slew ≤ 1344) ∧ (0 ≤ nLink dmax rho slew ∧ nLink dmax rho slew ≤ 86016) ∧ (0 ≤ nEps N dmin dmax rho slew rnd win ∧ nEps N dmin dmax rho slew rnd win ≤ 2000000000000000) ∧
    (0 ≤ nMost N dmin dmax rho slew rnd win ∧ nMost N dmin dmax rho slew rnd win ≤ 2000000000000000) ∧ (0 ≤ nRough N dmin dmax rho slew rnd win ∧ nRough N dmin dmax rho slew rnd win ≤ 5000000000000000) ∧
    (0 ≤ nDelta N dmin dmax rho slew rnd win ∧ nDelta N dmin dmax rho slew rnd win ≤ 200000000000000000) ∧ nEps N dmin dmax rho slew rnd win < nRough N dmin dmax rho slew rnd win := by
  obtain ⟨hN, hR, hP1, hP2, hP3⟩ := goodB_iff.1 hgood
  have hgr := goodR_iff.2 hR
  have hf := fast_bd hgr
  have hl := link_bd (dmax := dmax) hgr (by omega)
  have hgh : goodH (N - 1) dmin dmax = true := goodH_iff.2 (by omega)
  have hgh1 : goodH 1 dmin dmax = true := goodH_iff.2 (by omega)
  have her := errH_bd (okE_iff.2 ⟨hgh, by omega⟩ : okE (N - 1) dmin dmax rho = true)
  have hco := rerr_bd (show rerrOk dmin dmax rho slew = true by rw [rerrOk, hgh1, hgr]; rfl)
  have hsl : 1 ≤ slowR rho slew := by rw [slowR_yes hgr]; omega
  have hww : 0 ≤ nWw rho slew win ∧ nWw rho slew win ≤ 281474976710912 := wan_bd (by omega) (by omega) hsl
  have hwr : 0 ≤ nWr rho slew rnd ∧ nWr rho slew rnd ≤ 281474976710912 := wan_bd (by omega) (by omega) hsl
  have hee : 0 ≤ nEps N dmin dmax rho slew rnd win ∧ nEps N dmin dmax rho slew rnd win ≤ 2000000000000000 := by
    unfold nEps nStart nAgree nRead; omega
  have hpb := prod_small (x := N - 1) (y := nLink dmax rho slew + nEps N dmin dmax rho slew rnd win) (m := 63) (n := 2000000000086016) (by omega) (by omega) (by omega) (by omega)
  refine ⟨hf, hl, hee, ?_, ?_, ?_, ?_⟩
  · unfold nMost nStart nAgree nRead; omega
  · unfold nRough nMost; unfold nEps nStart nAgree nRead; omega
  · unfold nDelta; omega
  · unfold nRough nMost; unfold nEps nStart nAgree nRead; omega
/-- Is it enough? -/
def enoughB (N dmin dmax rho slew rnd win att : Int) : Bool :=
  goodB N dmin dmax rho slew rnd win att && (decide (2 * nRough N dmin dmax rho slew rnd win + nEps N dmin dmax rho slew rnd win + (N - 1) * nLink dmax rho slew + 4 * fastR rho slew ≤ win) && (decide (4 * win ≤ rnd) &&
    (decide (nMost N dmin dmax rho slew rnd win ≤ slew * ((rnd - 2 * win) / fastR rho slew - 2)) && decide (2 * nDelta N dmin dmax rho slew rnd win ≤ att))))
theorem enoughB_iff {N dmin dmax rho slew rnd win att : Int} : enoughB N dmin dmax rho slew rnd win att = true ↔ goodB N dmin dmax rho slew rnd win att = true ∧
    2 * nRough N dmin dmax rho slew rnd win + nEps N dmin dmax rho slew rnd win + (N - 1) * nLink dmax rho slew + 4 * fastR rho slew ≤ win ∧ 4 * win ≤ rnd ∧
    nMost N dmin dmax rho slew rnd win ≤ slew * ((rnd - 2 * win) / fastR rho slew - 2) ∧ 2 * nDelta N dmin dmax rho slew rnd win ≤ att := by simp [enoughB]
theorem enoughB_no {N dmin dmax rho slew rnd win att : Int} (h : ¬ (goodB N dmin dmax rho slew rnd win att = true ∧
    2 * nRough N dmin dmax rho slew rnd win + nEps N dmin dmax rho slew rnd win + (N - 1) * nLink dmax rho slew + 4 * fastR rho slew ≤ win ∧ 4 * win ≤ rnd ∧
    nMost N dmin dmax rho slew rnd win ≤ slew * ((rnd - 2 * win) / fastR rho slew - 2) ∧ 2 * nDelta N dmin dmax rho slew rnd win ≤ att)) : enoughB N dmin dmax rho slew rnd win att = false := by
  rw [← Bool.not_eq_true, enoughB_iff]; exact h

set_option maxRecDepth 100000 in
set_option maxHeartbeats 2000000 in
theorem far_any (b0 b1 b2 b3 b4 b5 b6 b7 b8 b9 b10 b11 b12 b13 : Int) (w : World) (k0 : 0 ≤ b0 ∧ b0 ≤ 63) (k3 : 0 ≤ b3 ∧ b3 ≤ 86016) :
    Calls Try.prog 34 #[.agg #[.int .i64 b0, .int .i64 b1, .int .i64 b2, .int .i64 b3, .int .i64 b4, .int .i64 b5, .int .i64 b6, .int .i64 b7, .int .i64 b8, .int .i64 b9, .int .i64 b10, .int .i64 b11, .int .i64 b12, .int .i64 b13]] w fun e w' => e = .returned (.int .i64 (b0 * b3)) ∧ Below w.heap.size w w' := by
  have pb := prod_small k0.1 k0.2 k3.1 k3.2
  go_enter Try.func34, Try.ntmps34
  go_wp2_with fail
  go_ret
  exact ⟨rfl, below_1 _ _⟩
theorem quo_bd {a f : Int} (ha : 0 ≤ a ∧ a ≤ 1099511627776) (hf : 1025 ≤ f) : 0 ≤ a / f ∧ a / f ≤ 1099511627776 := ⟨Int.ediv_nonneg ha.1 (by omega), Int.le_trans (Int.ediv_le_self _ ha.1) ha.2⟩
theorem slew_bd {s q : Int} (hs : 1 ≤ s ∧ s ≤ 256) (hq : 0 ≤ q ∧ q ≤ 1099511627776) : -512 ≤ s * (q - 2) ∧ s * (q - 2) ≤ 281474976710656 := by
  have h1 := prod_small (x := s) (y := q) (m := 256) (n := 1099511627776) (by omega) (by omega) (by omega) (by omega)
  rw [Int.mul_sub]; omega
set_option maxRecDepth 100000 in
set_option maxHeartbeats 2000000 in
theorem slewed_any (b0 b1 b2 b3 b4 b5 b6 b7 b8 b9 b10 b11 b12 b13 : Int) (la : Option Addr) (ln lc : Nat) (N F dmin dmax rho slew rnd win att sn hs fl qu bd : Int) (w : World) (kf : 1025 ≤ b1 ∧ b1 ≤ 1344) (ks : 1 ≤ slew ∧ slew ≤ 256) (kw : 1 ≤ win ∧ 4 * win ≤ rnd) (kr : rnd ≤ 1099511627776) :
    Calls Try.prog 35 #[.agg #[.int .i64 b0, .int .i64 b1, .int .i64 b2, .int .i64 b3, .int .i64 b4, .int .i64 b5, .int .i64 b6, .int .i64 b7, .int .i64 b8, .int .i64 b9, .int .i64 b10, .int .i64 b11, .int .i64 b12, .int .i64 b13], .agg #[.int .i64 N, .slice la ln lc, .int .i64 F, .int .i64 dmin, .int .i64 dmax, .int .i64 rho, .int .i64 slew, .int .i64 rnd, .int .i64 win, .int .i64 att, .int .i64 sn, .int .i64 hs, .int .i64 fl, .int .i64 qu, .int .i64 bd]] w fun e w' => e = .returned (.int .i64 (slew * ((rnd - 2 * win) / b1 - 2))) ∧ Below w.heap.size w w' := by
  have qb := quo_bd (a := rnd - 2 * win) (f := b1) (by omega) kf.1
  have sb := slew_bd ks qb
  have hz : (b1 == 0) = false := eq_false' (by omega)
  have w1 : IntKind.i64.wrap (2 * win) = 2 * win := IntWalk.i64_in _ (by omega)
  have w2 : IntKind.i64.wrap (rnd - 2 * win) = rnd - 2 * win := IntWalk.i64_in _ (by omega)
  have w3 : IntKind.i64.wrap ((rnd - 2 * win) / b1) = (rnd - 2 * win) / b1 := IntWalk.i64_in _ (by omega)
  have w4 : IntKind.i64.wrap ((rnd - 2 * win) / b1 - 2) = (rnd - 2 * win) / b1 - 2 := IntWalk.i64_in _ (by omega)
  have w5 : IntKind.i64.wrap (slew * ((rnd - 2 * win) / b1 - 2)) = slew * ((rnd - 2 * win) / b1 - 2) := IntWalk.i64_in _ (by omega)
  have w6 : (rnd - 2 * win).tdiv b1 = (rnd - 2 * win) / b1 := Int.tdiv_eq_ediv_of_nonneg (by omega)
  have bf : ∀ o o' n, Below w.heap.size w (((w.alloc o).alloc o').drewN n) := fun o o' n => below_dN (((Below.refl _ _).alloc (Nat.le_refl _) _).alloc (by simp) _)
  go_enter Try.func35, Try.ntmps35
  go_wp2_with fail
  go_quiet (fail)
  go_wp2_with fail
  go_ret
  exact ⟨rfl, bf _ _ _⟩

/-- What bound.Of answers of a good configuration, each number under a name. -/
theorem of_good (la : Option Addr) (ln lc : Nat) (N F dmin dmax rho slew rnd win att sn hs fl qu bd : Int) (hgood : goodB N dmin dmax rho slew rnd win att = true) : ∃ fast slow link rd agree start eps most cold rough delta down join : Int, RowKit.Hid (fastR rho slew = fast ∧ slowR rho slew = slow ∧ nLink dmax rho slew = link ∧ nRead N dmin dmax rho slew win = rd ∧ nAgree N dmin dmax rho slew win = agree ∧ nStart N dmin dmax rho slew rnd win = start ∧ nEps N dmin dmax rho slew rnd win = eps ∧ nMost N dmin dmax rho slew rnd win = most ∧ rerr dmin dmax rho slew = cold ∧ nRough N dmin dmax rho slew rnd win = rough ∧ nDelta N dmin dmax rho slew rnd win = delta ∧ nDown N dmin dmax rho slew rnd win att = down ∧ nJoin N dmin dmax rho slew rnd win att = join) ∧ ((1025 ≤ fast ∧ fast ≤ 1344) ∧ (0 ≤ link ∧ link ≤ 86016) ∧ (0 ≤ eps ∧ eps ≤ 2000000000000000) ∧ (0 ≤ most ∧ most ≤ 2000000000000000) ∧ (0 ≤ rough ∧ rough ≤ 5000000000000000) ∧ (0 ≤ delta ∧ delta ≤ 200000000000000000) ∧ eps < rough) ∧
    (∀ w : World, Calls Try.prog 8 #[.agg #[.int .i64 N, .slice la ln lc, .int .i64 F, .int .i64 dmin, .int .i64 dmax, .int .i64 rho, .int .i64 slew, .int .i64 rnd, .int .i64 win, .int .i64 att, .int .i64 sn, .int .i64 hs, .int .i64 fl, .int .i64 qu, .int .i64 bd]] w fun e w' => e = .returned (.tuple #[.agg #[.int .i64 (N - 1), .int .i64 fast, .int .i64 slow, .int .i64 link, .int .i64 rd, .int .i64 agree, .int .i64 start, .int .i64 eps, .int .i64 most, .int .i64 cold, .int .i64 rough, .int .i64 delta, .int .i64 down, .int .i64 join], .int .i64 0]) ∧ Below w.heap.size w w') :=
  ⟨_, _, _, _, _, _, _, _, _, _, _, _, _, (show RowKit.Hid _ from ⟨rfl, rfl, rfl, rfl, rfl, rfl, rfl, rfl, rfl, rfl, rfl, rfl, rfl⟩), nums_bd hgood, fun w => of_yes _ _ _ _ _ _ _ _ _ _ _ _ _ _ _ _ _ _ hgood⟩
theorem enough_eq {N dmin dmax rho slew rnd win att fast slow link rd agree start eps most cold rough delta down join : Int} (hgood : goodB N dmin dmax rho slew rnd win att = true) (h : fastR rho slew = fast ∧ slowR rho slew = slow ∧ nLink dmax rho slew = link ∧ nRead N dmin dmax rho slew win = rd ∧ nAgree N dmin dmax rho slew win = agree ∧ nStart N dmin dmax rho slew rnd win = start ∧ nEps N dmin dmax rho slew rnd win = eps ∧ nMost N dmin dmax rho slew rnd win = most ∧ rerr dmin dmax rho slew = cold ∧ nRough N dmin dmax rho slew rnd win = rough ∧ nDelta N dmin dmax rho slew rnd win = delta ∧ nDown N dmin dmax rho slew rnd win att = down ∧ nJoin N dmin dmax rho slew rnd win att = join) : enoughB N dmin dmax rho slew rnd win att = (decide (2 * rough + eps + (N - 1) * link + 4 * fast ≤ win) && (decide (4 * win ≤ rnd) && (decide (most ≤ slew * ((rnd - 2 * win) / fast - 2)) && decide (2 * delta ≤ att)))) := by
  obtain ⟨h1, h2, h3, h4, h5, h6, h7, h8, h9, h10, h11, h12, h13⟩ := h
  rw [enoughB, hgood, Bool.true_and, h1, h3, h7, h8, h10, h11]
end Go.Proofs.Ytpbabpbinojodaa.Bound
