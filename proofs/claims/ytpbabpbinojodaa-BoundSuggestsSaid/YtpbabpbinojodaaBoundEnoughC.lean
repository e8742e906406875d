/- Whether a configuration's periods are wide enough: the document's answer; both are one. -/
import Derived.Test.YtpbabpbinojodaaBoundEnoughB
import Derived.Test.YtpbabpbinojodaaBoundRef
namespace Go.Proofs.Ytpbabpbinojodaa.Bound
open Go.Proofs.Ytpbabpbinojodaa.Arith Go.Proofs.Ytpbabpbinojodaa.Span Go.Proofs.Ytpbabpbinojodaa.Hops
open Go.RowKit (wrap64 Below intOf)
set_option linter.unusedVariables false

theorem rof_good (la : Option Addr) (ln lc : Nat) (N F dmin dmax rho slew rnd win att sn hs fl qu bd : Int) (hgood : goodB N dmin dmax rho slew rnd win att = true) : ∃ fast slow link rd agree start eps most cold rough delta down join : Int, RowKit.Hid (fastR rho slew = fast ∧ slowR rho slew = slow ∧ nLink dmax rho slew = link ∧ nRead N dmin dmax rho slew win = rd ∧ nAgree N dmin dmax rho slew win = agree ∧ nStart N dmin dmax rho slew rnd win = start ∧ nEps N dmin dmax rho slew rnd win = eps ∧ nMost N dmin dmax rho slew rnd win = most ∧ rerr dmin dmax rho slew = cold ∧ nRough N dmin dmax rho slew rnd win = rough ∧ nDelta N dmin dmax rho slew rnd win = delta ∧ nDown N dmin dmax rho slew rnd win att = down ∧ nJoin N dmin dmax rho slew rnd win att = join) ∧ ((1025 ≤ fast ∧ fast ≤ 1344) ∧ (0 ≤ link ∧ link ≤ 86016) ∧ (0 ≤ eps ∧ eps ≤ 2000000000000000) ∧ (0 ≤ most ∧ most ≤ 2000000000000000) ∧ (0 ≤ rough ∧ rough ≤ 5000000000000000) ∧ (0 ≤ delta ∧ delta ≤ 200000000000000000) ∧ eps < rough) ∧
    (∀ w : World, Calls Try.prog 12 #[.agg #[.int .i64 N, .slice la ln lc, .int .i64 F, .int .i64 dmin, .int .i64 dmax, .int .i64 rho, .int .i64 slew, .int .i64 rnd, .int .i64 win, .int .i64 att, .int .i64 sn, .int .i64 hs, .int .i64 fl, .int .i64 qu, .int .i64 bd]] w fun e w' => e = .returned (.agg #[.int .i64 (N - 1), .int .i64 fast, .int .i64 slow, .int .i64 link, .int .i64 rd, .int .i64 agree, .int .i64 start, .int .i64 eps, .int .i64 most, .int .i64 cold, .int .i64 rough, .int .i64 delta, .int .i64 down, .int .i64 join]) ∧ Below w.heap.size w w') :=
  ⟨_, _, _, _, _, _, _, _, _, _, _, _, _, (show RowKit.Hid _ from ⟨rfl, rfl, rfl, rfl, rfl, rfl, rfl, rfl, rfl, rfl, rfl, rfl, rfl⟩), nums_bd hgood, fun w => rof_yes _ _ _ _ _ _ _ _ _ _ _ _ _ _ _ _ _ _ hgood⟩
set_option maxRecDepth 100000 in
set_option maxHeartbeats 4000000 in
theorem enough_bad (la : Option Addr) (ln lc : Nat) (N F dmin dmax rho slew rnd win att sn hs fl qu bd : Int) (w : World) (hgood : goodB N dmin dmax rho slew rnd win att = false) :
    Calls Try.prog 14 #[.agg #[.int .i64 N, .slice la ln lc, .int .i64 F, .int .i64 dmin, .int .i64 dmax, .int .i64 rho, .int .i64 slew, .int .i64 rnd, .int .i64 win, .int .i64 att, .int .i64 sn, .int .i64 hs, .int .i64 fl, .int .i64 qu, .int .i64 bd]] w fun e w' => e = .returned (.bool false) ∧ Below w.heap.size w w' := by
  have HG := Lib.hid hgood
  clear hgood
  go_enter Try.func14, Try.ntmps14
  go_wp2_with fail
  refine (of_no _ _ _ _ _ _ _ _ _ _ _ _ _ _ _ _ _ _ HG.out).mono ?_
  rintro e w1 ⟨rfl, b1⟩
  have s1 : w.heap.size < w1.heap.size := by have := b1.size; simp at this; omega
  have b1 := (below_1 w _).trans (b1.mono (by simp))
  go_wp2_with fail
  go_ret
  refine ⟨rfl, ?_⟩
  repeat (first
      | (with_reducible exact b1)
      | (with_reducible refine Below.setCell ?_ (by first | omega | (simp; done) | (simp; omega)) _)
      | (with_reducible refine below_dN ?_)
      | (with_reducible refine Below.drew ?_)
      | (with_reducible refine Below.alloc ?_ (by first | omega | (simp; done) | (simp; omega)) _))
theorem enough_any (la : Option Addr) (ln lc : Nat) (N F dmin dmax rho slew rnd win att sn hs fl qu bd : Int) (w : World) :
    Calls Try.prog 14 #[.agg #[.int .i64 N, .slice la ln lc, .int .i64 F, .int .i64 dmin, .int .i64 dmax, .int .i64 rho, .int .i64 slew, .int .i64 rnd, .int .i64 win, .int .i64 att, .int .i64 sn, .int .i64 hs, .int .i64 fl, .int .i64 qu, .int .i64 bd]] w fun e w' => e = .returned (.bool (enoughB N dmin dmax rho slew rnd win att)) ∧ Below w.heap.size w w' := by
  by_cases hgood : goodB N dmin dmax rho slew rnd win att = true
  · exact enough_good _ _ _ _ _ _ _ _ _ _ _ _ _ _ _ _ _ _ hgood
  · have h : goodB N dmin dmax rho slew rnd win att = false := by simpa using hgood
    have e : enoughB N dmin dmax rho slew rnd win att = false := enoughB_no fun c => hgood c.1
    rw [e]
    exact enough_bad _ _ _ _ _ _ _ _ _ _ _ _ _ _ _ _ _ _ h
set_option maxRecDepth 100000 in
set_option maxHeartbeats 8000000 in
theorem renough_good (la : Option Addr) (ln lc : Nat) (N F dmin dmax rho slew rnd win att sn hs fl qu bd : Int) (w : World) (hgood : goodB N dmin dmax rho slew rnd win att = true) :
    Calls Try.prog 15 #[.agg #[.int .i64 N, .slice la ln lc, .int .i64 F, .int .i64 dmin, .int .i64 dmax, .int .i64 rho, .int .i64 slew, .int .i64 rnd, .int .i64 win, .int .i64 att, .int .i64 sn, .int .i64 hs, .int .i64 fl, .int .i64 qu, .int .i64 bd]] w fun e w' => e = .returned (.bool (enoughB N dmin dmax rho slew rnd win att)) ∧ Below w.heap.size w w' := by
  obtain ⟨fast, slow, link, rd, agree, start, eps, most, cold, rough, delta, down, join, hE, ⟨⟨kf1, kf2⟩, ⟨kl1, kl2⟩, ⟨ke1, ke2⟩, ⟨km1, km2⟩, ⟨kr1, kr2⟩, ⟨kd1, kd2⟩, ker⟩, hOf⟩ := rof_good la ln lc N F dmin dmax rho slew rnd win att sn hs fl qu bd hgood
  obtain ⟨hN, hR, hP1, hP2, hP3⟩ := goodB_iff.1 hgood
  have HE := Lib.hid (enough_eq hgood hE.out)
  have HO := Lib.hid hOf
  have HG := Lib.hid hgood
  have pl := prod_small (x := N - 1) (y := link) (m := 63) (n := 86016) (by omega) (by omega) (by omega) (by omega)
  clear hOf hgood hE
  go_enter Try.func15, Try.ntmps15
  go_wp2_with fail
  refine (rgood_cfg _ _ _ _ _ _ _ _ _ _ _ _ _ _ _ _ _ _).mono ?_
  rintro e w1 ⟨rfl, rfl⟩
  rw [HG.out]
  go_wp2_with fail
  refine (HO.out _).mono ?_
  rintro e w2 ⟨rfl, b2⟩
  have g0 : w2.cell? ⟨w.heap.size, 0, none⟩ = some (.int .i64 N) := (b2.cell (by first | (simp; done) | (simp; omega))).trans (by go_simp)
  have g1 : w2.cell? ⟨w.heap.size, 1, none⟩ = some (.slice la ln lc) := (b2.cell (by first | (simp; done) | (simp; omega))).trans (by go_simp)
  have g2 : w2.cell? ⟨w.heap.size, 2, none⟩ = some (.int .i64 F) := (b2.cell (by first | (simp; done) | (simp; omega))).trans (by go_simp)
  have g3 : w2.cell? ⟨w.heap.size, 3, none⟩ = some (.int .i64 dmin) := (b2.cell (by first | (simp; done) | (simp; omega))).trans (by go_simp)
  have g4 : w2.cell? ⟨w.heap.size, 4, none⟩ = some (.int .i64 dmax) := (b2.cell (by first | (simp; done) | (simp; omega))).trans (by go_simp)
  have g5 : w2.cell? ⟨w.heap.size, 5, none⟩ = some (.int .i64 rho) := (b2.cell (by first | (simp; done) | (simp; omega))).trans (by go_simp)
  have g6 : w2.cell? ⟨w.heap.size, 6, none⟩ = some (.int .i64 slew) := (b2.cell (by first | (simp; done) | (simp; omega))).trans (by go_simp)
  have g7 : w2.cell? ⟨w.heap.size, 7, none⟩ = some (.int .i64 rnd) := (b2.cell (by first | (simp; done) | (simp; omega))).trans (by go_simp)
  have g8 : w2.cell? ⟨w.heap.size, 8, none⟩ = some (.int .i64 win) := (b2.cell (by first | (simp; done) | (simp; omega))).trans (by go_simp)
  have g9 : w2.cell? ⟨w.heap.size, 9, none⟩ = some (.int .i64 att) := (b2.cell (by first | (simp; done) | (simp; omega))).trans (by go_simp)
  have g10 : w2.cell? ⟨w.heap.size, 10, none⟩ = some (.int .i64 sn) := (b2.cell (by first | (simp; done) | (simp; omega))).trans (by go_simp)
  have g11 : w2.cell? ⟨w.heap.size, 11, none⟩ = some (.int .i64 hs) := (b2.cell (by first | (simp; done) | (simp; omega))).trans (by go_simp)
  have g12 : w2.cell? ⟨w.heap.size, 12, none⟩ = some (.int .i64 fl) := (b2.cell (by first | (simp; done) | (simp; omega))).trans (by go_simp)
  have g13 : w2.cell? ⟨w.heap.size, 13, none⟩ = some (.int .i64 qu) := (b2.cell (by first | (simp; done) | (simp; omega))).trans (by go_simp)
  have g14 : w2.cell? ⟨w.heap.size, 14, none⟩ = some (.int .i64 bd) := (b2.cell (by first | (simp; done) | (simp; omega))).trans (by go_simp)
  have s1 : w.heap.size < w2.heap.size := by have := b2.size; simp at this; omega
  have n1 : w.heap.size ≠ w2.heap.size := by omega
  have b2 := ((below_1 w _).alloc (by simp) _).trans (b2.mono (by simp; omega))
  by_cases t1 : win < 2 * rough + eps + (N - 1) * link + 4 * fast
  · have ok : enoughB N dmin dmax rho slew rnd win att = false := by rw [HE.out, decide_eq_false (by omega)]; rfl
    replace ok := Lib.hid ok
    go_wp2_with fail
    go_ret
    refine ⟨retb ok.out.symm, ?_⟩
    repeat (first
      | (with_reducible exact b2)
      | (with_reducible refine Below.setCell ?_ (by first | omega | (simp; done) | (simp; omega)) _)
      | (with_reducible refine below_dN ?_)
      | (with_reducible refine Below.drew ?_)
      | (with_reducible refine Below.alloc ?_ (by first | omega | (simp; done) | (simp; omega)) _))
  have t1' : decide (win < 2 * rough + eps + (N - 1) * link + 4 * fast) = false := decide_eq_false t1
  by_cases t2 : rnd < 4 * win
  · have ok : enoughB N dmin dmax rho slew rnd win att = false := by rw [HE.out, decide_eq_true (p := 2 * rough + eps + (N - 1) * link + 4 * fast ≤ win) (by omega), decide_eq_false (p := 4 * win ≤ rnd) (by omega)]; rfl
    replace ok := Lib.hid ok
    go_wp2_with fail
    go_ret
    refine ⟨retb ok.out.symm, ?_⟩
    repeat (first
      | (with_reducible exact b2)
      | (with_reducible refine Below.setCell ?_ (by first | omega | (simp; done) | (simp; omega)) _)
      | (with_reducible refine below_dN ?_)
      | (with_reducible refine Below.drew ?_)
      | (with_reducible refine Below.alloc ?_ (by first | omega | (simp; done) | (simp; omega)) _))
  have t2' : decide (rnd < 4 * win) = false := decide_eq_false t2
  by_cases t4 : att < 2 * delta
  · have ok : enoughB N dmin dmax rho slew rnd win att = false := by rw [HE.out, decide_eq_true (p := 2 * rough + eps + (N - 1) * link + 4 * fast ≤ win) (by omega), decide_eq_true (p := 4 * win ≤ rnd) (by omega), decide_eq_false (p := 2 * delta ≤ att) (by omega)]; simp
    replace ok := Lib.hid ok
    go_wp2_with fail
    go_ret
    refine ⟨retb ok.out.symm, ?_⟩
    repeat (first
      | (with_reducible exact b2)
      | (with_reducible refine Below.setCell ?_ (by first | omega | (simp; done) | (simp; omega)) _)
      | (with_reducible refine below_dN ?_)
      | (with_reducible refine Below.drew ?_)
      | (with_reducible refine Below.alloc ?_ (by first | omega | (simp; done) | (simp; omega)) _))
  have t4' : decide (att < 2 * delta) = false := decide_eq_false t4
  have qb := quo_bd (a := rnd - 2 * win) (f := fast) (by omega) kf1
  have sb := slew_bd (s := slew) (q := (rnd - 2 * win) / fast) (by omega) qb
  have ok : enoughB N dmin dmax rho slew rnd win att = decide (most ≤ slew * ((rnd - 2 * win) / fast - 2)) := by rw [HE.out, decide_eq_true (p := 2 * rough + eps + (N - 1) * link + 4 * fast ≤ win) (by omega), decide_eq_true (p := 4 * win ≤ rnd) (by omega), decide_eq_true (p := 2 * delta ≤ att) (by omega)]; simp
  replace ok := Lib.hid ok
  go_wp2_with fail
  have hz : (fast == 0) = false := eq_false' (by omega)
  have w1 : IntKind.i64.wrap (2 * win) = 2 * win := IntWalk.i64_in _ (by omega)
  have w2' : IntKind.i64.wrap (rnd - 2 * win) = rnd - 2 * win := IntWalk.i64_in _ (by omega)
  have w3 : IntKind.i64.wrap ((rnd - 2 * win) / fast) = (rnd - 2 * win) / fast := IntWalk.i64_in _ (by omega)
  have w4 : IntKind.i64.wrap ((rnd - 2 * win) / fast - 2) = (rnd - 2 * win) / fast - 2 := IntWalk.i64_in _ (by omega)
  have w5 : IntKind.i64.wrap (slew * ((rnd - 2 * win) / fast - 2)) = slew * ((rnd - 2 * win) / fast - 2) := IntWalk.i64_in _ (by omega)
  have w6 : (rnd - 2 * win).tdiv fast = (rnd - 2 * win) / fast := Int.tdiv_eq_ediv_of_nonneg (by omega)
  go_quiet (fail)
  clear w1 w2' w3 w4 w5 w6
  go_wp2_with fail
  go_ret
  refine ⟨retb ok.out.symm, ?_⟩
  repeat (first
      | (with_reducible exact b2)
      | (with_reducible refine Below.setCell ?_ (by first | omega | (simp; done) | (simp; omega)) _)
      | (with_reducible refine below_dN ?_)
      | (with_reducible refine Below.drew ?_)
      | (with_reducible refine Below.alloc ?_ (by first | omega | (simp; done) | (simp; omega)) _))
set_option maxRecDepth 100000 in
set_option maxHeartbeats 4000000 in
theorem renough_any (la : Option Addr) (ln lc : Nat) (N F dmin dmax rho slew rnd win att sn hs fl qu bd : Int) (w : World) :
    Calls Try.prog 15 #[.agg #[.int .i64 N, .slice la ln lc, .int .i64 F, .int .i64 dmin, .int .i64 dmax, .int .i64 rho, .int .i64 slew, .int .i64 rnd, .int .i64 win, .int .i64 att, .int .i64 sn, .int .i64 hs, .int .i64 fl, .int .i64 qu, .int .i64 bd]] w fun e w' => e = .returned (.bool (enoughB N dmin dmax rho slew rnd win att)) ∧ Below w.heap.size w w' := by
  by_cases hgood : goodB N dmin dmax rho slew rnd win att = true
  · exact renough_good _ _ _ _ _ _ _ _ _ _ _ _ _ _ _ _ _ _ hgood
  · have HG := Lib.hid (show goodB N dmin dmax rho slew rnd win att = false by simpa using hgood)
    have e := Lib.hid (show enoughB N dmin dmax rho slew rnd win att = false from enoughB_no fun c => hgood c.1)
    clear hgood
    go_enter Try.func15, Try.ntmps15
    go_wp2_with fail
    refine (rgood_cfg _ _ _ _ _ _ _ _ _ _ _ _ _ _ _ _ _ _).mono ?_
    rintro e w1 ⟨rfl, rfl⟩
    rw [HG.out]
    go_wp2_with fail
    go_ret
    refine ⟨retb e.out.symm, ?_⟩
    repeat (first
      | (with_reducible exact Below.refl _ _)
      | (with_reducible refine Below.setCell ?_ (by first | omega | (simp; done) | (simp; omega)) _)
      | (with_reducible refine below_dN ?_)
      | (with_reducible refine Below.drew ?_)
      | (with_reducible refine Below.alloc ?_ (by first | omega | (simp; done) | (simp; omega)) _))
end Go.Proofs.Ytpbabpbinojodaa.Bound
