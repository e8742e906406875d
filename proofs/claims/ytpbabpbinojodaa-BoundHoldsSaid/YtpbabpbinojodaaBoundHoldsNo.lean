/- If the periods are wide enough all is in time: the walk of the law. -/
import Derived.Test.YtpbabpbinojodaaBoundEnoughWalk
namespace Go.Proofs.Ytpbabpbinojodaa.Bound
open Go.Proofs.Ytpbabpbinojodaa.Arith Go.Proofs.Ytpbabpbinojodaa.Span Go.Proofs.Ytpbabpbinojodaa.Hops
open Go.RowKit (wrap64 Below intOf)
set_option linter.unusedVariables false

/-- Nothing that lay has turned behind three calls, the first of which found one new block more. -/
theorem below3 {w w1 w2 w3 w4 : World} {o : Obj} (b1 : Below w.heap.size w w1) (b2 : Below (w1.alloc o).heap.size (w1.alloc o) w2) (b3 : Below w2.heap.size w2 w3) (b4 : Below w3.heap.size w3 w4) (s1 : w.heap.size < w1.heap.size) : Below w.heap.size w w4 := by
  have z2 : w.heap.size ≤ (w1.alloc o).heap.size := by simp; omega
  have c2 := (b1.alloc (by omega) o).trans (b2.mono z2)
  have z3 : w.heap.size ≤ w2.heap.size := Nat.le_trans z2 b2.size
  have c3 := c2.trans (b3.mono z3)
  exact c3.trans (b4.mono (Nat.le_trans z3 b3.size))

theorem delta_eq {N dmin dmax rho slew rnd win att fast slow link rd agree start eps most cold rough delta down join : Int} (h : fastR rho slew = fast ∧ slowR rho slew = slow ∧ nLink dmax rho slew = link ∧ nRead N dmin dmax rho slew win = rd ∧ nAgree N dmin dmax rho slew win = agree ∧ nStart N dmin dmax rho slew rnd win = start ∧ nEps N dmin dmax rho slew rnd win = eps ∧ nMost N dmin dmax rho slew rnd win = most ∧ rerr dmin dmax rho slew = cold ∧ nRough N dmin dmax rho slew rnd win = rough ∧ nDelta N dmin dmax rho slew rnd win = delta ∧ nDown N dmin dmax rho slew rnd win att = down ∧ nJoin N dmin dmax rho slew rnd win att = join) : delta = (N - 1) * (link + eps) + 2 * fast := by
  obtain ⟨h1, h2, h3, h4, h5, h6, h7, h8, h9, h10, h11, h12, h13⟩ := h
  rw [← h11, ← h3, ← h7, ← h1, nDelta]
set_option maxRecDepth 100000 in
set_option maxHeartbeats 16000000 in
theorem holds_no (la : Option Addr) (ln lc : Nat) (N F dmin dmax rho slew rnd win att sn hs fl qu bd : Int) (h : Int) (w : World) (hen : enoughB N dmin dmax rho slew rnd win att = false) :
    Calls Try.prog 6 #[.agg #[.int .i64 N, .slice la ln lc, .int .i64 F, .int .i64 dmin, .int .i64 dmax, .int .i64 rho, .int .i64 slew, .int .i64 rnd, .int .i64 win, .int .i64 att, .int .i64 sn, .int .i64 hs, .int .i64 fl, .int .i64 qu, .int .i64 bd], .int .u8 h] w fun e w' => e = .returned (.bool true) ∧ Below w.heap.size w w' := by
  have E1 := Lib.hid (fun w => enough_any la ln lc N F dmin dmax rho slew rnd win att sn hs fl qu bd w)
  have E2 := Lib.hid (fun w => renough_any la ln lc N F dmin dmax rho slew rnd win att sn hs fl qu bd w)
  rw [hen] at E1 E2
  clear hen
  by_cases hgood : goodB N dmin dmax rho slew rnd win att = true
  · have HO := Lib.hid (fun w => of_yes la ln lc N F dmin dmax rho slew rnd win att sn hs fl qu bd w hgood)
    clear hgood
    go_enter Try.func6, Try.ntmps6
    go_wp2_with fail
    refine (HO.out _).mono ?_
    rintro e w1 ⟨rfl, b1⟩
    have f0 : w1.cell? ⟨w.heap.size, 0, none⟩ = some (.int .i64 N) := (b1.cell (by simp)).trans (by go_simp)
    have f1 : w1.cell? ⟨w.heap.size, 1, none⟩ = some (.slice la ln lc) := (b1.cell (by simp)).trans (by go_simp)
    have f2 : w1.cell? ⟨w.heap.size, 2, none⟩ = some (.int .i64 F) := (b1.cell (by simp)).trans (by go_simp)
    have f3 : w1.cell? ⟨w.heap.size, 3, none⟩ = some (.int .i64 dmin) := (b1.cell (by simp)).trans (by go_simp)
    have f4 : w1.cell? ⟨w.heap.size, 4, none⟩ = some (.int .i64 dmax) := (b1.cell (by simp)).trans (by go_simp)
    have f5 : w1.cell? ⟨w.heap.size, 5, none⟩ = some (.int .i64 rho) := (b1.cell (by simp)).trans (by go_simp)
    have f6 : w1.cell? ⟨w.heap.size, 6, none⟩ = some (.int .i64 slew) := (b1.cell (by simp)).trans (by go_simp)
    have f7 : w1.cell? ⟨w.heap.size, 7, none⟩ = some (.int .i64 rnd) := (b1.cell (by simp)).trans (by go_simp)
    have f8 : w1.cell? ⟨w.heap.size, 8, none⟩ = some (.int .i64 win) := (b1.cell (by simp)).trans (by go_simp)
    have f9 : w1.cell? ⟨w.heap.size, 9, none⟩ = some (.int .i64 att) := (b1.cell (by simp)).trans (by go_simp)
    have f10 : w1.cell? ⟨w.heap.size, 10, none⟩ = some (.int .i64 sn) := (b1.cell (by simp)).trans (by go_simp)
    have f11 : w1.cell? ⟨w.heap.size, 11, none⟩ = some (.int .i64 hs) := (b1.cell (by simp)).trans (by go_simp)
    have f12 : w1.cell? ⟨w.heap.size, 12, none⟩ = some (.int .i64 fl) := (b1.cell (by simp)).trans (by go_simp)
    have f13 : w1.cell? ⟨w.heap.size, 13, none⟩ = some (.int .i64 qu) := (b1.cell (by simp)).trans (by go_simp)
    have f14 : w1.cell? ⟨w.heap.size, 14, none⟩ = some (.int .i64 bd) := (b1.cell (by simp)).trans (by go_simp)
    have s1 : w.heap.size < w1.heap.size := by have := b1.size; simp at this; omega
    have n1 : w.heap.size ≠ w1.heap.size := by omega
    have b1 := (below_1 w _).trans (b1.mono (by simp))
    go_wp2_with fail
    refine (E1.out _).mono ?_
    rintro e w2 ⟨rfl, b2⟩
    have k0 : w2.cell? ⟨w.heap.size, 0, none⟩ = some (.int .i64 N) := (b2.cell (by first | (simp; done) | (simp; omega))).trans (by go_simp)
    have k1 : w2.cell? ⟨w.heap.size, 1, none⟩ = some (.slice la ln lc) := (b2.cell (by first | (simp; done) | (simp; omega))).trans (by go_simp)
    have k2 : w2.cell? ⟨w.heap.size, 2, none⟩ = some (.int .i64 F) := (b2.cell (by first | (simp; done) | (simp; omega))).trans (by go_simp)
    have k3 : w2.cell? ⟨w.heap.size, 3, none⟩ = some (.int .i64 dmin) := (b2.cell (by first | (simp; done) | (simp; omega))).trans (by go_simp)
    have k4 : w2.cell? ⟨w.heap.size, 4, none⟩ = some (.int .i64 dmax) := (b2.cell (by first | (simp; done) | (simp; omega))).trans (by go_simp)
    have k5 : w2.cell? ⟨w.heap.size, 5, none⟩ = some (.int .i64 rho) := (b2.cell (by first | (simp; done) | (simp; omega))).trans (by go_simp)
    have k6 : w2.cell? ⟨w.heap.size, 6, none⟩ = some (.int .i64 slew) := (b2.cell (by first | (simp; done) | (simp; omega))).trans (by go_simp)
    have k7 : w2.cell? ⟨w.heap.size, 7, none⟩ = some (.int .i64 rnd) := (b2.cell (by first | (simp; done) | (simp; omega))).trans (by go_simp)
    have k8 : w2.cell? ⟨w.heap.size, 8, none⟩ = some (.int .i64 win) := (b2.cell (by first | (simp; done) | (simp; omega))).trans (by go_simp)
    have k9 : w2.cell? ⟨w.heap.size, 9, none⟩ = some (.int .i64 att) := (b2.cell (by first | (simp; done) | (simp; omega))).trans (by go_simp)
    have k10 : w2.cell? ⟨w.heap.size, 10, none⟩ = some (.int .i64 sn) := (b2.cell (by first | (simp; done) | (simp; omega))).trans (by go_simp)
    have k11 : w2.cell? ⟨w.heap.size, 11, none⟩ = some (.int .i64 hs) := (b2.cell (by first | (simp; done) | (simp; omega))).trans (by go_simp)
    have k12 : w2.cell? ⟨w.heap.size, 12, none⟩ = some (.int .i64 fl) := (b2.cell (by first | (simp; done) | (simp; omega))).trans (by go_simp)
    have k13 : w2.cell? ⟨w.heap.size, 13, none⟩ = some (.int .i64 qu) := (b2.cell (by first | (simp; done) | (simp; omega))).trans (by go_simp)
    have k14 : w2.cell? ⟨w.heap.size, 14, none⟩ = some (.int .i64 bd) := (b2.cell (by first | (simp; done) | (simp; omega))).trans (by go_simp)
    clear f0 f1 f2 f3 f4 f5 f6 f7 f8 f9 f10 f11 f12 f13 f14
    go_wp2_with fail
    refine (E2.out _).mono ?_
    rintro e w3 ⟨rfl, b3⟩
    go_wp2_with fail
    refine (works_any _).mono ?_
    rintro e w4 ⟨rfl, b4⟩
    go_wp2_with fail
    go_ret
    exact ⟨rfl, below3 b1 b2 b3 b4 s1⟩
  · have hgood : goodB N dmin dmax rho slew rnd win att = false := by simpa using hgood
    have HO := Lib.hid (fun w => of_no la ln lc N F dmin dmax rho slew rnd win att sn hs fl qu bd w hgood)
    clear hgood
    go_enter Try.func6, Try.ntmps6
    go_wp2_with fail
    refine (HO.out _).mono ?_
    rintro e w1 ⟨rfl, b1⟩
    have f0 : w1.cell? ⟨w.heap.size, 0, none⟩ = some (.int .i64 N) := (b1.cell (by simp)).trans (by go_simp)
    have f1 : w1.cell? ⟨w.heap.size, 1, none⟩ = some (.slice la ln lc) := (b1.cell (by simp)).trans (by go_simp)
    have f2 : w1.cell? ⟨w.heap.size, 2, none⟩ = some (.int .i64 F) := (b1.cell (by simp)).trans (by go_simp)
    have f3 : w1.cell? ⟨w.heap.size, 3, none⟩ = some (.int .i64 dmin) := (b1.cell (by simp)).trans (by go_simp)
    have f4 : w1.cell? ⟨w.heap.size, 4, none⟩ = some (.int .i64 dmax) := (b1.cell (by simp)).trans (by go_simp)
    have f5 : w1.cell? ⟨w.heap.size, 5, none⟩ = some (.int .i64 rho) := (b1.cell (by simp)).trans (by go_simp)
    have f6 : w1.cell? ⟨w.heap.size, 6, none⟩ = some (.int .i64 slew) := (b1.cell (by simp)).trans (by go_simp)
    have f7 : w1.cell? ⟨w.heap.size, 7, none⟩ = some (.int .i64 rnd) := (b1.cell (by simp)).trans (by go_simp)
    have f8 : w1.cell? ⟨w.heap.size, 8, none⟩ = some (.int .i64 win) := (b1.cell (by simp)).trans (by go_simp)
    have f9 : w1.cell? ⟨w.heap.size, 9, none⟩ = some (.int .i64 att) := (b1.cell (by simp)).trans (by go_simp)
    have f10 : w1.cell? ⟨w.heap.size, 10, none⟩ = some (.int .i64 sn) := (b1.cell (by simp)).trans (by go_simp)
    have f11 : w1.cell? ⟨w.heap.size, 11, none⟩ = some (.int .i64 hs) := (b1.cell (by simp)).trans (by go_simp)
    have f12 : w1.cell? ⟨w.heap.size, 12, none⟩ = some (.int .i64 fl) := (b1.cell (by simp)).trans (by go_simp)
    have f13 : w1.cell? ⟨w.heap.size, 13, none⟩ = some (.int .i64 qu) := (b1.cell (by simp)).trans (by go_simp)
    have f14 : w1.cell? ⟨w.heap.size, 14, none⟩ = some (.int .i64 bd) := (b1.cell (by simp)).trans (by go_simp)
    have s1 : w.heap.size < w1.heap.size := by have := b1.size; simp at this; omega
    have n1 : w.heap.size ≠ w1.heap.size := by omega
    have b1 := (below_1 w _).trans (b1.mono (by simp))
    go_wp2_with fail
    refine (E1.out _).mono ?_
    rintro e w2 ⟨rfl, b2⟩
    have k0 : w2.cell? ⟨w.heap.size, 0, none⟩ = some (.int .i64 N) := (b2.cell (by first | (simp; done) | (simp; omega))).trans (by go_simp)
    have k1 : w2.cell? ⟨w.heap.size, 1, none⟩ = some (.slice la ln lc) := (b2.cell (by first | (simp; done) | (simp; omega))).trans (by go_simp)
    have k2 : w2.cell? ⟨w.heap.size, 2, none⟩ = some (.int .i64 F) := (b2.cell (by first | (simp; done) | (simp; omega))).trans (by go_simp)
    have k3 : w2.cell? ⟨w.heap.size, 3, none⟩ = some (.int .i64 dmin) := (b2.cell (by first | (simp; done) | (simp; omega))).trans (by go_simp)
    have k4 : w2.cell? ⟨w.heap.size, 4, none⟩ = some (.int .i64 dmax) := (b2.cell (by first | (simp; done) | (simp; omega))).trans (by go_simp)
    have k5 : w2.cell? ⟨w.heap.size, 5, none⟩ = some (.int .i64 rho) := (b2.cell (by first | (simp; done) | (simp; omega))).trans (by go_simp)
    have k6 : w2.cell? ⟨w.heap.size, 6, none⟩ = some (.int .i64 slew) := (b2.cell (by first | (simp; done) | (simp; omega))).trans (by go_simp)
    have k7 : w2.cell? ⟨w.heap.size, 7, none⟩ = some (.int .i64 rnd) := (b2.cell (by first | (simp; done) | (simp; omega))).trans (by go_simp)
    have k8 : w2.cell? ⟨w.heap.size, 8, none⟩ = some (.int .i64 win) := (b2.cell (by first | (simp; done) | (simp; omega))).trans (by go_simp)
    have k9 : w2.cell? ⟨w.heap.size, 9, none⟩ = some (.int .i64 att) := (b2.cell (by first | (simp; done) | (simp; omega))).trans (by go_simp)
    have k10 : w2.cell? ⟨w.heap.size, 10, none⟩ = some (.int .i64 sn) := (b2.cell (by first | (simp; done) | (simp; omega))).trans (by go_simp)
    have k11 : w2.cell? ⟨w.heap.size, 11, none⟩ = some (.int .i64 hs) := (b2.cell (by first | (simp; done) | (simp; omega))).trans (by go_simp)
    have k12 : w2.cell? ⟨w.heap.size, 12, none⟩ = some (.int .i64 fl) := (b2.cell (by first | (simp; done) | (simp; omega))).trans (by go_simp)
    have k13 : w2.cell? ⟨w.heap.size, 13, none⟩ = some (.int .i64 qu) := (b2.cell (by first | (simp; done) | (simp; omega))).trans (by go_simp)
    have k14 : w2.cell? ⟨w.heap.size, 14, none⟩ = some (.int .i64 bd) := (b2.cell (by first | (simp; done) | (simp; omega))).trans (by go_simp)
    clear f0 f1 f2 f3 f4 f5 f6 f7 f8 f9 f10 f11 f12 f13 f14
    go_wp2_with fail
    refine (E2.out _).mono ?_
    rintro e w3 ⟨rfl, b3⟩
    go_wp2_with fail
    refine (works_any _).mono ?_
    rintro e w4 ⟨rfl, b4⟩
    go_wp2_with fail
    go_ret
    exact ⟨rfl, below3 b1 b2 b3 b4 s1⟩
end Go.Proofs.Ytpbabpbinojodaa.Bound
