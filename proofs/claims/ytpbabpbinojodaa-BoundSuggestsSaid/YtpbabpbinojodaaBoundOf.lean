/- The numbers of a configuration as bound.Of reckons them. -/
import Derived.Test.YtpbabpbinojodaaBoundNum
namespace Go.Proofs.Ytpbabpbinojodaa.Bound
open Go.Proofs.Ytpbabpbinojodaa.Arith Go.Proofs.Ytpbabpbinojodaa.Span Go.Proofs.Ytpbabpbinojodaa.Hops
open Go.RowKit (wrap64 Below intOf)
set_option maxRecDepth 100000 in
set_option maxHeartbeats 4000000 in
theorem of_yes (la : Option Addr) (ln lc : Nat) (N F dmin dmax rho slew rnd win att sn hs fl qu bd : Int) (w : World) (hgood : goodB N dmin dmax rho slew rnd win att = true) :
    Calls Try.prog 8 #[.agg #[.int .i64 N, .slice la ln lc, .int .i64 F, .int .i64 dmin, .int .i64 dmax, .int .i64 rho, .int .i64 slew, .int .i64 rnd, .int .i64 win, .int .i64 att, .int .i64 sn, .int .i64 hs, .int .i64 fl, .int .i64 qu, .int .i64 bd]] w fun e w' => e = .returned (.tuple #[.agg #[.int .i64 (N - 1), .int .i64 (fastR rho slew), .int .i64 (slowR rho slew), .int .i64 (nLink dmax rho slew),
      .int .i64 (nRead N dmin dmax rho slew win), .int .i64 (nAgree N dmin dmax rho slew win), .int .i64 (nStart N dmin dmax rho slew rnd win), .int .i64 (nEps N dmin dmax rho slew rnd win), .int .i64 (nMost N dmin dmax rho slew rnd win),
      .int .i64 (rerr dmin dmax rho slew), .int .i64 (nRough N dmin dmax rho slew rnd win), .int .i64 (nDelta N dmin dmax rho slew rnd win), .int .i64 (nDown N dmin dmax rho slew rnd win att), .int .i64 (nJoin N dmin dmax rho slew rnd win att)], .int .i64 0]) ∧ Below w.heap.size w w' := by
  obtain ⟨hN, hR, hP1, hP2, hP3⟩ := goodB_iff.1 hgood
  have hgr := goodR_iff.2 hR
  obtain ⟨fast, hfast, bfast⟩ : ∃ x, fastR rho slew = x ∧ 1025 ≤ x ∧ x ≤ 1344 := ⟨_, rfl, by rw [fastR_yes hgr]; omega⟩
  obtain ⟨slow, hslow, bslow⟩ : ∃ x, slowR rho slew = x ∧ 704 ≤ x ∧ x ≤ 1023 := ⟨_, rfl, by rw [slowR_yes hgr]; omega⟩
  have hgh : goodH (N - 1) dmin dmax = true := goodH_iff.2 (by omega)
  have hgh1 : goodH 1 dmin dmax = true := goodH_iff.2 (by omega)
  have hoe : okE (N - 1) dmin dmax rho = true := okE_iff.2 ⟨hgh, by omega⟩
  have hre : rerrOk dmin dmax rho slew = true := by rw [rerrOk, hgh1, hgr]; rfl
  obtain ⟨er, her, ber⟩ : ∃ x, errH (N - 1) dmin dmax rho = x ∧ 0 ≤ x ∧ x ≤ 2322432 := ⟨_, rfl, errH_bd hoe⟩
  obtain ⟨cold, hcold, bcold⟩ : ∃ x, rerr dmin dmax rho slew = x ∧ 0 ≤ x ∧ x ≤ 57345 := ⟨_, rfl, rerr_bd hre⟩
  obtain ⟨ww, hww, bww⟩ : ∃ x, 2 * rho * ticksR (2 * win) slow = x ∧ 0 ≤ x ∧ x ≤ 281474976710912 := ⟨_, rfl, wan_bd (by omega) (by omega) (by omega)⟩
  obtain ⟨wr, hwr, bwr⟩ : ∃ x, 2 * rho * ticksR (2 * rnd) slow = x ∧ 0 ≤ x ∧ x ≤ 281474976710912 := ⟨_, rfl, wan_bd (by omega) (by omega) (by omega)⟩
  have blink := prod_small (x := dmax) (y := fast) (m := 64) (n := 1344) (by omega) (by omega) (by omega) (by omega)
  simp only [nWw, nWr, nLink, nRead, nAgree, nStart, nEps, nMost, nRough, nDelta, nRest, nDown, nJoin, hfast, hslow, her, hcold, hww, hwr]
  have HG := Lib.hid hgood
  have Hf := Lib.hid hfast
  have Hs := Lib.hid hslow
  have Her := Lib.hid her
  have Hco := Lib.hid hcold
  have Hww := Lib.hid hww
  have Hwr := Lib.hid hwr
  have Hoe := Lib.hid hoe
  have Hre := Lib.hid hre
  clear hgood hfast hslow her hcold hww hwr hoe hre hgr hgh hgh1
  go_enter Try.func8, Try.ntmps8
  go_wp2_with fail
  refine (good_cfg _ _ _ _ _ _ _ _ _ _ _ _ _ _ _ _ _ _).mono ?_
  rintro e w1 ⟨rfl, rfl⟩
  rw [HG.out]
  go_wp2_with fail
  have hwN : IntKind.i64.wrap (N - 1) = N - 1 := IntWalk.i64_in _ (by omega)
  go_cut [4] (fun s4 wx => s4 = .pointer (some ⟨w.heap.size + 3, 0, none⟩) ∧ wx = ((((w.alloc (.cells #[.int .i64 N, .slice la ln lc, .int .i64 F, .int .i64 dmin, .int .i64 dmax, .int .i64 rho, .int .i64 slew, .int .i64 rnd, .int .i64 win, .int .i64 att, .int .i64 sn, .int .i64 hs, .int .i64 fl, .int .i64 qu, .int .i64 bd] 24)).alloc (.cells #[.int .i64 0, .int .i64 0, .int .i64 0, .int .i64 0, .int .i64 0, .int .i64 0, .int .i64 0, .int .i64 0, .int .i64 0, .int .i64 0, .int .i64 0, .int .i64 0, .int .i64 0, .int .i64 0] 26)).alloc (.cells #[.int .i64 N, .slice la ln lc, .int .i64 F, .int .i64 dmin, .int .i64 dmax, .int .i64 rho, .int .i64 slew, .int .i64 rnd, .int .i64 win, .int .i64 att, .int .i64 sn, .int .i64 hs, .int .i64 fl, .int .i64 qu, .int .i64 bd] 24)).alloc
      (.cells #[.int .i64 (N - 1), .int .i64 fast, .int .i64 slow, .int .i64 0, .int .i64 0, .int .i64 0, .int .i64 0, .int .i64 0, .int .i64 0, .int .i64 0, .int .i64 0, .int .i64 0, .int .i64 0, .int .i64 0] 26)).drew)
  case first =>
    go_region_held3 (fun w' => w'.cell? ⟨w.heap.size, 0, none⟩ = some (.int .i64 N) ∧ w'.cell? ⟨w.heap.size, 5, none⟩ = some (.int .i64 rho) ∧ w'.cell? ⟨w.heap.size, 6, none⟩ = some (.int .i64 slew))
      (first | go_keep)
      (first
        | (go_at_call 20; refine (fast_any _ _ _).mono ?_; rintro e w' ⟨rfl, rfl⟩; rw [Hf.out])
        | (go_at_call 21; refine (slow_any _ _ _).mono ?_; rintro e w' ⟨rfl, rfl⟩; rw [Hs.out]))
    all_goals (go_wp2_with fail; go_meet; exact ⟨rfl, rfl⟩)
  case rest =>
    obtain ⟨rfl, rfl⟩ := hcut
    clear hwN
    have clo := fun (g : Int) (hg : 0 ≤ g ∧ g ≤ 1099511627776) (W : World) (h1 : W.cell? ⟨w.heap.size, 5, none⟩ = some (.int .i64 rho)) (h2 : W.cell? ⟨w.heap.size + 4, 0, none⟩ = some (.func (.func 22) #[] #[.pointer (some ⟨w.heap.size + 3, 0, none⟩)])) (h3 : W.cell? ⟨w.heap.size + 3, 2, none⟩ = some (.int .i64 slow)) =>
      clo2 g slow rho w.heap.size (w.heap.size + 4) (w.heap.size + 3) hg (by omega) (by omega) W h1 h2 h3
    have Clo := Lib.hid clo
    clear clo
    go_wp2_with fail
    refine (err_h _ _ _ _ _).mono ?_
    rintro e w' ⟨rfl, rfl⟩
    rw [Her.out, Hoe.out]
    go_wp2_with fail
    refine (Clo.out _ (by omega) _ (by go_simp) (by go_simp) (by go_simp)).mono ?_
    rintro e w' ⟨rfl, m1, rfl⟩
    rw [Hww.out]
    go_wp2_with fail
    refine QT.region_tail 8 (by kernel_rfl) (by kernel_rfl) ?_
    simp only [List.take_succ_cons, List.take_zero, List.drop_succ_cons, List.drop_zero]
    repeat (quiet_step (((go_at_call 24; exact Calls.quiet_of (Clo.out _ (by omega) _ (by go_simp) (by go_simp) (by go_simp))))))
    refine wpQuiet_nil ?_
    rintro _ ⟨nq, rfl⟩
    rw [Hwr.out]
    go_wp2_with fail
    refine QT.region_tail 15 (by kernel_rfl) (by kernel_rfl) ?_
    simp only [List.take_succ_cons, List.take_zero, List.drop_succ_cons, List.drop_zero]
    repeat (quiet_step (((go_at_call 24; exact Calls.quiet_of (Clo.out _ (by omega) _ (by go_simp) (by go_simp) (by go_simp))))))
    refine wpQuiet_nil ?_
    rintro _ ⟨nq, rfl⟩
    go_wp2_with fail
    refine (err_any _ _ _ _ _).mono ?_
    rintro e w' ⟨rfl, rfl⟩
    rw [Hco.out, Hre.out]
    go_wp2_with fail
    refine QT.region_tail 18 (by kernel_rfl) (by kernel_rfl) ?_
    simp only [List.take_succ_cons, List.take_zero, List.drop_succ_cons, List.drop_zero]
    repeat (quiet_step (((go_at_call 24; exact Calls.quiet_of (Clo.out _ (by omega) _ (by go_simp) (by go_simp) (by go_simp))))))
    refine wpQuiet_nil ?_
    rintro _ ⟨nq, rfl⟩
    rw [Hwr.out]
    go_wp2_with fail
    have pb := prod_small (x := N - 1) (y := dmax * fast + (2 * (er + ww) + 2 + wr + (2 * (er + ww) + 2) + wr + 2 * fast)) (m := 63) (n := 1688849869643908) (by omega) (by omega) (by omega) (by omega)
    simp (disch := omega) only [IntWalk.wrap64_in]
    refine (clo1 _ slow (w.heap.size + 3) (by omega) (by omega) _ (by go_simp)).mono ?_
    rintro e w' ⟨rfl, m2, rfl⟩
    go_wp2_with fail
    refine QT.region_tail 22 (by kernel_rfl) (by kernel_rfl) ?_
    simp only [List.take_succ_cons, List.take_zero, List.drop_succ_cons, List.drop_zero]
    repeat (quiet_step (((go_at_call 22; try simp (disch := omega) only [IntWalk.i64_in]; exact Calls.quiet_of (clo1 _ slow (w.heap.size + 3) (by omega) (by omega) _ (by go_simp))))))
    refine wpQuiet_nil ?_
    rintro _ ⟨nq, rfl⟩
    go_wp2_with fail
    have tb1 := ticks_bd (2 * (rnd + win)) slow (by omega) (by omega)
    have tb2 := ticks_bd (2 * att + (2 * (2 * (er + ww) + 2 + wr + (2 * (er + ww) + 2) + wr + 2 * fast) + 2 * ((N - 1) * (dmax * fast + (2 * (er + ww) + 2 + wr + (2 * (er + ww) + 2) + wr + 2 * fast)) + 2 * fast))) slow (by omega) (by omega)
    simp (disch := omega) only [IntWalk.wrap64_in]
    refine bodyPost_ret (results_cell_tmp (b := w.heap.size + 1) Try.results8 rfl (d := _) rfl (by kernel_rfl) (by kernel_rfl) (range14 (c0 := .int .i64 (N - 1)) ?_ ?_ ?_ ?_ ?_ ?_ ?_ ?_ ?_ ?_ ?_ ?_ ?_ ?_)) rfl ⟨rfl, ?_⟩
    rotate_left 14
    · repeat (first
        | (with_reducible refine Below.setCell ?_ (by first | (simp; done) | (simp; omega)) _)
        | (with_reducible refine below_dN ?_)
        | (with_reducible refine Below.drew ?_)
        | (with_reducible refine Below.alloc ?_ (by first | (simp; done) | (simp; omega)) _)
        | (with_reducible exact Below.refl _ _))
    all_goals go_simp
end Go.Proofs.Ytpbabpbinojodaa.Bound
