/- The numbers of a good configuration as the document reckons them. -/
import Derived.Test.YtpbabpbinojodaaBoundNum
namespace Go.Proofs.Ytpbabpbinojodaa.Bound
open Go.Proofs.Ytpbabpbinojodaa.Arith Go.Proofs.Ytpbabpbinojodaa.Span Go.Proofs.Ytpbabpbinojodaa.Hops
open Go.RowKit (wrap64 Below intOf)
theorem quiet_l2 {f : FuncId} {args : Array Value} {w : World} {a n : Nat} {v : Value} (h : Calls Try.prog f args (w.drewN (a + n)) fun e w' => e = .returned v ∧ w.drewN (a + n) = w') :
    Calls Try.prog f args (w.drewN (a + n)) fun e w'' => e = .returned v ∧ ∃ m, w'' = w.drewN (a + m) := h.mono fun _ _ ⟨he, hm⟩ => ⟨he, n, hm.symm⟩
theorem results_cellR {P : Program} {fn : Func} {a : Tmp} {t : TypeId} {tmps : Array Value} {w : World} {b : Nat} {cs : List Value} {d : TypeDesc} (h : fn.results = #[.cell a t]) (ha : tmps.getD a undef = .pointer (some ⟨b, 0, none⟩))
    (hu : P.underlying t = some d) (hd : d.isRow = true) (hi : (P.info? t).map (·.size) = some cs.length) (hc : w.rangeAt b 0 cs) :
    (results fn tmps).run P w = .ok (.agg cs.toArray) w := by
  have hl := run_loadVar_mid (P := P) w b 0 t cs d hc hu hd hi
  have hp : (asAddr (.pointer (some ⟨b, 0, none⟩) : Value)).run P w = .ok ⟨b, 0, none⟩ w := by simp [asAddr]
  rw [Array.getD_eq_getD_getElem?] at ha
  simp [results, h, ha, Sem.run_bind, hl, hp]
theorem rof_eps (er ww wr fast : Int) : 2 * (er + ww) + 2 + wr + 2 * (er + ww) + 2 + wr + 2 * fast = 2 * (er + ww) + 2 + wr + (2 * (er + ww) + 2) + wr + 2 * fast := by omega
set_option maxRecDepth 100000 in
set_option maxHeartbeats 4000000 in
theorem rof_yes (la : Option Addr) (ln lc : Nat) (N F dmin dmax rho slew rnd win att sn hs fl qu bd : Int) (w : World) (hgood : goodB N dmin dmax rho slew rnd win att = true) :
    Calls Try.prog 12 #[.agg #[.int .i64 N, .slice la ln lc, .int .i64 F, .int .i64 dmin, .int .i64 dmax, .int .i64 rho, .int .i64 slew, .int .i64 rnd, .int .i64 win, .int .i64 att, .int .i64 sn, .int .i64 hs, .int .i64 fl, .int .i64 qu, .int .i64 bd]] w fun e w' => e = .returned (.agg #[.int .i64 (N - 1), .int .i64 (fastR rho slew), .int .i64 (slowR rho slew), .int .i64 (nLink dmax rho slew),
      .int .i64 (nRead N dmin dmax rho slew win), .int .i64 (nAgree N dmin dmax rho slew win), .int .i64 (nStart N dmin dmax rho slew rnd win), .int .i64 (nEps N dmin dmax rho slew rnd win), .int .i64 (nMost N dmin dmax rho slew rnd win),
      .int .i64 (rerr dmin dmax rho slew), .int .i64 (nRough N dmin dmax rho slew rnd win), .int .i64 (nDelta N dmin dmax rho slew rnd win), .int .i64 (nDown N dmin dmax rho slew rnd win att), .int .i64 (nJoin N dmin dmax rho slew rnd win att)]) ∧ Below w.heap.size w w' := by
  obtain ⟨hN, hR, hP1, hP2, hP3⟩ := goodB_iff.1 hgood
  have hgr := goodR_iff.2 hR
  obtain ⟨fast, hfast, bfast⟩ : ∃ x, fastR rho slew = x ∧ 1025 ≤ x ∧ x ≤ 1344 := ⟨_, rfl, by rw [fastR_yes hgr]; omega⟩
  obtain ⟨slow, hslow, bslow⟩ : ∃ x, slowR rho slew = x ∧ 704 ≤ x ∧ x ≤ 1023 := ⟨_, rfl, by rw [slowR_yes hgr]; omega⟩
  have hgh : goodH (N - 1) dmin dmax = true := goodH_iff.2 (by omega)
  have hgh1 : goodH 1 dmin dmax = true := goodH_iff.2 (by omega)
  have hoe : okE (N - 1) dmin dmax rho = true := okE_iff.2 ⟨hgh, by omega⟩
  have hre : rerrOk dmin dmax rho slew = true := by rw [rerrOk, hgh1, hgr]; rfl
  obtain ⟨er, her, ber⟩ : ∃ x, errH (N - 1) dmin dmax rho = x ∧ 0 ≤ x ∧ x ≤ 2322432 := ⟨_, rfl, errH_bd hoe⟩
  obtain ⟨cold, hcold, bcold⟩ : ∃ x, rerr dmin dmax rho slew = x ∧ 0 ≤ x ∧ x ≤ 57345 := ⟨_, rfl, rerr_bd hre⟩
  obtain ⟨ww, hww, bww⟩ : ∃ x, 2 * rho * ticksR (2 * win) slow = x ∧ 0 ≤ x ∧ x ≤ 281474976710912 := ⟨_, rfl, wan_bd (by omega) (by omega) (by omega)⟩
  obtain ⟨wr, hwr, bwr⟩ : ∃ x, 2 * rho * ticksR (2 * rnd) slow = x ∧ 0 ≤ x ∧ x ≤ 281474976710912 := ⟨_, rfl, wan_bd (by omega) (by omega) (by omega)⟩
  have blink := prod_small (x := dmax) (y := fast) (m := 64) (n := 1344) (by omega) (by omega) (by omega) (by omega)
  have bwr2 := bwr
  have bww2 := bww
  rw [← hwr] at bwr2
  rw [← hww] at bww2
  simp only [nWw, nWr, nLink, nRead, nAgree, nStart, nEps, nMost, nRough, nDelta, nRest, nDown, nJoin, hfast, hslow, her, hcold, hww, hwr]
  have Hf := Lib.hid hfast
  have Hs := Lib.hid hslow
  have Her := Lib.hid her
  have Hco := Lib.hid hcold
  have Hww := Lib.hid hww
  have Hwr := Lib.hid hwr
  have Hoe := Lib.hid hoe
  have Hre := Lib.hid hre
  clear hgood hfast hslow her hcold hww hwr hoe hre hgr hgh hgh1
  go_enter Try.func12, Try.ntmps12
  go_wp2_with fail
  have hwN : IntKind.i64.wrap (N - 1) = N - 1 := IntWalk.i64_in _ (by omega)
  go_cut [3] (fun s3 wx => s3 = .pointer (some ⟨w.heap.size + 2, 0, none⟩) ∧ wx = (((w.alloc (.cells #[.int .i64 N, .slice la ln lc, .int .i64 F, .int .i64 dmin, .int .i64 dmax, .int .i64 rho, .int .i64 slew, .int .i64 rnd, .int .i64 win, .int .i64 att, .int .i64 sn, .int .i64 hs, .int .i64 fl, .int .i64 qu, .int .i64 bd] 24)).alloc (.cells #[.int .i64 0, .int .i64 0, .int .i64 0, .int .i64 0, .int .i64 0, .int .i64 0, .int .i64 0, .int .i64 0, .int .i64 0, .int .i64 0, .int .i64 0, .int .i64 0, .int .i64 0, .int .i64 0] 32)).alloc
      (.cells #[.int .i64 (N - 1), .int .i64 fast, .int .i64 slow, .int .i64 0, .int .i64 0, .int .i64 0, .int .i64 0, .int .i64 0, .int .i64 0, .int .i64 0, .int .i64 0, .int .i64 0, .int .i64 0, .int .i64 0] 32)).drew)
  case first =>
    go_region_held3 (fun w' => w'.cell? ⟨w.heap.size, 0, none⟩ = some (.int .i64 N) ∧ w'.cell? ⟨w.heap.size, 5, none⟩ = some (.int .i64 rho) ∧ w'.cell? ⟨w.heap.size, 6, none⟩ = some (.int .i64 slew))
      (first | go_keep)
      (first
        | (go_at_call 29; refine (rfast_any _ _ _).mono ?_; rintro e w' ⟨rfl, rfl⟩; rw [Hf.out])
        | (go_at_call 30; refine (rslow_any _ _ _).mono ?_; rintro e w' ⟨rfl, rfl⟩; rw [Hs.out]))
    all_goals (go_wp2_with fail; go_meet; exact ⟨rfl, rfl⟩)
  case rest =>
    obtain ⟨rfl, rfl⟩ := hcut
    clear hwN
    go_wp2_with fail
    go_quiet (first | (go_at_call 31; try simp (disch := omega) only [IntWalk.i64_in]; exact quiet_l2 (rticks_any (2 * rnd) slow (by omega) (by omega) _)))
    simp (disch := omega) only [IntWalk.i64_in]
    rw [Hwr.out]
    go_wp2_with fail
    refine QT.region_tail 21 (by kernel_rfl) (by kernel_rfl) ?_
    simp only [List.take_succ_cons, List.take_zero, List.drop_succ_cons, List.drop_zero]
    repeat (quiet_step (((first | (go_at_call 32; exact quiet_l (rerr_h (N - 1) dmin dmax rho Hoe.out _)) | (go_at_call 31; try simp (disch := omega) only [IntWalk.i64_in]; exact quiet_l (rticks_any (2 * win) slow (by omega) (by omega) _))))))
    refine wpQuiet_nil ?_
    rintro _ ⟨nq, rfl⟩
    simp (disch := omega) only [IntWalk.i64_in]
    rw [Her.out, Hww.out]
    go_wp2_with fail
    refine (rerr_any _ _ _ _ _).mono ?_
    rintro e w' ⟨rfl, rfl⟩
    rw [Hco.out, Hre.out, rof_eps]
    have pb := prod_small (x := N - 1) (y := dmax * fast + (2 * (er + ww) + 2 + wr + (2 * (er + ww) + 2) + wr + 2 * fast)) (m := 63) (n := 1688849869643908) (by omega) (by omega) (by omega) (by omega)
    go_wp2_with fail
    rw [show att + 2 * (2 * (er + ww) + 2 + wr + (2 * (er + ww) + 2) + wr + 2 * fast) + 2 * ((N - 1) * (dmax * fast + (2 * (er + ww) + 2 + wr + (2 * (er + ww) + 2) + wr + 2 * fast)) + 2 * fast) = att + (2 * (2 * (er + ww) + 2 + wr + (2 * (er + ww) + 2) + wr + 2 * fast) + 2 * ((N - 1) * (dmax * fast + (2 * (er + ww) + 2 + wr + (2 * (er + ww) + 2) + wr + 2 * fast)) + 2 * fast)) from by omega]
    refine (rticks_any (att + (2 * (2 * (er + ww) + 2 + wr + (2 * (er + ww) + 2) + wr + 2 * fast) + 2 * ((N - 1) * (dmax * fast + (2 * (er + ww) + 2 + wr + (2 * (er + ww) + 2) + wr + 2 * fast)) + 2 * fast))) slow (by omega) (by omega) _).mono ?_
    rintro e w' ⟨rfl, rfl⟩
    go_wp2_with fail
    refine QT.region_tail 31 (by kernel_rfl) (by kernel_rfl) ?_
    simp only [List.take_succ_cons, List.take_zero, List.drop_succ_cons, List.drop_zero]
    repeat (quiet_step (((go_at_call 31; try simp (disch := omega) only [IntWalk.i64_in]; refine quiet_l (rticks_any _ _ ?_ ?_ _) <;> omega))))
    refine wpQuiet_nil ?_
    rintro _ ⟨nq, rfl⟩
    rw [show 2 * rnd + 2 * win = 2 * (rnd + win) from by omega, show 2 * att + 2 * (2 * (er + ww) + 2 + wr + (2 * (er + ww) + 2) + wr + 2 * fast) + 2 * ((N - 1) * (dmax * fast + (2 * (er + ww) + 2 + wr + (2 * (er + ww) + 2) + wr + 2 * fast)) + 2 * fast) = 2 * att + (2 * (2 * (er + ww) + 2 + wr + (2 * (er + ww) + 2) + wr + 2 * fast) + 2 * ((N - 1) * (dmax * fast + (2 * (er + ww) + 2 + wr + (2 * (er + ww) + 2) + wr + 2 * fast)) + 2 * fast)) from by omega]
    have tb1 := ticks_bd (2 * (rnd + win)) slow (by omega) (by omega)
    have tb2 := ticks_bd (2 * att + (2 * (2 * (er + ww) + 2 + wr + (2 * (er + ww) + 2) + wr + 2 * fast) + 2 * ((N - 1) * (dmax * fast + (2 * (er + ww) + 2 + wr + (2 * (er + ww) + 2) + wr + 2 * fast)) + 2 * fast))) slow (by omega) (by omega)
    simp (disch := omega) only [IntWalk.i64_in]
    go_wp2_with fail
    refine bodyPost_ret (results_cellR (b := w.heap.size + 1) Try.results12 rfl (d := _) rfl (by kernel_rfl) (by kernel_rfl) (range14 (c0 := .int .i64 (N - 1)) ?_ ?_ ?_ ?_ ?_ ?_ ?_ ?_ ?_ ?_ ?_ ?_ ?_ ?_)) rfl ⟨rfl, ?_⟩
    rotate_left 14
    · repeat (first
        | (with_reducible refine Below.setCell ?_ (by first | (simp; done) | (simp; omega)) _)
        | (with_reducible refine below_dN ?_)
        | (with_reducible refine Below.drew ?_)
        | (with_reducible refine Below.alloc ?_ (by first | (simp; done) | (simp; omega)) _)
        | (with_reducible exact Below.refl _ _))
    all_goals go_simp
end Go.Proofs.Ytpbabpbinojodaa.Bound
