/- How late: what bound.Of answers of a bad configuration, bound.Late, the example. -/
import Derived.Test.YtpbabpbinojodaaBoundOf
namespace Go.Proofs.Ytpbabpbinojodaa.Bound
open Go.Proofs.Ytpbabpbinojodaa.Arith Go.Proofs.Ytpbabpbinojodaa.Span Go.Proofs.Ytpbabpbinojodaa.Hops
open Go.RowKit (wrap64 Below intOf)
theorem results_cell {P : Program} {fn : Func} {a : Tmp} {t : TypeId} {tmps : Array Value} {w : World} {b : Nat} {cs : List Value} {d : TypeDesc} (h : fn.results = #[.cell a t]) (ha : tmps.getD a undef = .pointer (some ⟨b, 0, none⟩))
    (hu : P.underlying t = some d) (hd : d.isRow = true) (hi : (P.info? t).map (·.size) = some cs.length) (hc : w.rangeAt b 0 cs) :
    (results fn tmps).run P w = .ok (.agg cs.toArray) w := by
  have hl := run_loadVar_mid (P := P) w b 0 t cs d hc hu hd hi
  have hp : (asAddr (.pointer (some ⟨b, 0, none⟩) : Value)).run P w = .ok ⟨b, 0, none⟩ w := by simp [asAddr]
  rw [Array.getD_eq_getD_getElem?] at ha
  simp [results, h, ha, Sem.run_bind, hl, hp]
theorem range15 {w : World} {b : Nat} {c0 c1 c2 c3 c4 c5 c6 c7 c8 c9 c10 c11 c12 c13 c14 : Value} (h0 : w.cell? ⟨b, 0, none⟩ = some c0) (h1 : w.cell? ⟨b, 1, none⟩ = some c1) (h2 : w.cell? ⟨b, 2, none⟩ = some c2) (h3 : w.cell? ⟨b, 3, none⟩ = some c3) (h4 : w.cell? ⟨b, 4, none⟩ = some c4) (h5 : w.cell? ⟨b, 5, none⟩ = some c5) (h6 : w.cell? ⟨b, 6, none⟩ = some c6) (h7 : w.cell? ⟨b, 7, none⟩ = some c7) (h8 : w.cell? ⟨b, 8, none⟩ = some c8) (h9 : w.cell? ⟨b, 9, none⟩ = some c9) (h10 : w.cell? ⟨b, 10, none⟩ = some c10) (h11 : w.cell? ⟨b, 11, none⟩ = some c11) (h12 : w.cell? ⟨b, 12, none⟩ = some c12) (h13 : w.cell? ⟨b, 13, none⟩ = some c13) (h14 : w.cell? ⟨b, 14, none⟩ = some c14) :
    w.rangeAt b 0 [c0, c1, c2, c3, c4, c5, c6, c7, c8, c9, c10, c11, c12, c13, c14] := by
  intro j v hj
  rcases j with _ | _ | _ | _ | _ | _ | _ | _ | _ | _ | _ | _ | _ | _ | _ | j <;> simp at hj <;> subst hj <;> simpa
theorem fast_bd {rho slew : Int} (hgr : goodR rho slew = true) : 1025 ≤ fastR rho slew ∧ fastR rho slew ≤ 1344 := by
  have := goodR_iff.1 hgr
  rw [fastR_yes hgr]; omega
theorem link_bd {rho slew dmax : Int} (hgr : goodR rho slew = true) (h : 0 ≤ dmax ∧ dmax ≤ 64) : 0 ≤ nLink dmax rho slew ∧ nLink dmax rho slew ≤ 86016 := by
  have := fast_bd hgr
  have := prod_small (x := dmax) (y := fastR rho slew) (m := 64) (n := 1344) (by omega) (by omega) (by omega) (by omega)
  unfold nLink; omega

set_option maxRecDepth 100000 in
set_option maxHeartbeats 4000000 in
theorem of_no (la : Option Addr) (ln lc : Nat) (N F dmin dmax rho slew rnd win att sn hs fl qu bd : Int) (w : World) (hgood : goodB N dmin dmax rho slew rnd win att = false) :
    Calls Try.prog 8 #[.agg #[.int .i64 N, .slice la ln lc, .int .i64 F, .int .i64 dmin, .int .i64 dmax, .int .i64 rho, .int .i64 slew, .int .i64 rnd, .int .i64 win, .int .i64 att, .int .i64 sn, .int .i64 hs, .int .i64 fl, .int .i64 qu, .int .i64 bd]] w fun e w' => e = .returned (.tuple #[.agg #[.int .i64 0, .int .i64 0, .int .i64 0, .int .i64 0, .int .i64 0, .int .i64 0, .int .i64 0, .int .i64 0, .int .i64 0, .int .i64 0, .int .i64 0, .int .i64 0, .int .i64 0, .int .i64 0], .int .i64 17]) ∧ Below w.heap.size w w' := by
  have HG := Lib.hid hgood
  clear hgood
  go_enter Try.func8, Try.ntmps8
  go_wp2_with fail
  refine (good_cfg _ _ _ _ _ _ _ _ _ _ _ _ _ _ _ _ _ _).mono ?_
  rintro e w1 ⟨rfl, rfl⟩
  rw [HG.out]
  go_wp2_with fail
  refine bodyPost_ret (results_cell_tmp (b := w.heap.size + 1) Try.results8 rfl (d := _) rfl (by kernel_rfl) (by kernel_rfl) (range14 (c0 := .int .i64 0) ?_ ?_ ?_ ?_ ?_ ?_ ?_ ?_ ?_ ?_ ?_ ?_ ?_ ?_)) rfl ⟨rfl, ?_⟩
  rotate_left 14
  · repeat (first
      | (with_reducible refine Below.setCell ?_ (by first | omega | (simp; done) | (simp; omega)) _)
      | (with_reducible refine below_dN ?_)
      | (with_reducible refine Below.drew ?_)
      | (with_reducible refine Below.alloc ?_ (by first | omega | (simp; done) | (simp; omega)) _)
      | (with_reducible exact Below.refl _ _))
  all_goals go_simp

/-- How late a message may be. -/
def lateR (hops link fast h tol : Int) : Int := if 0 ≤ h ∧ h ≤ hops ∧ 0 ≤ tol ∧ tol ≤ 18300341342965825 then h * (link + tol) + fast else 0
theorem lateR_no {hops link fast h tol : Int} (k : ¬ (0 ≤ h ∧ h ≤ hops ∧ 0 ≤ tol ∧ tol ≤ 18300341342965825)) : lateR hops link fast h tol = 0 := if_neg k
theorem lateR_yes {hops link fast h tol : Int} (k : 0 ≤ h ∧ h ≤ hops ∧ 0 ≤ tol ∧ tol ≤ 18300341342965825) : lateR hops link fast h tol = h * (link + tol) + fast := if_pos k
theorem late_prod {h link tol : Int} (h0 : 0 ≤ h ∧ h ≤ 63) (hl : 0 ≤ link ∧ link ≤ 86016) (ht : 0 ≤ tol ∧ tol ≤ 18300341342965825) : 0 ≤ h * (link + tol) ∧ h * (link + tol) ≤ 1152921504612265983 :=
  prod_small (x := h) (y := link + tol) (m := 63) (n := 18300341343051841) (by omega) (by omega) (by omega) (by omega)

set_option maxRecDepth 100000 in
set_option maxHeartbeats 2000000 in
theorem late_any (b0 b1 b2 b3 b4 b5 b6 b7 b8 b9 b10 b11 b12 b13 h tol : Int) (w : World) (k0 : 0 ≤ b0 ∧ b0 ≤ 63) (k1 : 0 ≤ b1 ∧ b1 ≤ 1344) (k3 : 0 ≤ b3 ∧ b3 ≤ 86016) :
    Calls Try.prog 13 #[.agg #[.int .i64 b0, .int .i64 b1, .int .i64 b2, .int .i64 b3, .int .i64 b4, .int .i64 b5, .int .i64 b6, .int .i64 b7, .int .i64 b8, .int .i64 b9, .int .i64 b10, .int .i64 b11, .int .i64 b12, .int .i64 b13], .int .i64 h, .int .i64 tol] w fun e w' => e = .returned (.int .i64 (lateR b0 b3 b1 h tol)) ∧ w' = w.alloc (.cells #[.int .i64 b0, .int .i64 b1, .int .i64 b2, .int .i64 b3, .int .i64 b4, .int .i64 b5, .int .i64 b6, .int .i64 b7, .int .i64 b8, .int .i64 b9, .int .i64 b10, .int .i64 b11, .int .i64 b12, .int .i64 b13] 26) := by
  by_cases a0 : h < 0
  · go_enter Try.func13, Try.ntmps13
    go_wp2_with fail
    go_ret
    exact ⟨ret1 (lateR_no (by omega)).symm, rfl⟩
  by_cases a1 : b0 < h
  · go_enter Try.func13, Try.ntmps13
    go_wp2_with fail
    go_ret
    exact ⟨ret1 (lateR_no (by omega)).symm, rfl⟩
  by_cases a2 : tol < 0
  · go_enter Try.func13, Try.ntmps13
    go_wp2_with fail
    go_ret
    exact ⟨ret1 (lateR_no (by omega)).symm, rfl⟩
  by_cases a3 : 18300341342965825 < tol
  · go_enter Try.func13, Try.ntmps13
    go_wp2_with fail
    go_ret
    exact ⟨ret1 (lateR_no (by omega)).symm, rfl⟩
  have pb := late_prod (h := h) (link := b3) (tol := tol) (by omega) (by omega) (by omega)
  have hl := Lib.hid (lateR_yes (hops := b0) (link := b3) (fast := b1) (h := h) (tol := tol) (by omega))
  go_enter Try.func13, Try.ntmps13
  go_wp2_with fail
  go_ret
  exact ⟨ret1 hl.out.symm, rfl⟩

set_option maxRecDepth 100000 in
set_option maxHeartbeats 2000000 in
theorem example_any (w : World) :
    Calls Try.prog 28 #[] w fun e w' => e = .returned (.agg #[.int .i64 3, .slice none 0 0, .int .i64 0, .int .i64 1, .int .i64 1, .int .i64 0, .int .i64 32, .int .i64 65536, .int .i64 16384, .int .i64 65536, .int .i64 0, .int .i64 0, .int .i64 0, .int .i64 0, .int .i64 0]) ∧ Below w.heap.size w w' := by
  go_enter Try.func28, Try.ntmps28
  go_wp2_with fail
  refine bodyPost_ret (results_cell (b := w.heap.size) Try.results28 rfl (d := _) rfl (by kernel_rfl) (by kernel_rfl) (range15 (c0 := .int .i64 3) ?_ ?_ ?_ ?_ ?_ ?_ ?_ ?_ ?_ ?_ ?_ ?_ ?_ ?_ ?_)) rfl ⟨rfl, ?_⟩
  rotate_left 15
  · repeat (first
      | (with_reducible refine Below.setCell ?_ (by first | omega | (simp; done) | (simp; omega)) _)
      | (with_reducible refine below_dN ?_)
      | (with_reducible refine Below.drew ?_)
      | (with_reducible refine Below.alloc ?_ (by first | omega | (simp; done) | (simp; omega)) _)
      | (with_reducible exact Below.refl _ _))
  all_goals go_simp

set_option maxRecDepth 100000 in
set_option maxHeartbeats 2000000 in
theorem works_any (w : World) :
    Calls Try.prog 11 #[] w fun e w' => e = .returned (.bool true) ∧ Below w.heap.size w w' := by
  go_enter Try.func11, Try.ntmps11
  go_wp2_with fail
  refine (example_any _).mono ?_
  rintro e w1 ⟨rfl, b1⟩
  go_wp2_with fail
  refine (of_yes _ _ _ _ _ _ _ _ _ _ _ _ _ _ _ _ _ _ (by decide)).mono ?_
  rintro e w2 ⟨rfl, b2⟩
  rw [show fastR 0 32 = 1056 from by decide, show nRead 3 1 1 0 32 16384 = 0 from by decide, show nAgree 3 1 1 0 32 16384 = 2 from by decide, show nEps 3 1 1 0 32 65536 16384 = 2116 from by decide, show nDelta 3 1 1 0 32 65536 16384 = 8456 from by decide]
  go_wp2_with fail
  have s1 := b1.size
  have s2 := b2.size
  go_ret
  refine ⟨rfl, ?_⟩
  repeat (first
    | (with_reducible exact (b1.trans (b2.mono s1)))
    | (with_reducible refine Below.setCell ?_ (by first | omega | (simp; done) | (simp; omega)) _)
    | (with_reducible refine below_dN ?_)
    | (with_reducible refine Below.drew ?_)
    | (with_reducible refine Below.alloc ?_ (by first | omega | (simp; done) | (simp; omega)) _))

set_option maxRecDepth 100000 in
set_option maxHeartbeats 4000000 in
theorem late_walk (la : Option Addr) (ln lc : Nat) (N F dmin dmax rho slew rnd win att sn hs fl qu bd : Int) (h tol : Int) (w : World) :
    Calls Try.prog 4 #[.agg #[.int .i64 N, .slice la ln lc, .int .i64 F, .int .i64 dmin, .int .i64 dmax, .int .i64 rho, .int .i64 slew, .int .i64 rnd, .int .i64 win, .int .i64 att, .int .i64 sn, .int .i64 hs, .int .i64 fl, .int .i64 qu, .int .i64 bd], .int .i64 h, .int .i64 tol] w fun e w' => e = .returned (.bool true) ∧ Below w.heap.size w w' := by
  by_cases hgood : goodB N dmin dmax rho slew rnd win att = true
  · obtain ⟨hN, hR, hP1, hP2, hP3⟩ := goodB_iff.1 hgood
    have hgr := goodR_iff.2 hR
    have bf := fast_bd hgr
    have bl := link_bd (dmax := dmax) hgr (by omega)
    go_enter Try.func4, Try.ntmps4
    go_wp2_with fail
    refine (of_yes _ _ _ _ _ _ _ _ _ _ _ _ _ _ _ _ _ _ hgood).mono ?_
    rintro e w1 ⟨rfl, b1⟩
    have b1 := (below_1 w _).trans (b1.mono (by simp))
    have s1 := b1.size
    clear hgood hgr
    go_wp2_with fail
    refine (late_any _ _ _ _ _ _ _ _ _ _ _ _ _ _ _ _ _ (by omega) (by omega) (by omega)).mono ?_
    rintro e w2 ⟨rfl, rfl⟩
    by_cases q : ¬ (0 ≤ h ∧ h ≤ N - 1 ∧ 0 ≤ tol ∧ tol ≤ 18300341342965825)
    · rw [lateR_no q]
      by_cases a0 : h < 0
      · go_wp2_with fail
        refine (works_any _).mono ?_
        rintro e w3 ⟨rfl, b3⟩
        go_wp2_with fail
        go_ret
        refine ⟨rfl, ?_⟩
        refine Below.trans (b := _) ?_ (b3.mono (by first | omega | (simp; done) | (simp; omega)))
        repeat (first
          | (with_reducible exact b1)
          | (with_reducible refine Below.setCell ?_ (by first | omega | (simp; done) | (simp; omega)) _)
          | (with_reducible refine below_dN ?_)
          | (with_reducible refine Below.drew ?_)
          | (with_reducible refine Below.alloc ?_ (by first | omega | (simp; done) | (simp; omega)) _))
      by_cases a1 : N - 1 < h
      · go_wp2_with fail
        refine (works_any _).mono ?_
        rintro e w3 ⟨rfl, b3⟩
        go_wp2_with fail
        go_ret
        refine ⟨rfl, ?_⟩
        refine Below.trans (b := _) ?_ (b3.mono (by first | omega | (simp; done) | (simp; omega)))
        repeat (first
          | (with_reducible exact b1)
          | (with_reducible refine Below.setCell ?_ (by first | omega | (simp; done) | (simp; omega)) _)
          | (with_reducible refine below_dN ?_)
          | (with_reducible refine Below.drew ?_)
          | (with_reducible refine Below.alloc ?_ (by first | omega | (simp; done) | (simp; omega)) _))
      by_cases a2 : tol < 0
      · go_wp2_with fail
        refine (works_any _).mono ?_
        rintro e w3 ⟨rfl, b3⟩
        go_wp2_with fail
        go_ret
        refine ⟨rfl, ?_⟩
        refine Below.trans (b := _) ?_ (b3.mono (by first | omega | (simp; done) | (simp; omega)))
        repeat (first
          | (with_reducible exact b1)
          | (with_reducible refine Below.setCell ?_ (by first | omega | (simp; done) | (simp; omega)) _)
          | (with_reducible refine below_dN ?_)
          | (with_reducible refine Below.drew ?_)
          | (with_reducible refine Below.alloc ?_ (by first | omega | (simp; done) | (simp; omega)) _))
      have a3 : 18300341342965825 < tol := by omega
      go_wp2_with fail
      refine (works_any _).mono ?_
      rintro e w3 ⟨rfl, b3⟩
      go_wp2_with fail
      go_ret
      refine ⟨rfl, ?_⟩
      refine Below.trans (b := _) ?_ (b3.mono (by first | omega | (simp; done) | (simp; omega)))
      repeat (first
        | (with_reducible exact b1)
        | (with_reducible refine Below.setCell ?_ (by first | omega | (simp; done) | (simp; omega)) _)
        | (with_reducible refine below_dN ?_)
        | (with_reducible refine Below.drew ?_)
        | (with_reducible refine Below.alloc ?_ (by first | omega | (simp; done) | (simp; omega)) _))
    have q := Classical.not_not.1 q
    have pb := late_prod (h := h) (link := nLink dmax rho slew) (tol := tol) (by omega) (by omega) (by omega)
    rw [lateR_yes q]
    go_wp2_with fail
    refine (works_any _).mono ?_
    rintro e w3 ⟨rfl, b3⟩
    go_wp2_with fail
    go_ret
    refine ⟨rfl, ?_⟩
    refine Below.trans (b := _) ?_ (b3.mono (by first | omega | (simp; done) | (simp; omega)))
    repeat (first
      | (with_reducible exact b1)
      | (with_reducible refine Below.setCell ?_ (by first | omega | (simp; done) | (simp; omega)) _)
      | (with_reducible refine below_dN ?_)
      | (with_reducible refine Below.drew ?_)
      | (with_reducible refine Below.alloc ?_ (by first | omega | (simp; done) | (simp; omega)) _))
  · have hgood : goodB N dmin dmax rho slew rnd win att = false := by simpa using hgood
    go_enter Try.func4, Try.ntmps4
    go_wp2_with fail
    refine (of_no _ _ _ _ _ _ _ _ _ _ _ _ _ _ _ _ _ _ hgood).mono ?_
    rintro e w1 ⟨rfl, b1⟩
    have b1 := (below_1 w _).trans (b1.mono (by simp))
    have s1 := b1.size
    clear hgood
    go_wp2_with fail
    refine (late_any _ _ _ _ _ _ _ _ _ _ _ _ _ _ _ _ _ (by omega) (by omega) (by omega)).mono ?_
    rintro e w2 ⟨rfl, rfl⟩
    go_wp2_with fail
    refine (works_any _).mono ?_
    rintro e w3 ⟨rfl, b3⟩
    go_wp2_with fail
    go_ret
    refine ⟨rfl, ?_⟩
    refine Below.trans (b := _) ?_ (b3.mono (by first | omega | (simp; done) | (simp; omega)))
    repeat (first
      | (with_reducible exact b1)
      | (with_reducible refine Below.setCell ?_ (by first | omega | (simp; done) | (simp; omega)) _)
      | (with_reducible refine below_dN ?_)
      | (with_reducible refine Below.drew ?_)
      | (with_reducible refine Below.alloc ?_ (by first | omega | (simp; done) | (simp; omega)) _))
end Go.Proofs.Ytpbabpbinojodaa.Bound
