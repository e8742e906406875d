/- Whether a configuration's periods are wide enough: the walk of bound.Enough. -/
import Derived.Test.YtpbabpbinojodaaBoundEnoughA
namespace Go.Proofs.Ytpbabpbinojodaa.Bound
open Go.Proofs.Ytpbabpbinojodaa.Arith Go.Proofs.Ytpbabpbinojodaa.Span Go.Proofs.Ytpbabpbinojodaa.Hops
open Go.RowKit (wrap64 Below intOf)
set_option linter.unusedVariables false

set_option maxRecDepth 100000 in
set_option maxHeartbeats 8000000 in
theorem enough_good (la : Option Addr) (ln lc : Nat) (N F dmin dmax rho slew rnd win att sn hs fl qu bd : Int) (w : World) (hgood : goodB N dmin dmax rho slew rnd win att = true) :
    Calls Try.prog 14 #[.agg #[.int .i64 N, .slice la ln lc, .int .i64 F, .int .i64 dmin, .int .i64 dmax, .int .i64 rho, .int .i64 slew, .int .i64 rnd, .int .i64 win, .int .i64 att, .int .i64 sn, .int .i64 hs, .int .i64 fl, .int .i64 qu, .int .i64 bd]] w fun e w' => e = .returned (.bool (enoughB N dmin dmax rho slew rnd win att)) ∧ Below w.heap.size w w' := by
  obtain ⟨fast, slow, link, rd, agree, start, eps, most, cold, rough, delta, down, join, hE, ⟨⟨kf1, kf2⟩, ⟨kl1, kl2⟩, ⟨ke1, ke2⟩, ⟨km1, km2⟩, ⟨kr1, kr2⟩, ⟨kd1, kd2⟩, ker⟩, hOf⟩ := of_good la ln lc N F dmin dmax rho slew rnd win att sn hs fl qu bd hgood
  obtain ⟨hN, hR, hP1, hP2, hP3⟩ := goodB_iff.1 hgood
  have HE := Lib.hid (enough_eq hgood hE.out)
  have HO := Lib.hid hOf
  have pl := prod_small (x := N - 1) (y := link) (m := 63) (n := 86016) (by omega) (by omega) (by omega) (by omega)
  clear hOf hgood hE
  go_enter Try.func14, Try.ntmps14
  go_wp2_with fail
  refine (HO.out _).mono ?_
  rintro e w1 ⟨rfl, b1⟩
  have f0 : w1.cell? ⟨w.heap.size, 0, none⟩ = some (.int .i64 N) := (b1.cell (by simp)).trans (by go_simp)
  have f1 : w1.cell? ⟨w.heap.size, 1, none⟩ = some (.slice la ln lc) := (b1.cell (by simp)).trans (by go_simp)
  have f2 : w1.cell? ⟨w.heap.size, 2, none⟩ = some (.int .i64 F) := (b1.cell (by simp)).trans (by go_simp)
  have f3 : w1.cell? ⟨w.heap.size, 3, none⟩ = some (.int .i64 dmin) := (b1.cell (by simp)).trans (by go_simp)
  have f4 : w1.cell? ⟨w.heap.size, 4, none⟩ = some (.int .i64 dmax) := (b1.cell (by simp)).trans (by go_simp)
  have f5 : w1.cell? ⟨w.heap.size, 5, none⟩ = some (.int .i64 rho) := (b1.cell (by simp)).trans (by go_simp)
  have f6 : w1.cell? ⟨w.heap.size, 6, none⟩ = some (.int .i64 slew) := (b1.cell (by simp)).trans (by go_simp)
  have f7 : w1.cell? ⟨w.heap.size, 7, none⟩ = some (.int .i64 rnd) := (b1.cell (by simp)).trans (by go_simp)
  have f8 : w1.cell? ⟨w.heap.size, 8, none⟩ = some (.int .i64 win) := (b1.cell (by simp)).trans (by go_simp)
  have f9 : w1.cell? ⟨w.heap.size, 9, none⟩ = some (.int .i64 att) := (b1.cell (by simp)).trans (by go_simp)
  have f10 : w1.cell? ⟨w.heap.size, 10, none⟩ = some (.int .i64 sn) := (b1.cell (by simp)).trans (by go_simp)
  have f11 : w1.cell? ⟨w.heap.size, 11, none⟩ = some (.int .i64 hs) := (b1.cell (by simp)).trans (by go_simp)
  have f12 : w1.cell? ⟨w.heap.size, 12, none⟩ = some (.int .i64 fl) := (b1.cell (by simp)).trans (by go_simp)
  have f13 : w1.cell? ⟨w.heap.size, 13, none⟩ = some (.int .i64 qu) := (b1.cell (by simp)).trans (by go_simp)
  have f14 : w1.cell? ⟨w.heap.size, 14, none⟩ = some (.int .i64 bd) := (b1.cell (by simp)).trans (by go_simp)
  have s1 : w.heap.size < w1.heap.size := by have := b1.size; simp at this; omega
  have n1 : w.heap.size ≠ w1.heap.size := by omega
  have b1 := (below_1 w _).trans (b1.mono (by simp))
  go_wp2_with fail
  obtain ⟨W, hW0⟩ : ∃ W, w1.alloc (.cells #[.int .i64 (N - 1), .int .i64 fast, .int .i64 slow, .int .i64 link, .int .i64 rd, .int .i64 agree, .int .i64 start, .int .i64 eps, .int .i64 most, .int .i64 cold, .int .i64 rough, .int .i64 delta, .int .i64 down, .int .i64 join] 26) = W := ⟨_, rfl⟩
  have hW := Lib.hid hW0
  rw [hW0]
  clear hW0
  have pw0 : W.cell? ⟨w.heap.size, 0, none⟩ = some (.int .i64 N) := by rw [← hW.out]; go_simp
  have pw1 : W.cell? ⟨w.heap.size, 1, none⟩ = some (.slice la ln lc) := by rw [← hW.out]; go_simp
  have pw2 : W.cell? ⟨w.heap.size, 2, none⟩ = some (.int .i64 F) := by rw [← hW.out]; go_simp
  have pw3 : W.cell? ⟨w.heap.size, 3, none⟩ = some (.int .i64 dmin) := by rw [← hW.out]; go_simp
  have pw4 : W.cell? ⟨w.heap.size, 4, none⟩ = some (.int .i64 dmax) := by rw [← hW.out]; go_simp
  have pw5 : W.cell? ⟨w.heap.size, 5, none⟩ = some (.int .i64 rho) := by rw [← hW.out]; go_simp
  have pw6 : W.cell? ⟨w.heap.size, 6, none⟩ = some (.int .i64 slew) := by rw [← hW.out]; go_simp
  have pw7 : W.cell? ⟨w.heap.size, 7, none⟩ = some (.int .i64 rnd) := by rw [← hW.out]; go_simp
  have pw8 : W.cell? ⟨w.heap.size, 8, none⟩ = some (.int .i64 win) := by rw [← hW.out]; go_simp
  have pw9 : W.cell? ⟨w.heap.size, 9, none⟩ = some (.int .i64 att) := by rw [← hW.out]; go_simp
  have pw10 : W.cell? ⟨w.heap.size, 10, none⟩ = some (.int .i64 sn) := by rw [← hW.out]; go_simp
  have pw11 : W.cell? ⟨w.heap.size, 11, none⟩ = some (.int .i64 hs) := by rw [← hW.out]; go_simp
  have pw12 : W.cell? ⟨w.heap.size, 12, none⟩ = some (.int .i64 fl) := by rw [← hW.out]; go_simp
  have pw13 : W.cell? ⟨w.heap.size, 13, none⟩ = some (.int .i64 qu) := by rw [← hW.out]; go_simp
  have pw14 : W.cell? ⟨w.heap.size, 14, none⟩ = some (.int .i64 bd) := by rw [← hW.out]; go_simp
  have pv0 : W.cell? ⟨w1.heap.size, 0, none⟩ = some (.int .i64 (N - 1)) := by rw [← hW.out]; go_simp
  have pv1 : W.cell? ⟨w1.heap.size, 1, none⟩ = some (.int .i64 fast) := by rw [← hW.out]; go_simp
  have pv2 : W.cell? ⟨w1.heap.size, 2, none⟩ = some (.int .i64 slow) := by rw [← hW.out]; go_simp
  have pv3 : W.cell? ⟨w1.heap.size, 3, none⟩ = some (.int .i64 link) := by rw [← hW.out]; go_simp
  have pv4 : W.cell? ⟨w1.heap.size, 4, none⟩ = some (.int .i64 rd) := by rw [← hW.out]; go_simp
  have pv5 : W.cell? ⟨w1.heap.size, 5, none⟩ = some (.int .i64 agree) := by rw [← hW.out]; go_simp
  have pv6 : W.cell? ⟨w1.heap.size, 6, none⟩ = some (.int .i64 start) := by rw [← hW.out]; go_simp
  have pv7 : W.cell? ⟨w1.heap.size, 7, none⟩ = some (.int .i64 eps) := by rw [← hW.out]; go_simp
  have pv8 : W.cell? ⟨w1.heap.size, 8, none⟩ = some (.int .i64 most) := by rw [← hW.out]; go_simp
  have pv9 : W.cell? ⟨w1.heap.size, 9, none⟩ = some (.int .i64 cold) := by rw [← hW.out]; go_simp
  have pv10 : W.cell? ⟨w1.heap.size, 10, none⟩ = some (.int .i64 rough) := by rw [← hW.out]; go_simp
  have pv11 : W.cell? ⟨w1.heap.size, 11, none⟩ = some (.int .i64 delta) := by rw [← hW.out]; go_simp
  have pv12 : W.cell? ⟨w1.heap.size, 12, none⟩ = some (.int .i64 down) := by rw [← hW.out]; go_simp
  have pv13 : W.cell? ⟨w1.heap.size, 13, none⟩ = some (.int .i64 join) := by rw [← hW.out]; go_simp
  have sW : w1.heap.size < W.heap.size := by rw [← hW.out]; simp
  have bW : Below w.heap.size w W := by rw [← hW.out]; exact b1.alloc (by omega) _
  clear hW f0 f1 f2 f3 f4 f5 f6 f7 f8 f9 f10 f11 f12 f13 f14
  have k24 : w.heap.size < W.heap.size := by omega
  have HS : ∀ w', Below W.heap.size W w' → (Below W.heap.size W w' ∧ w'.cell? ⟨w.heap.size, 0, none⟩ = some (.int .i64 N) ∧ w'.cell? ⟨w.heap.size, 1, none⟩ = some (.slice la ln lc) ∧ w'.cell? ⟨w.heap.size, 2, none⟩ = some (.int .i64 F) ∧ w'.cell? ⟨w.heap.size, 3, none⟩ = some (.int .i64 dmin) ∧ w'.cell? ⟨w.heap.size, 4, none⟩ = some (.int .i64 dmax) ∧ w'.cell? ⟨w.heap.size, 5, none⟩ = some (.int .i64 rho) ∧ w'.cell? ⟨w.heap.size, 6, none⟩ = some (.int .i64 slew) ∧ w'.cell? ⟨w.heap.size, 7, none⟩ = some (.int .i64 rnd) ∧ w'.cell? ⟨w.heap.size, 8, none⟩ = some (.int .i64 win) ∧ w'.cell? ⟨w.heap.size, 9, none⟩ = some (.int .i64 att) ∧ w'.cell? ⟨w.heap.size, 10, none⟩ = some (.int .i64 sn) ∧ w'.cell? ⟨w.heap.size, 11, none⟩ = some (.int .i64 hs) ∧ w'.cell? ⟨w.heap.size, 12, none⟩ = some (.int .i64 fl) ∧ w'.cell? ⟨w.heap.size, 13, none⟩ = some (.int .i64 qu) ∧ w'.cell? ⟨w.heap.size, 14, none⟩ = some (.int .i64 bd) ∧ w'.cell? ⟨w1.heap.size, 0, none⟩ = some (.int .i64 (N - 1)) ∧ w'.cell? ⟨w1.heap.size, 1, none⟩ = some (.int .i64 fast) ∧ w'.cell? ⟨w1.heap.size, 2, none⟩ = some (.int .i64 slow) ∧ w'.cell? ⟨w1.heap.size, 3, none⟩ = some (.int .i64 link) ∧ w'.cell? ⟨w1.heap.size, 4, none⟩ = some (.int .i64 rd) ∧ w'.cell? ⟨w1.heap.size, 5, none⟩ = some (.int .i64 agree) ∧ w'.cell? ⟨w1.heap.size, 6, none⟩ = some (.int .i64 start) ∧ w'.cell? ⟨w1.heap.size, 7, none⟩ = some (.int .i64 eps) ∧ w'.cell? ⟨w1.heap.size, 8, none⟩ = some (.int .i64 most) ∧ w'.cell? ⟨w1.heap.size, 9, none⟩ = some (.int .i64 cold) ∧ w'.cell? ⟨w1.heap.size, 10, none⟩ = some (.int .i64 rough) ∧ w'.cell? ⟨w1.heap.size, 11, none⟩ = some (.int .i64 delta) ∧ w'.cell? ⟨w1.heap.size, 12, none⟩ = some (.int .i64 down) ∧ w'.cell? ⟨w1.heap.size, 13, none⟩ = some (.int .i64 join)) := fun w' h => ⟨h, (h.cell k24).trans pw0, (h.cell k24).trans pw1, (h.cell k24).trans pw2, (h.cell k24).trans pw3, (h.cell k24).trans pw4, (h.cell k24).trans pw5, (h.cell k24).trans pw6, (h.cell k24).trans pw7, (h.cell k24).trans pw8, (h.cell k24).trans pw9, (h.cell k24).trans pw10, (h.cell k24).trans pw11, (h.cell k24).trans pw12, (h.cell k24).trans pw13, (h.cell k24).trans pw14, (h.cell sW).trans pv0, (h.cell sW).trans pv1, (h.cell sW).trans pv2, (h.cell sW).trans pv3, (h.cell sW).trans pv4, (h.cell sW).trans pv5, (h.cell sW).trans pv6, (h.cell sW).trans pv7, (h.cell sW).trans pv8, (h.cell sW).trans pv9, (h.cell sW).trans pv10, (h.cell sW).trans pv11, (h.cell sW).trans pv12, (h.cell sW).trans pv13⟩
  replace HS := Lib.hid HS
  have kN : 0 ≤ N - 1 ∧ N - 1 ≤ 63 := by omega
  have kL : 0 ≤ link ∧ link ≤ 86016 := by omega
  have r1 : IntKind.i64.wrap (2 * rough) = 2 * rough := IntWalk.i64_in _ (by omega)
  have r2 : IntKind.i64.wrap (2 * rough + eps) = 2 * rough + eps := IntWalk.i64_in _ (by omega)
  have r3 : IntKind.i64.wrap (2 * rough + eps + (N - 1) * link) = 2 * rough + eps + (N - 1) * link := IntWalk.i64_in _ (by omega)
  have r4 : IntKind.i64.wrap (4 * fast) = 4 * fast := IntWalk.i64_in _ (by omega)
  have r5 : IntKind.i64.wrap (2 * rough + eps + (N - 1) * link + 4 * fast) = 2 * rough + eps + (N - 1) * link + 4 * fast := IntWalk.i64_in _ (by omega)
  go_region_held3 (fun w' => Below W.heap.size W w' ∧ w'.cell? ⟨w.heap.size, 0, none⟩ = some (.int .i64 N) ∧ w'.cell? ⟨w.heap.size, 1, none⟩ = some (.slice la ln lc) ∧ w'.cell? ⟨w.heap.size, 2, none⟩ = some (.int .i64 F) ∧ w'.cell? ⟨w.heap.size, 3, none⟩ = some (.int .i64 dmin) ∧ w'.cell? ⟨w.heap.size, 4, none⟩ = some (.int .i64 dmax) ∧ w'.cell? ⟨w.heap.size, 5, none⟩ = some (.int .i64 rho) ∧ w'.cell? ⟨w.heap.size, 6, none⟩ = some (.int .i64 slew) ∧ w'.cell? ⟨w.heap.size, 7, none⟩ = some (.int .i64 rnd) ∧ w'.cell? ⟨w.heap.size, 8, none⟩ = some (.int .i64 win) ∧ w'.cell? ⟨w.heap.size, 9, none⟩ = some (.int .i64 att) ∧ w'.cell? ⟨w.heap.size, 10, none⟩ = some (.int .i64 sn) ∧ w'.cell? ⟨w.heap.size, 11, none⟩ = some (.int .i64 hs) ∧ w'.cell? ⟨w.heap.size, 12, none⟩ = some (.int .i64 fl) ∧ w'.cell? ⟨w.heap.size, 13, none⟩ = some (.int .i64 qu) ∧ w'.cell? ⟨w.heap.size, 14, none⟩ = some (.int .i64 bd) ∧ w'.cell? ⟨w1.heap.size, 0, none⟩ = some (.int .i64 (N - 1)) ∧ w'.cell? ⟨w1.heap.size, 1, none⟩ = some (.int .i64 fast) ∧ w'.cell? ⟨w1.heap.size, 2, none⟩ = some (.int .i64 slow) ∧ w'.cell? ⟨w1.heap.size, 3, none⟩ = some (.int .i64 link) ∧ w'.cell? ⟨w1.heap.size, 4, none⟩ = some (.int .i64 rd) ∧ w'.cell? ⟨w1.heap.size, 5, none⟩ = some (.int .i64 agree) ∧ w'.cell? ⟨w1.heap.size, 6, none⟩ = some (.int .i64 start) ∧ w'.cell? ⟨w1.heap.size, 7, none⟩ = some (.int .i64 eps) ∧ w'.cell? ⟨w1.heap.size, 8, none⟩ = some (.int .i64 most) ∧ w'.cell? ⟨w1.heap.size, 9, none⟩ = some (.int .i64 cold) ∧ w'.cell? ⟨w1.heap.size, 10, none⟩ = some (.int .i64 rough) ∧ w'.cell? ⟨w1.heap.size, 11, none⟩ = some (.int .i64 delta) ∧ w'.cell? ⟨w1.heap.size, 12, none⟩ = some (.int .i64 down) ∧ w'.cell? ⟨w1.heap.size, 13, none⟩ = some (.int .i64 join))
    (first | exact HS.out _ (Below.refl _ _) | exact HS.out _ (Below.drew (Below.refl _ _)) | exact HS.out _ (by assumption) | exact HS.out _ (Below.drew (by assumption)) | (obtain ⟨hB, _⟩ : Below W.heap.size W _ ∧ _ := (by assumption); exact HS.out _ (Below.trans hB (Below.mono b2 hB.size))) | exact HS.out _ (Below.trans (b := _) (by assumption) (Below.mono b2 (Below.size (B := W.heap.size) (by assumption)))))
    (first
      | (go_at_call 34; refine (far_any _ _ _ _ _ _ _ _ _ _ _ _ _ _ _ kN kL).mono ?_; rintro e w2 ⟨rfl, b2⟩))
  clear r1 r2 r3 r4 r5
  have hB2 : Below W.heap.size W w2 := by
    first
      | assumption
      | (obtain ⟨hB, _⟩ : Below W.heap.size W _ ∧ _ := (by assumption); exact hB)
  obtain ⟨_, c0, c1, c2, c3, c4, c5, c6, c7, c8, c9, c10, c11, c12, c13, c14, d0, d1, d2, d3, d4, d5, d6, d7, d8, d9, d10, d11, d12, d13⟩ := HS.out w2 hB2
  have bw2 := Lib.hid (bW.trans (hB2.mono (by omega)))
  clear pw0 pw1 pw2 pw3 pw4 pw5 pw6 pw7 pw8 pw9 pw10 pw11 pw12 pw13 pw14 pv0 pv1 pv2 pv3 pv4 pv5 pv6 pv7 pv8 pv9 pv10 pv11 pv12 pv13 b2
  by_cases t1 : win < 2 * rough + eps + (N - 1) * link + 4 * fast
  · have ok : enoughB N dmin dmax rho slew rnd win att = false := by rw [HE.out, decide_eq_false (by omega)]; rfl
    replace ok := Lib.hid ok
    go_wp2_with fail
    go_ret
    exact ⟨retb ok.out.symm, bw2.out⟩
  by_cases t2 : rnd < 4 * win
  · have ok : enoughB N dmin dmax rho slew rnd win att = false := by rw [HE.out, decide_eq_true (p := 2 * rough + eps + (N - 1) * link + 4 * fast ≤ win) (by omega), decide_eq_false (p := 4 * win ≤ rnd) (by omega)]; rfl
    replace ok := Lib.hid ok
    go_wp2_with fail
    go_ret
    exact ⟨retb ok.out.symm, bw2.out⟩
  have qb := quo_bd (a := rnd - 2 * win) (f := fast) (by omega) kf1
  have sb := slew_bd (s := slew) (q := (rnd - 2 * win) / fast) (by omega) qb
  have kw : 1 ≤ win ∧ 4 * win ≤ rnd := by omega
  have ks : 1 ≤ slew ∧ slew ≤ 256 := by omega
  have kr : rnd ≤ 1099511627776 := by omega
  go_wp2_with fail
  go_region_held3 (fun w' => Below W.heap.size W w' ∧ w'.cell? ⟨w.heap.size, 0, none⟩ = some (.int .i64 N) ∧ w'.cell? ⟨w.heap.size, 1, none⟩ = some (.slice la ln lc) ∧ w'.cell? ⟨w.heap.size, 2, none⟩ = some (.int .i64 F) ∧ w'.cell? ⟨w.heap.size, 3, none⟩ = some (.int .i64 dmin) ∧ w'.cell? ⟨w.heap.size, 4, none⟩ = some (.int .i64 dmax) ∧ w'.cell? ⟨w.heap.size, 5, none⟩ = some (.int .i64 rho) ∧ w'.cell? ⟨w.heap.size, 6, none⟩ = some (.int .i64 slew) ∧ w'.cell? ⟨w.heap.size, 7, none⟩ = some (.int .i64 rnd) ∧ w'.cell? ⟨w.heap.size, 8, none⟩ = some (.int .i64 win) ∧ w'.cell? ⟨w.heap.size, 9, none⟩ = some (.int .i64 att) ∧ w'.cell? ⟨w.heap.size, 10, none⟩ = some (.int .i64 sn) ∧ w'.cell? ⟨w.heap.size, 11, none⟩ = some (.int .i64 hs) ∧ w'.cell? ⟨w.heap.size, 12, none⟩ = some (.int .i64 fl) ∧ w'.cell? ⟨w.heap.size, 13, none⟩ = some (.int .i64 qu) ∧ w'.cell? ⟨w.heap.size, 14, none⟩ = some (.int .i64 bd) ∧ w'.cell? ⟨w1.heap.size, 0, none⟩ = some (.int .i64 (N - 1)) ∧ w'.cell? ⟨w1.heap.size, 1, none⟩ = some (.int .i64 fast) ∧ w'.cell? ⟨w1.heap.size, 2, none⟩ = some (.int .i64 slow) ∧ w'.cell? ⟨w1.heap.size, 3, none⟩ = some (.int .i64 link) ∧ w'.cell? ⟨w1.heap.size, 4, none⟩ = some (.int .i64 rd) ∧ w'.cell? ⟨w1.heap.size, 5, none⟩ = some (.int .i64 agree) ∧ w'.cell? ⟨w1.heap.size, 6, none⟩ = some (.int .i64 start) ∧ w'.cell? ⟨w1.heap.size, 7, none⟩ = some (.int .i64 eps) ∧ w'.cell? ⟨w1.heap.size, 8, none⟩ = some (.int .i64 most) ∧ w'.cell? ⟨w1.heap.size, 9, none⟩ = some (.int .i64 cold) ∧ w'.cell? ⟨w1.heap.size, 10, none⟩ = some (.int .i64 rough) ∧ w'.cell? ⟨w1.heap.size, 11, none⟩ = some (.int .i64 delta) ∧ w'.cell? ⟨w1.heap.size, 12, none⟩ = some (.int .i64 down) ∧ w'.cell? ⟨w1.heap.size, 13, none⟩ = some (.int .i64 join))
    (first | exact HS.out _ (Below.refl _ _) | exact HS.out _ (Below.drew (Below.refl _ _)) | exact HS.out _ (by assumption) | exact HS.out _ (Below.drew (by assumption)) | (obtain ⟨hB, _⟩ : Below W.heap.size W _ ∧ _ := (by assumption); exact HS.out _ (Below.trans hB (Below.mono b3 hB.size))) | exact HS.out _ (Below.trans (b := _) (by assumption) (Below.mono b3 (Below.size (B := W.heap.size) (by assumption)))))
    (first
      | (go_at_call 35; refine (slewed_any _ _ _ _ _ _ _ _ _ _ _ _ _ _ _ _ _ _ _ _ _ _ _ _ _ _ _ _ _ _ _ _ ⟨kf1, kf2⟩ ks kw kr).mono ?_; rintro e w3 ⟨rfl, b3⟩))
  have hB3 : Below W.heap.size W w3 := by
    first
      | assumption
      | (obtain ⟨hB, _⟩ : Below W.heap.size W _ ∧ _ := (by assumption); exact hB)
  have bw3 := Lib.hid (bW.trans (hB3.mono (by omega)))
  clear c0 c1 c2 c3 c4 c5 c6 c7 c8 c9 c10 c11 c12 c13 c14 d0 d1 d2 d3 d4 d5 d6 d7 d8 d9 d10 d11 d12 d13 b3
  obtain ⟨_, c0, c1, c2, c3, c4, c5, c6, c7, c8, c9, c10, c11, c12, c13, c14, d0, d1, d2, d3, d4, d5, d6, d7, d8, d9, d10, d11, d12, d13⟩ := HS.out w3 hB3
  by_cases t3 : slew * ((rnd - 2 * win) / fast - 2) < most
  · have ok : enoughB N dmin dmax rho slew rnd win att = false := by rw [HE.out, decide_eq_true (p := 2 * rough + eps + (N - 1) * link + 4 * fast ≤ win) (by omega), decide_eq_true (p := 4 * win ≤ rnd) (by omega), decide_eq_false (p := most ≤ slew * ((rnd - 2 * win) / fast - 2)) (by omega)]; rfl
    replace ok := Lib.hid ok
    go_wp2_with fail
    go_ret
    exact ⟨retb ok.out.symm, bw3.out⟩
  have ok : enoughB N dmin dmax rho slew rnd win att = decide (2 * delta ≤ att) := by rw [HE.out, decide_eq_true (p := 2 * rough + eps + (N - 1) * link + 4 * fast ≤ win) (by omega), decide_eq_true (p := 4 * win ≤ rnd) (by omega), decide_eq_true (p := most ≤ slew * ((rnd - 2 * win) / fast - 2)) (by omega)]; rfl
  replace ok := Lib.hid ok
  go_wp2_with fail
  go_ret
  exact ⟨retb ok.out.symm, bw3.out⟩
end Go.Proofs.Ytpbabpbinojodaa.Bound
