/- The numbers of any configuration are as the document says: both sides are compared. -/
import Derived.Test.YtpbabpbinojodaaBoundLateWalk
import Derived.Test.YtpbabpbinojodaaBoundRef
namespace Go.Proofs.Ytpbabpbinojodaa.Bound
open Go.Proofs.Ytpbabpbinojodaa.Arith Go.Proofs.Ytpbabpbinojodaa.Span Go.Proofs.Ytpbabpbinojodaa.Hops
open Go.RowKit (wrap64 Below intOf)
set_option maxRecDepth 100000 in
set_option maxHeartbeats 2000000 in
theorem same_any (b0 b1 b2 b3 b4 b5 b6 b7 b8 b9 b10 b11 b12 b13 : Int) (w : World) :
    Calls Try.prog 10 #[.agg #[.int .i64 b0, .int .i64 b1, .int .i64 b2, .int .i64 b3, .int .i64 b4, .int .i64 b5, .int .i64 b6, .int .i64 b7, .int .i64 b8, .int .i64 b9, .int .i64 b10, .int .i64 b11, .int .i64 b12, .int .i64 b13], .agg #[.int .i64 b0, .int .i64 b1, .int .i64 b2, .int .i64 b3, .int .i64 b4, .int .i64 b5, .int .i64 b6, .int .i64 b7, .int .i64 b8, .int .i64 b9, .int .i64 b10, .int .i64 b11, .int .i64 b12, .int .i64 b13]] w fun e w' => e = .returned (.bool true) ∧ Below w.heap.size w w' := by
  go_enter Try.func10, Try.ntmps10
  go_wp2_with fail
  go_ret
  refine ⟨rfl, ?_⟩
  repeat (first
    | (with_reducible exact (Below.refl _ _))
    | (with_reducible refine Below.setCell ?_ (by first | omega | (simp; done) | (simp; omega)) _)
    | (with_reducible refine below_dN ?_)
    | (with_reducible refine Below.drew ?_)
    | (with_reducible refine Below.alloc ?_ (by first | omega | (simp; done) | (simp; omega)) _))

theorem range_below {w w' : World} {b B : Nat} {cs : List Value} (h : w.rangeAt b 0 cs) (k : Below B w w') (hb : b < B) : w'.rangeAt b 0 cs := fun j v hv => (k.cell hb).trans (h j v hv)
set_option maxRecDepth 100000 in
set_option maxHeartbeats 4000000 in
theorem numbers_walk (la : Option Addr) (ln lc : Nat) (N F dmin dmax rho slew rnd win att sn hs fl qu bd : Int) (w : World) :
    Calls Try.prog 3 #[.agg #[.int .i64 N, .slice la ln lc, .int .i64 F, .int .i64 dmin, .int .i64 dmax, .int .i64 rho, .int .i64 slew, .int .i64 rnd, .int .i64 win, .int .i64 att, .int .i64 sn, .int .i64 hs, .int .i64 fl, .int .i64 qu, .int .i64 bd]] w fun e w' => e = .returned (.bool true) ∧ Below w.heap.size w w' := by
  by_cases hgood : goodB N dmin dmax rho slew rnd win att = true
  · have HG := Lib.hid hgood
    go_enter Try.func3, Try.ntmps3
    go_wp2_with fail
    refine (of_yes _ _ _ _ _ _ _ _ _ _ _ _ _ _ _ _ _ _ hgood).mono ?_
    rintro e w1 ⟨rfl, b1⟩
    have f0 : w1.cell? ⟨w.heap.size, 0, none⟩ = some (.int .i64 N) := (b1.cell (by simp)).trans (by go_simp)
    have f1 : w1.cell? ⟨w.heap.size, 1, none⟩ = some (.slice la ln lc) := (b1.cell (by simp)).trans (by go_simp)
    have f2 : w1.cell? ⟨w.heap.size, 2, none⟩ = some (.int .i64 F) := (b1.cell (by simp)).trans (by go_simp)
    have f3 : w1.cell? ⟨w.heap.size, 3, none⟩ = some (.int .i64 dmin) := (b1.cell (by simp)).trans (by go_simp)
    have f4 : w1.cell? ⟨w.heap.size, 4, none⟩ = some (.int .i64 dmax) := (b1.cell (by simp)).trans (by go_simp)
    have f5 : w1.cell? ⟨w.heap.size, 5, none⟩ = some (.int .i64 rho) := (b1.cell (by simp)).trans (by go_simp)
    have f6 : w1.cell? ⟨w.heap.size, 6, none⟩ = some (.int .i64 slew) := (b1.cell (by simp)).trans (by go_simp)
    have f7 : w1.cell? ⟨w.heap.size, 7, none⟩ = some (.int .i64 rnd) := (b1.cell (by simp)).trans (by go_simp)
    have f8 : w1.cell? ⟨w.heap.size, 8, none⟩ = some (.int .i64 win) := (b1.cell (by simp)).trans (by go_simp)
    have f9 : w1.cell? ⟨w.heap.size, 9, none⟩ = some (.int .i64 att) := (b1.cell (by simp)).trans (by go_simp)
    have f10 : w1.cell? ⟨w.heap.size, 10, none⟩ = some (.int .i64 sn) := (b1.cell (by simp)).trans (by go_simp)
    have f11 : w1.cell? ⟨w.heap.size, 11, none⟩ = some (.int .i64 hs) := (b1.cell (by simp)).trans (by go_simp)
    have f12 : w1.cell? ⟨w.heap.size, 12, none⟩ = some (.int .i64 fl) := (b1.cell (by simp)).trans (by go_simp)
    have f13 : w1.cell? ⟨w.heap.size, 13, none⟩ = some (.int .i64 qu) := (b1.cell (by simp)).trans (by go_simp)
    have f14 : w1.cell? ⟨w.heap.size, 14, none⟩ = some (.int .i64 bd) := (b1.cell (by simp)).trans (by go_simp)
    have s1 : w.heap.size < w1.heap.size := by have := b1.size; simp at this; omega
    have n1 : w.heap.size ≠ w1.heap.size := by omega
    have b1 := (below_1 w _).trans (b1.mono (by simp))
    go_wp2_with fail
    refine (rgood_cfg _ _ _ _ _ _ _ _ _ _ _ _ _ _ _ _ _ _).mono ?_
    rintro e W ⟨rfl, hW⟩
    replace hW := Lib.hid hW
    have pw0 : W.cell? ⟨w.heap.size, 0, none⟩ = some (.int .i64 N) := by rw [← hW.out]; go_simp
    have pw1 : W.cell? ⟨w.heap.size, 1, none⟩ = some (.slice la ln lc) := by rw [← hW.out]; go_simp
    have pw2 : W.cell? ⟨w.heap.size, 2, none⟩ = some (.int .i64 F) := by rw [← hW.out]; go_simp
    have pw3 : W.cell? ⟨w.heap.size, 3, none⟩ = some (.int .i64 dmin) := by rw [← hW.out]; go_simp
    have pw4 : W.cell? ⟨w.heap.size, 4, none⟩ = some (.int .i64 dmax) := by rw [← hW.out]; go_simp
    have pw5 : W.cell? ⟨w.heap.size, 5, none⟩ = some (.int .i64 rho) := by rw [← hW.out]; go_simp
    have pw6 : W.cell? ⟨w.heap.size, 6, none⟩ = some (.int .i64 slew) := by rw [← hW.out]; go_simp
    have pw7 : W.cell? ⟨w.heap.size, 7, none⟩ = some (.int .i64 rnd) := by rw [← hW.out]; go_simp
    have pw8 : W.cell? ⟨w.heap.size, 8, none⟩ = some (.int .i64 win) := by rw [← hW.out]; go_simp
    have pw9 : W.cell? ⟨w.heap.size, 9, none⟩ = some (.int .i64 att) := by rw [← hW.out]; go_simp
    have pw10 : W.cell? ⟨w.heap.size, 10, none⟩ = some (.int .i64 sn) := by rw [← hW.out]; go_simp
    have pw11 : W.cell? ⟨w.heap.size, 11, none⟩ = some (.int .i64 hs) := by rw [← hW.out]; go_simp
    have pw12 : W.cell? ⟨w.heap.size, 12, none⟩ = some (.int .i64 fl) := by rw [← hW.out]; go_simp
    have pw13 : W.cell? ⟨w.heap.size, 13, none⟩ = some (.int .i64 qu) := by rw [← hW.out]; go_simp
    have pw14 : W.cell? ⟨w.heap.size, 14, none⟩ = some (.int .i64 bd) := by rw [← hW.out]; go_simp
    have pv0 : W.cell? ⟨w1.heap.size, 0, none⟩ = some (.int .i64 (N - 1)) := by rw [← hW.out]; go_simp
    have pv1 : W.cell? ⟨w1.heap.size, 1, none⟩ = some (.int .i64 (fastR rho slew)) := by rw [← hW.out]; go_simp
    have pv2 : W.cell? ⟨w1.heap.size, 2, none⟩ = some (.int .i64 (slowR rho slew)) := by rw [← hW.out]; go_simp
    have pv3 : W.cell? ⟨w1.heap.size, 3, none⟩ = some (.int .i64 (nLink dmax rho slew)) := by rw [← hW.out]; go_simp
    have pv4 : W.cell? ⟨w1.heap.size, 4, none⟩ = some (.int .i64 (nRead N dmin dmax rho slew win)) := by rw [← hW.out]; go_simp
    have pv5 : W.cell? ⟨w1.heap.size, 5, none⟩ = some (.int .i64 (nAgree N dmin dmax rho slew win)) := by rw [← hW.out]; go_simp
    have pv6 : W.cell? ⟨w1.heap.size, 6, none⟩ = some (.int .i64 (nStart N dmin dmax rho slew rnd win)) := by rw [← hW.out]; go_simp
    have pv7 : W.cell? ⟨w1.heap.size, 7, none⟩ = some (.int .i64 (nEps N dmin dmax rho slew rnd win)) := by rw [← hW.out]; go_simp
    have pv8 : W.cell? ⟨w1.heap.size, 8, none⟩ = some (.int .i64 (nMost N dmin dmax rho slew rnd win)) := by rw [← hW.out]; go_simp
    have pv9 : W.cell? ⟨w1.heap.size, 9, none⟩ = some (.int .i64 (rerr dmin dmax rho slew)) := by rw [← hW.out]; go_simp
    have pv10 : W.cell? ⟨w1.heap.size, 10, none⟩ = some (.int .i64 (nRough N dmin dmax rho slew rnd win)) := by rw [← hW.out]; go_simp
    have pv11 : W.cell? ⟨w1.heap.size, 11, none⟩ = some (.int .i64 (nDelta N dmin dmax rho slew rnd win)) := by rw [← hW.out]; go_simp
    have pv12 : W.cell? ⟨w1.heap.size, 12, none⟩ = some (.int .i64 (nDown N dmin dmax rho slew rnd win att)) := by rw [← hW.out]; go_simp
    have pv13 : W.cell? ⟨w1.heap.size, 13, none⟩ = some (.int .i64 (nJoin N dmin dmax rho slew rnd win att)) := by rw [← hW.out]; go_simp
    have sW : w1.heap.size < W.heap.size := by rw [← hW.out]; simp; omega
    have bW : Below w.heap.size w W := by
      rw [← hW.out]
      repeat (first
        | (with_reducible exact b1)
        | (with_reducible refine Below.setCell ?_ (by first | omega | (simp; done) | (simp; omega)) _)
        | (with_reducible refine below_dN ?_)
        | (with_reducible refine Below.drew ?_)
        | (with_reducible refine Below.alloc ?_ (by first | omega | (simp; done) | (simp; omega)) _))
    clear hW f0 f1 f2 f3 f4 f5 f6 f7 f8 f9 f10 f11 f12 f13 f14
    have k24 : w.heap.size < W.heap.size := by omega
    have HS : ∀ w', Below W.heap.size W w' → (Below W.heap.size W w' ∧ w'.cell? ⟨w.heap.size, 0, none⟩ = some (.int .i64 N) ∧ w'.cell? ⟨w.heap.size, 1, none⟩ = some (.slice la ln lc) ∧ w'.cell? ⟨w.heap.size, 2, none⟩ = some (.int .i64 F) ∧ w'.cell? ⟨w.heap.size, 3, none⟩ = some (.int .i64 dmin) ∧ w'.cell? ⟨w.heap.size, 4, none⟩ = some (.int .i64 dmax) ∧ w'.cell? ⟨w.heap.size, 5, none⟩ = some (.int .i64 rho) ∧ w'.cell? ⟨w.heap.size, 6, none⟩ = some (.int .i64 slew) ∧ w'.cell? ⟨w.heap.size, 7, none⟩ = some (.int .i64 rnd) ∧ w'.cell? ⟨w.heap.size, 8, none⟩ = some (.int .i64 win) ∧ w'.cell? ⟨w.heap.size, 9, none⟩ = some (.int .i64 att) ∧ w'.cell? ⟨w.heap.size, 10, none⟩ = some (.int .i64 sn) ∧ w'.cell? ⟨w.heap.size, 11, none⟩ = some (.int .i64 hs) ∧ w'.cell? ⟨w.heap.size, 12, none⟩ = some (.int .i64 fl) ∧ w'.cell? ⟨w.heap.size, 13, none⟩ = some (.int .i64 qu) ∧ w'.cell? ⟨w.heap.size, 14, none⟩ = some (.int .i64 bd) ∧ w'.cell? ⟨w1.heap.size, 0, none⟩ = some (.int .i64 (N - 1)) ∧ w'.cell? ⟨w1.heap.size, 1, none⟩ = some (.int .i64 (fastR rho slew)) ∧ w'.cell? ⟨w1.heap.size, 2, none⟩ = some (.int .i64 (slowR rho slew)) ∧ w'.cell? ⟨w1.heap.size, 3, none⟩ = some (.int .i64 (nLink dmax rho slew)) ∧ w'.cell? ⟨w1.heap.size, 4, none⟩ = some (.int .i64 (nRead N dmin dmax rho slew win)) ∧ w'.cell? ⟨w1.heap.size, 5, none⟩ = some (.int .i64 (nAgree N dmin dmax rho slew win)) ∧ w'.cell? ⟨w1.heap.size, 6, none⟩ = some (.int .i64 (nStart N dmin dmax rho slew rnd win)) ∧ w'.cell? ⟨w1.heap.size, 7, none⟩ = some (.int .i64 (nEps N dmin dmax rho slew rnd win)) ∧ w'.cell? ⟨w1.heap.size, 8, none⟩ = some (.int .i64 (nMost N dmin dmax rho slew rnd win)) ∧ w'.cell? ⟨w1.heap.size, 9, none⟩ = some (.int .i64 (rerr dmin dmax rho slew)) ∧ w'.cell? ⟨w1.heap.size, 10, none⟩ = some (.int .i64 (nRough N dmin dmax rho slew rnd win)) ∧ w'.cell? ⟨w1.heap.size, 11, none⟩ = some (.int .i64 (nDelta N dmin dmax rho slew rnd win)) ∧ w'.cell? ⟨w1.heap.size, 12, none⟩ = some (.int .i64 (nDown N dmin dmax rho slew rnd win att)) ∧ w'.cell? ⟨w1.heap.size, 13, none⟩ = some (.int .i64 (nJoin N dmin dmax rho slew rnd win att))) := fun w' h => ⟨h, (h.cell k24).trans pw0, (h.cell k24).trans pw1, (h.cell k24).trans pw2, (h.cell k24).trans pw3, (h.cell k24).trans pw4, (h.cell k24).trans pw5, (h.cell k24).trans pw6, (h.cell k24).trans pw7, (h.cell k24).trans pw8, (h.cell k24).trans pw9, (h.cell k24).trans pw10, (h.cell k24).trans pw11, (h.cell k24).trans pw12, (h.cell k24).trans pw13, (h.cell k24).trans pw14, (h.cell sW).trans pv0, (h.cell sW).trans pv1, (h.cell sW).trans pv2, (h.cell sW).trans pv3, (h.cell sW).trans pv4, (h.cell sW).trans pv5, (h.cell sW).trans pv6, (h.cell sW).trans pv7, (h.cell sW).trans pv8, (h.cell sW).trans pv9, (h.cell sW).trans pv10, (h.cell sW).trans pv11, (h.cell sW).trans pv12, (h.cell sW).trans pv13⟩
    rw [HG.out]
    go_wp2_with fail
    replace HS := Lib.hid HS
    go_region_held3 (fun w' => Below W.heap.size W w' ∧ w'.cell? ⟨w.heap.size, 0, none⟩ = some (.int .i64 N) ∧ w'.cell? ⟨w.heap.size, 1, none⟩ = some (.slice la ln lc) ∧ w'.cell? ⟨w.heap.size, 2, none⟩ = some (.int .i64 F) ∧ w'.cell? ⟨w.heap.size, 3, none⟩ = some (.int .i64 dmin) ∧ w'.cell? ⟨w.heap.size, 4, none⟩ = some (.int .i64 dmax) ∧ w'.cell? ⟨w.heap.size, 5, none⟩ = some (.int .i64 rho) ∧ w'.cell? ⟨w.heap.size, 6, none⟩ = some (.int .i64 slew) ∧ w'.cell? ⟨w.heap.size, 7, none⟩ = some (.int .i64 rnd) ∧ w'.cell? ⟨w.heap.size, 8, none⟩ = some (.int .i64 win) ∧ w'.cell? ⟨w.heap.size, 9, none⟩ = some (.int .i64 att) ∧ w'.cell? ⟨w.heap.size, 10, none⟩ = some (.int .i64 sn) ∧ w'.cell? ⟨w.heap.size, 11, none⟩ = some (.int .i64 hs) ∧ w'.cell? ⟨w.heap.size, 12, none⟩ = some (.int .i64 fl) ∧ w'.cell? ⟨w.heap.size, 13, none⟩ = some (.int .i64 qu) ∧ w'.cell? ⟨w.heap.size, 14, none⟩ = some (.int .i64 bd) ∧ w'.cell? ⟨w1.heap.size, 0, none⟩ = some (.int .i64 (N - 1)) ∧ w'.cell? ⟨w1.heap.size, 1, none⟩ = some (.int .i64 (fastR rho slew)) ∧ w'.cell? ⟨w1.heap.size, 2, none⟩ = some (.int .i64 (slowR rho slew)) ∧ w'.cell? ⟨w1.heap.size, 3, none⟩ = some (.int .i64 (nLink dmax rho slew)) ∧ w'.cell? ⟨w1.heap.size, 4, none⟩ = some (.int .i64 (nRead N dmin dmax rho slew win)) ∧ w'.cell? ⟨w1.heap.size, 5, none⟩ = some (.int .i64 (nAgree N dmin dmax rho slew win)) ∧ w'.cell? ⟨w1.heap.size, 6, none⟩ = some (.int .i64 (nStart N dmin dmax rho slew rnd win)) ∧ w'.cell? ⟨w1.heap.size, 7, none⟩ = some (.int .i64 (nEps N dmin dmax rho slew rnd win)) ∧ w'.cell? ⟨w1.heap.size, 8, none⟩ = some (.int .i64 (nMost N dmin dmax rho slew rnd win)) ∧ w'.cell? ⟨w1.heap.size, 9, none⟩ = some (.int .i64 (rerr dmin dmax rho slew)) ∧ w'.cell? ⟨w1.heap.size, 10, none⟩ = some (.int .i64 (nRough N dmin dmax rho slew rnd win)) ∧ w'.cell? ⟨w1.heap.size, 11, none⟩ = some (.int .i64 (nDelta N dmin dmax rho slew rnd win)) ∧ w'.cell? ⟨w1.heap.size, 12, none⟩ = some (.int .i64 (nDown N dmin dmax rho slew rnd win att)) ∧ w'.cell? ⟨w1.heap.size, 13, none⟩ = some (.int .i64 (nJoin N dmin dmax rho slew rnd win att)))
      (first | exact HS.out _ (Below.refl _ _) | exact HS.out _ (Below.drew (Below.refl _ _)) | exact HS.out _ (by assumption) | exact HS.out _ (Below.drew (by assumption)) | (obtain ⟨hB, _⟩ : Below W.heap.size W _ ∧ _ := (by assumption); exact HS.out _ (Below.trans hB (Below.mono b2 hB.size))) | exact HS.out _ (Below.trans (b := _) (by assumption) (Below.mono b2 (Below.size (B := W.heap.size) (by assumption)))) | (obtain ⟨hB, _⟩ : Below W.heap.size W _ ∧ _ := (by assumption); exact HS.out _ (Below.trans hB (Below.mono b3 hB.size))) | exact HS.out _ (Below.trans (b := _) (by assumption) (Below.mono b3 (Below.size (B := W.heap.size) (by assumption)))) | (obtain ⟨hB, _⟩ : Below W.heap.size W _ ∧ _ := (by assumption); exact HS.out _ (Below.trans hB (Below.mono b4 hB.size))) | exact HS.out _ (Below.trans (b := _) (by assumption) (Below.mono b4 (Below.size (B := W.heap.size) (by assumption)))))
      (first
        | (go_at_call 12; refine (rof_yes _ _ _ _ _ _ _ _ _ _ _ _ _ _ _ _ _ _ hgood).mono ?_; rintro e w2 ⟨rfl, b2⟩)
        | (go_at_call 10; refine (same_any _ _ _ _ _ _ _ _ _ _ _ _ _ _ _).mono ?_; rintro e w3 ⟨rfl, b3⟩)
        | (go_at_call 11; refine (works_any _).mono ?_; rintro e w4 ⟨rfl, b4⟩))
    go_wp2_with fail
    go_ret
    refine ⟨rfl, ?_⟩
    refine Below.trans (b := W) bW (Below.mono (B := W.heap.size) ?_ (by omega))
    first
      | assumption
      | (obtain ⟨hB, _⟩ : Below W.heap.size W _ ∧ _ := (by assumption); exact hB)
  · have hgood : goodB N dmin dmax rho slew rnd win att = false := by simpa using hgood
    have HG := Lib.hid hgood
    go_enter Try.func3, Try.ntmps3
    go_wp2_with fail
    refine (of_no _ _ _ _ _ _ _ _ _ _ _ _ _ _ _ _ _ _ hgood).mono ?_
    rintro e w1 ⟨rfl, b1⟩
    have f0 : w1.cell? ⟨w.heap.size, 0, none⟩ = some (.int .i64 N) := (b1.cell (by simp)).trans (by go_simp)
    have f1 : w1.cell? ⟨w.heap.size, 1, none⟩ = some (.slice la ln lc) := (b1.cell (by simp)).trans (by go_simp)
    have f2 : w1.cell? ⟨w.heap.size, 2, none⟩ = some (.int .i64 F) := (b1.cell (by simp)).trans (by go_simp)
    have f3 : w1.cell? ⟨w.heap.size, 3, none⟩ = some (.int .i64 dmin) := (b1.cell (by simp)).trans (by go_simp)
    have f4 : w1.cell? ⟨w.heap.size, 4, none⟩ = some (.int .i64 dmax) := (b1.cell (by simp)).trans (by go_simp)
    have f5 : w1.cell? ⟨w.heap.size, 5, none⟩ = some (.int .i64 rho) := (b1.cell (by simp)).trans (by go_simp)
    have f6 : w1.cell? ⟨w.heap.size, 6, none⟩ = some (.int .i64 slew) := (b1.cell (by simp)).trans (by go_simp)
    have f7 : w1.cell? ⟨w.heap.size, 7, none⟩ = some (.int .i64 rnd) := (b1.cell (by simp)).trans (by go_simp)
    have f8 : w1.cell? ⟨w.heap.size, 8, none⟩ = some (.int .i64 win) := (b1.cell (by simp)).trans (by go_simp)
    have f9 : w1.cell? ⟨w.heap.size, 9, none⟩ = some (.int .i64 att) := (b1.cell (by simp)).trans (by go_simp)
    have f10 : w1.cell? ⟨w.heap.size, 10, none⟩ = some (.int .i64 sn) := (b1.cell (by simp)).trans (by go_simp)
    have f11 : w1.cell? ⟨w.heap.size, 11, none⟩ = some (.int .i64 hs) := (b1.cell (by simp)).trans (by go_simp)
    have f12 : w1.cell? ⟨w.heap.size, 12, none⟩ = some (.int .i64 fl) := (b1.cell (by simp)).trans (by go_simp)
    have f13 : w1.cell? ⟨w.heap.size, 13, none⟩ = some (.int .i64 qu) := (b1.cell (by simp)).trans (by go_simp)
    have f14 : w1.cell? ⟨w.heap.size, 14, none⟩ = some (.int .i64 bd) := (b1.cell (by simp)).trans (by go_simp)
    have s1 : w.heap.size < w1.heap.size := by have := b1.size; simp at this; omega
    have n1 : w.heap.size ≠ w1.heap.size := by omega
    have b1 := (below_1 w _).trans (b1.mono (by simp))
    clear hgood
    go_wp2_with fail
    refine (rgood_cfg _ _ _ _ _ _ _ _ _ _ _ _ _ _ _ _ _ _).mono ?_
    rintro e w2 ⟨rfl, rfl⟩
    rw [HG.out]
    go_wp2_with fail
    refine (same_any _ _ _ _ _ _ _ _ _ _ _ _ _ _ _).mono ?_
    rintro e w3 ⟨rfl, b3⟩
    go_wp2_with fail
    refine (works_any _).mono ?_
    rintro e w4 ⟨rfl, b4⟩
    go_wp2_with fail
    go_ret
    refine ⟨rfl, ?_⟩
    have c3 : Below w.heap.size w w3 := by
      refine Below.trans (b := _) ?_ (b3.mono ?_)
      · repeat (first
          | (with_reducible exact b1)
          | (with_reducible refine Below.setCell ?_ (by first | omega | (simp; done) | (simp; omega)) _)
          | (with_reducible refine below_dN ?_)
          | (with_reducible refine Below.drew ?_)
          | (with_reducible refine Below.alloc ?_ (by first | omega | (simp; done) | (simp; omega)) _))
      · first | omega | (simp; done) | (simp; omega)
    have s3 := c3.size
    exact Below.trans (b := w3) c3 (b4.mono s3)
end Go.Proofs.Ytpbabpbinojodaa.Bound
