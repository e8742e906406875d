/- Whether a configuration's periods are wide enough is as the document says: the walk of the law. -/
import Derived.Test.YtpbabpbinojodaaBoundEnoughC
namespace Go.Proofs.Ytpbabpbinojodaa.Bound
open Go.Proofs.Ytpbabpbinojodaa.Arith Go.Proofs.Ytpbabpbinojodaa.Span Go.Proofs.Ytpbabpbinojodaa.Hops
open Go.RowKit (wrap64 Below intOf)
set_option linter.unusedVariables false

set_option maxRecDepth 100000 in
set_option maxHeartbeats 8000000 in
theorem enough_walk (la : Option Addr) (ln lc : Nat) (N F dmin dmax rho slew rnd win att sn hs fl qu bd : Int) (w : World) :
    Calls Try.prog 5 #[.agg #[.int .i64 N, .slice la ln lc, .int .i64 F, .int .i64 dmin, .int .i64 dmax, .int .i64 rho, .int .i64 slew, .int .i64 rnd, .int .i64 win, .int .i64 att, .int .i64 sn, .int .i64 hs, .int .i64 fl, .int .i64 qu, .int .i64 bd]] w fun e w' => e = .returned (.bool true) ∧ Below w.heap.size w w' := by
  obtain ⟨eb, heb⟩ : ∃ x, enoughB N dmin dmax rho slew rnd win att = x := ⟨_, rfl⟩
  have E1 := Lib.hid (fun w => enough_any la ln lc N F dmin dmax rho slew rnd win att sn hs fl qu bd w)
  have E2 := Lib.hid (fun w => renough_any la ln lc N F dmin dmax rho slew rnd win att sn hs fl qu bd w)
  rw [heb] at E1 E2
  have hs1 : (eb == eb) = true := by simp
  clear heb
  go_enter Try.func5, Try.ntmps5
  go_wp2_with fail
  obtain ⟨W, hW0⟩ : ∃ W, w.alloc (.cells #[.int .i64 N, .slice la ln lc, .int .i64 F, .int .i64 dmin, .int .i64 dmax, .int .i64 rho, .int .i64 slew, .int .i64 rnd, .int .i64 win, .int .i64 att, .int .i64 sn, .int .i64 hs, .int .i64 fl, .int .i64 qu, .int .i64 bd] 24) = W := ⟨_, rfl⟩
  have hW := Lib.hid hW0
  rw [hW0]
  clear hW0
  have pw0 : W.cell? ⟨w.heap.size, 0, none⟩ = some (.int .i64 N) := by rw [← hW.out]; go_simp
  have pw1 : W.cell? ⟨w.heap.size, 1, none⟩ = some (.slice la ln lc) := by rw [← hW.out]; go_simp
  have pw2 : W.cell? ⟨w.heap.size, 2, none⟩ = some (.int .i64 F) := by rw [← hW.out]; go_simp
  have pw3 : W.cell? ⟨w.heap.size, 3, none⟩ = some (.int .i64 dmin) := by rw [← hW.out]; go_simp
  have pw4 : W.cell? ⟨w.heap.size, 4, none⟩ = some (.int .i64 dmax) := by rw [← hW.out]; go_simp
  have pw5 : W.cell? ⟨w.heap.size, 5, none⟩ = some (.int .i64 rho) := by rw [← hW.out]; go_simp
  have pw6 : W.cell? ⟨w.heap.size, 6, none⟩ = some (.int .i64 slew) := by rw [← hW.out]; go_simp
  have pw7 : W.cell? ⟨w.heap.size, 7, none⟩ = some (.int .i64 rnd) := by rw [← hW.out]; go_simp
  have pw8 : W.cell? ⟨w.heap.size, 8, none⟩ = some (.int .i64 win) := by rw [← hW.out]; go_simp
  have pw9 : W.cell? ⟨w.heap.size, 9, none⟩ = some (.int .i64 att) := by rw [← hW.out]; go_simp
  have pw10 : W.cell? ⟨w.heap.size, 10, none⟩ = some (.int .i64 sn) := by rw [← hW.out]; go_simp
  have pw11 : W.cell? ⟨w.heap.size, 11, none⟩ = some (.int .i64 hs) := by rw [← hW.out]; go_simp
  have pw12 : W.cell? ⟨w.heap.size, 12, none⟩ = some (.int .i64 fl) := by rw [← hW.out]; go_simp
  have pw13 : W.cell? ⟨w.heap.size, 13, none⟩ = some (.int .i64 qu) := by rw [← hW.out]; go_simp
  have pw14 : W.cell? ⟨w.heap.size, 14, none⟩ = some (.int .i64 bd) := by rw [← hW.out]; go_simp
  have k24 : w.heap.size < W.heap.size := by rw [← hW.out]; simp
  have bW : Below w.heap.size w W := by rw [← hW.out]; exact below_1 _ _
  clear hW
  have HS : ∀ w', Below W.heap.size W w' → (Below W.heap.size W w' ∧ w'.cell? ⟨w.heap.size, 0, none⟩ = some (.int .i64 N) ∧ w'.cell? ⟨w.heap.size, 1, none⟩ = some (.slice la ln lc) ∧ w'.cell? ⟨w.heap.size, 2, none⟩ = some (.int .i64 F) ∧ w'.cell? ⟨w.heap.size, 3, none⟩ = some (.int .i64 dmin) ∧ w'.cell? ⟨w.heap.size, 4, none⟩ = some (.int .i64 dmax) ∧ w'.cell? ⟨w.heap.size, 5, none⟩ = some (.int .i64 rho) ∧ w'.cell? ⟨w.heap.size, 6, none⟩ = some (.int .i64 slew) ∧ w'.cell? ⟨w.heap.size, 7, none⟩ = some (.int .i64 rnd) ∧ w'.cell? ⟨w.heap.size, 8, none⟩ = some (.int .i64 win) ∧ w'.cell? ⟨w.heap.size, 9, none⟩ = some (.int .i64 att) ∧ w'.cell? ⟨w.heap.size, 10, none⟩ = some (.int .i64 sn) ∧ w'.cell? ⟨w.heap.size, 11, none⟩ = some (.int .i64 hs) ∧ w'.cell? ⟨w.heap.size, 12, none⟩ = some (.int .i64 fl) ∧ w'.cell? ⟨w.heap.size, 13, none⟩ = some (.int .i64 qu) ∧ w'.cell? ⟨w.heap.size, 14, none⟩ = some (.int .i64 bd)) := fun w' h => ⟨h, (h.cell k24).trans pw0, (h.cell k24).trans pw1, (h.cell k24).trans pw2, (h.cell k24).trans pw3, (h.cell k24).trans pw4, (h.cell k24).trans pw5, (h.cell k24).trans pw6, (h.cell k24).trans pw7, (h.cell k24).trans pw8, (h.cell k24).trans pw9, (h.cell k24).trans pw10, (h.cell k24).trans pw11, (h.cell k24).trans pw12, (h.cell k24).trans pw13, (h.cell k24).trans pw14⟩
  replace HS := Lib.hid HS
  go_region_held3 (fun w' => Below W.heap.size W w' ∧ w'.cell? ⟨w.heap.size, 0, none⟩ = some (.int .i64 N) ∧ w'.cell? ⟨w.heap.size, 1, none⟩ = some (.slice la ln lc) ∧ w'.cell? ⟨w.heap.size, 2, none⟩ = some (.int .i64 F) ∧ w'.cell? ⟨w.heap.size, 3, none⟩ = some (.int .i64 dmin) ∧ w'.cell? ⟨w.heap.size, 4, none⟩ = some (.int .i64 dmax) ∧ w'.cell? ⟨w.heap.size, 5, none⟩ = some (.int .i64 rho) ∧ w'.cell? ⟨w.heap.size, 6, none⟩ = some (.int .i64 slew) ∧ w'.cell? ⟨w.heap.size, 7, none⟩ = some (.int .i64 rnd) ∧ w'.cell? ⟨w.heap.size, 8, none⟩ = some (.int .i64 win) ∧ w'.cell? ⟨w.heap.size, 9, none⟩ = some (.int .i64 att) ∧ w'.cell? ⟨w.heap.size, 10, none⟩ = some (.int .i64 sn) ∧ w'.cell? ⟨w.heap.size, 11, none⟩ = some (.int .i64 hs) ∧ w'.cell? ⟨w.heap.size, 12, none⟩ = some (.int .i64 fl) ∧ w'.cell? ⟨w.heap.size, 13, none⟩ = some (.int .i64 qu) ∧ w'.cell? ⟨w.heap.size, 14, none⟩ = some (.int .i64 bd))
    (first | exact HS.out _ (Below.refl _ _) | exact HS.out _ (Below.drew (Below.refl _ _)) | exact HS.out _ (by assumption) | exact HS.out _ (Below.drew (by assumption)) | (obtain ⟨hB, _⟩ : Below W.heap.size W _ ∧ _ := (by assumption); exact HS.out _ (Below.trans hB (Below.mono b2 hB.size))) | exact HS.out _ (Below.trans (b := _) (by assumption) (Below.mono b2 (Below.size (B := W.heap.size) (by assumption)))) | (obtain ⟨hB, _⟩ : Below W.heap.size W _ ∧ _ := (by assumption); exact HS.out _ (Below.trans hB (Below.mono b3 hB.size))) | exact HS.out _ (Below.trans (b := _) (by assumption) (Below.mono b3 (Below.size (B := W.heap.size) (by assumption)))) | (obtain ⟨hB, _⟩ : Below W.heap.size W _ ∧ _ := (by assumption); exact HS.out _ (Below.trans hB (Below.mono b4 hB.size))) | exact HS.out _ (Below.trans (b := _) (by assumption) (Below.mono b4 (Below.size (B := W.heap.size) (by assumption)))))
    (first
      | (go_at_call 14; refine (E1.out _).mono ?_; rintro e w2 ⟨rfl, b2⟩)
      | (go_at_call 15; refine (E2.out _).mono ?_; rintro e w3 ⟨rfl, b3⟩)
      | (go_at_call 11; refine (works_any _).mono ?_; rintro e w4 ⟨rfl, b4⟩))
  all_goals
    go_wp2_with fail
    go_ret
    refine ⟨rfl, ?_⟩
    refine Below.trans (b := W) bW (Below.mono (B := W.heap.size) ?_ (by omega))
    first
      | assumption
      | (obtain ⟨hB, _⟩ : Below W.heap.size W _ ∧ _ := (by assumption); exact hB)
end Go.Proofs.Ytpbabpbinojodaa.Bound
