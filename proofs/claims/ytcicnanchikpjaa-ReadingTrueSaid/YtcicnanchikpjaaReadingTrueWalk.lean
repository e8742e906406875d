/- The walk of the law ReadingTrue. -/
import Derived.Test.YtcicnanchikpjaaTrip
namespace Go.Proofs.Ytcicnanchikpjaa.Trip
open Go.Proofs.Ytcicnanchikpjaa.Arith Go.Proofs.Ytcicnanchikpjaa.Span Go.Proofs.Ytcicnanchikpjaa.Hops Go.Proofs.Ytcicnanchikpjaa.Reading
open Go.RowKit (wrap64 Below intOf)
open Go.Proofs.Ytcicnanchikpjaa.Read (IntRow)
open Go.Proofs.Ytcicnanchikpjaa.HopsTrue (tmod_bd below_d mod_bd L1 l1_mk step_mul step_mul' whole)

/-- The whole law, in numbers. -/
theorem est_true {lo hi th ba rho sl W1 W2 : Int} (ht : lo ≤ th ∧ th ≤ hi) (hb : lo ≤ ba ∧ ba ≤ hi) (hr : 0 ≤ rho) (hs : 0 ≤ sl)
    (h1 : -(rho * (th + ba)) ≤ W1 - 1024 * (th + ba) ∧ W1 - 1024 * (th + ba) ≤ rho * (th + ba)) (h2 : -((rho + sl) * ba) ≤ W2 - 1024 * ba ∧ W2 - 1024 * ba ≤ (rho + sl) * ba) :
    W1 / 2 - W2 ≤ (hi - lo) * 512 + (2 * rho + sl) * hi + 1 ∧ W2 - W1 / 2 ≤ (hi - lo) * 512 + (2 * rho + sl) * hi + 1 := by
  have a1 : rho * (th + ba) ≤ rho * (hi + hi) := Int.mul_le_mul_of_nonneg_left (by omega) hr
  have a2 : (rho + sl) * ba ≤ (rho + sl) * hi := Int.mul_le_mul_of_nonneg_left (by omega) (by omega)
  have e1 : rho * (hi + hi) = rho * hi + rho * hi := Int.mul_add _ _ _
  have e2 : (rho + sl) * hi = rho * hi + sl * hi := Int.add_mul _ _ _
  have e3 : (2 * rho + sl) * hi = 2 * (rho * hi) + sl * hi := by rw [Int.add_mul, Int.mul_assoc]
  omega
set_option maxRecDepth 100000 in
set_option maxHeartbeats 4000000 in
theorem true_walk (d0 d1 r s th ba : Int) (a1 a2 : Option Addr) (n1 c1 n2 c2 : Nat) (z1 z2 : List Int) (sent val : Int) (w : World)
    (h0 : 0 ≤ d0 ∧ d0 ≤ 255) (h1 : 0 ≤ d1 ∧ d1 ≤ 255) (hr : 0 ≤ r ∧ r ≤ 255) (hs : 0 ≤ s ∧ s ≤ 255) (hth : 0 ≤ th ∧ th ≤ 255) (hba : 0 ≤ ba ∧ ba ≤ 255)
    (hse : 0 ≤ sent ∧ sent ≤ 4294967295) (hva : 0 ≤ val ∧ val ≤ 4294967295) (r1 : IntRow .i16 w a1 n1 c1 z1) (r2 : IntRow .i16 w a2 n2 c2 z2) :
    Calls Try.prog 13 #[.agg #[.int .u8 d0, .int .u8 d1, .int .u8 r, .int .u8 s, .int .u8 th, .int .u8 ba, .slice a1 n1 c1, .slice a2 n2 c2, .int .u32 sent, .int .u32 val]] w fun e w' => e = .returned (.bool true) ∧ Below w.heap.size w w' := by
  have R1 := Lib.hid r1
  have R2 := Lib.hid r2
  clear r1 r2
  have hb := b_bd d0 d1
  go_enter Try.func13, Try.ntmps13
  go_wp2_with fail
  refine (bounds_any _ _ _ _ _ _ _ _ _ _ _ _ _ _ _ h0 h1 hr hs).mono ?_
  rintro e w1 ⟨rfl, b1⟩
  generalize bLo d0 d1 = lo at *
  generalize bHi d0 d1 = hi at *
  have hs1 : w.heap.size < w1.heap.size := by have := b1.size; simp at this; omega
  obtain ⟨hcl, _⟩ := bcell b1
  have c4 : w1.cell? ⟨w.heap.size, 4, none⟩ = some (.int .u8 th) := (hcl _ 4 (by simp)).trans (by go_simp)
  have c5 : w1.cell? ⟨w.heap.size, 5, none⟩ = some (.int .u8 ba) := (hcl _ 5 (by simp)).trans (by go_simp)
  have c6 : w1.cell? ⟨w.heap.size, 6, none⟩ = some (.slice a1 n1 c1) := (hcl _ 6 (by simp)).trans (by go_simp)
  have c7 : w1.cell? ⟨w.heap.size, 7, none⟩ = some (.slice a2 n2 c2) := (hcl _ 7 (by simp)).trans (by go_simp)
  have c8 : w1.cell? ⟨w.heap.size, 8, none⟩ = some (.int .u32 sent) := (hcl _ 8 (by simp)).trans (by go_simp)
  have c9 : w1.cell? ⟨w.heap.size, 9, none⟩ = some (.int .u32 val) := (hcl _ 9 (by simp)).trans (by go_simp)
  have b1' : Below w.heap.size w w1 := (below_1 _ _).trans (b1.mono (by simp))
  clear hcl b1
  have m1 := mod_bd (x := th) (y := hi - lo + 1) (by omega)
  have m2 := mod_bd (x := ba) (y := hi - lo + 1) (by omega)
  have hz : (hi - lo + 1 == 0) = false := eq_false' (by omega)
  have R1' := Lib.hid (row_below R1.out b1')
  have R2' := Lib.hid (row_below R2.out b1')
  go_wp2_with fail
  go_quiet (fail)
  obtain ⟨x, hx⟩ : ∃ x, x = th % (hi - lo + 1) := ⟨_, rfl⟩
  obtain ⟨y, hy⟩ : ∃ y, y = ba % (hi - lo + 1) := ⟨_, rfl⟩
  rw [← hx] at m1
  rw [← hy] at m2
  rw [← hx, ← hy]
  clear hx hy hz
  go_wp2_with fail
  go_quiet ((go_at_call 50; exact quiet_l2 (went_int _ _ _ z1 _ _ _ _ (row_dN R1'.out _) (by omega) (by omega) (by omega))))
  go_wp2_with fail
  obtain ⟨W1, e1, k1, l1⟩ : ∃ W1, wentF z1 n1 0 (r % 65) (lo + x + (lo + y)).toNat = W1 ∧ RowKit.Hid (-(r % 65 * (lo + x + (lo + y))) ≤ W1 - 1024 * (lo + x + (lo + y)) ∧ W1 - 1024 * (lo + x + (lo + y)) ≤ r % 65 * (lo + x + (lo + y))) ∧ (-(320 * (lo + x + (lo + y))) ≤ W1 - 1024 * (lo + x + (lo + y)) ∧ W1 - 1024 * (lo + x + (lo + y)) ≤ 320 * (lo + x + (lo + y))) := by
    have q1 := went_bd z1 n1 0 (r % 65) (by omega) (lo + x + (lo + y)).toNat
    have q2 := went_lin z1 n1 0 (r % 65) (by omega) (lo + x + (lo + y)).toNat
    rw [Int.toNat_of_nonneg (by omega)] at q1 q2
    exact ⟨_, rfl, Lib.hid q1, q2⟩
  rw [e1, IntWalk.wrap64_in (sent + W1) (by omega)]
  clear e1
  go_quiet ((go_at_call 50; exact quiet_l2 (went_int _ _ _ z2 _ _ _ _ (row_dN R2'.out _) (by omega) (by omega) (by omega))))
  obtain ⟨W2, e2, k2, l2⟩ : ∃ W2, wentF z2 n2 (lo + x).toNat (r % 65 + (s + 1)) (lo + y).toNat = W2 ∧ RowKit.Hid (-((r % 65 + (s + 1)) * (lo + y)) ≤ W2 - 1024 * (lo + y) ∧ W2 - 1024 * (lo + y) ≤ (r % 65 + (s + 1)) * (lo + y)) ∧ (-(320 * (lo + y)) ≤ W2 - 1024 * (lo + y) ∧ W2 - 1024 * (lo + y) ≤ 320 * (lo + y)) := by
    have q1 := went_bd z2 n2 (lo + x).toNat (r % 65 + (s + 1)) (by omega) (lo + y).toNat
    have q2 := went_lin z2 n2 (lo + x).toNat (r % 65 + (s + 1)) (by omega) (lo + y).toNat
    rw [Int.toNat_of_nonneg (by omega)] at q1 q2
    exact ⟨_, rfl, Lib.hid q1, q2⟩
  rw [e2, IntWalk.wrap64_in (val + W2) (by omega)]
  clear e2
  have hw := est_true (lo := lo) (hi := hi) (th := lo + x) (ba := lo + y) (by omega) (by omega) (by omega) (by omega) k1.out k2.out
  have hok : estOk val sent (sent + W1) = true := by rw [estOk, decide_eq_true_iff]; omega
  have hok' := Lib.hid hok
  have hge : rerrOk lo hi (r % 65) (s + 1) = true := by
    rw [rerrOk, goodH_iff.2 (by omega), goodR_iff.2 (by omega)]; rfl
  have hge' := Lib.hid hge
  have pb := prod_small (x := 2 * (r % 65) + (s + 1)) (y := hi) (m := 384) (n := 64) (by omega) (by omega) (by omega) (by omega)
  clear hok hge
  go_wp2_with fail
  refine (estimate_any _ _ _ _).mono ?_
  rintro e w3 ⟨rfl, b3⟩
  rw [est_yes hok'.out, hok'.out]
  go_wp2_with fail
  refine (err_any _ _ _ _ _).mono ?_
  rintro e w4 ⟨rfl, rfl⟩
  rw [rerr_yes hge'.out, hge'.out]
  go_wp2_with fail
  refine (Reading.works_any _).mono ?_
  rintro e w5 ⟨rfl, b5⟩
  go_wp2_with fail
  go_ret
  exact ⟨rfl, (below_dN b1' _).trans (Below.trans (b := w3) (b3.mono (by simpa using Nat.le_of_lt hs1)) (b5.mono (Nat.le_trans (Nat.le_of_lt hs1) (by simpa using b3.size))))⟩
end Go.Proofs.Ytcicnanchikpjaa.Trip
