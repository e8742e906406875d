/-
  Contracts of package span and of its reference, each walked once.
-/
import Derived.Test.YtcenicbmadbamaaChecked
import Derived.Test.YtcenicbmadbamaaArith
import Derived.WalkKit
import Derived.WalkLawsBesides
import Derived.WalkSpells
import Derived.Lib.Hide
import Derived.Outline
import Derived.BigQuiet
import Derived.Deep.QuietTactic
namespace Go.Proofs.Ytcenicbmadbamaa.Span
open Go.Proofs.Ytcenicbmadbamaa.Arith
open Go.RowKit (wrap64)

theorem ret2 {k : IntKind} {a b : Int} {p q : Bool} (h : a = b) (h' : p = q) : Ending.returned (.tuple #[.int k a, .bool p]) = .returned (.tuple #[.int k b, .bool q]) := by rw [h, h']
theorem ret1 {k : IntKind} {a b : Int} (h : a = b) : Ending.returned (.int k a) = .returned (.int k b) := by rw [h]


theorem over_add {a b : Int} (h : ¬ I64 (a + b)) : Ending.returned (.tuple #[.int .i64 0, .bool false]) = .returned (.tuple #[.int .i64 (fit (a + b)), .bool (inr (a + b))]) := ret2 (fit_not h).symm (inr_not h).symm
theorem fits_add {a b : Int} (h : I64 (a + b)) : Ending.returned (.tuple #[.int .i64 (wrap64 (a + b)), .bool true]) = .returned (.tuple #[.int .i64 (fit (a + b)), .bool (inr (a + b))]) :=
  ret2 (by rw [fit_of h]; exact IntWalk.wrap64_in _ h) (inr_of h).symm
theorem over_any {x : Int} (h : ¬ I64 x) : Ending.returned (.tuple #[.int .i64 0, .bool false]) = .returned (.tuple #[.int .i64 (fit x), .bool (inr x)]) := ret2 (fit_not h).symm (inr_not h).symm
theorem fits_any {x : Int} (h : I64 x) : Ending.returned (.tuple #[.int .i64 (wrap64 x), .bool true]) = .returned (.tuple #[.int .i64 (fit x), .bool (inr x)]) :=
  ret2 (by rw [fit_of h]; exact IntWalk.wrap64_in _ h) (inr_of h).symm

set_option maxHeartbeats 400000 in
theorem add_any (a b : Int) (ha : I64 a) (hb : I64 b) (w : World) :
    Calls Try.prog 14 #[.int .i64 a, .int .i64 b] w fun e w' => e = .returned (.tuple #[.int .i64 (fit (a + b)), .bool (inr (a + b))]) ∧ w = w' := by
  have h := Lib.hid (add_over ha hb)
  go_enter Try.func14, Try.ntmps14
  go_wp2
  · go_ret2
    exact ⟨over_any (h.out.1 (by assumption)), rfl⟩
  · have hn : I64 (a + b) := Classical.byContradiction fun c => by have := h.out.2 c; omega
    go_ret2
    exact ⟨fits_any hn, rfl⟩

set_option maxHeartbeats 400000 in
theorem sub_any (a b : Int) (ha : I64 a) (hb : I64 b) (w : World) :
    Calls Try.prog 16 #[.int .i64 a, .int .i64 b] w fun e w' => e = .returned (.tuple #[.int .i64 (fit (a - b)), .bool (inr (a - b))]) ∧ w = w' := by
  have h := Lib.hid (sub_over ha hb)
  go_enter Try.func16, Try.ntmps16
  go_wp2
  · go_ret2
    exact ⟨over_any (h.out.1 (by assumption)), rfl⟩
  · have hn : I64 (a - b) := Classical.byContradiction fun c => by have := h.out.2 c; omega
    go_ret2
    exact ⟨fits_any hn, rfl⟩


set_option maxHeartbeats 400000 in
theorem clamp_any (x lo hi : Int) (w : World) :
    Calls Try.prog 18 #[.int .i64 x, .int .i64 lo, .int .i64 hi] w fun e w' => e = .returned (.int .i64 (clampI x lo hi)) ∧ w = w' := by
  by_cases h1 : x < lo
  · go_enter Try.func18, Try.ntmps18
    go_wp2
    go_ret
    exact ⟨ret1 (by rw [clampI, if_pos h1]), rfl⟩
  · by_cases h2 : hi < x
    · go_enter Try.func18, Try.ntmps18
      go_wp2
      go_ret
      exact ⟨ret1 (by rw [clampI, if_neg (by omega), if_pos (by omega)]), rfl⟩
    · go_enter Try.func18, Try.ntmps18
      go_wp2
      go_ret
      exact ⟨ret1 (by rw [clampI, if_neg (by omega), if_neg (by omega)]), rfl⟩

set_option maxHeartbeats 400000 in
theorem abs_any (a : Int) (ha : I64 a) (w : World) :
    Calls Try.prog 26 #[.int .i64 a] w fun e w' => e = .returned (.int .u64 (absI a)) ∧ w = w' := by
  unfold I64 at ha
  by_cases h1 : a < 0
  · go_enter Try.func26, Try.ntmps26
    go_wp2
    go_ret
    exact ⟨ret1 (by simp only [IntKind.wrap_u64]; rw [absI, if_pos h1]; omega), rfl⟩
  · go_enter Try.func26, Try.ntmps26
    go_wp2
    go_ret
    exact ⟨ret1 (by rw [absI, if_neg (by omega)]), rfl⟩

set_option maxHeartbeats 400000 in
theorem gap_any (a b : Int) (ha : I64 a) (hb : I64 b) (w : World) :
    Calls Try.prog 28 #[.int .i64 a, .int .i64 b] w fun e w' => e = .returned (.int .u64 (absI (a - b))) ∧ w = w' := by
  unfold I64 at ha hb
  by_cases h1 : a < b
  · go_enter Try.func28, Try.ntmps28
    go_wp2
    go_ret
    exact ⟨ret1 (by simp only [IntKind.wrap_u64]; rw [absI, if_pos (by omega)]; omega), rfl⟩
  · go_enter Try.func28, Try.ntmps28
    go_wp2
    go_ret
    exact ⟨ret1 (by simp only [IntKind.wrap_u64]; rw [absI, if_neg (by omega)]; omega), rfl⟩

set_option maxHeartbeats 400000 in
theorem mid_any (a b : Int) (ha : I64 a) (hb : I64 b) (w : World) :
    Calls Try.prog 24 #[.int .i64 a, .int .i64 b] w fun e w' => e = .returned (.int .i64 ((a + b) / 2)) ∧ w = w' := by
  have h := Lib.hid (mid_eq ha hb)
  unfold I64 at ha hb
  go_enter Try.func24, Try.ntmps24
  go_wp2
  go_ret
  exact ⟨ret1 (by rw [h.out]; exact IntWalk.wrap64_in _ (by omega)), rfl⟩

set_option maxHeartbeats 400000 in
theorem may_any (a b : Int) (w : World) :
    Calls Try.prog 34 #[.int .i64 a, .int .i64 b] w fun e w' => e = .returned (.bool (quoOk a b)) ∧ w = w' := by
  go_enter Try.func34, Try.ntmps34
  go_wp2
  all_goals
    go_ret
    refine ⟨?_, rfl⟩
    simp [quoOk, bne, *]

set_option maxHeartbeats 400000 in
theorem div_any (a b : Int) (ha : I64 a) (hb : I64 b) (w : World) :
    Calls Try.prog 20 #[.int .i64 a, .int .i64 b] w fun e w' => e = .returned (.tuple #[.int .i64 (divI a b), .bool (quoOk a b)]) ∧ ∃ n, w' = w.drewN n := by
  have ha' := Lib.hid ha
  unfold I64 at ha hb
  by_cases h : quoOk a b = true
  · have h0 : ¬ b = 0 := by rintro rfl; simp [quoOk] at h
    have h0' : (b == 0) = false := by simpa using h0
    go_enter Try.func20, Try.ntmps20
    go_wp2_with ((go_at_call 34); refine (may_any _ _ _).mono ?_; rintro e w' ⟨rfl, rfl⟩)
    go_quiet (fail)
    go_wp2_with fail
    all_goals go_ret2
    · refine ⟨ret2 (flo_on ha'.out h ?_) h.symm, nq, rfl⟩
      simp_all
    · rename_i h1 h2
      refine ⟨ret2 (flo_off ha'.out h h1 ?_) h.symm, nq, rfl⟩
      simpa [h1] using h2
    · rename_i h1 h2
      refine ⟨ret2 (flo_on ha'.out h ?_) h.symm, nq, rfl⟩
      simpa [h1] using h2
  · have h' : quoOk a b = false := by simpa using h
    go_enter Try.func20, Try.ntmps20
    go_wp2_with ((go_at_call 34); refine (may_any _ _ _).mono ?_; rintro e w' ⟨rfl, rfl⟩)
    go_ret2
    exact ⟨ret2 (by rw [divI, if_neg h]) h'.symm, 0, rfl⟩

set_option maxHeartbeats 400000 in
theorem up_any (a b : Int) (ha : I64 a) (hb : I64 b) (w : World) :
    Calls Try.prog 22 #[.int .i64 a, .int .i64 b] w fun e w' => e = .returned (.tuple #[.int .i64 (upI a b), .bool (quoOk a b)]) ∧ ∃ n, w' = w.drewN n := by
  have ha' := Lib.hid ha
  unfold I64 at ha hb
  by_cases h : quoOk a b = true
  · have h0 : ¬ b = 0 := by rintro rfl; simp [quoOk] at h
    have h0' : (b == 0) = false := by simpa using h0
    go_enter Try.func22, Try.ntmps22
    go_wp2_with ((go_at_call 34); refine (may_any _ _ _).mono ?_; rintro e w' ⟨rfl, rfl⟩)
    go_quiet (fail)
    go_wp2_with fail
    all_goals go_ret2
    · refine ⟨ret2 (cei_on ha'.out h ?_) h.symm, nq, rfl⟩
      simp_all
    · rename_i h1 h2
      refine ⟨ret2 (cei_off ha'.out h h1 ?_) h.symm, nq, rfl⟩
      simpa [h1] using h2
    · rename_i h1 h2
      refine ⟨ret2 (cei_on ha'.out h ?_) h.symm, nq, rfl⟩
      simpa [h1] using h2
  · have h' : quoOk a b = false := by simpa using h
    go_enter Try.func22, Try.ntmps22
    go_wp2_with ((go_at_call 34); refine (may_any _ _ _).mono ?_; rintro e w' ⟨rfl, rfl⟩)
    go_ret2
    exact ⟨ret2 (by rw [upI, if_neg h]) h'.symm, 0, rfl⟩


/-! ### the reference -/

theorem fits_in {x : Int} (h : I64 x) : Ending.returned (.tuple #[.int .i64 x, .bool true]) = .returned (.tuple #[.int .i64 (fit x), .bool (inr x)]) :=
  ret2 (fit_of h).symm (inr_of h).symm

set_option maxHeartbeats 400000 in
theorem radd_any (a b : Int) (ha : I64 a) (hb : I64 b) (w : World) :
    Calls Try.prog 15 #[.int .i64 a, .int .i64 b] w fun e w' => e = .returned (.tuple #[.int .i64 (fit (a + b)), .bool (inr (a + b))]) ∧ w = w' := by
  unfold I64 at ha hb
  go_enter Try.func15, Try.ntmps15
  go_wp2
  all_goals
    go_ret2
    first
      | exact ⟨fits_in (by unfold I64; omega), rfl⟩
      | exact ⟨over_any (by unfold I64; omega), rfl⟩
set_option maxHeartbeats 400000 in
theorem rsub_any (a b : Int) (ha : I64 a) (hb : I64 b) (w : World) :
    Calls Try.prog 17 #[.int .i64 a, .int .i64 b] w fun e w' => e = .returned (.tuple #[.int .i64 (fit (a - b)), .bool (inr (a - b))]) ∧ w = w' := by
  unfold I64 at ha hb
  go_enter Try.func17, Try.ntmps17
  go_wp2
  all_goals
    go_ret2
    first
      | exact ⟨fits_in (by unfold I64; omega), rfl⟩
      | exact ⟨over_any (by unfold I64; omega), rfl⟩

set_option maxHeartbeats 400000 in
theorem rclamp_any (x lo hi : Int) (w : World) :
    Calls Try.prog 19 #[.int .i64 x, .int .i64 lo, .int .i64 hi] w fun e w' => e = .returned (.int .i64 (clampI x lo hi)) ∧ w = w' := by
  by_cases h1 : x < lo
  · go_enter Try.func19, Try.ntmps19
    go_wp2
    go_ret
    exact ⟨ret1 (by rw [clampI, if_pos h1]), rfl⟩
  · by_cases h2 : hi < x
    · go_enter Try.func19, Try.ntmps19
      go_wp2
      go_ret
      exact ⟨ret1 (by rw [clampI, if_neg (by omega), if_pos (by omega)]), rfl⟩
    · go_enter Try.func19, Try.ntmps19
      go_wp2
      go_ret
      exact ⟨ret1 (by rw [clampI, if_neg (by omega), if_neg (by omega)]), rfl⟩

set_option maxHeartbeats 1000000 in
theorem rdiv_any (a b : Int) (ha : I64 a) (hb : I64 b) (w : World) :
    Calls Try.prog 21 #[.int .i64 a, .int .i64 b] w fun e w' => e = .returned (.tuple #[.int .i64 (divI a b), .bool (quoOk a b)]) ∧ w = w' := by
  have ha' := Lib.hid ha
  by_cases h : quoOk a b = true
  · have h0 : ¬ b = 0 := quoOk_ne h
    have h0' : (b == 0) = false := by simpa using h0
    have bm := Lib.hid (back_mul ha h)
    have sg := Lib.hid (@tmod_sign a b)
    unfold I64 at ha hb
    by_cases hl : a = -9223372036854775808
    · have h1 : (b == -1) = false := by
        subst hl; simp [quoOk] at h; simpa using h.2
      subst hl
      go_enter Try.func21, Try.ntmps21
      go_wp2
      all_goals
        have e := Int.neg_tdiv 9223372036854775808 b
        simp only [← e, bm.out] at *
        have bm' := bm.out
        have sg' := sg.out
        go_ret2
        have sl : (-9223372036854775808 : Int) < 0 := by decide
      · refine ⟨ret2 (flo_on ha'.out h ?_) h.symm, rfl⟩
        rintro ⟨c, _⟩; omega
      · rename_i h5 h6
        refine ⟨ret2 (flo_off ha'.out h (by omega) ?_) h.symm, rfl⟩
        rw [sg' (by omega)]
        simpa [bne] using h6.2
      · rename_i h5 h6
        refine ⟨ret2 (flo_on ha'.out h ?_) h.symm, rfl⟩
        rintro ⟨c, d⟩
        rw [sg' c] at d
        rcases h6 with h6 | h6
        · simp [bne] at h6; exact c (by have := Int.neg_tmod 9223372036854775808 b; omega)
        · revert h6 d; by_cases hb0 : b < 0 <;> simp [hb0]
    · have hl' : (a == -9223372036854775808) = false := by simpa using hl
      go_enter Try.func21, Try.ntmps21
      go_wp2
      all_goals
        have bm' := bm.out
        have sg' := sg.out
        go_ret2
      · refine ⟨ret2 (flo_on ha'.out h ?_) h.symm, rfl⟩
        rintro ⟨c, _⟩; omega
      · rename_i h5 h6
        refine ⟨ret2 (flo_off ha'.out h (by omega) ?_) h.symm, rfl⟩
        rw [sg' (by omega)]
        simpa [bne] using h6.2
      · rename_i h5 h6
        refine ⟨ret2 (flo_on ha'.out h ?_) h.symm, rfl⟩
        rintro ⟨c, d⟩
        rw [sg' c] at d
        rcases h6 with h6 | h6
        · simp [bne] at h6; omega
        · revert h6 d; by_cases hb0 : b < 0 <;> by_cases ha0 : a < 0 <;> simp [hb0, ha0]
  · have h' : quoOk a b = false := by simpa using h
    by_cases hb0 : b = 0
    · subst hb0
      go_enter Try.func21, Try.ntmps21
      go_wp2
      go_ret2
      exact ⟨ret2 (by rw [divI, if_neg h]) h'.symm, rfl⟩
    · have : a = -9223372036854775808 ∧ b = -1 := by
        simp [quoOk, hb0] at h'; exact h'
      obtain ⟨rfl, rfl⟩ := this
      go_enter Try.func21, Try.ntmps21
      go_wp2
      go_ret2
      exact ⟨ret2 (by rw [divI, if_neg h]) h'.symm, rfl⟩

set_option maxHeartbeats 1000000 in
theorem rup_any (a b : Int) (ha : I64 a) (hb : I64 b) (w : World) :
    Calls Try.prog 23 #[.int .i64 a, .int .i64 b] w fun e w' => e = .returned (.tuple #[.int .i64 (upI a b), .bool (quoOk a b)]) ∧ w = w' := by
  have ha' := Lib.hid ha
  by_cases h : quoOk a b = true
  · have h0 : ¬ b = 0 := quoOk_ne h
    have h0' : (b == 0) = false := by simpa using h0
    have bm := Lib.hid (back_mul ha h)
    have sg := Lib.hid (@tmod_sign a b)
    unfold I64 at ha hb
    by_cases hl : a = -9223372036854775808
    · have h1 : (b == -1) = false := by
        subst hl; simp [quoOk] at h; simpa using h.2
      subst hl
      go_enter Try.func23, Try.ntmps23
      go_wp2
      all_goals
        have e := Int.neg_tdiv 9223372036854775808 b
        simp only [← e, bm.out] at *
        have bm' := bm.out
        have sg' := sg.out
        go_ret2
        have sl : (-9223372036854775808 : Int) < 0 := by decide
      · refine ⟨ret2 (cei_on ha'.out h ?_) h.symm, rfl⟩
        rintro ⟨c, _⟩; omega
      · rename_i h5 h6
        refine ⟨ret2 (cei_off ha'.out h (by omega) ?_) h.symm, rfl⟩
        rw [sg' (by omega)]
        simpa [bne] using h6.2
      · rename_i h5 h6
        refine ⟨ret2 (cei_on ha'.out h ?_) h.symm, rfl⟩
        rintro ⟨c, d⟩
        rw [sg' c] at d
        rcases h6 with h6 | h6
        · simp [bne] at h6; exact c (by have := Int.neg_tmod 9223372036854775808 b; omega)
        · revert h6 d; by_cases hb0 : b < 0 <;> simp [hb0]
    · have hl' : (a == -9223372036854775808) = false := by simpa using hl
      go_enter Try.func23, Try.ntmps23
      go_wp2
      all_goals
        have bm' := bm.out
        have sg' := sg.out
        go_ret2
      · refine ⟨ret2 (cei_on ha'.out h ?_) h.symm, rfl⟩
        rintro ⟨c, _⟩; omega
      · rename_i h5 h6
        refine ⟨ret2 (cei_off ha'.out h (by omega) ?_) h.symm, rfl⟩
        rw [sg' (by omega)]
        simpa [bne] using h6.2
      · rename_i h5 h6
        refine ⟨ret2 (cei_on ha'.out h ?_) h.symm, rfl⟩
        rintro ⟨c, d⟩
        rw [sg' c] at d
        rcases h6 with h6 | h6
        · simp [bne] at h6; omega
        · revert h6 d; by_cases hb0 : b < 0 <;> by_cases ha0 : a < 0 <;> simp [hb0, ha0]
  · have h' : quoOk a b = false := by simpa using h
    by_cases hb0 : b = 0
    · subst hb0
      go_enter Try.func23, Try.ntmps23
      go_wp2
      go_ret2
      exact ⟨ret2 (by rw [upI, if_neg h]) h'.symm, rfl⟩
    · have : a = -9223372036854775808 ∧ b = -1 := by
        simp [quoOk, hb0] at h'; exact h'
      obtain ⟨rfl, rfl⟩ := this
      go_enter Try.func23, Try.ntmps23
      go_wp2
      go_ret2
      exact ⟨ret2 (by rw [upI, if_neg h]) h'.symm, rfl⟩


set_option maxHeartbeats 400000 in
theorem rabs_any (a : Int) (ha : I64 a) (w : World) :
    Calls Try.prog 27 #[.int .i64 a] w fun e w' => e = .returned (.int .u64 (absI a)) ∧ w = w' := by
  unfold I64 at ha
  by_cases hl : a = -9223372036854775808
  · subst hl
    go_enter Try.func27, Try.ntmps27
    go_wp2
    go_ret
    exact ⟨rfl, rfl⟩
  · have hl' : (a == -9223372036854775808) = false := by simpa using hl
    go_enter Try.func27, Try.ntmps27
    go_wp2
    all_goals
      go_ret
      refine ⟨ret1 ?_, rfl⟩
    · rw [absI, if_pos (by assumption)]
    · rw [absI, if_neg (by omega)]
end Go.Proofs.Ytcenicbmadbamaa.Span
