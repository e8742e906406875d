/- Contracts of span.Abs, math/bits.Mul64, span.Mul: each for every input. -/
import Derived.Test.YtpbabpbinojodaaDoorChecked
import Derived.Test.YtpbabpbinojodaaDoorArith
import Derived.WalkKit
import Derived.WalkLawsBesides
import Derived.WalkSpells
import Derived.Lib.Hide
import Derived.Outline
import Derived.BigQuiet
import Derived.Deep.QuietTactic
import Derived.Lib.Mul64
import Derived.Laws.Bits64b
namespace Go.Proofs.YtpbabpbinojodaaDoor.Span
open Go.Proofs.YtpbabpbinojodaaDoor.Arith
open Go.RowKit (wrap64)

theorem ret2 {k : IntKind} {a b : Int} {p q : Bool} (h : a = b) (h' : p = q) : Ending.returned (.tuple #[.int k a, .bool p]) = .returned (.tuple #[.int k b, .bool q]) := by rw [h, h']
theorem ret1 {k : IntKind} {a b : Int} (h : a = b) : Ending.returned (.int k a) = .returned (.int k b) := by rw [h]
theorem over_any {x : Int} (h : ¬ I64 x) : Ending.returned (.tuple #[.int .i64 0, .bool false]) = .returned (.tuple #[.int .i64 (fit x), .bool (inr x)]) := ret2 (fit_not h).symm (inr_not h).symm
theorem fits_any {x : Int} (h : I64 x) : Ending.returned (.tuple #[.int .i64 (wrap64 x), .bool true]) = .returned (.tuple #[.int .i64 (fit x), .bool (inr x)]) :=
  ret2 (by rw [fit_of h]; exact IntWalk.wrap64_in _ h) (inr_of h).symm
theorem abs_any (a : Int) (ha : I64 a) (w : World) :
    Calls Tryd.prog 35 #[.int .i64 a] w fun e w' => e = .returned (.int .u64 (absI a)) ∧ w = w' := by
  unfold I64 at ha
  by_cases h1 : a < 0
  · go_enter Tryd.func35, Tryd.ntmps35
    go_wp2
    go_ret
    exact ⟨ret1 (by simp only [IntKind.wrap_u64]; rw [absI, if_pos h1]; omega), rfl⟩
  · go_enter Tryd.func35, Tryd.ntmps35
    go_wp2
    go_ret
    exact ⟨ret1 (by rw [absI, if_neg (by omega)]), rfl⟩
theorem fits_in {x : Int} (h : I64 x) : Ending.returned (.tuple #[.int .i64 x, .bool true]) = .returned (.tuple #[.int .i64 (fit x), .bool (inr x)]) :=
  ret2 (fit_of h).symm (inr_of h).symm
theorem ne_true {x y : Int} (h : x ≠ y) : (x != y) = true := by rw [bne_iff_ne]; exact h
theorem ne_false {x y : Int} (h : x = y) : (x != y) = false := by subst h; simp
theorem eq_true' {x y : Int} (h : x = y) : (x == y) = true := by subst h; simp
theorem eq_false' {x y : Int} (h : x ≠ y) : (x == y) = false := by simpa using h
namespace M
theorem maskN (a : Nat) (ha : a < 18446744073709551616) : bits .and .u64 (a : Int) 4294967295 = ((a % 4294967296 : Nat) : Int) := by
  have h := bits_and_u64_nat a 4294967295 ha (by omega)
  have e : a &&& 4294967295 = a % 4294967296 := Nat.and_two_pow_sub_one_eq_mod a 32
  rw [e] at h
  exact h
theorem divN (a : Nat) : (a : Int) / 4294967296 = ((a / 4294967296 : Nat) : Int) := by omega
theorem mulN (a b : Nat) : (a : Int) * (b : Int) = ((a * b : Nat) : Int) := (Int.natCast_mul a b).symm
theorem addN (a b : Nat) : (a : Int) + (b : Int) = ((a + b : Nat) : Int) := (Int.natCast_add a b).symm
theorem wrapN (a : Nat) (ha : a < 18446744073709551616) : IntKind.u64.wrap (a : Int) = (a : Int) := by rw [IntKind.wrap_u64]; omega
theorem wrapM (a : Nat) : IntKind.u64.wrap (a : Int) = ((a % 18446744073709551616 : Nat) : Int) := by rw [IntKind.wrap_u64]; omega
end M
theorem mul64_nat (x y : Nat) (hx : x < 18446744073709551616) (hy : y < 18446744073709551616) (w : World) :
    Calls Tryd.prog 34 #[.int .u64 x, .int .u64 y] w fun e w' => e = .returned (.tuple #[.int .u64 ((x * y / 18446744073709551616 : Nat) : Int), .int .u64 ((x * y % 18446744073709551616 : Nat) : Int)]) ∧ w = w' := by
  obtain ⟨bd, bt, bw, hhi⟩ := Lib.mul64_hi x y hx hy
  have ba := Lib.half_mul_le (a := x / 4294967296) (b := y / 4294967296) (by omega) (by omega)
  have bb := Lib.half_mul_le (a := x / 4294967296) (b := y % 4294967296) (by omega) (by omega)
  have bc := Lib.half_mul_le (a := x % 4294967296) (b := y / 4294967296) (by omega) (by omega)
  have ba' : x / 4294967296 * (y / 4294967296) < 18446744073709551616 := by omega
  have bb' : x / 4294967296 * (y % 4294967296) < 18446744073709551616 := by omega
  have bc' : x % 4294967296 * (y / 4294967296) < 18446744073709551616 := by omega
  have bh1 : x / 4294967296 * (y / 4294967296) + (x / 4294967296 * (y % 4294967296) + x % 4294967296 * (y % 4294967296) / 4294967296) / 4294967296 < 18446744073709551616 := by omega
  have bh : x / 4294967296 * (y / 4294967296) + (x / 4294967296 * (y % 4294967296) + x % 4294967296 * (y % 4294967296) / 4294967296) / 4294967296 + ((x / 4294967296 * (y % 4294967296) + x % 4294967296 * (y % 4294967296) / 4294967296) % 4294967296 + x % 4294967296 * (y / 4294967296)) / 4294967296 < 18446744073709551616 := by omega
  go_enter Tryd.func34, Tryd.ntmps34
  go_wp2
  simp only [M.maskN x hx, M.maskN y hy, M.divN, M.mulN, M.addN, M.wrapN _ bd, M.wrapN _ bb', M.wrapN _ bt, M.maskN _ bt, M.wrapN _ bc', M.wrapN _ bw, M.wrapN _ ba', M.wrapN _ bh1, M.wrapN _ bh, M.wrapM (x * y)]
  rw [hhi]
  go_ret2
  exact ⟨rfl, rfl⟩
theorem mul64_any (x y : Int) (hx : 0 ≤ x ∧ x < 18446744073709551616) (hy : 0 ≤ y ∧ y < 18446744073709551616) (w : World) :
    Calls Tryd.prog 34 #[.int .u64 x, .int .u64 y] w fun e w' => e = .returned (.tuple #[.int .u64 (x * y / 18446744073709551616), .int .u64 (x * y % 18446744073709551616)]) ∧ w = w' := by
  obtain ⟨m, rfl⟩ := Int.eq_ofNat_of_zero_le hx.1
  obtain ⟨n, rfl⟩ := Int.eq_ofNat_of_zero_le hy.1
  have h := mul64_nat m n (by omega) (by omega) w
  rw [Int.natCast_ediv, Int.natCast_emod, Int.natCast_mul] at h
  exact h
theorem absI_mul (a b : Int) : absI a * absI b = absI (a * b) := by
  have e : ∀ x : Int, absI x = (x.natAbs : Int) := fun x => by unfold absI; split <;> omega
  rw [e, e, e, Int.natAbs_mul, Int.natCast_mul]
theorem absI_u64 {a : Int} (h : I64 a) : 0 ≤ absI a ∧ absI a < 18446744073709551616 := by unfold I64 at h; unfold absI; split <;> omega
theorem mul_sign {a b : Int} (h : ¬ (a < 0 ↔ b < 0)) : a * b ≤ 0 := by
  by_cases ha : a < 0
  · have hb : 0 ≤ b := by
      by_cases hb : b < 0
      · exact absurd ⟨fun _ => hb, fun _ => ha⟩ h
      · omega
    exact Int.mul_nonpos_of_nonpos_of_nonneg (by omega) hb
  · have hb : b < 0 := by
      by_cases hb : b < 0
      · exact hb
      · exact absurd ⟨fun c => absurd c ha, fun c => absurd c hb⟩ h
    exact Int.mul_nonpos_of_nonneg_of_nonpos (by omega) (by omega)
theorem mul_sign' {a b : Int} (h : a < 0 ↔ b < 0) : 0 ≤ a * b := by
  by_cases ha : a < 0
  · exact Int.mul_nonneg_of_nonpos_of_nonpos (by omega) (by have := h.1 ha; omega)
  · exact Int.mul_nonneg (by omega) (by
      by_cases hb : b < 0
      · exact absurd (h.2 hb) ha
      · omega)
theorem mul_00 (a b : Int) (ha : I64 a) (hb : I64 b) (na : ¬ a < 0) (nb : ¬ b < 0) (w : World) :
    Calls Tryd.prog 32 #[.int .i64 a, .int .i64 b] w fun e w' => e = .returned (.tuple #[.int .i64 (fit (a * b)), .bool (inr (a * b))]) ∧ w = w' := by
  have hab := Lib.hid (absI_mul a b)
  have ua := Lib.hid (absI_u64 ha)
  have ub := Lib.hid (absI_u64 hb)
  have sm : 0 ≤ a * b := mul_sign' (by simp [na, nb])
  have ta : decide (a < 0) = false := by simpa using na
  have tb : decide (b < 0) = false := by simpa using nb
  go_enter Tryd.func32, Tryd.ntmps32
  go_wp2_with fail
  refine (abs_any _ ha _).mono ?_
  rintro e w' ⟨rfl, rfl⟩
  go_wp2_with fail
  refine (abs_any _ hb _).mono ?_
  rintro e w' ⟨rfl, rfl⟩
  go_wp2_with fail
  refine (mul64_any _ _ ua.out ub.out _).mono ?_
  rintro e w' ⟨rfl, rfl⟩
  rw [hab.out]
  have hm : RowKit.Hid (absI (a * b) = absI (a * b) / 18446744073709551616 * 18446744073709551616 + absI (a * b) % 18446744073709551616) := Lib.hid (by omega)
  have hlo : 0 ≤ absI (a * b) % 18446744073709551616 ∧ absI (a * b) % 18446744073709551616 ≤ 18446744073709551615 := by omega
  have hhi : 0 ≤ absI (a * b) / 18446744073709551616 := by unfold absI; split <;> omega
  generalize absI (a * b) / 18446744073709551616 = hi at *
  generalize absI (a * b) % 18446744073709551616 = lo at *
  by_cases hz : hi = 0
  · subst hz
    by_cases hq : lo < 9223372036854775808 <;> by_cases hq2 : lo ≤ 9223372036854775808
    all_goals go_wp2_with fail
    all_goals
      have hm' := hm.out
      unfold absI at hm'
      go_ret2
      refine ⟨?_, rfl⟩
      generalize a * b = m at *
      by_cases hin : I64 m
      · first
          | (refine ret2 ?_ (inr_of hin).symm
             rw [fit_of hin]
             unfold I64 at hin
             try unfold wrap64
             split at hm' <;> omega)
          | (exfalso; unfold I64 at hin; split at hm' <;> omega)
      · first
          | exact over_any hin
          | (exfalso; unfold I64 at hin; split at hm' <;> omega)
  · have hz' := ne_true hz
    go_wp2_with fail
    have hm' := hm.out
    unfold absI at hm'
    go_ret2
    refine ⟨?_, rfl⟩
    generalize a * b = m at *
    refine over_any ?_
    unfold I64; split at hm' <;> omega
theorem mul_01 (a b : Int) (ha : I64 a) (hb : I64 b) (na : ¬ a < 0) (nb : b < 0) (w : World) :
    Calls Tryd.prog 32 #[.int .i64 a, .int .i64 b] w fun e w' => e = .returned (.tuple #[.int .i64 (fit (a * b)), .bool (inr (a * b))]) ∧ w = w' := by
  have hab := Lib.hid (absI_mul a b)
  have ua := Lib.hid (absI_u64 ha)
  have ub := Lib.hid (absI_u64 hb)
  have sm : a * b ≤ 0 := mul_sign (by simp [na, nb])
  have ta : decide (a < 0) = false := by simpa using na
  have tb : decide (b < 0) = true := by simpa using nb
  go_enter Tryd.func32, Tryd.ntmps32
  go_wp2_with fail
  refine (abs_any _ ha _).mono ?_
  rintro e w' ⟨rfl, rfl⟩
  go_wp2_with fail
  refine (abs_any _ hb _).mono ?_
  rintro e w' ⟨rfl, rfl⟩
  go_wp2_with fail
  refine (mul64_any _ _ ua.out ub.out _).mono ?_
  rintro e w' ⟨rfl, rfl⟩
  rw [hab.out]
  have hm : RowKit.Hid (absI (a * b) = absI (a * b) / 18446744073709551616 * 18446744073709551616 + absI (a * b) % 18446744073709551616) := Lib.hid (by omega)
  have hlo : 0 ≤ absI (a * b) % 18446744073709551616 ∧ absI (a * b) % 18446744073709551616 ≤ 18446744073709551615 := by omega
  have hhi : 0 ≤ absI (a * b) / 18446744073709551616 := by unfold absI; split <;> omega
  generalize absI (a * b) / 18446744073709551616 = hi at *
  generalize absI (a * b) % 18446744073709551616 = lo at *
  by_cases hz : hi = 0
  · subst hz
    by_cases hq : lo < 9223372036854775808 <;> by_cases hq2 : lo ≤ 9223372036854775808
    all_goals go_wp2_with fail
    all_goals
      have hm' := hm.out
      unfold absI at hm'
      go_ret2
      refine ⟨?_, rfl⟩
      generalize a * b = m at *
      by_cases hin : I64 m
      · first
          | (refine ret2 ?_ (inr_of hin).symm
             rw [fit_of hin]
             unfold I64 at hin
             try unfold wrap64
             split at hm' <;> omega)
          | (exfalso; unfold I64 at hin; split at hm' <;> omega)
      · first
          | exact over_any hin
          | (exfalso; unfold I64 at hin; split at hm' <;> omega)
  · have hz' := ne_true hz
    go_wp2_with fail
    have hm' := hm.out
    unfold absI at hm'
    go_ret2
    refine ⟨?_, rfl⟩
    generalize a * b = m at *
    refine over_any ?_
    unfold I64; split at hm' <;> omega
theorem mul_10 (a b : Int) (ha : I64 a) (hb : I64 b) (na : a < 0) (nb : ¬ b < 0) (w : World) :
    Calls Tryd.prog 32 #[.int .i64 a, .int .i64 b] w fun e w' => e = .returned (.tuple #[.int .i64 (fit (a * b)), .bool (inr (a * b))]) ∧ w = w' := by
  have hab := Lib.hid (absI_mul a b)
  have ua := Lib.hid (absI_u64 ha)
  have ub := Lib.hid (absI_u64 hb)
  have sm : a * b ≤ 0 := mul_sign (by simp [na, nb])
  have ta : decide (a < 0) = true := by simpa using na
  have tb : decide (b < 0) = false := by simpa using nb
  go_enter Tryd.func32, Tryd.ntmps32
  go_wp2_with fail
  refine (abs_any _ ha _).mono ?_
  rintro e w' ⟨rfl, rfl⟩
  go_wp2_with fail
  refine (abs_any _ hb _).mono ?_
  rintro e w' ⟨rfl, rfl⟩
  go_wp2_with fail
  refine (mul64_any _ _ ua.out ub.out _).mono ?_
  rintro e w' ⟨rfl, rfl⟩
  rw [hab.out]
  have hm : RowKit.Hid (absI (a * b) = absI (a * b) / 18446744073709551616 * 18446744073709551616 + absI (a * b) % 18446744073709551616) := Lib.hid (by omega)
  have hlo : 0 ≤ absI (a * b) % 18446744073709551616 ∧ absI (a * b) % 18446744073709551616 ≤ 18446744073709551615 := by omega
  have hhi : 0 ≤ absI (a * b) / 18446744073709551616 := by unfold absI; split <;> omega
  generalize absI (a * b) / 18446744073709551616 = hi at *
  generalize absI (a * b) % 18446744073709551616 = lo at *
  by_cases hz : hi = 0
  · subst hz
    by_cases hq : lo < 9223372036854775808 <;> by_cases hq2 : lo ≤ 9223372036854775808
    all_goals go_wp2_with fail
    all_goals
      have hm' := hm.out
      unfold absI at hm'
      go_ret2
      refine ⟨?_, rfl⟩
      generalize a * b = m at *
      by_cases hin : I64 m
      · first
          | (refine ret2 ?_ (inr_of hin).symm
             rw [fit_of hin]
             unfold I64 at hin
             try unfold wrap64
             split at hm' <;> omega)
          | (exfalso; unfold I64 at hin; split at hm' <;> omega)
      · first
          | exact over_any hin
          | (exfalso; unfold I64 at hin; split at hm' <;> omega)
  · have hz' := ne_true hz
    go_wp2_with fail
    have hm' := hm.out
    unfold absI at hm'
    go_ret2
    refine ⟨?_, rfl⟩
    generalize a * b = m at *
    refine over_any ?_
    unfold I64; split at hm' <;> omega
theorem mul_11 (a b : Int) (ha : I64 a) (hb : I64 b) (na : a < 0) (nb : b < 0) (w : World) :
    Calls Tryd.prog 32 #[.int .i64 a, .int .i64 b] w fun e w' => e = .returned (.tuple #[.int .i64 (fit (a * b)), .bool (inr (a * b))]) ∧ w = w' := by
  have hab := Lib.hid (absI_mul a b)
  have ua := Lib.hid (absI_u64 ha)
  have ub := Lib.hid (absI_u64 hb)
  have sm : 0 ≤ a * b := mul_sign' (by simp [na, nb])
  have ta : decide (a < 0) = true := by simpa using na
  have tb : decide (b < 0) = true := by simpa using nb
  go_enter Tryd.func32, Tryd.ntmps32
  go_wp2_with fail
  refine (abs_any _ ha _).mono ?_
  rintro e w' ⟨rfl, rfl⟩
  go_wp2_with fail
  refine (abs_any _ hb _).mono ?_
  rintro e w' ⟨rfl, rfl⟩
  go_wp2_with fail
  refine (mul64_any _ _ ua.out ub.out _).mono ?_
  rintro e w' ⟨rfl, rfl⟩
  rw [hab.out]
  have hm : RowKit.Hid (absI (a * b) = absI (a * b) / 18446744073709551616 * 18446744073709551616 + absI (a * b) % 18446744073709551616) := Lib.hid (by omega)
  have hlo : 0 ≤ absI (a * b) % 18446744073709551616 ∧ absI (a * b) % 18446744073709551616 ≤ 18446744073709551615 := by omega
  have hhi : 0 ≤ absI (a * b) / 18446744073709551616 := by unfold absI; split <;> omega
  generalize absI (a * b) / 18446744073709551616 = hi at *
  generalize absI (a * b) % 18446744073709551616 = lo at *
  by_cases hz : hi = 0
  · subst hz
    by_cases hq : lo < 9223372036854775808 <;> by_cases hq2 : lo ≤ 9223372036854775808
    all_goals go_wp2_with fail
    all_goals
      have hm' := hm.out
      unfold absI at hm'
      go_ret2
      refine ⟨?_, rfl⟩
      generalize a * b = m at *
      by_cases hin : I64 m
      · first
          | (refine ret2 ?_ (inr_of hin).symm
             rw [fit_of hin]
             unfold I64 at hin
             try unfold wrap64
             split at hm' <;> omega)
          | (exfalso; unfold I64 at hin; split at hm' <;> omega)
      · first
          | exact over_any hin
          | (exfalso; unfold I64 at hin; split at hm' <;> omega)
  · have hz' := ne_true hz
    go_wp2_with fail
    have hm' := hm.out
    unfold absI at hm'
    go_ret2
    refine ⟨?_, rfl⟩
    generalize a * b = m at *
    refine over_any ?_
    unfold I64; split at hm' <;> omega
theorem mul_any (a b : Int) (ha : I64 a) (hb : I64 b) (w : World) :
    Calls Tryd.prog 32 #[.int .i64 a, .int .i64 b] w fun e w' => e = .returned (.tuple #[.int .i64 (fit (a * b)), .bool (inr (a * b))]) ∧ w = w' := by
  by_cases na : a < 0 <;> by_cases nb : b < 0
  · exact mul_11 a b ha hb na nb w
  · exact mul_10 a b ha hb na nb w
  · exact mul_01 a b ha hb na nb w
  · exact mul_00 a b ha hb na nb w
end Go.Proofs.YtpbabpbinojodaaDoor.Span
