/- Contracts of Clamp (both) and of the document's Mul: cut from the texts of package span. -/
import Derived.Test.YtpbabpbinojodaaDoorMul
namespace Go.Proofs.YtpbabpbinojodaaDoor.SpanD
open Go.Proofs.YtpbabpbinojodaaDoor.Arith
open Go.RowKit (wrap64)
theorem ret2 {k : IntKind} {a b : Int} {p q : Bool} (h : a = b) (h' : p = q) : Ending.returned (.tuple #[.int k a, .bool p]) = .returned (.tuple #[.int k b, .bool q]) := by rw [h, h']
theorem ret1 {k : IntKind} {a b : Int} (h : a = b) : Ending.returned (.int k a) = .returned (.int k b) := by rw [h]
theorem over_any {x : Int} (h : ¬ I64 x) : Ending.returned (.tuple #[.int .i64 0, .bool false]) = .returned (.tuple #[.int .i64 (fit x), .bool (inr x)]) := ret2 (fit_not h).symm (inr_not h).symm
theorem fits_any {x : Int} (h : I64 x) : Ending.returned (.tuple #[.int .i64 (wrap64 x), .bool true]) = .returned (.tuple #[.int .i64 (fit x), .bool (inr x)]) :=
  ret2 (by rw [fit_of h]; exact IntWalk.wrap64_in _ h) (inr_of h).symm
set_option maxHeartbeats 400000 in
theorem clamp_any (x lo hi : Int) (w : World) :
    Calls Tryd.prog 28 #[.int .i64 x, .int .i64 lo, .int .i64 hi] w fun e w' => e = .returned (.int .i64 (clampI x lo hi)) ∧ w = w' := by
  by_cases h1 : x < lo
  · go_enter Tryd.func28, Tryd.ntmps28
    go_wp2
    go_ret
    exact ⟨ret1 (by rw [clampI, if_pos h1]), rfl⟩
  · by_cases h2 : hi < x
    · go_enter Tryd.func28, Tryd.ntmps28
      go_wp2
      go_ret
      exact ⟨ret1 (by rw [clampI, if_neg (by omega), if_pos (by omega)]), rfl⟩
    · go_enter Tryd.func28, Tryd.ntmps28
      go_wp2
      go_ret
      exact ⟨ret1 (by rw [clampI, if_neg (by omega), if_neg (by omega)]), rfl⟩
set_option maxHeartbeats 400000 in
theorem rclamp_any (x lo hi : Int) (w : World) :
    Calls Tryd.prog 10 #[.int .i64 x, .int .i64 lo, .int .i64 hi] w fun e w' => e = .returned (.int .i64 (clampI x lo hi)) ∧ w = w' := by
  by_cases h1 : x < lo
  · go_enter Tryd.func10, Tryd.ntmps10
    go_wp2
    go_ret
    exact ⟨ret1 (by rw [clampI, if_pos h1]), rfl⟩
  · by_cases h2 : hi < x
    · go_enter Tryd.func10, Tryd.ntmps10
      go_wp2
      go_ret
      exact ⟨ret1 (by rw [clampI, if_neg (by omega), if_pos (by omega)]), rfl⟩
    · go_enter Tryd.func10, Tryd.ntmps10
      go_wp2
      go_ret
      exact ⟨ret1 (by rw [clampI, if_neg (by omega), if_neg (by omega)]), rfl⟩
theorem ne_true {x y : Int} (h : x ≠ y) : (x != y) = true := by rw [bne_iff_ne]; exact h
theorem ne_false {x y : Int} (h : x = y) : (x != y) = false := by subst h; simp
theorem eq_true' {x y : Int} (h : x = y) : (x == y) = true := by subst h; simp
theorem eq_false' {x y : Int} (h : x ≠ y) : (x == y) = false := by simpa using h
theorem bool_or (p : Prop) [Decidable p] : p ∨ ¬ p := Decidable.em p
theorem rmul_test {a b : Int} (hb : I64 b) (h0 : b ≠ 0) (h1 : b ≠ -1) : wrap64 ((wrap64 (a * b)).tdiv b) = a ↔ I64 (a * b) := by
  have hp := wrap64_I64 (a * b)
  have hq : quoOk (wrap64 (a * b)) b = true := by simp [quoOk, h0, h1]
  rw [IntWalk.wrap64_in _ (tdiv_I64 hp hq)]
  constructor
  · intro e
    have h2 := tdiv_mul_eq (wrap64 (a * b)) b
    rw [e] at h2
    have h3 := Int.natAbs_tmod (wrap64 (a * b)) b
    have h4 : (wrap64 (a * b)).natAbs % b.natAbs < b.natAbs := Nat.mod_lt _ (by omega)
    generalize a * b = m at *
    generalize (wrap64 m).tmod b = r at *
    unfold wrap64 I64 at *
    omega
  · intro h
    rw [IntWalk.wrap64_in _ h]
    exact Int.mul_tdiv_cancel a h0
set_option maxHeartbeats 1000000 in
theorem rmul_any (a b : Int) (ha : I64 a) (hb : I64 b) (w : World) :
    Calls Tryd.prog 17 #[.int .i64 a, .int .i64 b] w fun e w' => e = .returned (.tuple #[.int .i64 (fit (a * b)), .bool (inr (a * b))]) ∧ w = w' := by
  by_cases z : a = 0 ∨ b = 0
  · have hm : a * b = 0 := by rcases z with rfl | rfl <;> simp
    rw [hm]
    rcases z with rfl | rfl
    · go_enter Tryd.func17, Tryd.ntmps17
      go_wp2
      all_goals
        go_ret2
        exact ⟨rfl, rfl⟩
    · by_cases za : a = 0
      · subst za
        go_enter Tryd.func17, Tryd.ntmps17
        go_wp2
        all_goals
          go_ret2
          exact ⟨rfl, rfl⟩
      · have za' := eq_false' za
        go_enter Tryd.func17, Tryd.ntmps17
        go_wp2
        all_goals
          go_ret2
          exact ⟨rfl, rfl⟩
  · have za : a ≠ 0 := fun h => z (.inl h)
    have zb : b ≠ 0 := fun h => z (.inr h)
    have za' := eq_false' za
    have zb' := eq_false' zb
    clear z
    by_cases m1 : a = -1 ∨ b = -1
    · by_cases l : a = -9223372036854775808 ∨ b = -9223372036854775808
      · have : a = -1 ∧ b = -9223372036854775808 ∨ a = -9223372036854775808 ∧ b = -1 := by omega
        rcases this with ⟨rfl, rfl⟩ | ⟨rfl, rfl⟩
        · go_enter Tryd.func17, Tryd.ntmps17
          go_wp2
          go_ret2
          exact ⟨rfl, rfl⟩
        · go_enter Tryd.func17, Tryd.ntmps17
          go_wp2
          go_ret2
          exact ⟨rfl, rfl⟩
      · have hin : I64 (a * b) := by
          unfold I64 at *
          rcases m1 with rfl | rfl <;> omega
        have la' := eq_false' (fun h => l (.inl h) : a ≠ -9223372036854775808)
        have lb' := eq_false' (fun h => l (.inr h) : b ≠ -9223372036854775808)
        clear l
        rcases m1 with rfl | rfl
        · go_enter Tryd.func17, Tryd.ntmps17
          go_wp2
          all_goals
            go_ret2
            refine ⟨ret2 ?_ (inr_of hin).symm, rfl⟩
            rw [fit_of hin]
            unfold I64 at hin
            first
              | omega
              | (rw [IntWalk.wrap64_in _ (by omega)]; try omega)
        · by_cases m2 : a = -1
          · subst m2
            go_enter Tryd.func17, Tryd.ntmps17
            go_wp2
            all_goals
              go_ret2
              exact ⟨rfl, rfl⟩
          · have m2' := eq_false' m2
            go_enter Tryd.func17, Tryd.ntmps17
            go_wp2
            all_goals
              go_ret2
              refine ⟨ret2 ?_ (inr_of hin).symm, rfl⟩
              rw [fit_of hin]
              unfold I64 at hin
              first
                | omega
                | (rw [IntWalk.wrap64_in _ (by omega)]; try omega)
    · have ma' := eq_false' (fun h => m1 (.inl h) : a ≠ -1)
      have hb1 : b ≠ -1 := fun h => m1 (.inr h)
      have mb' := eq_false' hb1
      clear m1
      have T := rmul_test (a := a) hb zb hb1
      by_cases hin : I64 (a * b)
      · have T2 := ne_false (T.2 hin)
        clear T
        go_enter Tryd.func17, Tryd.ntmps17
        go_wp2
        all_goals
          go_ret2
          exact ⟨fits_any hin, rfl⟩
      · have T2 := ne_true (fun e => hin (T.1 e))
        clear T
        go_enter Tryd.func17, Tryd.ntmps17
        go_wp2
        all_goals
          go_ret2
          exact ⟨over_any hin, rfl⟩
end Go.Proofs.YtpbabpbinojodaaDoor.SpanD
