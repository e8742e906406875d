/- Contracts of the reference Mul and of the 128 bit sum (plus, narrow): each for every input within its bounds. -/
import Derived.Test.YtcenicbmadbamaaSpan2
namespace Go.Proofs.Ytcenicbmadbamaa.Span
open Go.Proofs.Ytcenicbmadbamaa.Arith
open Go.RowKit (wrap64 Below)

theorem rmul_test {a b : Int} (hb : I64 b) (h0 : b ≠ 0) (h1 : b ≠ -1) : wrap64 ((wrap64 (a * b)).tdiv b) = a ↔ I64 (a * b) := by
  have hp := wrap64_I64 (a * b)
  have hq : quoOk (wrap64 (a * b)) b = true := by simp [quoOk, h0, h1]
  rw [IntWalk.wrap64_in _ (tdiv_I64 hp hq)]
  constructor
  · intro e
    have h2 := tdiv_mul_eq (wrap64 (a * b)) b
    rw [e] at h2
    have h3 := Int.natAbs_tmod (wrap64 (a * b)) b
    have h4 : (wrap64 (a * b)).natAbs % b.natAbs < b.natAbs := Nat.mod_lt _ (by omega)
    generalize a * b = m at *
    generalize (wrap64 m).tmod b = r at *
    unfold wrap64 I64 at *
    omega
  · intro h
    rw [IntWalk.wrap64_in _ h]
    exact Int.mul_tdiv_cancel a h0

set_option maxHeartbeats 1000000 in
theorem rmul_any (a b : Int) (ha : I64 a) (hb : I64 b) (w : World) :
    Calls Try.prog 31 #[.int .i64 a, .int .i64 b] w fun e w' => e = .returned (.tuple #[.int .i64 (fit (a * b)), .bool (inr (a * b))]) ∧ w = w' := by
  by_cases z : a = 0 ∨ b = 0
  · have hm : a * b = 0 := by rcases z with rfl | rfl <;> simp
    rw [hm]
    rcases z with rfl | rfl
    · go_enter Try.func31, Try.ntmps31
      go_wp2
      all_goals
        go_ret2
        exact ⟨rfl, rfl⟩
    · by_cases za : a = 0
      · subst za
        go_enter Try.func31, Try.ntmps31
        go_wp2
        all_goals
          go_ret2
          exact ⟨rfl, rfl⟩
      · have za' := eq_false' za
        go_enter Try.func31, Try.ntmps31
        go_wp2
        all_goals
          go_ret2
          exact ⟨rfl, rfl⟩
  · have za : a ≠ 0 := fun h => z (.inl h)
    have zb : b ≠ 0 := fun h => z (.inr h)
    have za' := eq_false' za
    have zb' := eq_false' zb
    clear z
    by_cases m1 : a = -1 ∨ b = -1
    · by_cases l : a = -9223372036854775808 ∨ b = -9223372036854775808
      · have : a = -1 ∧ b = -9223372036854775808 ∨ a = -9223372036854775808 ∧ b = -1 := by omega
        rcases this with ⟨rfl, rfl⟩ | ⟨rfl, rfl⟩
        · go_enter Try.func31, Try.ntmps31
          go_wp2
          go_ret2
          exact ⟨rfl, rfl⟩
        · go_enter Try.func31, Try.ntmps31
          go_wp2
          go_ret2
          exact ⟨rfl, rfl⟩
      · have hin : I64 (a * b) := by
          unfold I64 at *
          rcases m1 with rfl | rfl <;> omega
        have la' := eq_false' (fun h => l (.inl h) : a ≠ -9223372036854775808)
        have lb' := eq_false' (fun h => l (.inr h) : b ≠ -9223372036854775808)
        clear l
        rcases m1 with rfl | rfl
        · go_enter Try.func31, Try.ntmps31
          go_wp2
          all_goals
            go_ret2
            refine ⟨ret2 ?_ (inr_of hin).symm, rfl⟩
            rw [fit_of hin]
            unfold I64 at hin
            first
              | omega
              | (rw [IntWalk.wrap64_in _ (by omega)]; try omega)
        · by_cases m2 : a = -1
          · subst m2
            go_enter Try.func31, Try.ntmps31
            go_wp2
            all_goals
              go_ret2
              exact ⟨rfl, rfl⟩
          · have m2' := eq_false' m2
            go_enter Try.func31, Try.ntmps31
            go_wp2
            all_goals
              go_ret2
              refine ⟨ret2 ?_ (inr_of hin).symm, rfl⟩
              rw [fit_of hin]
              unfold I64 at hin
              first
                | omega
                | (rw [IntWalk.wrap64_in _ (by omega)]; try omega)
    · have ma' := eq_false' (fun h => m1 (.inl h) : a ≠ -1)
      have hb1 : b ≠ -1 := fun h => m1 (.inr h)
      have mb' := eq_false' hb1
      clear m1
      have T := rmul_test (a := a) hb zb hb1
      by_cases hin : I64 (a * b)
      · have T2 := ne_false (T.2 hin)
        clear T
        go_enter Try.func31, Try.ntmps31
        go_wp2
        all_goals
          go_ret2
          exact ⟨fits_any hin, rfl⟩
      · have T2 := ne_true (fun e => hin (T.1 e))
        clear T
        go_enter Try.func31, Try.ntmps31
        go_wp2
        all_goals
          go_ret2
          exact ⟨over_any hin, rfl⟩


/-! ### 128 bits -/
theorem run_add (x y : Int) (hx : 0 ≤ x) (hy : 0 ≤ y) (w : World) :
    Sem.run Try.prog (callFunc 36 #[.int .u64 x, .int .u64 y, .int .u64 0]) w =
      .ok (.value (.tuple #[.int .u64 ((x + y) % 18446744073709551616), .int .u64 ((x + y) / 18446744073709551616)])) w := by
  rw [run_callFunc_extern Try.func36 (e := add64Entry) (by kernel_rfl) (by kernel_rfl) (by kernel_rfl) (by kernel_rfl), run_add64 x y 0 hx hy (by decide) (by decide)]
  rw [Int.add_zero]
  rfl

/-- A number of 128 bits as it lies in a 'wide'. -/
def wideHi (T : Int) : Int := T / 18446744073709551616
def wideLo (T : Int) : Int := T % 18446744073709551616

set_option maxHeartbeats 1000000 in
theorem plus_any (T x : Int) (hT : -4611686018427387904 * 18446744073709551616 ≤ T ∧ T ≤ 4611686018427387904 * 18446744073709551616) (hx : I64 x) (w : World) :
    Calls Try.prog 32 #[.agg #[.int .i64 (wideHi T), .int .u64 (wideLo T)], .int .i64 x] w fun e w' => e = .returned (.agg #[.int .i64 (wideHi (T + x)), .int .u64 (wideLo (T + x))]) ∧ Below w.heap.size w w' := by
  have b1 : 0 ≤ wideLo T ∧ wideLo T ≤ 18446744073709551615 := by unfold wideLo; omega
  have b2 : -4611686018427387904 ≤ wideHi T ∧ wideHi T ≤ 4611686018427387904 := by unfold wideHi; omega
  have b3 : 0 ≤ IntKind.u64.wrap x := by rw [IntKind.wrap_u64]; omega
  have hadd := run_add (wideLo T) (IntKind.u64.wrap x) b1.1 b3
  have e1 : RowKit.Hid (wideHi T * 18446744073709551616 + wideLo T = T) := Lib.hid (by unfold wideHi wideLo; omega)
  have e2 := Lib.hid (IntKind.wrap_u64 x)
  unfold I64 at hx
  go_enter Try.func32, Try.ntmps32
  go_wp2
  have x1 := e1.out
  have x2 := e2.out
  have h1 : (wideLo T + IntKind.u64.wrap x) % 18446744073709551616 = wideLo (T + x) := by unfold wideLo at *; omega
  have h2 : wrap64 (wideHi T + x / 9223372036854775808 + wrap64 ((wideLo T + IntKind.u64.wrap x) / 18446744073709551616)) = wideHi (T + x) := by
    rw [IntWalk.wrap64_in ((wideLo T + IntKind.u64.wrap x) / 18446744073709551616) (by omega)]
    rw [IntWalk.wrap64_in _ (by omega)]
    unfold wideHi at *
    unfold wideLo at *
    omega
  exact bodyPost_ret (v := .agg #[.int .i64 (wideHi (T + x)), .int .u64 (wideLo (T + x))]) (by simp [results, Try.results32, go_sem, h1, h2]) rfl ⟨rfl, ((Below.refl _ _).alloc (Nat.le_refl _) _).alloc (by simp) _⟩

set_option maxHeartbeats 1000000 in
theorem narrow_any (T : Int) (hT : -4611686018427387904 * 18446744073709551616 ≤ T ∧ T ≤ 4611686018427387904 * 18446744073709551616) (w : World) :
    Calls Try.prog 33 #[.agg #[.int .i64 (wideHi T), .int .u64 (wideLo T)]] w fun e w' => e = .returned (.tuple #[.int .i64 (fit T), .bool (inr T)]) ∧ Below w.heap.size w w' := by
  have b1 : 0 ≤ wideLo T ∧ wideLo T ≤ 18446744073709551615 := by unfold wideLo; omega
  have b2 : -4611686018427387904 ≤ wideHi T ∧ wideHi T ≤ 4611686018427387904 := by unfold wideHi; omega
  have e1 : RowKit.Hid (wideHi T * 18446744073709551616 + wideLo T = T) := Lib.hid (by unfold wideHi wideLo; omega)
  have hw : (wideHi T != wrap64 (wideLo T) / 9223372036854775808) = !(inr T) := by
    have x1 := e1.out
    by_cases hin : I64 T
    · rw [inr_of hin]; refine ne_false ?_; unfold wrap64; unfold I64 at hin; omega
    · rw [inr_not hin]; refine ne_true ?_; unfold wrap64; unfold I64 at hin; omega
  have hw' : I64 T → wrap64 (wideLo T) = T := by
    have x1 := e1.out
    intro hin; unfold wrap64; unfold I64 at hin; omega
  by_cases hin : I64 T
  · rw [inr_of hin] at hw
    have h3 := Lib.hid (hw' hin)
    clear hw'
    go_enter Try.func33, Try.ntmps33
    go_wp2
    go_ret2
    exact ⟨ret2 (by rw [fit_of hin, h3.out]) (inr_of hin).symm, (Below.refl _ _).alloc (Nat.le_refl _) _⟩
  · rw [inr_not hin] at hw
    clear hw'
    go_enter Try.func33, Try.ntmps33
    go_wp2
    go_ret2
    exact ⟨over_any hin, (Below.refl _ _).alloc (Nat.le_refl _) _⟩

end Go.Proofs.Ytcenicbmadbamaa.Span
