/- The contract of the reference Sum over a slice of at most 1000 numbers, and of the works function of layer 1. -/
import Derived.Test.YtcenicbmadbamaaSpan4
namespace Go.Proofs.Ytcenicbmadbamaa.Span
open Go.Proofs.Ytcenicbmadbamaa.Arith
open Go.RowKit (wrap64 Below intOf)

theorem divI_w (a : Int) : divI a 4294967296 = a / 4294967296 := divI_pos (by decide)
theorem w_I64 : I64 4294967296 := by unfold I64; omega
set_option maxHeartbeats 1000000 in
theorem rsum_any (b off n c : Nat) (zs : List Int) (hn : n ≤ zs.length) (hm : n ≤ 1000) (w : World) (hc : ∀ i, i < n → w.cell? ⟨b, off + i, none⟩ = some (.int .i64 (zs[i]?.getD 0))) (hz : ∀ x ∈ zs, I64 x) :
    Calls Try.prog 12 #[.slice (some ⟨b, off, none⟩) n c] w fun e w' => e = .returned (.tuple #[.int .i64 (fit (total (zs.take n))), .bool (inr (total (zs.take n)))]) ∧ w = w' := by
  go_enter Try.func12, Try.ntmps12
  go_wp2_with fail
  go_loop [4, 5, 6] (fun u v i => ∃ (k : Nat) (hi lo : Int), k ≤ n ∧ i = .int .i64 k ∧ u = .int .i64 hi ∧ v = .int .i64 lo ∧ RowKit.Hid (hi * 4294967296 + lo = total (zs.take k)) ∧ 0 ≤ lo ∧ lo ≤ k * 4294967296 ∧ -(k : Int) * 2147483648 ≤ hi ∧ hi ≤ (k : Int) * 2147483648) (fun _ _ i => n - (intOf i).toNat)
  case atStart => exact ⟨0, 0, 0, by omega, rfl, rfl, rfl, Lib.hid (by simp [total]), by omega, by omega, by omega, by omega⟩
  case round =>
    obtain ⟨k, hi, lo, hk, rfl, rfl, rfl, htot, hl0, hl1, hh0, hh1⟩ := hrel
    by_cases hlt : k < n
    · obtain ⟨x, hcell, hx, hnext⟩ : ∃ x, w.cell? ⟨b, off + k, none⟩ = some (.int .i64 x) ∧ I64 x ∧ RowKit.Hid (total (zs.take (k + 1)) = total (zs.take k) + x) :=
        ⟨_, hc k hlt, getD_I64 zs hz k, Lib.hid (total_take zs k (Nat.lt_of_lt_of_le hlt hn))⟩
      have hx' := Lib.hid hx
      clear hc
      unfold I64 at hx
      go_wp2_with fail
      refine (rdiv_any _ _ hx'.out w_I64 _).mono ?_
      rintro e w1 ⟨rfl, rfl⟩
      rw [divI_w]
      generalize quoOk x 4294967296 = q1
      go_wp2_with fail
      go_round
      case rel =>
        have h1 := htot.out
        have h2 := hnext.out
        exact ⟨k + 1, hi + x / 4294967296, lo + (x - x / 4294967296 * 4294967296), by omega, by go_num, rfl, rfl, Lib.hid (by rw [h2]; omega), by omega, by omega, by omega, by omega⟩
      case measure => simp [intOf]; omega
    · obtain rfl : k = n := by omega
      have hl : I64 lo := by unfold I64; omega
      go_wp2_with fail
      refine (rdiv_any _ _ hl w_I64 _).mono ?_
      rintro e w1 ⟨rfl, rfl⟩
      rw [divI_w]
      generalize quoOk lo 4294967296 = q1
      have h1 := htot
      by_cases g1 : hi + lo / 4294967296 < -2147483648
      · go_wp2_with fail
        go_ret2
        exact ⟨over_any (by have := h1.out; unfold I64; omega), rfl⟩
      · by_cases g2 : 2147483647 < hi + lo / 4294967296
        · go_wp2_with fail
          go_ret2
          exact ⟨over_any (by have := h1.out; unfold I64; omega), rfl⟩
        · go_wp2_with fail
          go_ret2
          refine ⟨?_, rfl⟩
          have h2 := h1.out
          have hin : I64 (total (List.take k zs)) := by unfold I64; omega
          refine ret2 ?_ (inr_of hin).symm
          rw [fit_of hin, ← h2]
          omega

theorem fit_add_1 : fit (9223372036854775807 + 1) = 0 := rfl
theorem inr_add_1 : inr (9223372036854775807 + 1) = false := rfl
theorem div_7 : divI (-7) 2 = -4 := rfl
theorem ok_7 : quoOk (-7) 2 = true := rfl
theorem great_I64 : I64 9223372036854775807 := by unfold I64; omega
theorem I64_lit1 : I64 1 := by unfold I64; omega
theorem I64_lit7 : I64 (-7) := by unfold I64; omega
theorem I64_lit3 : I64 (-3) := by unfold I64; omega
theorem I64_lit0 : I64 0 := by unfold I64; omega
theorem I64_lit2 : I64 2 := by unfold I64; omega
theorem sum3 : total (List.take 3 [9223372036854775807, 1, -1]) = 9223372036854775807 := rfl
theorem mid_3 : ((-3 : Int) + 0) / 2 = -2 := rfl
theorem fit_g : fit 9223372036854775807 = 9223372036854775807 := rfl
theorem inr_g : inr 9223372036854775807 = true := rfl

set_option maxHeartbeats 2000000 in
theorem works_any (w : World) :
    Calls Try.prog 13 #[] w fun e w' => e = .returned (.bool true) ∧ Below w.heap.size w w' := by
  go_enter Try.func13, Try.ntmps13
  go_wp2_with fail
  refine (add_any _ _ great_I64 I64_lit1 _).mono ?_
  rintro e w1 ⟨rfl, rfl⟩
  rw [fit_add_1, inr_add_1]
  go_wp2_with fail
  refine (div_any _ _ I64_lit7 I64_lit2 _).mono ?_
  rintro e w1 ⟨rfl, n1, rfl⟩
  rw [div_7, ok_7]
  go_wp2_with fail
  refine (sum_any w.heap.size 0 3 3 [9223372036854775807, 1, -1] (by decide) (by decide) _ (by simp) ?_ ?_).mono ?_
  · intro i hi
    rw [World.cell?_alloc_at _ _ _ _ (by simp)]
    rcases (by omega : i = 0 ∨ i = 1 ∨ i = 2) with rfl | rfl | rfl <;> rfl
  · intro x hx
    simp at hx
    unfold I64
    omega
  rintro e w1 ⟨rfl, hb1⟩
  rw [sum3, fit_g, inr_g]
  have hb0 : Below w.heap.size w w1 := ((below_dN (Below.refl _ _) _).alloc (by simp) _).trans (hb1.mono (by simp))
  clear hb1
  go_wp2_with fail
  refine (mid_any _ _ I64_lit3 I64_lit0 _).mono ?_
  rintro e w2 ⟨rfl, rfl⟩
  rw [mid_3]
  go_wp2_with fail
  go_ret
  exact ⟨rfl, hb0⟩
end Go.Proofs.Ytcenicbmadbamaa.Span
