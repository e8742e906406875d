/- The walks of the laws of layer 1: each returns true and writes nothing that was there. -/
import Derived.Test.YtcenicbmadbamaaSpan5
namespace Go.Proofs.Ytcenicbmadbamaa.Span
open Go.Proofs.Ytcenicbmadbamaa.Arith
open Go.RowKit (wrap64 Below intOf)

theorem bool_same (b : Bool) : (b == b) = true := by simp
theorem int_same (a : Int) : (a == a) = true := by simp

set_option maxHeartbeats 1000000 in
theorem adds_walk (a b : Int) (ha : I64 a) (hb : I64 b) (w : World) :
    Calls Try.prog 4 #[.int .i64 a, .int .i64 b] w fun e w' => e = .returned (.bool true) ∧ Below w.heap.size w w' := by
  go_enter Try.func4, Try.ntmps4
  go_wp2_with (first
    | (go_at_call 14; refine (add_any _ _ ha hb _).mono ?_; rintro e w' ⟨rfl, rfl⟩)
    | (go_at_call 15; refine (radd_any _ _ ha hb _).mono ?_; rintro e w' ⟨rfl, rfl⟩)
    | (go_at_call 16; refine (sub_any _ _ ha hb _).mono ?_; rintro e w' ⟨rfl, rfl⟩)
    | (go_at_call 17; refine (rsub_any _ _ ha hb _).mono ?_; rintro e w' ⟨rfl, rfl⟩)
    | (go_at_call 13; refine (works_any _).mono ?_; rintro e w' ⟨rfl, hbw⟩))
  go_ret
  exact ⟨rfl, by assumption⟩

set_option maxHeartbeats 1000000 in
theorem times_walk (a b : Int) (ha : I64 a) (hb : I64 b) (w : World) :
    Calls Try.prog 9 #[.int .i64 a, .int .i64 b] w fun e w' => e = .returned (.bool true) ∧ Below w.heap.size w w' := by
  go_enter Try.func9, Try.ntmps9
  go_wp2_with (first
    | (go_at_call 30; refine (mul_any _ _ ha hb _).mono ?_; rintro e w' ⟨rfl, rfl⟩)
    | (go_at_call 31; refine (rmul_any _ _ ha hb _).mono ?_; rintro e w' ⟨rfl, rfl⟩)
    | (go_at_call 13; refine (works_any _).mono ?_; rintro e w' ⟨rfl, hbw⟩))
  go_ret
  exact ⟨rfl, by assumption⟩

set_option maxHeartbeats 1000000 in
theorem divides_walk (a b : Int) (ha : I64 a) (hb : I64 b) (w : World) :
    Calls Try.prog 6 #[.int .i64 a, .int .i64 b] w fun e w' => e = .returned (.bool true) ∧ Below w.heap.size w w' := by
  go_enter Try.func6, Try.ntmps6
  go_wp2_with (first
    | (go_at_call 20; refine (div_any _ _ ha hb _).mono ?_; rintro e w' ⟨rfl, n1, rfl⟩)
    | (go_at_call 21; refine (rdiv_any _ _ ha hb _).mono ?_; rintro e w' ⟨rfl, rfl⟩)
    | (go_at_call 22; refine (up_any _ _ ha hb _).mono ?_; rintro e w' ⟨rfl, n2, rfl⟩)
    | (go_at_call 23; refine (rup_any _ _ ha hb _).mono ?_; rintro e w' ⟨rfl, rfl⟩)
    | (go_at_call 13; refine (works_any _).mono ?_; rintro e w' ⟨rfl, hbw⟩))
  go_ret
  refine ⟨rfl, ?_⟩
  refine Below.trans (below_dN (below_dN (Below.refl _ _) _) _) (b := (w.drewN n1).drewN n2) ?_
  simpa using hbw

set_option maxHeartbeats 1000000 in
theorem clamps_walk (x lo hi : Int) (w : World) :
    Calls Try.prog 5 #[.int .i64 x, .int .i64 lo, .int .i64 hi] w fun e w' => e = .returned (.bool true) ∧ Below w.heap.size w w' := by
  go_enter Try.func5, Try.ntmps5
  go_wp2_with (first
    | (go_at_call 18; refine (clamp_any _ _ _ _).mono ?_; rintro e w' ⟨rfl, rfl⟩)
    | (go_at_call 19; refine (rclamp_any _ _ _ _).mono ?_; rintro e w' ⟨rfl, rfl⟩)
    | (go_at_call 13; refine (works_any _).mono ?_; rintro e w' ⟨rfl, hbw⟩))
  go_ret
  exact ⟨rfl, by assumption⟩

set_option maxHeartbeats 1000000 in
theorem mids_walk (a b : Int) (ha : I64 a) (hb : I64 b) (w : World) :
    Calls Try.prog 7 #[.int .i64 a, .int .i64 b] w fun e w' => e = .returned (.bool true) ∧ Below w.heap.size w w' := by
  go_enter Try.func7, Try.ntmps7
  go_wp2_with (first
    | (go_at_call 24; refine (mid_any _ _ ha hb _).mono ?_; rintro e w' ⟨rfl, rfl⟩)
    | (go_at_call 25; refine (rmid_any _ _ ha hb _).mono ?_; rintro e w' ⟨rfl, rfl⟩)
    | (go_at_call 26; refine (abs_any _ ha _).mono ?_; rintro e w' ⟨rfl, rfl⟩)
    | (go_at_call 27; refine (rabs_any _ ha _).mono ?_; rintro e w' ⟨rfl, rfl⟩)
    | (go_at_call 28; refine (gap_any _ _ ha hb _).mono ?_; rintro e w' ⟨rfl, rfl⟩)
    | (go_at_call 29; refine (rgap_any _ _ ha hb _).mono ?_; rintro e w' ⟨rfl, rfl⟩)
    | (go_at_call 13; refine (works_any _).mono ?_; rintro e w' ⟨rfl, hbw⟩))
  go_ret
  exact ⟨rfl, by assumption⟩

theorem nil_sum (a : Option Addr) (c : Nat) (w : World) :
    Calls Try.prog 11 #[.slice a 0 c] w fun e w' => e = .returned (.tuple #[.int .i64 (fit (total [])), .bool (inr (total []))]) ∧ Below w.heap.size w w' := by
  go_enter Try.func11, Try.ntmps11
  go_wp2_with fail
  refine wp_loop_rounds 1 ?_
  rw [rounds_succ]
  go_wp2_with fail
  refine (narrow_any 0 (by omega) _).mono ?_
  rintro e w1 ⟨rfl, hb1⟩
  go_wp2_with fail
  go_ret2
  exact ⟨rfl, ((Below.refl _ _).alloc (Nat.le_refl _) _).trans (hb1.mono (by simp))⟩
theorem nil_rsum (a : Option Addr) (c : Nat) (w : World) :
    Calls Try.prog 12 #[.slice a 0 c] w fun e w' => e = .returned (.tuple #[.int .i64 (fit (total [])), .bool (inr (total []))]) ∧ w = w' := by
  have hl : I64 0 := by unfold I64; omega
  go_enter Try.func12, Try.ntmps12
  go_wp2_with fail
  refine wp_loop_rounds 1 ?_
  rw [rounds_succ]
  go_wp2_with fail
  refine (rdiv_any _ _ hl w_I64 _).mono ?_
  rintro e w1 ⟨rfl, rfl⟩
  rw [divI_w]
  generalize quoOk 0 4294967296 = q1
  go_wp2_with fail
  go_ret2
  exact ⟨rfl, rfl⟩

theorem gaps {a b : Int} (ha : I64 a) (hb : I64 b) : ∃ l r : Int, absI (a - (a + b) / 2) = l ∧ absI ((a + b) / 2 - b) = r ∧ 0 ≤ l ∧ l ≤ 9223372036854775808 ∧ 0 ≤ r ∧ r ≤ 9223372036854775808 ∧ l ≤ r + 1 ∧ r ≤ l + 1 := by
  refine ⟨_, _, rfl, rfl, ?_⟩
  unfold I64 at *
  unfold absI
  split <;> split <;> omega

set_option maxHeartbeats 1000000 in
theorem back_yes (a b : Int) (ha : I64 a) (hb : I64 b) (h : I64 (a + b)) (w : World) :
    Calls Try.prog 8 #[.int .i64 a, .int .i64 b] w fun e w' => e = .returned (.bool true) ∧ Below w.heap.size w w' := by
  have hm : I64 ((a + b) / 2) := by unfold I64 at *; omega
  obtain ⟨l, r, hl, hr, l0, l1, r0, r1, lr, rl⟩ := gaps ha hb
  have el := Lib.hid hl
  have er := Lib.hid hr
  clear hl hr
  have e1 := Lib.hid (fit_of h)
  have e2 := Lib.hid (inr_of h)
  have e3 := Lib.hid (fit_of (x := a + b - b) (by unfold I64 at *; omega))
  have e4 := Lib.hid (inr_of (x := a + b - b) (by unfold I64 at *; omega))
  have e5 : RowKit.Hid (a + b - b = a) := Lib.hid (by omega)
  go_enter Try.func8, Try.ntmps8
  go_wp2_with fail
  refine (add_any _ _ ha hb _).mono ?_
  rintro e w1 ⟨rfl, rfl⟩
  rw [e1.out, e2.out]
  go_wp2_with fail
  refine (sub_any _ _ h hb _).mono ?_
  rintro e w1 ⟨rfl, rfl⟩
  rw [e3.out, e4.out, e5.out]
  go_wp2_with fail
  refine (mid_any _ _ ha hb _).mono ?_
  rintro e w1 ⟨rfl, rfl⟩
  go_wp2_with fail
  refine (gap_any _ _ ha hm _).mono ?_
  rintro e w1 ⟨rfl, rfl⟩
  rw [el.out]
  go_wp2_with fail
  refine (gap_any _ _ hm hb _).mono ?_
  rintro e w1 ⟨rfl, rfl⟩
  rw [er.out]
  go_wp2_with fail
  refine (works_any _).mono ?_
  rintro e w1 ⟨rfl, hbw⟩
  go_wp2_with fail
  go_ret
  exact ⟨rfl, hbw⟩
set_option maxHeartbeats 1000000 in
theorem back_no (a b : Int) (ha : I64 a) (hb : I64 b) (h : ¬ I64 (a + b)) (w : World) :
    Calls Try.prog 8 #[.int .i64 a, .int .i64 b] w fun e w' => e = .returned (.bool true) ∧ Below w.heap.size w w' := by
  have hm : I64 ((a + b) / 2) := by unfold I64 at *; omega
  obtain ⟨l, r, hl, hr, l0, l1, r0, r1, lr, rl⟩ := gaps ha hb
  have el := Lib.hid hl
  have er := Lib.hid hr
  clear hl hr
  have e1 := Lib.hid (fit_not h)
  have e2 := Lib.hid (inr_not h)
  go_enter Try.func8, Try.ntmps8
  go_wp2_with fail
  refine (add_any _ _ ha hb _).mono ?_
  rintro e w1 ⟨rfl, rfl⟩
  rw [e1.out, e2.out]
  go_wp2_with fail
  refine (sub_any _ _ I64_lit0 hb _).mono ?_
  rintro e w1 ⟨rfl, rfl⟩
  generalize fit (0 - b) = d1
  generalize inr (0 - b) = q1
  go_wp2_with fail
  refine (mid_any _ _ ha hb _).mono ?_
  rintro e w1 ⟨rfl, rfl⟩
  go_wp2_with fail
  refine (gap_any _ _ ha hm _).mono ?_
  rintro e w1 ⟨rfl, rfl⟩
  rw [el.out]
  go_wp2_with fail
  refine (gap_any _ _ hm hb _).mono ?_
  rintro e w1 ⟨rfl, rfl⟩
  rw [er.out]
  go_wp2_with fail
  refine (works_any _).mono ?_
  rintro e w1 ⟨rfl, hbw⟩
  go_wp2_with fail
  go_ret
  exact ⟨rfl, hbw⟩
theorem back_walk (a b : Int) (ha : I64 a) (hb : I64 b) (w : World) :
    Calls Try.prog 8 #[.int .i64 a, .int .i64 b] w fun e w' => e = .returned (.bool true) ∧ Below w.heap.size w w' := by
  by_cases h : I64 (a + b)
  · exact back_yes a b ha hb h w
  · exact back_no a b ha hb h w

theorem rests {a n : Int} (ha : I64 a) (hn : 0 < n) : ∃ q u p : Int, divI a n = q ∧ upI a n = u ∧ q * n = p ∧ p ≤ a ∧ a < p + n ∧ (a = p ∧ u = q ∨ p < a ∧ u = q + 1) ∧ (0 ≤ a → 0 ≤ q ∧ q ≤ a) ∧ (a < 0 → a ≤ q ∧ q < 0) ∧ (p < a → q < 9223372036854775807) := by
  refine ⟨_, _, _, rfl, rfl, rfl, ?_⟩
  rw [divI_pos hn, upI, if_pos (quoOk_pos hn), cei_pos hn]
  have e2 := Int.emod_add_mul_ediv a n
  have h1 := Int.emod_nonneg a (by omega : n ≠ 0)
  have h2 := Int.emod_lt_of_pos a hn
  have e3 := Int.mul_comm n (a / n)
  rw [e3] at e2
  have h3 : 0 ≤ a → 0 ≤ a / n := fun h => Int.ediv_nonneg h (by omega)
  have h4 : 0 ≤ a → a / n ≤ a := fun h => Int.ediv_le_self _ h
  have h5 : a < 0 → a / n < 0 := fun h => Int.ediv_neg_of_neg_of_pos h hn
  have h6 : a < 0 → a ≤ a / n := by
    intro h
    rw [Int.le_ediv_iff_mul_le hn]
    have : a * n ≤ a * 1 := Int.mul_le_mul_of_nonpos_left (by omega) (by omega)
    omega
  have h7 : a / n = a → n = 1 ∨ a = 0 ∨ a = -1 := by
    intro h
    rw [h] at e2
    by_cases c1 : n = 1
    · exact .inl c1
    · by_cases c2 : 0 < a
      · have : a * 2 ≤ a * n := Int.mul_le_mul_of_nonneg_left (by omega) (by omega)
        omega
      · by_cases c3 : a < -1
        · have : a * n ≤ -2 * n := Int.mul_le_mul_of_nonneg_right (by omega) (by omega)
          have h8 : a * n ≤ a * 2 := Int.mul_le_mul_of_nonpos_left (by omega) (by omega)
          omega
        · omega
  have h8 : a / n * n < a → a / n < 9223372036854775807 := by
    intro h
    unfold I64 at ha
    by_cases c : a / n = a
    · rcases h7 c with k | k | k
      · rw [k] at h; simp at h
      · omega
      · omega
    · by_cases k : 0 ≤ a
      · have := h4 k; omega
      · have := h5 (by omega); omega
  generalize a / n * n = p at *
  generalize a / n = q at *
  refine ⟨by omega, by omega, ?_, fun h => ⟨h3 h, h4 h⟩, fun h => ⟨h6 h, h5 h⟩, h8⟩
  by_cases c : a % n = 0
  · rw [if_pos c]; left; omega
  · rw [if_neg c]; right; omega

set_option maxHeartbeats 1000000 in
theorem rests_walk (a b : Int) (ha : I64 a) (hb : 0 ≤ b ∧ b ≤ 4294967295) (w : World) :
    Calls Try.prog 10 #[.int .i64 a, .int .u32 b] w fun e w' => e = .returned (.bool true) ∧ Below w.heap.size w w' := by
  have hn : I64 (b + 1) := by unfold I64; omega
  have hok := Lib.hid (quoOk_pos (a := a) (b := b + 1) (by omega))
  obtain ⟨q, u, p, hq, hu, hp, p0, p1, hc, q0, q1, q2⟩ := rests (n := b + 1) ha (by omega)
  have hqI : I64 q := by unfold I64 at *; omega
  have eq := Lib.hid hq
  have eu := Lib.hid hu
  have ep := Lib.hid hp
  clear hq hu hp
  by_cases hpI : I64 p
  · rcases hc with ⟨c1, c2⟩ | ⟨c1, c2⟩
    · subst c1 c2
      have f1 := int_same u
      have f2 : (u == wrap64 (u + 1)) = false := eq_false' (by unfold wrap64; unfold I64 at hqI; omega)
      have f3 : u < 9223372036854775807 → (u == u + 1) = false := fun _ => eq_false' (by omega)
      by_cases hq : u < 9223372036854775807
      · have f4 := f3 hq
        clear f3 f2 q0 q1 q2
        go_enter Try.func10, Try.ntmps10
        go_wp2_with fail
        refine (div_any _ _ ha hn _).mono ?_
        rintro e w1 ⟨rfl, n1, rfl⟩
        rw [eq.out, hok.out]
        go_wp2_with fail
        refine (up_any _ _ ha hn _).mono ?_
        rintro e w1 ⟨rfl, n2, rfl⟩
        rw [eu.out, hok.out]
        go_wp2_with fail
        refine (mul_any _ _ hqI hn _).mono ?_
        rintro e w1 ⟨rfl, rfl⟩
        rw [ep.out, fit_of hpI, inr_of hpI]
        unfold I64 at ha hn hqI hpI
        go_wp2_with fail
        refine (works_any _).mono ?_
        rintro e w1 ⟨rfl, hbw⟩
        go_wp2_with fail
        go_ret
        exact ⟨rfl, (below_dN (below_dN (Below.refl _ _) _) _).trans (by simpa using hbw)⟩
      · clear f3 q0 q1 q2
        go_enter Try.func10, Try.ntmps10
        go_wp2_with fail
        refine (div_any _ _ ha hn _).mono ?_
        rintro e w1 ⟨rfl, n1, rfl⟩
        rw [eq.out, hok.out]
        go_wp2_with fail
        refine (up_any _ _ ha hn _).mono ?_
        rintro e w1 ⟨rfl, n2, rfl⟩
        rw [eu.out, hok.out]
        go_wp2_with fail
        refine (mul_any _ _ hqI hn _).mono ?_
        rintro e w1 ⟨rfl, rfl⟩
        rw [ep.out, fit_of hpI, inr_of hpI]
        unfold I64 at ha hn hqI hpI
        go_wp2_with fail
        refine (works_any _).mono ?_
        rintro e w1 ⟨rfl, hbw⟩
        go_wp2_with fail
        go_ret
        exact ⟨rfl, (below_dN (below_dN (Below.refl _ _) _) _).trans (by simpa using hbw)⟩
    · have hq := q2 c1
      have f1 : (q + 1 == q) = false := eq_false' (by omega)
      have f2 := int_same (q + 1)
      subst c2
      have f3 : (a - p == 0) = false := eq_false' (by omega)
      clear q0 q1 q2
      go_enter Try.func10, Try.ntmps10
      go_wp2_with fail
      refine (div_any _ _ ha hn _).mono ?_
      rintro e w1 ⟨rfl, n1, rfl⟩
      rw [eq.out, hok.out]
      go_wp2_with fail
      refine (up_any _ _ ha hn _).mono ?_
      rintro e w1 ⟨rfl, n2, rfl⟩
      rw [eu.out, hok.out]
      go_wp2_with fail
      refine (mul_any _ _ hqI hn _).mono ?_
      rintro e w1 ⟨rfl, rfl⟩
      rw [ep.out, fit_of hpI, inr_of hpI]
      unfold I64 at ha hn hqI hpI
      go_wp2_with fail
      refine (works_any _).mono ?_
      rintro e w1 ⟨rfl, hbw⟩
      go_wp2_with fail
      go_ret
      exact ⟨rfl, (below_dN (below_dN (Below.refl _ _) _) _).trans (by simpa using hbw)⟩
  · clear hc q0 q1 q2
    go_enter Try.func10, Try.ntmps10
    go_wp2_with fail
    refine (div_any _ _ ha hn _).mono ?_
    rintro e w1 ⟨rfl, n1, rfl⟩
    rw [eq.out, hok.out]
    go_wp2_with fail
    refine (up_any _ _ ha hn _).mono ?_
    rintro e w1 ⟨rfl, n2, rfl⟩
    rw [eu.out, hok.out]
    go_wp2_with fail
    refine (mul_any _ _ hqI hn _).mono ?_
    rintro e w1 ⟨rfl, rfl⟩
    rw [ep.out, fit_not hpI, inr_not hpI]
    unfold I64 at ha hn hqI hpI
    go_wp2_with fail
    refine (works_any _).mono ?_
    rintro e w1 ⟨rfl, hbw⟩
    go_wp2_with fail
    go_ret
    exact ⟨rfl, (below_dN (below_dN (Below.refl _ _) _) _).trans (by simpa using hbw)⟩

set_option maxHeartbeats 1000000 in
theorem sums_some (b off n c : Nat) (zs : List Int) (hnc : n ≤ c) (hcm : c ≤ maxLen) (hzl : zs.length = c) (w : World) (hb : b < w.heap.size) (hc : ∀ i, i < c → w.cell? ⟨b, off + i, none⟩ = some (.int .i64 (zs[i]?.getD 0))) (hz : ∀ x ∈ zs, I64 x) :
    Calls Try.prog 3 #[.slice (some ⟨b, off, none⟩) n c] w fun e w' => e = .returned (.bool true) ∧ Below w.heap.size w w' := by
  unfold maxLen at hcm
  have hc' := Lib.hid hc
  have hz' := Lib.hid hz
  have hzl' := Lib.hid hzl
  clear hc hz hzl
  by_cases h60 : n ≤ 60
  · go_enter Try.func3, Try.ntmps3
    go_wp2_with fail
    all_goals
      refine (sum_any b off n c zs (by rw [hzl'.out]; omega) (by omega) _ hb (fun i hi => hc'.out i (by omega)) hz'.out).mono ?_
      rintro e w1 ⟨rfl, hb1⟩
      have hcc : ∀ i, i < n → w1.cell? ⟨b, off + i, none⟩ = some (.int .i64 (zs[i]?.getD 0)) := fun i hi => (hb1.cell (p := ⟨b, off + i, none⟩) hb).trans (hc'.out i (by omega))
      have hcc' := Lib.hid hcc
      clear hcc
      go_wp2_with fail
      refine (rsum_any b off n c zs (by rw [hzl'.out]; omega) (by omega) _ hcc'.out hz'.out).mono ?_
      rintro e w2 ⟨rfl, rfl⟩
      go_wp2_with fail
      refine (works_any _).mono ?_
      rintro e w3 ⟨rfl, hbw⟩
      go_wp2_with fail
      go_ret
      exact ⟨rfl, hb1.trans (hbw.mono hb1.size)⟩
  · go_enter Try.func3, Try.ntmps3
    go_wp2_with fail
    all_goals
      refine (sum_any b off 60 c zs (by rw [hzl'.out]; omega) (by omega) _ hb (fun i hi => hc'.out i (by omega)) hz'.out).mono ?_
      rintro e w1 ⟨rfl, hb1⟩
      have hcc : ∀ i, i < 60 → w1.cell? ⟨b, off + i, none⟩ = some (.int .i64 (zs[i]?.getD 0)) := fun i hi => (hb1.cell (p := ⟨b, off + i, none⟩) hb).trans (hc'.out i (by omega))
      have hcc' := Lib.hid hcc
      clear hcc
      go_wp2_with fail
      refine (rsum_any b off 60 c zs (by rw [hzl'.out]; omega) (by omega) _ hcc'.out hz'.out).mono ?_
      rintro e w2 ⟨rfl, rfl⟩
      go_wp2_with fail
      refine (works_any _).mono ?_
      rintro e w3 ⟨rfl, hbw⟩
      go_wp2_with fail
      go_ret
      exact ⟨rfl, hb1.trans (hbw.mono hb1.size)⟩
theorem sums_nil (a : Option Addr) (w : World) :
    Calls Try.prog 3 #[.slice a 0 0] w fun e w' => e = .returned (.bool true) ∧ Below w.heap.size w w' := by
  go_enter Try.func3, Try.ntmps3
  go_wp2_with fail
  refine (nil_sum _ _ _).mono ?_
  rintro e w1 ⟨rfl, hb1⟩
  go_wp2_with fail
  refine (nil_rsum _ _ _).mono ?_
  rintro e w2 ⟨rfl, rfl⟩
  go_wp2_with fail
  refine (works_any _).mono ?_
  rintro e w3 ⟨rfl, hbw⟩
  go_wp2_with fail
  go_ret
  exact ⟨rfl, hb1.trans (hbw.mono hb1.size)⟩
end Go.Proofs.Ytcenicbmadbamaa.Span
