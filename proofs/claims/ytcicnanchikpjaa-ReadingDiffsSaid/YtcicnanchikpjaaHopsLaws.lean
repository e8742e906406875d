/- Contracts of the reference of layer 19, and the walks of the laws HopsSpans and HopsErrs. -/
import Derived.Test.YtcicnanchikpjaaHops
namespace Go.Proofs.Ytcicnanchikpjaa.Hops
open Go.Proofs.Ytcicnanchikpjaa.Arith Go.Proofs.Ytcicnanchikpjaa.Span
open Go.RowKit (wrap64 Below intOf)

set_option maxHeartbeats 1000000 in
theorem rmid_h (h a b : Int) (g : goodH h a b = true) (w : World) :
    Calls Try.prog 39 #[.int .i64 h, .int .i64 a, .int .i64 b] w fun e w' => e = .returned (.int .i64 (midH h a b)) ∧ w = w' := by
  have g' := goodH_iff.1 g
  have g3 := prod_small (x := h) (y := a + b) (m := 63) (n := 128) (by omega) (by omega) (by omega) (by omega)
  go_enter Try.func39, Try.ntmps39
  go_wp2
  go_ret
  exact ⟨ret1 (by rw [midH_yes g, dist_mid]), rfl⟩
set_option maxHeartbeats 1000000 in
theorem rerr_h (h a b r : Int) (g : okE h a b r = true) (w : World) :
    Calls Try.prog 41 #[.int .i64 h, .int .i64 a, .int .i64 b, .int .i64 r] w fun e w' => e = .returned (.int .i64 (errH h a b r)) ∧ w = w' := by
  obtain ⟨g1, r0, r1⟩ := okE_iff.1 g
  have g' := goodH_iff.1 g1
  have g2 := prod_small (x := r) (y := b) (m := 64) (n := 64) (by omega) (by omega) (by omega) (by omega)
  have g3 := prod_small (x := h) (y := (b - a) * 512 + r * b) (m := 63) (n := 36864) (by omega) (by omega) (by omega) (by omega)
  go_enter Try.func41, Try.ntmps41
  go_wp2
  go_ret
  exact ⟨ret1 (by rw [errH_yes g, dist_err]), rfl⟩

theorem ex1 : spanLo 3 1 2 = 3 := rfl
theorem ex2 : spanHi 3 1 2 = 6 := rfl
theorem ex3 : goodH 3 1 2 = true := rfl
theorem ex4 : midH 3 1 2 = 4608 := rfl
theorem ex5 : errH 3 1 2 1 = 1542 := rfl
theorem ex6 : okE 3 1 2 1 = true := rfl
set_option maxHeartbeats 1000000 in
theorem works_any (w : World) :
    Calls Try.prog 38 #[] w fun e w' => e = .returned (.bool true) ∧ w = w' := by
  go_enter Try.func38, Try.ntmps38
  go_wp2_with (first
    | (go_at_call 34; refine (span_any _ _ _ _).mono ?_; rintro e w' ⟨rfl, rfl⟩; rw [ex1, ex2, ex3])
    | (go_at_call 35; refine (mid_h _ _ _ _).mono ?_; rintro e w' ⟨rfl, rfl⟩; rw [ex4, ex3])
    | (go_at_call 40; refine (err_h _ _ _ _ _).mono ?_; rintro e w' ⟨rfl, rfl⟩; rw [ex5, ex6]))
  go_ret
  exact ⟨rfl, rfl⟩

set_option maxHeartbeats 1000000 in
theorem spans_walk (h a b : Int) (w : World) :
    Calls Try.prog 7 #[.int .i64 h, .int .i64 a, .int .i64 b] w fun e w' => e = .returned (.bool true) ∧ w = w' := by
  by_cases g : goodH h a b = true
  · have g1 := Lib.hid (spanLo_yes g)
    have g2 := Lib.hid (spanHi_yes g)
    have g3 := hb_of g
    have g4 := Lib.hid g
    clear g
    go_enter Try.func7, Try.ntmps7
    go_wp2_with (first
      | (go_at_call 34; refine (span_any _ _ _ _).mono ?_; rintro e w' ⟨rfl, rfl⟩; rw [g1.out, g2.out, g4.out])
      | (go_at_call 35; refine (mid_h _ _ _ _).mono ?_; rintro e w' ⟨rfl, rfl⟩; rw [g4.out])
      | (go_at_call 36; refine (rgood_any _ _ _ _).mono ?_; rintro e w' ⟨rfl, rfl⟩; rw [g4.out])
      | (go_at_call 37; refine (good_any _ _ _ _).mono ?_; rintro e w' ⟨rfl, rfl⟩; rw [g4.out])
      | (go_at_call 39; refine (rmid_h _ _ _ g4.out _).mono ?_; rintro e w' ⟨rfl, rfl⟩)
      | (go_at_call 38; refine (works_any _).mono ?_; rintro e w' ⟨rfl, rfl⟩))
    go_ret
    exact ⟨rfl, rfl⟩
  · have g' := goodH_not g
    have g1 := Lib.hid (spanLo_no g')
    have g2 := Lib.hid (spanHi_no g')
    have g3 := Lib.hid (midH_no g')
    have g4 := Lib.hid g'
    clear g g'
    go_enter Try.func7, Try.ntmps7
    go_wp2_with (first
      | (go_at_call 34; refine (span_any _ _ _ _).mono ?_; rintro e w' ⟨rfl, rfl⟩; rw [g1.out, g2.out, g4.out])
      | (go_at_call 35; refine (mid_h _ _ _ _).mono ?_; rintro e w' ⟨rfl, rfl⟩; rw [g3.out, g4.out])
      | (go_at_call 36; refine (rgood_any _ _ _ _).mono ?_; rintro e w' ⟨rfl, rfl⟩; rw [g4.out])
      | (go_at_call 37; refine (good_any _ _ _ _).mono ?_; rintro e w' ⟨rfl, rfl⟩; rw [g4.out])
      | (go_at_call 38; refine (works_any _).mono ?_; rintro e w' ⟨rfl, rfl⟩))
    go_ret
    exact ⟨rfl, rfl⟩

set_option maxHeartbeats 1000000 in
theorem errs_walk (h a b r : Int) (w : World) :
    Calls Try.prog 8 #[.int .i64 h, .agg #[.int .i64 a, .int .i64 b], .int .i64 r] w fun e w' => e = .returned (.bool true) ∧ Below w.heap.size w w' := by
  by_cases k : okE h a b r = true
  · obtain ⟨g, r0, r1⟩ := okE_iff.1 k
    have k' := Lib.hid k
    have g' := Lib.hid g
    clear k g
    go_enter Try.func8, Try.ntmps8
    go_wp2_with (first
      | (go_at_call 40; refine (err_h _ _ _ _ _).mono ?_; rintro e w' ⟨rfl, rfl⟩; rw [k'.out])
      | (go_at_call 36; refine (rgood_any _ _ _ _).mono ?_; rintro e w' ⟨rfl, rfl⟩; rw [g'.out])
      | (go_at_call 41; refine (rerr_h _ _ _ _ k'.out _).mono ?_; rintro e w' ⟨rfl, rfl⟩)
      | (go_at_call 38; refine (works_any _).mono ?_; rintro e w' ⟨rfl, rfl⟩))
    go_ret
    exact ⟨rfl, (Below.refl _ _).alloc (Nat.le_refl _) _⟩
  · have k1 := Lib.hid (errH_no (okE_not k))
    have k2 := Lib.hid (okE_not k)
    by_cases g : goodH h a b = true
    · have g' := Lib.hid g
      have hr : r < 0 ∨ 64 < r := by
        by_cases c : 0 ≤ r ∧ r ≤ 64
        · exact absurd (okE_iff.2 ⟨g, c⟩) k
        · omega
      clear g k
      rcases hr with r0 | r0
      · go_enter Try.func8, Try.ntmps8
        go_wp2_with (first
          | (go_at_call 40; refine (err_h _ _ _ _ _).mono ?_; rintro e w' ⟨rfl, rfl⟩; rw [k1.out, k2.out])
          | (go_at_call 36; refine (rgood_any _ _ _ _).mono ?_; rintro e w' ⟨rfl, rfl⟩; rw [g'.out])
          | (go_at_call 38; refine (works_any _).mono ?_; rintro e w' ⟨rfl, rfl⟩))
        go_ret
        exact ⟨rfl, (Below.refl _ _).alloc (Nat.le_refl _) _⟩

      · go_enter Try.func8, Try.ntmps8
        go_wp2_with (first
          | (go_at_call 40; refine (err_h _ _ _ _ _).mono ?_; rintro e w' ⟨rfl, rfl⟩; rw [k1.out, k2.out])
          | (go_at_call 36; refine (rgood_any _ _ _ _).mono ?_; rintro e w' ⟨rfl, rfl⟩; rw [g'.out])
          | (go_at_call 38; refine (works_any _).mono ?_; rintro e w' ⟨rfl, rfl⟩))
        go_ret
        exact ⟨rfl, (Below.refl _ _).alloc (Nat.le_refl _) _⟩

    · have g' := Lib.hid (goodH_not g)
      clear g k
      go_enter Try.func8, Try.ntmps8
      go_wp2_with (first
        | (go_at_call 40; refine (err_h _ _ _ _ _).mono ?_; rintro e w' ⟨rfl, rfl⟩; rw [k1.out, k2.out])
        | (go_at_call 36; refine (rgood_any _ _ _ _).mono ?_; rintro e w' ⟨rfl, rfl⟩; rw [g'.out])
        | (go_at_call 38; refine (works_any _).mono ?_; rintro e w' ⟨rfl, rfl⟩))
      go_ret
      exact ⟨rfl, (Below.refl _ _).alloc (Nat.le_refl _) _⟩

end Go.Proofs.Ytcicnanchikpjaa.Hops
