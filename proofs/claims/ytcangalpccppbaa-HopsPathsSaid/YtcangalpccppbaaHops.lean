/- Contracts of package hops and of its reference: each for every input. -/
import Derived.Test.YtcangalpccppbaaMul
import Derived.Below
namespace Go.Proofs.Ytcangalpccppbaa.Hops
open Go.Proofs.Ytcangalpccppbaa.Arith Go.Proofs.Ytcangalpccppbaa.Span
open Go.RowKit (wrap64 Below intOf)

theorem retb {p q : Bool} (h : p = q) : Ending.returned (.bool p) = .returned (.bool q) := by rw [h]
theorem ret3 {a b c d : Int} {p q : Bool} (h : a = b) (h2 : c = d) (h' : p = q) : Ending.returned (.tuple #[.int .i64 a, .int .i64 c, .bool p]) = .returned (.tuple #[.int .i64 b, .int .i64 d, .bool q]) := by rw [h, h2, h']
def goodH (h a b : Int) : Bool := decide (0 ≤ h ∧ h ≤ 63 ∧ 0 ≤ a ∧ a ≤ b ∧ b ≤ 64)
theorem goodH_iff {h a b : Int} : goodH h a b = true ↔ 0 ≤ h ∧ h ≤ 63 ∧ 0 ≤ a ∧ a ≤ b ∧ b ≤ 64 := by simp [goodH]
theorem goodH_not {h a b : Int} (c : ¬ goodH h a b = true) : goodH h a b = false := by simpa using c

set_option maxHeartbeats 1000000 in
theorem good_any (h a b : Int) (w : World) :
    Calls Try.prog 21 #[.int .i64 h, .int .i64 a, .int .i64 b] w fun e w' => e = .returned (.bool (goodH h a b)) ∧ w = w' := by
  go_enter Try.func21, Try.ntmps21
  go_wp2
  all_goals
    go_ret
    refine ⟨retb ?_, rfl⟩
    first
      | (rw [goodH, decide_eq_decide]; omega)
      | (symm; rw [goodH, decide_eq_false_iff_not]; omega)

theorem prod_small {x y m n : Int} (hx : 0 ≤ x) (hm : x ≤ m) (hy : 0 ≤ y) (hn : y ≤ n) : 0 ≤ x * y ∧ x * y ≤ m * n :=
  ⟨Int.mul_nonneg hx hy, Int.mul_le_mul hm hn hy (by omega)⟩

set_option maxHeartbeats 1000000 in
theorem times_any (h x : Int) (hh : 0 ≤ h ∧ h ≤ 63) (hx : 0 ≤ x ∧ x ≤ 64) (w : World) :
    Calls Try.prog 22 #[.int .i64 h, .int .i64 x] w fun e w' => e = .returned (.int .i64 (h * x)) ∧ w = w' := by
  have b := prod_small hh.1 hh.2 hx.1 hx.2
  have hI : I64 (h * x) := by unfold I64; omega
  have e1 := Lib.hid (fit_of hI)
  have e2 := Lib.hid (inr_of hI)
  clear b
  go_enter Try.func22, Try.ntmps22
  go_wp2_with fail
  refine (mul_any _ _ (by unfold I64; omega) (by unfold I64; omega) _).mono ?_
  rintro e w1 ⟨rfl, rfl⟩
  rw [e1.out, e2.out]
  go_wp2_with fail
  go_ret
  exact ⟨rfl, rfl⟩

def spanLo (h a b : Int) : Int := if goodH h a b then h * a else 0
def spanHi (h a b : Int) : Int := if goodH h a b then h * b else 0
theorem spanLo_yes {h a b : Int} (g : goodH h a b = true) : spanLo h a b = h * a := by rw [spanLo, g]; rfl
theorem spanHi_yes {h a b : Int} (g : goodH h a b = true) : spanHi h a b = h * b := by rw [spanHi, g]; rfl
theorem spanLo_no {h a b : Int} (g : goodH h a b = false) : spanLo h a b = 0 := by rw [spanLo, g]; rfl
theorem spanHi_no {h a b : Int} (g : goodH h a b = false) : spanHi h a b = 0 := by rw [spanHi, g]; rfl
set_option maxHeartbeats 1000000 in
theorem span_any (h a b : Int) (w : World) :
    Calls Try.prog 14 #[.int .i64 h, .int .i64 a, .int .i64 b] w fun e w' => e = .returned (.tuple #[.int .i64 (spanLo h a b), .int .i64 (spanHi h a b), .bool (goodH h a b)]) ∧ w = w' := by
  by_cases g : goodH h a b = true
  · have g' := goodH_iff.1 g
    go_enter Try.func14, Try.ntmps14
    go_wp2_with (first
      | (go_at_call 21; refine (good_any _ _ _ _).mono ?_; rintro e w' ⟨rfl, rfl⟩)
      | (go_at_call 22; refine (times_any _ _ ?_ ?_ _).mono ?_; (exact ⟨by omega, by omega⟩); (exact ⟨by omega, by omega⟩); rintro e w' ⟨rfl, rfl⟩))
    go_ret3
    exact ⟨ret3 (spanLo_yes g).symm (spanHi_yes g).symm g.symm, rfl⟩
  · have g' := goodH_not g
    clear g
    go_enter Try.func14, Try.ntmps14
    go_wp2_with ((go_at_call 21); refine (good_any _ _ _ _).mono ?_; rintro e w' ⟨rfl, rfl⟩)
    go_ret3
    exact ⟨ret3 (spanLo_no g').symm (spanHi_no g').symm g'.symm, rfl⟩

def midH (h a b : Int) : Int := if goodH h a b then (h * a + h * b) * 512 else 0
def okE (h a b r : Int) : Bool := goodH h a b && decide (0 ≤ r ∧ r ≤ 64)
def errH (h a b r : Int) : Int := if okE h a b r then (h * b - h * a) * 512 + r * (h * b) else 0
theorem midH_yes {h a b : Int} (g : goodH h a b = true) : midH h a b = (h * a + h * b) * 512 := by rw [midH, g]; rfl
theorem midH_no {h a b : Int} (g : goodH h a b = false) : midH h a b = 0 := by rw [midH, g]; rfl
theorem hb_of {h a b : Int} (g : goodH h a b = true) : 0 ≤ h * a ∧ h * a ≤ 4032 ∧ 0 ≤ h * b ∧ h * b ≤ 4032 := by
  have g' := goodH_iff.1 g
  have h1 := prod_small g'.1 g'.2.1 g'.2.2.1 (n := 64) (by omega)
  have h2 := prod_small (y := b) g'.1 g'.2.1 (n := 64) (by omega) (by omega)
  omega
set_option maxHeartbeats 1000000 in
theorem mid_h (h a b : Int) (w : World) :
    Calls Try.prog 15 #[.int .i64 h, .int .i64 a, .int .i64 b] w fun e w' => e = .returned (.tuple #[.int .i64 (midH h a b), .bool (goodH h a b)]) ∧ w = w' := by
  by_cases g : goodH h a b = true
  · have g1 := Lib.hid (spanLo_yes g)
    have g2 := Lib.hid (spanHi_yes g)
    have g3 := hb_of g
    go_enter Try.func15, Try.ntmps15
    go_wp2_with ((go_at_call 14); refine (span_any _ _ _ _).mono ?_; rintro e w' ⟨rfl, rfl⟩; rw [g1.out, g2.out])
    go_ret2
    exact ⟨ret2 (midH_yes g).symm g.symm, rfl⟩
  · have g' := goodH_not g
    clear g
    have g1 := Lib.hid (spanLo_no g')
    have g2 := Lib.hid (spanHi_no g')
    go_enter Try.func15, Try.ntmps15
    go_wp2_with ((go_at_call 14); refine (span_any _ _ _ _).mono ?_; rintro e w' ⟨rfl, rfl⟩; rw [g1.out, g2.out])
    go_ret2
    exact ⟨ret2 (midH_no g').symm g'.symm, rfl⟩
theorem okE_iff {h a b r : Int} : okE h a b r = true ↔ goodH h a b = true ∧ 0 ≤ r ∧ r ≤ 64 := by simp [okE]
theorem okE_not {h a b r : Int} (c : ¬ okE h a b r = true) : okE h a b r = false := by simpa using c
theorem errH_yes {h a b r : Int} (g : okE h a b r = true) : errH h a b r = (h * b - h * a) * 512 + r * (h * b) := by rw [errH, g]; rfl
theorem errH_no {h a b r : Int} (g : okE h a b r = false) : errH h a b r = 0 := by rw [errH, g]; rfl
set_option maxHeartbeats 1000000 in
theorem err_h (h a b r : Int) (w : World) :
    Calls Try.prog 16 #[.int .i64 h, .int .i64 a, .int .i64 b, .int .i64 r] w fun e w' => e = .returned (.tuple #[.int .i64 (errH h a b r), .bool (okE h a b r)]) ∧ w = w' := by
  by_cases k : okE h a b r = true
  · obtain ⟨g, r0, r1⟩ := okE_iff.1 k
    have k' := Lib.hid k
    clear k
    have g1 := Lib.hid (spanLo_yes g)
    have g2 := Lib.hid (spanHi_yes g)
    have g3 := hb_of g
    have g4 := prod_small r0 r1 g3.2.2.1 g3.2.2.2
    go_enter Try.func16, Try.ntmps16
    go_wp2_with ((go_at_call 14); refine (span_any _ _ _ _).mono ?_; rintro e w' ⟨rfl, rfl⟩; rw [g1.out, g2.out])
    go_ret2
    exact ⟨ret2 (errH_yes k'.out).symm k'.out.symm, rfl⟩
  · have k' := okE_not k
    by_cases g : goodH h a b = true
    · have hr : ¬ (0 ≤ r ∧ r ≤ 64) := fun c => k (okE_iff.2 ⟨g, c⟩)
      have kk := Lib.hid k'
      clear k k'
      by_cases r0 : r < 0
      · clear hr
        go_enter Try.func16, Try.ntmps16
        go_wp2_with ((go_at_call 14); refine (span_any _ _ _ _).mono ?_; rintro e w' ⟨rfl, rfl⟩)
        go_ret2
        exact ⟨ret2 (errH_no kk.out).symm kk.out.symm, rfl⟩
      · have r1 : 64 < r := by omega
        clear hr
        go_enter Try.func16, Try.ntmps16
        go_wp2_with ((go_at_call 14); refine (span_any _ _ _ _).mono ?_; rintro e w' ⟨rfl, rfl⟩)
        go_ret2
        exact ⟨ret2 (errH_no kk.out).symm kk.out.symm, rfl⟩
    · have g' := goodH_not g
      have kk := Lib.hid k'
      clear g k k'
      go_enter Try.func16, Try.ntmps16
      go_wp2_with ((go_at_call 14); refine (span_any _ _ _ _).mono ?_; rintro e w' ⟨rfl, rfl⟩)
      go_ret2
      exact ⟨ret2 (errH_no kk.out).symm kk.out.symm, rfl⟩

theorem dist_mid (h a b : Int) : h * (a + b) * 512 = (h * a + h * b) * 512 := by rw [Int.mul_add]
theorem dist_err (h a b r : Int) : h * ((b - a) * 512 + r * b) = (h * b - h * a) * 512 + r * (h * b) := by
  rw [Int.mul_add, ← Int.mul_assoc, Int.mul_sub, ← Int.mul_assoc h r b, Int.mul_comm h r, Int.mul_assoc r h b]
end Go.Proofs.Ytcangalpccppbaa.Hops
