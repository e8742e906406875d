/- Contracts of span.Div, of what layer 26 takes of hops, rate and reading, and of their references: each for every input. -/
import Derived.Test.YtpbabpbinojodaaMul
import Derived.Below
namespace Go.Proofs.Ytpbabpbinojodaa.Hops
open Go.Proofs.Ytpbabpbinojodaa.Arith Go.Proofs.Ytpbabpbinojodaa.Span
open Go.RowKit (wrap64 Below intOf)

set_option maxHeartbeats 400000 in
theorem may_any (a b : Int) (w : World) :
    Calls Try.prog 42 #[.int .i64 a, .int .i64 b] w fun e w' => e = .returned (.bool (quoOk a b)) ∧ w = w' := by
  go_enter Try.func42, Try.ntmps42
  go_wp2
  all_goals
    go_ret
    refine ⟨?_, rfl⟩
    simp [quoOk, bne, *]
set_option maxHeartbeats 400000 in
theorem div_any (a b : Int) (ha : I64 a) (hb : I64 b) (w : World) :
    Calls Try.prog 38 #[.int .i64 a, .int .i64 b] w fun e w' => e = .returned (.tuple #[.int .i64 (divI a b), .bool (quoOk a b)]) ∧ ∃ n, w' = w.drewN n := by
  have ha' := Lib.hid ha
  unfold I64 at ha hb
  by_cases h : quoOk a b = true
  · have h0 : ¬ b = 0 := by rintro rfl; simp [quoOk] at h
    have h0' : (b == 0) = false := by simpa using h0
    go_enter Try.func38, Try.ntmps38
    go_wp2_with ((go_at_call 42); refine (may_any _ _ _).mono ?_; rintro e w' ⟨rfl, rfl⟩)
    go_quiet (fail)
    go_wp2_with fail
    all_goals go_ret2
    · refine ⟨ret2 (flo_on ha'.out h ?_) h.symm, nq, rfl⟩
      simp_all
    · rename_i h1 h2
      refine ⟨ret2 (flo_off ha'.out h h1 ?_) h.symm, nq, rfl⟩
      simpa [h1] using h2
    · rename_i h1 h2
      refine ⟨ret2 (flo_on ha'.out h ?_) h.symm, nq, rfl⟩
      simpa [h1] using h2
  · have h' : quoOk a b = false := by simpa using h
    go_enter Try.func38, Try.ntmps38
    go_wp2_with ((go_at_call 42); refine (may_any _ _ _).mono ?_; rintro e w' ⟨rfl, rfl⟩)
    go_ret2
    exact ⟨ret2 (by rw [divI, if_neg h]) h'.symm, 0, rfl⟩
theorem retb {p q : Bool} (h : p = q) : Ending.returned (.bool p) = .returned (.bool q) := by rw [h]
theorem ret3 {a b c d : Int} {p q : Bool} (h : a = b) (h2 : c = d) (h' : p = q) : Ending.returned (.tuple #[.int .i64 a, .int .i64 c, .bool p]) = .returned (.tuple #[.int .i64 b, .int .i64 d, .bool q]) := by rw [h, h2, h']
def goodH (h a b : Int) : Bool := decide (0 ≤ h ∧ h ≤ 63 ∧ 0 ≤ a ∧ a ≤ b ∧ b ≤ 64)
theorem goodH_iff {h a b : Int} : goodH h a b = true ↔ 0 ≤ h ∧ h ≤ 63 ∧ 0 ≤ a ∧ a ≤ b ∧ b ≤ 64 := by simp [goodH]
theorem goodH_not {h a b : Int} (c : ¬ goodH h a b = true) : goodH h a b = false := by simpa using c
set_option maxHeartbeats 1000000 in
theorem good_any (h a b : Int) (w : World) :
    Calls Try.prog 40 #[.int .i64 h, .int .i64 a, .int .i64 b] w fun e w' => e = .returned (.bool (goodH h a b)) ∧ w = w' := by
  go_enter Try.func40, Try.ntmps40
  go_wp2
  all_goals
    go_ret
    refine ⟨retb ?_, rfl⟩
    first
      | (rw [goodH, decide_eq_decide]; omega)
      | (symm; rw [goodH, decide_eq_false_iff_not]; omega)
set_option maxHeartbeats 1000000 in
theorem rgood_any (h a b : Int) (w : World) :
    Calls Try.prog 41 #[.int .i64 h, .int .i64 a, .int .i64 b] w fun e w' => e = .returned (.bool (goodH h a b)) ∧ w = w' := by
  go_enter Try.func41, Try.ntmps41
  go_wp2
  all_goals
    go_ret
    refine ⟨retb ?_, rfl⟩
    first
      | (rw [goodH, decide_eq_decide]; omega)
      | (symm; rw [goodH, decide_eq_false_iff_not]; omega)
theorem prod_small {x y m n : Int} (hx : 0 ≤ x) (hm : x ≤ m) (hy : 0 ≤ y) (hn : y ≤ n) : 0 ≤ x * y ∧ x * y ≤ m * n :=
  ⟨Int.mul_nonneg hx hy, Int.mul_le_mul hm hn hy (by omega)⟩
set_option maxHeartbeats 1000000 in
theorem times_any (h x : Int) (hh : 0 ≤ h ∧ h ≤ 63) (hx : 0 ≤ x ∧ x ≤ 64) (w : World) :
    Calls Try.prog 43 #[.int .i64 h, .int .i64 x] w fun e w' => e = .returned (.int .i64 (h * x)) ∧ w = w' := by
  have b := prod_small hh.1 hh.2 hx.1 hx.2
  have hI : I64 (h * x) := by unfold I64; omega
  have e1 := Lib.hid (fit_of hI)
  have e2 := Lib.hid (inr_of hI)
  clear b
  go_enter Try.func43, Try.ntmps43
  go_wp2_with fail
  refine (mul_any _ _ (by unfold I64; omega) (by unfold I64; omega) _).mono ?_
  rintro e w1 ⟨rfl, rfl⟩
  rw [e1.out, e2.out]
  go_wp2_with fail
  go_ret
  exact ⟨rfl, rfl⟩
def spanLo (h a b : Int) : Int := if goodH h a b then h * a else 0
def spanHi (h a b : Int) : Int := if goodH h a b then h * b else 0
theorem spanLo_yes {h a b : Int} (g : goodH h a b = true) : spanLo h a b = h * a := by rw [spanLo, g]; rfl
theorem spanHi_yes {h a b : Int} (g : goodH h a b = true) : spanHi h a b = h * b := by rw [spanHi, g]; rfl
theorem spanLo_no {h a b : Int} (g : goodH h a b = false) : spanLo h a b = 0 := by rw [spanLo, g]; rfl
theorem spanHi_no {h a b : Int} (g : goodH h a b = false) : spanHi h a b = 0 := by rw [spanHi, g]; rfl
set_option maxHeartbeats 1000000 in
theorem span_any (h a b : Int) (w : World) :
    Calls Try.prog 39 #[.int .i64 h, .int .i64 a, .int .i64 b] w fun e w' => e = .returned (.tuple #[.int .i64 (spanLo h a b), .int .i64 (spanHi h a b), .bool (goodH h a b)]) ∧ w = w' := by
  by_cases g : goodH h a b = true
  · have g' := goodH_iff.1 g
    go_enter Try.func39, Try.ntmps39
    go_wp2_with (first
      | (go_at_call 40; refine (good_any _ _ _ _).mono ?_; rintro e w' ⟨rfl, rfl⟩)
      | (go_at_call 43; refine (times_any _ _ ?_ ?_ _).mono ?_; (exact ⟨by omega, by omega⟩); (exact ⟨by omega, by omega⟩); rintro e w' ⟨rfl, rfl⟩))
    go_ret3
    exact ⟨ret3 (spanLo_yes g).symm (spanHi_yes g).symm g.symm, rfl⟩
  · have g' := goodH_not g
    clear g
    go_enter Try.func39, Try.ntmps39
    go_wp2_with ((go_at_call 40); refine (good_any _ _ _ _).mono ?_; rintro e w' ⟨rfl, rfl⟩)
    go_ret3
    exact ⟨ret3 (spanLo_no g').symm (spanHi_no g').symm g'.symm, rfl⟩
def okE (h a b r : Int) : Bool := goodH h a b && decide (0 ≤ r ∧ r ≤ 64)
def errH (h a b r : Int) : Int := if okE h a b r then (h * b - h * a) * 512 + r * (h * b) else 0
theorem hb_of {h a b : Int} (g : goodH h a b = true) : 0 ≤ h * a ∧ h * a ≤ 4032 ∧ 0 ≤ h * b ∧ h * b ≤ 4032 := by
  have g' := goodH_iff.1 g
  have h1 := prod_small g'.1 g'.2.1 g'.2.2.1 (n := 64) (by omega)
  have h2 := prod_small (y := b) g'.1 g'.2.1 (n := 64) (by omega) (by omega)
  omega
theorem okE_iff {h a b r : Int} : okE h a b r = true ↔ goodH h a b = true ∧ 0 ≤ r ∧ r ≤ 64 := by simp [okE]
theorem okE_not {h a b r : Int} (c : ¬ okE h a b r = true) : okE h a b r = false := by simpa using c
theorem errH_yes {h a b r : Int} (g : okE h a b r = true) : errH h a b r = (h * b - h * a) * 512 + r * (h * b) := by rw [errH, g]; rfl
theorem errH_no {h a b r : Int} (g : okE h a b r = false) : errH h a b r = 0 := by rw [errH, g]; rfl
set_option maxHeartbeats 1000000 in
theorem err_h (h a b r : Int) (w : World) :
    Calls Try.prog 25 #[.int .i64 h, .int .i64 a, .int .i64 b, .int .i64 r] w fun e w' => e = .returned (.tuple #[.int .i64 (errH h a b r), .bool (okE h a b r)]) ∧ w = w' := by
  by_cases k : okE h a b r = true
  · obtain ⟨g, r0, r1⟩ := okE_iff.1 k
    have k' := Lib.hid k
    clear k
    have g1 := Lib.hid (spanLo_yes g)
    have g2 := Lib.hid (spanHi_yes g)
    have g3 := hb_of g
    have g4 := prod_small r0 r1 g3.2.2.1 g3.2.2.2
    go_enter Try.func25, Try.ntmps25
    go_wp2_with ((go_at_call 39); refine (span_any _ _ _ _).mono ?_; rintro e w' ⟨rfl, rfl⟩; rw [g1.out, g2.out])
    go_ret2
    exact ⟨ret2 (errH_yes k'.out).symm k'.out.symm, rfl⟩
  · have k' := okE_not k
    by_cases g : goodH h a b = true
    · have hr : ¬ (0 ≤ r ∧ r ≤ 64) := fun c => k (okE_iff.2 ⟨g, c⟩)
      have kk := Lib.hid k'
      clear k k'
      by_cases r0 : r < 0
      · clear hr
        go_enter Try.func25, Try.ntmps25
        go_wp2_with ((go_at_call 39); refine (span_any _ _ _ _).mono ?_; rintro e w' ⟨rfl, rfl⟩)
        go_ret2
        exact ⟨ret2 (errH_no kk.out).symm kk.out.symm, rfl⟩
      · have r1 : 64 < r := by omega
        clear hr
        go_enter Try.func25, Try.ntmps25
        go_wp2_with ((go_at_call 39); refine (span_any _ _ _ _).mono ?_; rintro e w' ⟨rfl, rfl⟩)
        go_ret2
        exact ⟨ret2 (errH_no kk.out).symm kk.out.symm, rfl⟩
    · have g' := goodH_not g
      have kk := Lib.hid k'
      clear g k k'
      go_enter Try.func25, Try.ntmps25
      go_wp2_with ((go_at_call 39); refine (span_any _ _ _ _).mono ?_; rintro e w' ⟨rfl, rfl⟩)
      go_ret2
      exact ⟨ret2 (errH_no kk.out).symm kk.out.symm, rfl⟩
theorem dist_err (h a b r : Int) : h * ((b - a) * 512 + r * b) = (h * b - h * a) * 512 + r * (h * b) := by
  rw [Int.mul_add, ← Int.mul_assoc, Int.mul_sub, ← Int.mul_assoc h r b, Int.mul_comm h r, Int.mul_assoc r h b]
set_option maxHeartbeats 1000000 in
theorem rerr_h (h a b r : Int) (g : okE h a b r = true) (w : World) :
    Calls Try.prog 32 #[.int .i64 h, .int .i64 a, .int .i64 b, .int .i64 r] w fun e w' => e = .returned (.int .i64 (errH h a b r)) ∧ w = w' := by
  obtain ⟨g1, r0, r1⟩ := okE_iff.1 g
  have g' := goodH_iff.1 g1
  have g2 := prod_small (x := r) (y := b) (m := 64) (n := 64) (by omega) (by omega) (by omega) (by omega)
  have g3 := prod_small (x := h) (y := (b - a) * 512 + r * b) (m := 63) (n := 36864) (by omega) (by omega) (by omega) (by omega)
  go_enter Try.func32, Try.ntmps32
  go_wp2
  go_ret
  exact ⟨ret1 (by rw [errH_yes g, dist_err]), rfl⟩
def goodR (r s : Int) : Bool := decide (0 ≤ r ∧ r ≤ 64 ∧ 1 ≤ s ∧ s ≤ 256)
theorem goodR_iff {r s : Int} : goodR r s = true ↔ 0 ≤ r ∧ r ≤ 64 ∧ 1 ≤ s ∧ s ≤ 256 := by simp [goodR]
set_option maxHeartbeats 1000000 in
theorem rate_good (r s : Int) (w : World) :
    Calls Try.prog 36 #[.int .i64 r, .int .i64 s] w fun e w' => e = .returned (.bool (goodR r s)) ∧ w = w' := by
  go_enter Try.func36, Try.ntmps36
  go_wp2
  all_goals
    go_ret
    refine ⟨retb ?_, rfl⟩
    first
      | (rw [goodR, decide_eq_decide]; omega)
      | (symm; rw [goodR, decide_eq_false_iff_not]; omega)
set_option maxHeartbeats 1000000 in
theorem rrate_good (r s : Int) (w : World) :
    Calls Try.prog 27 #[.int .i64 r, .int .i64 s] w fun e w' => e = .returned (.bool (goodR r s)) ∧ w = w' := by
  go_enter Try.func27, Try.ntmps27
  go_wp2
  all_goals
    go_ret
    refine ⟨retb ?_, rfl⟩
    first
      | (rw [goodR, decide_eq_decide]; omega)
      | (symm; rw [goodR, decide_eq_false_iff_not]; omega)
def rerrOk (a b r s : Int) : Bool := goodH 1 a b && goodR r s
def rerr (a b r s : Int) : Int := if rerrOk a b r s then (b - a) * 512 + (2 * r + s) * b + 1 else 0
theorem rerr_yes {a b r s : Int} (c : rerrOk a b r s = true) : rerr a b r s = (b - a) * 512 + (2 * r + s) * b + 1 := by rw [rerr, c]; rfl
theorem rerr_no {a b r s : Int} (c : rerrOk a b r s = false) : rerr a b r s = 0 := by rw [rerr, c]; rfl
set_option maxHeartbeats 1000000 in
theorem err_any (a b r s : Int) (w : World) :
    Calls Try.prog 26 #[.int .i64 a, .int .i64 b, .int .i64 r, .int .i64 s] w fun e w' => e = .returned (.tuple #[.int .i64 (rerr a b r s), .bool (rerrOk a b r s)]) ∧ w = w' := by
  by_cases g : goodH 1 a b = true
  · have g' := Lib.hid g
    have gb := goodH_iff.1 g
    by_cases q : goodR r s = true
    · have q' := Lib.hid q
      have qb := goodR_iff.1 q
      have pb := prod_small (x := 2 * r + s) (y := b) (m := 384) (n := 64) (by omega) (by omega) (by omega) (by omega)
      have ok := Lib.hid (by rw [rerrOk, g, q]; rfl : rerrOk a b r s = true)
      clear g q
      go_enter Try.func26, Try.ntmps26
      go_wp2_with (first
        | (go_at_call 40; refine (good_any _ _ _ _).mono ?_; rintro e w' ⟨rfl, rfl⟩; rw [g'.out])
        | (go_at_call 36; refine (rate_good _ _ _).mono ?_; rintro e w' ⟨rfl, rfl⟩; rw [q'.out]))
      go_ret2
      exact ⟨ret2 (rerr_yes ok.out).symm ok.out.symm, rfl⟩
    · have q' := Lib.hid (by simpa using q : goodR r s = false)
      have ok := Lib.hid (by rw [rerrOk, q'.out, Bool.and_false] : rerrOk a b r s = false)
      clear g q
      go_enter Try.func26, Try.ntmps26
      go_wp2_with (first
        | (go_at_call 40; refine (good_any _ _ _ _).mono ?_; rintro e w' ⟨rfl, rfl⟩; rw [g'.out])
        | (go_at_call 36; refine (rate_good _ _ _).mono ?_; rintro e w' ⟨rfl, rfl⟩; rw [q'.out]))
      go_ret2
      exact ⟨ret2 (rerr_no ok.out).symm ok.out.symm, rfl⟩
  · have g' := Lib.hid (goodH_not g)
    have ok := Lib.hid (by rw [rerrOk, g'.out, Bool.false_and] : rerrOk a b r s = false)
    clear g
    go_enter Try.func26, Try.ntmps26
    go_wp2_with ((go_at_call 40); refine (good_any _ _ _ _).mono ?_; rintro e w' ⟨rfl, rfl⟩; rw [g'.out])
    go_ret2
    exact ⟨ret2 (rerr_no ok.out).symm ok.out.symm, rfl⟩
set_option maxHeartbeats 1000000 in
theorem rerr_any (a b r s : Int) (w : World) :
    Calls Try.prog 33 #[.int .i64 a, .int .i64 b, .int .i64 r, .int .i64 s] w fun e w' => e = .returned (.tuple #[.int .i64 (rerr a b r s), .bool (rerrOk a b r s)]) ∧ w = w' := by
  by_cases g : goodH 1 a b = true
  · have g' := Lib.hid g
    have gb := goodH_iff.1 g
    by_cases q : goodR r s = true
    · have q' := Lib.hid q
      have qb := goodR_iff.1 q
      have pb := prod_small (x := 2 * r + s) (y := b) (m := 384) (n := 64) (by omega) (by omega) (by omega) (by omega)
      have ok := Lib.hid (by rw [rerrOk, g, q]; rfl : rerrOk a b r s = true)
      clear g q
      go_enter Try.func33, Try.ntmps33
      go_wp2_with (first
        | (go_at_call 41; refine (rgood_any _ _ _ _).mono ?_; rintro e w' ⟨rfl, rfl⟩; rw [g'.out])
        | (go_at_call 27; refine (rrate_good _ _ _).mono ?_; rintro e w' ⟨rfl, rfl⟩; rw [q'.out]))
      go_ret2
      exact ⟨ret2 (rerr_yes ok.out).symm ok.out.symm, rfl⟩
    · have q' := Lib.hid (by simpa using q : goodR r s = false)
      have ok := Lib.hid (by rw [rerrOk, q'.out, Bool.and_false] : rerrOk a b r s = false)
      clear g q
      go_enter Try.func33, Try.ntmps33
      go_wp2_with (first
        | (go_at_call 41; refine (rgood_any _ _ _ _).mono ?_; rintro e w' ⟨rfl, rfl⟩; rw [g'.out])
        | (go_at_call 27; refine (rrate_good _ _ _).mono ?_; rintro e w' ⟨rfl, rfl⟩; rw [q'.out]))
      go_ret2
      exact ⟨ret2 (rerr_no ok.out).symm ok.out.symm, rfl⟩
  · have g' := Lib.hid (goodH_not g)
    have ok := Lib.hid (by rw [rerrOk, g'.out, Bool.false_and] : rerrOk a b r s = false)
    clear g
    go_enter Try.func33, Try.ntmps33
    go_wp2_with ((go_at_call 41); refine (rgood_any _ _ _ _).mono ?_; rintro e w' ⟨rfl, rfl⟩; rw [g'.out])
    go_ret2
    exact ⟨ret2 (rerr_no ok.out).symm ok.out.symm, rfl⟩
end Go.Proofs.Ytpbabpbinojodaa.Hops
