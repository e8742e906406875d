/- Contracts of reading.Diff, reading.Err, rate.Good and of their references: each for every input. -/
import Derived.Test.YtcicnanchikpjaaReading
namespace Go.Proofs.Ytcicnanchikpjaa.Reading
open Go.Proofs.Ytcicnanchikpjaa.Arith Go.Proofs.Ytcicnanchikpjaa.Span Go.Proofs.Ytcicnanchikpjaa.Hops
open Go.RowKit (wrap64 Below intOf)

theorem bcell {W w1 : World} (hb : Below W.heap.size W w1) : (∀ b o, b < W.heap.size → w1.cell? ⟨b, o, none⟩ = W.cell? ⟨b, o, none⟩) ∧ (∀ b o, b < W.heap.size → w1.frozen? ⟨b, o, none⟩ = W.frozen? ⟨b, o, none⟩) :=
  ⟨fun b o h => hb.cell (p := ⟨b, o, none⟩) h, fun b o h => hb.frozen (p := ⟨b, o, none⟩) h⟩

def goodR (r s : Int) : Bool := decide (0 ≤ r ∧ r ≤ 64 ∧ 1 ≤ s ∧ s ≤ 256)
theorem goodR_iff {r s : Int} : goodR r s = true ↔ 0 ≤ r ∧ r ≤ 64 ∧ 1 ≤ s ∧ s ≤ 256 := by simp [goodR]
set_option maxHeartbeats 1000000 in
theorem rate_good (r s : Int) (w : World) :
    Calls Try.prog 60 #[.int .i64 r, .int .i64 s] w fun e w' => e = .returned (.bool (goodR r s)) ∧ w = w' := by
  go_enter Try.func60, Try.ntmps60
  go_wp2
  all_goals
    go_ret
    refine ⟨retb ?_, rfl⟩
    first
      | (rw [goodR, decide_eq_decide]; omega)
      | (symm; rw [goodR, decide_eq_false_iff_not]; omega)
set_option maxHeartbeats 1000000 in
theorem rrate_good (r s : Int) (w : World) :
    Calls Try.prog 61 #[.int .i64 r, .int .i64 s] w fun e w' => e = .returned (.bool (goodR r s)) ∧ w = w' := by
  go_enter Try.func61, Try.ntmps61
  go_wp2
  all_goals
    go_ret
    refine ⟨retb ?_, rfl⟩
    first
      | (rw [goodR, decide_eq_decide]; omega)
      | (symm; rw [goodR, decide_eq_false_iff_not]; omega)

def diffOk (v h a b t : Int) : Bool := goodH h a b && all2 v t
def diff (v h a b t : Int) : Int := if diffOk v h a b t then v + midH h a b - t else 0
theorem diff_yes {v h a b t : Int} (c : diffOk v h a b t = true) : diff v h a b t = v + midH h a b - t := by rw [diff, c]; rfl
theorem diff_no {v h a b t : Int} (c : diffOk v h a b t = false) : diff v h a b t = 0 := by rw [diff, c]; rfl
theorem midH_bd (h a b : Int) : 0 ≤ midH h a b ∧ midH h a b ≤ 4128768 := by
  by_cases g : goodH h a b = true
  · rw [midH_yes g]; have := hb_of g; omega
  · rw [midH_no (goodH_not g)]; omega
set_option maxHeartbeats 1000000 in
theorem diff_any (v h a b t : Int) (w : World) :
    Calls Try.prog 45 #[.int .i64 v, .int .i64 h, .int .i64 a, .int .i64 b, .int .i64 t] w fun e w' => e = .returned (.tuple #[.int .i64 (diff v h a b t), .bool (diffOk v h a b t)]) ∧ Below w.heap.size w w' := by
  have mb := midH_bd h a b
  by_cases g : goodH h a b = true
  · have g' := Lib.hid g
    by_cases h2 : all2 v t = true
    · have h2' := Lib.hid h2
      have hr : (0 ≤ v ∧ v ≤ 1152921504606846976) ∧ (0 ≤ t ∧ t ≤ 1152921504606846976) := by
        simp only [all2, Bool.and_eq_true] at h2
        exact ⟨timeB_iff.1 h2.1, timeB_iff.1 h2.2⟩
      have ok := Lib.hid (by rw [diffOk, g, h2]; rfl : diffOk v h a b t = true)
      clear g h2
      go_enter Try.func45, Try.ntmps45
      go_wp2_with fail
      refine (mid_h _ _ _ _).mono ?_
      rintro e w1 ⟨rfl, rfl⟩
      rw [g'.out]
      go_wp2_with fail
      refine (all_two _ _ _ _ rfl).mono ?_
      rintro e w1 ⟨rfl, rfl⟩
      rw [h2'.out]
      go_wp2_with fail
      go_ret2
      exact ⟨ret2 (diff_yes ok.out).symm ok.out.symm, below_1 _ _⟩
    · have h2' := Lib.hid (by simpa using h2 : all2 v t = false)
      have ok := Lib.hid (by rw [diffOk, h2'.out, g]; rfl : diffOk v h a b t = false)
      clear g h2
      go_enter Try.func45, Try.ntmps45
      go_wp2_with fail
      refine (mid_h _ _ _ _).mono ?_
      rintro e w1 ⟨rfl, rfl⟩
      rw [g'.out]
      go_wp2_with fail
      refine (all_two _ _ _ _ rfl).mono ?_
      rintro e w1 ⟨rfl, rfl⟩
      rw [h2'.out]
      go_wp2_with fail
      go_ret2
      exact ⟨ret2 (diff_no ok.out).symm ok.out.symm, below_1 _ _⟩
  · have g' := Lib.hid (goodH_not g)
    have ok := Lib.hid (by rw [diffOk, g'.out]; rfl : diffOk v h a b t = false)
    clear g
    go_enter Try.func45, Try.ntmps45
    go_wp2_with fail
    refine (mid_h _ _ _ _).mono ?_
    rintro e w1 ⟨rfl, rfl⟩
    rw [g'.out]
    go_wp2_with fail
    go_ret2
    exact ⟨ret2 (diff_no ok.out).symm ok.out.symm, Below.refl _ _⟩

set_option maxHeartbeats 1000000 in
theorem rdiff_any (v h a b t : Int) (w : World) :
    Calls Try.prog 46 #[.int .i64 v, .int .i64 h, .int .i64 a, .int .i64 b, .int .i64 t] w fun e w' => e = .returned (.tuple #[.int .i64 (diff v h a b t), .bool (diffOk v h a b t)]) ∧ w = w' := by
  have mb := midH_bd h a b
  by_cases h1 : 0 ≤ v ∧ v ≤ 1152921504606846976
  · have t1 := Lib.hid (timeB_yes h1)
    by_cases h2 : 0 ≤ t ∧ t ≤ 1152921504606846976
    · have t2 := Lib.hid (timeB_yes h2)
      by_cases g : goodH h a b = true
      · have g' := Lib.hid g
        have ok := Lib.hid (by rw [diffOk, g, all2, t1.out, t2.out]; rfl : diffOk v h a b t = true)
        clear g
        go_enter Try.func46, Try.ntmps46
        go_wp2_with fail
        refine (time_any _ _).mono ?_
        rintro e w1 ⟨rfl, rfl⟩
        rw [t1.out]
        go_wp2_with fail
        refine (time_any _ _).mono ?_
        rintro e w1 ⟨rfl, rfl⟩
        rw [t2.out]
        go_wp2_with fail
        refine (rgood_any _ _ _ _).mono ?_
        rintro e w1 ⟨rfl, rfl⟩
        rw [g'.out]
        go_wp2_with fail
        refine (rmid_h _ _ _ g'.out _).mono ?_
        rintro e w1 ⟨rfl, rfl⟩
        go_wp2_with fail
        go_ret2
        exact ⟨ret2 (diff_yes ok.out).symm ok.out.symm, rfl⟩
      · have g' := Lib.hid (goodH_not g)
        have ok := Lib.hid (by rw [diffOk, g'.out]; rfl : diffOk v h a b t = false)
        clear g
        go_enter Try.func46, Try.ntmps46
        go_wp2_with fail
        refine (time_any _ _).mono ?_
        rintro e w1 ⟨rfl, rfl⟩
        rw [t1.out]
        go_wp2_with fail
        refine (time_any _ _).mono ?_
        rintro e w1 ⟨rfl, rfl⟩
        rw [t2.out]
        go_wp2_with fail
        refine (rgood_any _ _ _ _).mono ?_
        rintro e w1 ⟨rfl, rfl⟩
        rw [g'.out]
        go_wp2_with fail
        go_ret2
        exact ⟨ret2 (diff_no ok.out).symm ok.out.symm, rfl⟩
    · have t2 := Lib.hid (timeB_not h2)
      have ok := Lib.hid (by rw [diffOk, all2, t2.out, Bool.and_false, Bool.and_false] : diffOk v h a b t = false)
      clear h2
      go_enter Try.func46, Try.ntmps46
      go_wp2_with fail
      refine (time_any _ _).mono ?_
      rintro e w1 ⟨rfl, rfl⟩
      rw [t1.out]
      go_wp2_with fail
      refine (time_any _ _).mono ?_
      rintro e w1 ⟨rfl, rfl⟩
      rw [t2.out]
      go_wp2_with fail
      go_ret2
      exact ⟨ret2 (diff_no ok.out).symm ok.out.symm, rfl⟩
  · have t1 := Lib.hid (timeB_not h1)
    have ok := Lib.hid (by rw [diffOk, all2, t1.out, Bool.false_and, Bool.and_false] : diffOk v h a b t = false)
    clear h1
    go_enter Try.func46, Try.ntmps46
    go_wp2_with fail
    refine (time_any _ _).mono ?_
    rintro e w1 ⟨rfl, rfl⟩
    rw [t1.out]
    go_wp2_with fail
    go_ret2
    exact ⟨ret2 (diff_no ok.out).symm ok.out.symm, rfl⟩

def rerrOk (a b r s : Int) : Bool := goodH 1 a b && goodR r s
def rerr (a b r s : Int) : Int := if rerrOk a b r s then (b - a) * 512 + (2 * r + s) * b + 1 else 0
theorem rerr_yes {a b r s : Int} (c : rerrOk a b r s = true) : rerr a b r s = (b - a) * 512 + (2 * r + s) * b + 1 := by rw [rerr, c]; rfl
theorem rerr_no {a b r s : Int} (c : rerrOk a b r s = false) : rerr a b r s = 0 := by rw [rerr, c]; rfl
set_option maxHeartbeats 1000000 in
theorem err_any (a b r s : Int) (w : World) :
    Calls Try.prog 47 #[.int .i64 a, .int .i64 b, .int .i64 r, .int .i64 s] w fun e w' => e = .returned (.tuple #[.int .i64 (rerr a b r s), .bool (rerrOk a b r s)]) ∧ w = w' := by
  by_cases g : goodH 1 a b = true
  · have g' := Lib.hid g
    have gb := goodH_iff.1 g
    by_cases q : goodR r s = true
    · have q' := Lib.hid q
      have qb := goodR_iff.1 q
      have pb := prod_small (x := 2 * r + s) (y := b) (m := 384) (n := 64) (by omega) (by omega) (by omega) (by omega)
      have ok := Lib.hid (by rw [rerrOk, g, q]; rfl : rerrOk a b r s = true)
      clear g q
      go_enter Try.func47, Try.ntmps47
      go_wp2_with (first
        | (go_at_call 37; refine (good_any _ _ _ _).mono ?_; rintro e w' ⟨rfl, rfl⟩; rw [g'.out])
        | (go_at_call 60; refine (rate_good _ _ _).mono ?_; rintro e w' ⟨rfl, rfl⟩; rw [q'.out]))
      go_ret2
      exact ⟨ret2 (rerr_yes ok.out).symm ok.out.symm, rfl⟩
    · have q' := Lib.hid (by simpa using q : goodR r s = false)
      have ok := Lib.hid (by rw [rerrOk, q'.out, Bool.and_false] : rerrOk a b r s = false)
      clear g q
      go_enter Try.func47, Try.ntmps47
      go_wp2_with (first
        | (go_at_call 37; refine (good_any _ _ _ _).mono ?_; rintro e w' ⟨rfl, rfl⟩; rw [g'.out])
        | (go_at_call 60; refine (rate_good _ _ _).mono ?_; rintro e w' ⟨rfl, rfl⟩; rw [q'.out]))
      go_ret2
      exact ⟨ret2 (rerr_no ok.out).symm ok.out.symm, rfl⟩
  · have g' := Lib.hid (goodH_not g)
    have ok := Lib.hid (by rw [rerrOk, g'.out, Bool.false_and] : rerrOk a b r s = false)
    clear g
    go_enter Try.func47, Try.ntmps47
    go_wp2_with ((go_at_call 37); refine (good_any _ _ _ _).mono ?_; rintro e w' ⟨rfl, rfl⟩; rw [g'.out])
    go_ret2
    exact ⟨ret2 (rerr_no ok.out).symm ok.out.symm, rfl⟩
set_option maxHeartbeats 1000000 in
theorem rerr_any (a b r s : Int) (w : World) :
    Calls Try.prog 48 #[.int .i64 a, .int .i64 b, .int .i64 r, .int .i64 s] w fun e w' => e = .returned (.tuple #[.int .i64 (rerr a b r s), .bool (rerrOk a b r s)]) ∧ w = w' := by
  by_cases g : goodH 1 a b = true
  · have g' := Lib.hid g
    have gb := goodH_iff.1 g
    by_cases q : goodR r s = true
    · have q' := Lib.hid q
      have qb := goodR_iff.1 q
      have pb := prod_small (x := 2 * r + s) (y := b) (m := 384) (n := 64) (by omega) (by omega) (by omega) (by omega)
      have ok := Lib.hid (by rw [rerrOk, g, q]; rfl : rerrOk a b r s = true)
      clear g q
      go_enter Try.func48, Try.ntmps48
      go_wp2_with (first
        | (go_at_call 36; refine (rgood_any _ _ _ _).mono ?_; rintro e w' ⟨rfl, rfl⟩; rw [g'.out])
        | (go_at_call 61; refine (rrate_good _ _ _).mono ?_; rintro e w' ⟨rfl, rfl⟩; rw [q'.out]))
      go_ret2
      exact ⟨ret2 (rerr_yes ok.out).symm ok.out.symm, rfl⟩
    · have q' := Lib.hid (by simpa using q : goodR r s = false)
      have ok := Lib.hid (by rw [rerrOk, q'.out, Bool.and_false] : rerrOk a b r s = false)
      clear g q
      go_enter Try.func48, Try.ntmps48
      go_wp2_with (first
        | (go_at_call 36; refine (rgood_any _ _ _ _).mono ?_; rintro e w' ⟨rfl, rfl⟩; rw [g'.out])
        | (go_at_call 61; refine (rrate_good _ _ _).mono ?_; rintro e w' ⟨rfl, rfl⟩; rw [q'.out]))
      go_ret2
      exact ⟨ret2 (rerr_no ok.out).symm ok.out.symm, rfl⟩
  · have g' := Lib.hid (goodH_not g)
    have ok := Lib.hid (by rw [rerrOk, g'.out, Bool.false_and] : rerrOk a b r s = false)
    clear g
    go_enter Try.func48, Try.ntmps48
    go_wp2_with ((go_at_call 36); refine (rgood_any _ _ _ _).mono ?_; rintro e w' ⟨rfl, rfl⟩; rw [g'.out])
    go_ret2
    exact ⟨ret2 (rerr_no ok.out).symm ok.out.symm, rfl⟩

theorem x1 : est 5000 1000 3048 = 6024 := rfl
theorem x2 : estOk 5000 1000 3048 = true := rfl
theorem x3 : diff 5000 1 1 1 6100 = -76 := rfl
theorem x4 : diffOk 5000 1 1 1 6100 = true := rfl
theorem x5 : rerr 1 2 1 32 = 581 := rfl
theorem x6 : rerrOk 1 2 1 32 = true := rfl
set_option maxHeartbeats 1000000 in
theorem works_any (w : World) :
    Calls Try.prog 44 #[] w fun e w' => e = .returned (.bool true) ∧ Below w.heap.size w w' := by
  go_enter Try.func44, Try.ntmps44
  go_wp2_with fail
  refine (estimate_any _ _ _ _).mono ?_
  rintro e w1 ⟨rfl, b1⟩
  rw [x1, x2]
  go_wp2_with fail
  refine (diff_any _ _ _ _ _ _).mono ?_
  rintro e w2 ⟨rfl, b2⟩
  rw [x3, x4]
  go_wp2_with fail
  refine (err_any _ _ _ _ _).mono ?_
  rintro e w3 ⟨rfl, rfl⟩
  rw [x5, x6]
  go_wp2_with fail
  go_ret
  exact ⟨rfl, b1.trans (b2.mono b1.size)⟩

set_option maxHeartbeats 1000000 in
theorem estimates_walk (v s n : Int) (w : World) :
    Calls Try.prog 10 #[.int .i64 v, .int .i64 s, .int .i64 n] w fun e w' => e = .returned (.bool true) ∧ Below w.heap.size w w' := by
  go_enter Try.func10, Try.ntmps10
  go_wp2_with fail
  refine (estimate_any _ _ _ _).mono ?_
  rintro e w1 ⟨rfl, b1⟩
  go_wp2_with fail
  refine (restimate_any _ _ _ _).mono ?_
  rintro e w2 ⟨rfl, rfl⟩
  go_wp2_with fail
  refine (works_any _).mono ?_
  rintro e w3 ⟨rfl, b3⟩
  go_wp2_with fail
  go_ret
  exact ⟨rfl, b1.trans (b3.mono b1.size)⟩

set_option maxHeartbeats 1000000 in
theorem diffs_walk (v t h a b : Int) (w : World) :
    Calls Try.prog 11 #[.agg #[.int .i64 v, .int .i64 t], .int .i64 h, .agg #[.int .i64 a, .int .i64 b]] w fun e w' => e = .returned (.bool true) ∧ Below w.heap.size w w' := by
  go_enter Try.func11, Try.ntmps11
  go_wp2_with fail
  refine (diff_any _ _ _ _ _ _).mono ?_
  rintro e w1 ⟨rfl, b1⟩
  obtain ⟨hcl, _⟩ := bcell b1
  have hs : w.heap.size + 1 < w1.heap.size := by have := b1.size; simp at this; omega
  have c0 : w1.cell? ⟨w.heap.size, 0, none⟩ = some (.int .i64 v) := (hcl w.heap.size 0 (by simp; omega)).trans (by go_simp)
  have c1 : w1.cell? ⟨w.heap.size, 1, none⟩ = some (.int .i64 t) := (hcl w.heap.size 1 (by simp; omega)).trans (by go_simp)
  have c2 : w1.cell? ⟨(w.heap.size + 1), 0, none⟩ = some (.int .i64 a) := (hcl (w.heap.size + 1) 0 (by simp)).trans (by go_simp)
  have c3 : w1.cell? ⟨(w.heap.size + 1), 1, none⟩ = some (.int .i64 b) := (hcl (w.heap.size + 1) 1 (by simp)).trans (by go_simp)
  have b1' := (below_2 _ _ _).trans (b1.mono (by simp; omega))
  clear hcl b1
  go_wp2_with fail
  refine (rdiff_any _ _ _ _ _ _).mono ?_
  rintro e w2 ⟨rfl, rfl⟩
  go_wp2_with fail
  refine (works_any _).mono ?_
  rintro e w3 ⟨rfl, b3⟩
  go_wp2_with fail
  go_ret
  exact ⟨rfl, b1'.trans (b3.mono b1'.size)⟩

set_option maxHeartbeats 1000000 in
theorem errs_walk (a b r s : Int) (w : World) :
    Calls Try.prog 12 #[.agg #[.int .i64 a, .int .i64 b], .agg #[.int .i64 r, .int .i64 s]] w fun e w' => e = .returned (.bool true) ∧ Below w.heap.size w w' := by
  go_enter Try.func12, Try.ntmps12
  go_wp2_with fail
  refine (err_any _ _ _ _ _).mono ?_
  rintro e w1 ⟨rfl, rfl⟩
  go_wp2_with fail
  refine (rerr_any _ _ _ _ _).mono ?_
  rintro e w2 ⟨rfl, rfl⟩
  go_wp2_with fail
  refine (works_any _).mono ?_
  rintro e w3 ⟨rfl, b3⟩
  go_wp2_with fail
  go_ret
  exact ⟨rfl, (below_2 _ _ _).trans (b3.mono (by simp; omega))⟩
end Go.Proofs.Ytcicnanchikpjaa.Reading
