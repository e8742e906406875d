/- Contracts of the functions of package bound that ask whether a configuration may be, and of the reference's. -/
import Derived.Test.YtpbabpbinojodaaRate
namespace Go.Proofs.Ytpbabpbinojodaa.Bound
open Go.Proofs.Ytpbabpbinojodaa.Arith Go.Proofs.Ytpbabpbinojodaa.Span Go.Proofs.Ytpbabpbinojodaa.Hops
open Go.RowKit (wrap64 Below intOf)

theorem below_1 (w : World) (o : Obj) : Below w.heap.size w (w.alloc o) := (Below.refl _ _).alloc (Nat.le_refl _) _
def perB (g : Int) : Bool := decide (1 ≤ g ∧ g ≤ 1099511627776)
theorem perB_iff {g : Int} : perB g = true ↔ 1 ≤ g ∧ g ≤ 1099511627776 := by simp [perB]
theorem perB_not {g : Int} (h : ¬ (1 ≤ g ∧ g ≤ 1099511627776)) : perB g = false := by simpa [perB] using h
set_option maxHeartbeats 1000000 in
theorem period_any (g : Int) (w : World) :
    Calls Try.prog 37 #[.int .i64 g] w fun e w' => e = .returned (.bool (perB g)) ∧ w = w' := by
  go_enter Try.func37, Try.ntmps37
  go_wp2
  all_goals
    go_ret
    refine ⟨retb ?_, rfl⟩
    first
      | (rw [perB, decide_eq_decide]; omega)
      | (symm; rw [perB, decide_eq_false_iff_not]; omega)

def smallB (N dmin dmax : Int) : Bool := decide (2 ≤ N ∧ N ≤ 64 ∧ 1 ≤ dmin ∧ dmin ≤ dmax ∧ dmax ≤ 64)
def goodB (N dmin dmax rho slew rnd win att : Int) : Bool := smallB N dmin dmax && goodR rho slew && perB rnd && perB win && perB att
theorem goodB_iff {N dmin dmax rho slew rnd win att : Int} : goodB N dmin dmax rho slew rnd win att = true ↔
    (2 ≤ N ∧ N ≤ 64 ∧ 1 ≤ dmin ∧ dmin ≤ dmax ∧ dmax ≤ 64) ∧ (0 ≤ rho ∧ rho ≤ 64 ∧ 1 ≤ slew ∧ slew ≤ 256) ∧ (1 ≤ rnd ∧ rnd ≤ 1099511627776) ∧ (1 ≤ win ∧ win ≤ 1099511627776) ∧ (1 ≤ att ∧ att ≤ 1099511627776) := by
  simp only [goodB, Bool.and_eq_true, smallB, decide_eq_true_iff, goodR_iff, perB_iff]
  constructor
  · rintro ⟨⟨⟨⟨a, b⟩, c⟩, d⟩, e⟩; exact ⟨a, b, c, d, e⟩
  · rintro ⟨a, b, c, d, e⟩; exact ⟨⟨⟨⟨a, b⟩, c⟩, d⟩, e⟩
theorem goodB_false {N dmin dmax rho slew rnd win att : Int} (h : ¬ goodB N dmin dmax rho slew rnd win att = true) : goodB N dmin dmax rho slew rnd win att = false := by simpa using h
theorem no_small {N dmin dmax rho slew rnd win att : Int} (h : ¬ (2 ≤ N ∧ N ≤ 64 ∧ 1 ≤ dmin ∧ dmin ≤ dmax ∧ dmax ≤ 64)) : goodB N dmin dmax rho slew rnd win att = false := goodB_false fun c => h (goodB_iff.1 c).1
theorem no_rate {N dmin dmax rho slew rnd win att : Int} (h : goodR rho slew = false) : goodB N dmin dmax rho slew rnd win att = false :=
  goodB_false fun c => by rw [goodR_iff.2 (goodB_iff.1 c).2.1] at h; cases h
theorem no_per {N dmin dmax rho slew rnd win att : Int} (h : ¬ ((1 ≤ rnd ∧ rnd ≤ 1099511627776) ∧ (1 ≤ win ∧ win ≤ 1099511627776) ∧ (1 ≤ att ∧ att ≤ 1099511627776))) : goodB N dmin dmax rho slew rnd win att = false :=
  goodB_false fun c => h (goodB_iff.1 c).2.2

set_option maxRecDepth 100000 in
set_option maxHeartbeats 4000000 in
theorem good_cfg (la : Option Addr) (ln lc : Nat) (N F dmin dmax rho slew rnd win att sn hs fl qu bd : Int) (w : World) :
    Calls Try.prog 19 #[.agg #[.int .i64 N, .slice la ln lc, .int .i64 F, .int .i64 dmin, .int .i64 dmax, .int .i64 rho, .int .i64 slew, .int .i64 rnd, .int .i64 win, .int .i64 att, .int .i64 sn, .int .i64 hs, .int .i64 fl, .int .i64 qu, .int .i64 bd]] w fun e w' => e = .returned (.bool (goodB N dmin dmax rho slew rnd win att)) ∧ w.alloc (.cells #[.int .i64 N, .slice la ln lc, .int .i64 F, .int .i64 dmin, .int .i64 dmax, .int .i64 rho, .int .i64 slew, .int .i64 rnd, .int .i64 win, .int .i64 att, .int .i64 sn, .int .i64 hs, .int .i64 fl, .int .i64 qu, .int .i64 bd] 24) = w' := by
  by_cases c0 : N < 2
  · have ok := Lib.hid (no_small (att := att) (win := win) (rnd := rnd) (slew := slew) (rho := rho) (by omega) : goodB N dmin dmax rho slew rnd win att = false)
    go_enter Try.func19, Try.ntmps19
    go_wp2_with fail
    go_ret
    refine ⟨retb ?_, rfl⟩
    first | exact ok.out.symm | (rw [ok.out]; simp; omega)
  by_cases c1 : 64 < N
  · have ok := Lib.hid (no_small (att := att) (win := win) (rnd := rnd) (slew := slew) (rho := rho) (by omega) : goodB N dmin dmax rho slew rnd win att = false)
    go_enter Try.func19, Try.ntmps19
    go_wp2_with fail
    go_ret
    refine ⟨retb ?_, rfl⟩
    first | exact ok.out.symm | (rw [ok.out]; simp; omega)
  by_cases c2 : dmin < 1
  · have ok := Lib.hid (no_small (att := att) (win := win) (rnd := rnd) (slew := slew) (rho := rho) (by omega) : goodB N dmin dmax rho slew rnd win att = false)
    go_enter Try.func19, Try.ntmps19
    go_wp2_with fail
    go_ret
    refine ⟨retb ?_, rfl⟩
    first | exact ok.out.symm | (rw [ok.out]; simp; omega)
  by_cases c3 : dmax < dmin
  · have ok := Lib.hid (no_small (att := att) (win := win) (rnd := rnd) (slew := slew) (rho := rho) (by omega) : goodB N dmin dmax rho slew rnd win att = false)
    go_enter Try.func19, Try.ntmps19
    go_wp2_with fail
    go_ret
    refine ⟨retb ?_, rfl⟩
    first | exact ok.out.symm | (rw [ok.out]; simp; omega)
  by_cases c4 : 64 < dmax
  · have ok := Lib.hid (no_small (att := att) (win := win) (rnd := rnd) (slew := slew) (rho := rho) (by omega) : goodB N dmin dmax rho slew rnd win att = false)
    go_enter Try.func19, Try.ntmps19
    go_wp2_with fail
    go_ret
    refine ⟨retb ?_, rfl⟩
    first | exact ok.out.symm | (rw [ok.out]; simp; omega)
  have hs' : 2 ≤ N ∧ N ≤ 64 ∧ 1 ≤ dmin ∧ dmin ≤ dmax ∧ dmax ≤ 64 := by omega
  by_cases g : ¬ goodR rho slew = true
  · skip
    have G := Lib.hid (goodR_not g)
    have ok := Lib.hid (no_rate (N := N) (dmin := dmin) (dmax := dmax) (att := att) (win := win) (rnd := rnd) (goodR_not g) : goodB N dmin dmax rho slew rnd win att = false)
    clear g
    go_enter Try.func19, Try.ntmps19
    go_wp2_with (first
      | (go_at_call 36; refine (rate_good _ _ _).mono ?_; rintro e w' ⟨rfl, rfl⟩; rw [G.out]))
    go_ret
    refine ⟨retb ?_, rfl⟩
    first | exact ok.out.symm | (rw [ok.out]; simp; omega)
  have g := Classical.not_not.1 g
  have G := Lib.hid g
  have gb := goodR_iff.1 g
  clear g
  by_cases q0 : ¬ (1 ≤ rnd ∧ rnd ≤ 1099511627776)
  · skip
    have P1 := Lib.hid (perB_not q0)
    have ok := Lib.hid (no_per (by omega) : goodB N dmin dmax rho slew rnd win att = false)
    clear q0
    go_enter Try.func19, Try.ntmps19
    go_wp2_with (first
      | (go_at_call 36; refine (rate_good _ _ _).mono ?_; rintro e w' ⟨rfl, rfl⟩; rw [G.out])
      | (go_at_call 37; refine (period_any _ _).mono ?_; rintro e w' ⟨rfl, rfl⟩; first | rw [P1.out]))
    go_ret
    refine ⟨retb ?_, rfl⟩
    first | exact ok.out.symm | (rw [ok.out]; simp; omega)
  have q0 := Classical.not_not.1 q0
  have P1 := Lib.hid (perB_iff.2 q0)
  by_cases q1 : ¬ (1 ≤ win ∧ win ≤ 1099511627776)
  · skip
    have P2 := Lib.hid (perB_not q1)
    have ok := Lib.hid (no_per (by omega) : goodB N dmin dmax rho slew rnd win att = false)
    clear q1
    go_enter Try.func19, Try.ntmps19
    go_wp2_with (first
      | (go_at_call 36; refine (rate_good _ _ _).mono ?_; rintro e w' ⟨rfl, rfl⟩; rw [G.out])
      | (go_at_call 37; refine (period_any _ _).mono ?_; rintro e w' ⟨rfl, rfl⟩; first | rw [P1.out] | rw [P2.out]))
    go_ret
    refine ⟨retb ?_, rfl⟩
    first | exact ok.out.symm | (rw [ok.out]; simp; omega)
  have q1 := Classical.not_not.1 q1
  have P2 := Lib.hid (perB_iff.2 q1)
  by_cases q2 : ¬ (1 ≤ att ∧ att ≤ 1099511627776)
  · skip
    have P3 := Lib.hid (perB_not q2)
    have ok := Lib.hid (no_per (by omega) : goodB N dmin dmax rho slew rnd win att = false)
    clear q2
    go_enter Try.func19, Try.ntmps19
    go_wp2_with (first
      | (go_at_call 36; refine (rate_good _ _ _).mono ?_; rintro e w' ⟨rfl, rfl⟩; rw [G.out])
      | (go_at_call 37; refine (period_any _ _).mono ?_; rintro e w' ⟨rfl, rfl⟩; first | rw [P1.out] | rw [P2.out] | rw [P3.out]))
    go_ret
    refine ⟨retb ?_, rfl⟩
    first | exact ok.out.symm | (rw [ok.out]; simp; omega)
  have q2 := Classical.not_not.1 q2
  have P3 := Lib.hid (perB_iff.2 q2)
  have ok := Lib.hid (goodB_iff.2 ⟨hs', gb, by omega, by omega, by omega⟩ : goodB N dmin dmax rho slew rnd win att = true)
  go_enter Try.func19, Try.ntmps19
  go_wp2_with (first
    | (go_at_call 36; refine (rate_good _ _ _).mono ?_; rintro e w' ⟨rfl, rfl⟩; rw [G.out])
    | (go_at_call 37; refine (period_any _ _).mono ?_; rintro e w' ⟨rfl, rfl⟩; first | rw [P1.out] | rw [P2.out] | rw [P3.out]))
  go_ret
  refine ⟨retb ?_, rfl⟩
  first | exact ok.out.symm | (rw [ok.out]; simp; omega)

set_option maxRecDepth 100000 in
set_option maxHeartbeats 4000000 in
theorem rgood_cfg (la : Option Addr) (ln lc : Nat) (N F dmin dmax rho slew rnd win att sn hs fl qu bd : Int) (w : World) :
    Calls Try.prog 9 #[.agg #[.int .i64 N, .slice la ln lc, .int .i64 F, .int .i64 dmin, .int .i64 dmax, .int .i64 rho, .int .i64 slew, .int .i64 rnd, .int .i64 win, .int .i64 att, .int .i64 sn, .int .i64 hs, .int .i64 fl, .int .i64 qu, .int .i64 bd]] w fun e w' => e = .returned (.bool (goodB N dmin dmax rho slew rnd win att)) ∧ w.alloc (.cells #[.int .i64 N, .slice la ln lc, .int .i64 F, .int .i64 dmin, .int .i64 dmax, .int .i64 rho, .int .i64 slew, .int .i64 rnd, .int .i64 win, .int .i64 att, .int .i64 sn, .int .i64 hs, .int .i64 fl, .int .i64 qu, .int .i64 bd] 24) = w' := by
  by_cases c0 : N < 2
  · have ok := Lib.hid (no_small (att := att) (win := win) (rnd := rnd) (slew := slew) (rho := rho) (by omega) : goodB N dmin dmax rho slew rnd win att = false)
    go_enter Try.func9, Try.ntmps9
    go_wp2_with fail
    go_ret
    refine ⟨retb ?_, rfl⟩
    first | exact ok.out.symm | (rw [ok.out]; simp; omega)
  by_cases c1 : 64 < N
  · have ok := Lib.hid (no_small (att := att) (win := win) (rnd := rnd) (slew := slew) (rho := rho) (by omega) : goodB N dmin dmax rho slew rnd win att = false)
    go_enter Try.func9, Try.ntmps9
    go_wp2_with fail
    go_ret
    refine ⟨retb ?_, rfl⟩
    first | exact ok.out.symm | (rw [ok.out]; simp; omega)
  by_cases c2 : dmin < 1
  · have ok := Lib.hid (no_small (att := att) (win := win) (rnd := rnd) (slew := slew) (rho := rho) (by omega) : goodB N dmin dmax rho slew rnd win att = false)
    go_enter Try.func9, Try.ntmps9
    go_wp2_with fail
    go_ret
    refine ⟨retb ?_, rfl⟩
    first | exact ok.out.symm | (rw [ok.out]; simp; omega)
  by_cases c3 : dmax < dmin
  · have ok := Lib.hid (no_small (att := att) (win := win) (rnd := rnd) (slew := slew) (rho := rho) (by omega) : goodB N dmin dmax rho slew rnd win att = false)
    go_enter Try.func9, Try.ntmps9
    go_wp2_with fail
    go_ret
    refine ⟨retb ?_, rfl⟩
    first | exact ok.out.symm | (rw [ok.out]; simp; omega)
  by_cases c4 : 64 < dmax
  · have ok := Lib.hid (no_small (att := att) (win := win) (rnd := rnd) (slew := slew) (rho := rho) (by omega) : goodB N dmin dmax rho slew rnd win att = false)
    go_enter Try.func9, Try.ntmps9
    go_wp2_with fail
    go_ret
    refine ⟨retb ?_, rfl⟩
    first | exact ok.out.symm | (rw [ok.out]; simp; omega)
  have hs' : 2 ≤ N ∧ N ≤ 64 ∧ 1 ≤ dmin ∧ dmin ≤ dmax ∧ dmax ≤ 64 := by omega
  by_cases g : ¬ goodR rho slew = true
  · skip
    have G := Lib.hid (goodR_not g)
    have ok := Lib.hid (no_rate (N := N) (dmin := dmin) (dmax := dmax) (att := att) (win := win) (rnd := rnd) (goodR_not g) : goodB N dmin dmax rho slew rnd win att = false)
    clear g
    go_enter Try.func9, Try.ntmps9
    go_wp2_with (first
      | (go_at_call 27; refine (rrate_good _ _ _).mono ?_; rintro e w' ⟨rfl, rfl⟩; rw [G.out]))
    go_ret
    refine ⟨retb ?_, rfl⟩
    first | exact ok.out.symm | (rw [ok.out]; simp; omega)
  have g := Classical.not_not.1 g
  have G := Lib.hid g
  have gb := goodR_iff.1 g
  clear g
  by_cases q0a : rnd < 1
  · have ok := Lib.hid (no_per (by omega) : goodB N dmin dmax rho slew rnd win att = false)
    go_enter Try.func9, Try.ntmps9
    go_wp2_with (first
      | (go_at_call 27; refine (rrate_good _ _ _).mono ?_; rintro e w' ⟨rfl, rfl⟩; rw [G.out]))
    go_ret
    refine ⟨retb ?_, rfl⟩
    first | exact ok.out.symm | (rw [ok.out]; simp; omega)
  by_cases q0b : 1099511627776 < rnd
  · have ok := Lib.hid (no_per (by omega) : goodB N dmin dmax rho slew rnd win att = false)
    go_enter Try.func9, Try.ntmps9
    go_wp2_with (first
      | (go_at_call 27; refine (rrate_good _ _ _).mono ?_; rintro e w' ⟨rfl, rfl⟩; rw [G.out]))
    go_ret
    refine ⟨retb ?_, rfl⟩
    first | exact ok.out.symm | (rw [ok.out]; simp; omega)
  by_cases q1a : win < 1
  · have ok := Lib.hid (no_per (by omega) : goodB N dmin dmax rho slew rnd win att = false)
    go_enter Try.func9, Try.ntmps9
    go_wp2_with (first
      | (go_at_call 27; refine (rrate_good _ _ _).mono ?_; rintro e w' ⟨rfl, rfl⟩; rw [G.out]))
    go_ret
    refine ⟨retb ?_, rfl⟩
    first | exact ok.out.symm | (rw [ok.out]; simp; omega)
  by_cases q1b : 1099511627776 < win
  · have ok := Lib.hid (no_per (by omega) : goodB N dmin dmax rho slew rnd win att = false)
    go_enter Try.func9, Try.ntmps9
    go_wp2_with (first
      | (go_at_call 27; refine (rrate_good _ _ _).mono ?_; rintro e w' ⟨rfl, rfl⟩; rw [G.out]))
    go_ret
    refine ⟨retb ?_, rfl⟩
    first | exact ok.out.symm | (rw [ok.out]; simp; omega)
  by_cases q2a : att < 1
  · have ok := Lib.hid (no_per (by omega) : goodB N dmin dmax rho slew rnd win att = false)
    go_enter Try.func9, Try.ntmps9
    go_wp2_with (first
      | (go_at_call 27; refine (rrate_good _ _ _).mono ?_; rintro e w' ⟨rfl, rfl⟩; rw [G.out]))
    go_ret
    refine ⟨retb ?_, rfl⟩
    first | exact ok.out.symm | (rw [ok.out]; simp; omega)
  by_cases q2b : 1099511627776 < att
  · have ok := Lib.hid (no_per (by omega) : goodB N dmin dmax rho slew rnd win att = false)
    go_enter Try.func9, Try.ntmps9
    go_wp2_with (first
      | (go_at_call 27; refine (rrate_good _ _ _).mono ?_; rintro e w' ⟨rfl, rfl⟩; rw [G.out]))
    go_ret
    refine ⟨retb ?_, rfl⟩
    first | exact ok.out.symm | (rw [ok.out]; simp; omega)
  have ok := Lib.hid (goodB_iff.2 ⟨hs', gb, by omega, by omega, by omega⟩ : goodB N dmin dmax rho slew rnd win att = true)
  go_enter Try.func9, Try.ntmps9
  go_wp2_with (first
    | (go_at_call 27; refine (rrate_good _ _ _).mono ?_; rintro e w' ⟨rfl, rfl⟩; rw [G.out]))
  go_ret
  refine ⟨retb ?_, rfl⟩
  first | exact ok.out.symm | (rw [ok.out]; simp; omega)
end Go.Proofs.Ytpbabpbinojodaa.Bound
