/- Contracts of rate.Fast, Slow, Ticks, of their references, and of the two closures in bound.Of. -/
import Derived.Test.YtpbabpbinojodaaBase26
namespace Go.Proofs.Ytpbabpbinojodaa.Bound
open Go.Proofs.Ytpbabpbinojodaa.Arith Go.Proofs.Ytpbabpbinojodaa.Span Go.Proofs.Ytpbabpbinojodaa.Hops
open Go.RowKit (wrap64 Below intOf)

def fastR (r s : Int) : Int := if goodR r s then 1024 + r + s else 0
def slowR (r s : Int) : Int := if goodR r s then 1024 - r - s else 0
theorem fastR_yes {r s : Int} (g : goodR r s = true) : fastR r s = 1024 + r + s := by rw [fastR, g]; rfl
theorem slowR_yes {r s : Int} (g : goodR r s = true) : slowR r s = 1024 - r - s := by rw [slowR, g]; rfl
theorem fastR_no {r s : Int} (g : goodR r s = false) : fastR r s = 0 := by rw [fastR, g]; rfl
theorem slowR_no {r s : Int} (g : goodR r s = false) : slowR r s = 0 := by rw [slowR, g]; rfl
theorem goodR_not {r s : Int} (c : ¬ goodR r s = true) : goodR r s = false := by simpa using c
set_option maxHeartbeats 1000000 in
theorem fast_any (r s : Int) (w : World) :
    Calls Try.prog 20 #[.int .i64 r, .int .i64 s] w fun e w' => e = .returned (.int .i64 (fastR r s)) ∧ w = w' := by
  by_cases g : goodR r s = true
  · have g' := Lib.hid g
    have gb := goodR_iff.1 g
    clear g
    go_enter Try.func20, Try.ntmps20
    go_wp2_with ((go_at_call 36); refine (rate_good _ _ _).mono ?_; rintro e w' ⟨rfl, rfl⟩; rw [g'.out])
    go_ret
    exact ⟨ret1 (fastR_yes g'.out).symm, rfl⟩
  · have g' := Lib.hid (goodR_not g)
    clear g
    go_enter Try.func20, Try.ntmps20
    go_wp2_with ((go_at_call 36); refine (rate_good _ _ _).mono ?_; rintro e w' ⟨rfl, rfl⟩; rw [g'.out])
    go_ret
    exact ⟨ret1 (fastR_no g'.out).symm, rfl⟩
set_option maxHeartbeats 1000000 in
theorem slow_any (r s : Int) (w : World) :
    Calls Try.prog 21 #[.int .i64 r, .int .i64 s] w fun e w' => e = .returned (.int .i64 (slowR r s)) ∧ w = w' := by
  by_cases g : goodR r s = true
  · have g' := Lib.hid g
    have gb := goodR_iff.1 g
    clear g
    go_enter Try.func21, Try.ntmps21
    go_wp2_with ((go_at_call 36); refine (rate_good _ _ _).mono ?_; rintro e w' ⟨rfl, rfl⟩; rw [g'.out])
    go_ret
    exact ⟨ret1 (slowR_yes g'.out).symm, rfl⟩
  · have g' := Lib.hid (goodR_not g)
    clear g
    go_enter Try.func21, Try.ntmps21
    go_wp2_with ((go_at_call 36); refine (rate_good _ _ _).mono ?_; rintro e w' ⟨rfl, rfl⟩; rw [g'.out])
    go_ret
    exact ⟨ret1 (slowR_no g'.out).symm, rfl⟩
set_option maxHeartbeats 1000000 in
theorem rfast_any (r s : Int) (w : World) :
    Calls Try.prog 29 #[.int .i64 r, .int .i64 s] w fun e w' => e = .returned (.int .i64 (fastR r s)) ∧ w = w' := by
  by_cases g : goodR r s = true
  · have g' := Lib.hid g
    have gb := goodR_iff.1 g
    clear g
    go_enter Try.func29, Try.ntmps29
    go_wp2_with ((go_at_call 27); refine (rrate_good _ _ _).mono ?_; rintro e w' ⟨rfl, rfl⟩; rw [g'.out])
    go_ret
    exact ⟨ret1 (fastR_yes g'.out).symm, rfl⟩
  · have g' := Lib.hid (goodR_not g)
    clear g
    go_enter Try.func29, Try.ntmps29
    go_wp2_with ((go_at_call 27); refine (rrate_good _ _ _).mono ?_; rintro e w' ⟨rfl, rfl⟩; rw [g'.out])
    go_ret
    exact ⟨ret1 (fastR_no g'.out).symm, rfl⟩
set_option maxHeartbeats 1000000 in
theorem rslow_any (r s : Int) (w : World) :
    Calls Try.prog 30 #[.int .i64 r, .int .i64 s] w fun e w' => e = .returned (.int .i64 (slowR r s)) ∧ w = w' := by
  by_cases g : goodR r s = true
  · have g' := Lib.hid g
    have gb := goodR_iff.1 g
    clear g
    go_enter Try.func30, Try.ntmps30
    go_wp2_with ((go_at_call 27); refine (rrate_good _ _ _).mono ?_; rintro e w' ⟨rfl, rfl⟩; rw [g'.out])
    go_ret
    exact ⟨ret1 (slowR_yes g'.out).symm, rfl⟩
  · have g' := Lib.hid (goodR_not g)
    clear g
    go_enter Try.func30, Try.ntmps30
    go_wp2_with ((go_at_call 27); refine (rrate_good _ _ _).mono ?_; rintro e w' ⟨rfl, rfl⟩; rw [g'.out])
    go_ret
    exact ⟨ret1 (slowR_no g'.out).symm, rfl⟩

/-- How many ticks some grains take, where all is within its bounds. -/
def ticksR (g s : Int) : Int := g / s + 2
theorem ticks_bd (g s : Int) (hg : 0 ≤ g) (hs : 1 ≤ s) : 2 ≤ ticksR g s ∧ ticksR g s ≤ g + 2 := by
  have h1 := Int.ediv_nonneg hg (by omega : 0 ≤ s)
  have h2 := Int.ediv_le_self s hg
  unfold ticksR; omega
set_option maxHeartbeats 1000000 in
theorem ticks_any (g s : Int) (hg : 0 ≤ g ∧ g ≤ 1152921504606846976) (hs : 1 ≤ s ∧ s ≤ 2000) (w : World) :
    Calls Try.prog 23 #[.int .i64 g, .int .i64 s] w fun e w' => e = .returned (.int .i64 (ticksR g s)) ∧ ∃ n, w' = w.drewN n := by
  have hd := Lib.hid (divI_pos (a := g) (b := s) (by omega))
  have hq := Lib.hid (quoOk_pos (a := g) (b := s) (by omega))
  have hb : 0 ≤ g / s ∧ g / s ≤ g := ⟨Int.ediv_nonneg hg.1 (by omega), Int.ediv_le_self _ hg.1⟩
  go_enter Try.func23, Try.ntmps23
  go_wp2_with fail
  refine (div_any _ _ (by unfold I64; omega) (by unfold I64; omega) _).mono ?_
  rintro e w1 ⟨rfl, n1, rfl⟩
  rw [hd.out, hq.out]
  go_wp2_with fail
  go_ret
  exact ⟨rfl, n1, rfl⟩
set_option maxHeartbeats 1000000 in
theorem rticks_any (g s : Int) (hg : 0 ≤ g ∧ g ≤ 1152921504606846976) (hs : 1 ≤ s ∧ s ≤ 2000) (w : World) :
    Calls Try.prog 31 #[.int .i64 g, .int .i64 s] w fun e w' => e = .returned (.int .i64 (ticksR g s)) ∧ w = w' := by
  have hb : 0 ≤ g / s ∧ g / s ≤ g := ⟨Int.ediv_nonneg hg.1 (by omega), Int.ediv_le_self _ hg.1⟩
  have hz : (s == 0) = false := eq_false' (by omega)
  go_enter Try.func31, Try.ntmps31
  go_wp2_with fail
  go_ret
  exact ⟨rfl, rfl⟩

set_option maxHeartbeats 1000000 in
theorem clo1 (g s : Int) (b : Nat) (hg : 0 ≤ g ∧ g ≤ 1152921504606846976) (hs : 1 ≤ s ∧ s ≤ 2000) (w : World) (hc : w.cell? ⟨b, 2, none⟩ = some (.int .i64 s)) :
    Calls Try.prog 22 #[.int .i64 g, .pointer (some ⟨b, 0, none⟩)] w fun e w' => e = .returned (.int .i64 (ticksR g s)) ∧ ∃ n, w' = w.drewN n := by
  go_enter Try.func22, Try.ntmps22
  go_wp2_with fail
  refine (ticks_any _ _ hg hs _).mono ?_
  rintro e w1 ⟨rfl, n1, rfl⟩
  go_wp2_with fail
  go_ret
  exact ⟨rfl, n1, rfl⟩
set_option maxHeartbeats 1000000 in
theorem clo2 (g s r : Int) (c f b : Nat) (hg : 0 ≤ g ∧ g ≤ 1099511627776) (hs : 1 ≤ s ∧ s ≤ 2000) (hr : 0 ≤ r ∧ r ≤ 64) (w : World) (hc : w.cell? ⟨c, 5, none⟩ = some (.int .i64 r))
    (hf : w.cell? ⟨f, 0, none⟩ = some (.func (.func 22) #[] #[.pointer (some ⟨b, 0, none⟩)])) (hb : w.cell? ⟨b, 2, none⟩ = some (.int .i64 s)) :
    Calls Try.prog 24 #[.int .i64 g, .pointer (some ⟨c, 0, none⟩), .pointer (some ⟨f, 0, none⟩)] w fun e w' => e = .returned (.int .i64 (2 * r * ticksR (2 * g) s)) ∧ ∃ n, w' = w.drewN n := by
  have tb := ticks_bd (2 * g) s (by omega) hs.1
  have pb := prod_small (x := 2 * r) (y := ticksR (2 * g) s) (m := 128) (n := 2199023255554) (by omega) (by omega) (by omega) (by omega)
  go_enter Try.func24, Try.ntmps24
  go_wp2_with fail
  go_quiet ((go_at_call 22; exact Calls.quiet_of (clo1 _ s _ (by omega) hs _ hb)))
  go_wp2_with fail
  go_ret
  exact ⟨rfl, nq, rfl⟩
end Go.Proofs.Ytpbabpbinojodaa.Bound
