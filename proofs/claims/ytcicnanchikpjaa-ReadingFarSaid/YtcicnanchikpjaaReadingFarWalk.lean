/- The walk of the law ReadingFar. -/
import Derived.Test.YtcicnanchikpjaaTrip
namespace Go.Proofs.Ytcicnanchikpjaa.Trip
open Go.Proofs.Ytcicnanchikpjaa.Arith Go.Proofs.Ytcicnanchikpjaa.Span Go.Proofs.Ytcicnanchikpjaa.Hops Go.Proofs.Ytcicnanchikpjaa.Reading
open Go.RowKit (wrap64 Below intOf)
open Go.Proofs.Ytcicnanchikpjaa.Read (IntRow)
open Go.Proofs.Ytcicnanchikpjaa.HopsTrue (tmod_bd below_d mod_bd L1 l1_mk step_mul step_mul' whole)

set_option maxRecDepth 100000 in
set_option maxHeartbeats 4000000 in
theorem far_all (d0 d1 r s th ba : Int) (a0 a1 a2 : Option Addr) (n0 c0 n1 c1 n2 c2 : Nat) (z0 z2 : List Int) (sent val t : Int) (w : World)
    (h0 : 0 ≤ d0 ∧ d0 ≤ 255) (h1 : 0 ≤ d1 ∧ d1 ≤ 255) (hr : 0 ≤ r ∧ r ≤ 255) (hs : 0 ≤ s ∧ s ≤ 255)
    (hva : 0 ≤ val ∧ val ≤ 4294967295) (ht : 0 ≤ t ∧ t ≤ 4294967295) (r0 : IntRow .u8 w a0 n0 c0 z0) (r2 : IntRow .i16 w a2 n2 c2 z2) (hcut : n0 ≤ 20) :
    Calls Try.prog 14 #[.agg #[.int .u8 d0, .int .u8 d1, .int .u8 r, .int .u8 s, .int .u8 th, .int .u8 ba, .slice a1 n1 c1, .slice a2 n2 c2, .int .u32 sent, .int .u32 val], .slice a0 n0 c0, .int .u32 t] w fun e w' => e = .returned (.bool true) ∧ Below w.heap.size w w' := by
  have hn0 : n0 ≤ 9223372036854775807 := Nat.le_trans r0.le r0.max
  have R0 := Lib.hid r0
  have R2 := Lib.hid r2
  clear r0 r2
  have hb := b_bd d0 d1
  go_enter Try.func14, Try.ntmps14
  go_wp2_with fail
  refine (bounds_any _ _ _ _ _ _ _ _ _ _ _ _ _ _ _ h0 h1 hr hs).mono ?_
  rintro e w1 ⟨rfl, b1⟩
  generalize bLo d0 d1 = lo at *
  generalize bHi d0 d1 = hi at *
  have hs1 : w.heap.size < w1.heap.size := by have := b1.size; simp at this; omega
  obtain ⟨hcl, _⟩ := bcell b1
  have c7 : w1.cell? ⟨w.heap.size, 7, none⟩ = some (.slice a2 n2 c2) := (hcl _ 7 (by simp)).trans (by go_simp)
  have c9 : w1.cell? ⟨w.heap.size, 9, none⟩ = some (.int .u32 val) := (hcl _ 9 (by simp)).trans (by go_simp)
  have b1' : Below w.heap.size w w1 := (below_1 _ _).trans (b1.mono (by simp))
  clear hcl b1
  have R0' := Lib.hid (row_below R0.out b1')
  have R2' := Lib.hid (row_below R2.out b1')
  clear R0 R2
  have hg : goodH (n0 : Int) lo hi = true := goodH_iff.2 (by omega)
  have hg' := Lib.hid hg
  have hbd := hb_of hg
  have hrb := prod_small (x := r % 65) (y := (n0 : Int) * hi) (m := 64) (n := 4032) (by omega) (by omega) (by omega) (by omega)
  have hok : okE (n0 : Int) lo hi (r % 65) = true := okE_iff.2 ⟨hg, by omega⟩
  have hok' := Lib.hid hok
  have hdo : diffOk val (n0 : Int) lo hi t = true := by rw [diffOk, hg, all2, timeB_yes (by omega), timeB_yes (by omega)]; rfl
  have hdo' := Lib.hid hdo
  clear hg hok hdo
  go_wp2_with fail
  go_loop [12, 13] (fun u i => L1 (n0 : Int) lo hi u i) (fun _ i => n0 - (intOf i).toNat)
  case atStart => exact l1_mk 0 0 (by omega) rfl rfl (by simp) (by omega) (by omega)
  case round =>
    obtain ⟨k, T, hk, rfl, rfl, hT, hT0, hT1⟩ := hrel
    by_cases hlt : (k : Int) < (n0 : Int)
    · obtain ⟨b, off, x, rfl, hb0, hcell, hx⟩ : ∃ b off x, a0 = some ⟨b, off, none⟩ ∧ b < w1.heap.size ∧ w1.cell? ⟨b, off + k, none⟩ = some (.int .u8 x) ∧ 0 ≤ x ∧ x ≤ 255 := by
        have r1 := R0'.out
        have hle := r1.le
        rcases r1.at' with c | ⟨b, off, e, hb, hc⟩
        · omega
        · exact ⟨b, off, _, e, hb, hc k (by omega), range_u8 r1.wf k⟩
      have hm := mod_bd (x := x) (y := hi - lo + 1) (by omega)
      have hz : (hi - lo + 1 == 0) = false := eq_false' (by omega)
      go_wp2_with fail
      go_round
      case rel =>
        have hT' := hT.out
        exact l1_mk (k + 1) (T + (lo + x % (hi - lo + 1))) (by omega) (by go_num) rfl ⟨step_mul _ _ _ _ hT'.1 (by omega), step_mul' _ _ _ _ hT'.2 (by omega)⟩ (by omega) (by omega)
      case measure => simp [intOf]; omega
    · have hkk : k = n0 := by omega
      subst hkk
      have hT' := hT.out
      go_wp2_with fail
      go_quiet ((go_at_call 50; exact quiet_l (went_int _ _ _ z2 _ _ _ _ (row_dN R2'.out _) (by omega) (by omega) (by omega))))
      obtain ⟨W, e1, k1, l1⟩ : ∃ W, wentF z2 n2 0 (r % 65) T.toNat = W ∧ RowKit.Hid (-(r % 65 * T) ≤ W - 1024 * T ∧ W - 1024 * T ≤ r % 65 * T) ∧ (-(320 * T) ≤ W - 1024 * T ∧ W - 1024 * T ≤ 320 * T) := by
        have q1 := went_bd z2 n2 0 (r % 65) (by omega) T.toNat
        have q2 := went_lin z2 n2 0 (r % 65) (by omega) T.toNat
        rw [Int.toNat_of_nonneg (by omega)] at q1 q2
        exact ⟨_, rfl, Lib.hid q1, q2⟩
      rw [show Int.toNat 0 = 0 from rfl, e1]
      clear e1
      have hw := whole hT'.1 hT'.2 (by omega : 0 ≤ r % 65) k1.out
      clear hT'
      rw [IntWalk.wrap64_in (val + W) (by omega), IntWalk.wrap64_in (val + W - t) (by omega)]
      go_wp2_with fail
      refine (diff_any _ _ _ _ _ _).mono ?_
      rintro e w3 ⟨rfl, b3⟩
      rw [diff_yes hdo'.out, midH_yes hg'.out, hdo'.out]
      go_wp2_with fail
      refine (err_h _ _ _ _ _).mono ?_
      rintro e w4 ⟨rfl, rfl⟩
      rw [errH_yes hok'.out, hok'.out]
      go_wp2_with fail
      refine (Reading.works_any _).mono ?_
      rintro e w5 ⟨rfl, b5⟩
      go_wp2_with fail
      go_ret
      exact ⟨rfl, (below_dN b1' _).trans (Below.trans (b := w3) (b3.mono (by simpa using Nat.le_of_lt hs1)) (b5.mono (Nat.le_trans (Nat.le_of_lt hs1) (by simpa using b3.size))))⟩

set_option maxRecDepth 100000 in
set_option maxHeartbeats 4000000 in
theorem far_cut (d0 d1 r s th ba : Int) (a0 a1 a2 : Option Addr) (n0 c0 n1 c1 n2 c2 : Nat) (z0 z2 : List Int) (sent val t : Int) (w : World)
    (h0 : 0 ≤ d0 ∧ d0 ≤ 255) (h1 : 0 ≤ d1 ∧ d1 ≤ 255) (hr : 0 ≤ r ∧ r ≤ 255) (hs : 0 ≤ s ∧ s ≤ 255)
    (hva : 0 ≤ val ∧ val ≤ 4294967295) (ht : 0 ≤ t ∧ t ≤ 4294967295) (r0 : IntRow .u8 w a0 n0 c0 z0) (r2 : IntRow .i16 w a2 n2 c2 z2) (hcut : 20 < n0) :
    Calls Try.prog 14 #[.agg #[.int .u8 d0, .int .u8 d1, .int .u8 r, .int .u8 s, .int .u8 th, .int .u8 ba, .slice a1 n1 c1, .slice a2 n2 c2, .int .u32 sent, .int .u32 val], .slice a0 n0 c0, .int .u32 t] w fun e w' => e = .returned (.bool true) ∧ Below w.heap.size w w' := by
  have hn0 : n0 ≤ 9223372036854775807 := Nat.le_trans r0.le r0.max
  have R0 := Lib.hid r0
  have R2 := Lib.hid r2
  clear r0 r2
  have hb := b_bd d0 d1
  go_enter Try.func14, Try.ntmps14
  go_wp2_with fail
  refine (bounds_any _ _ _ _ _ _ _ _ _ _ _ _ _ _ _ h0 h1 hr hs).mono ?_
  rintro e w1 ⟨rfl, b1⟩
  generalize bLo d0 d1 = lo at *
  generalize bHi d0 d1 = hi at *
  have hs1 : w.heap.size < w1.heap.size := by have := b1.size; simp at this; omega
  obtain ⟨hcl, _⟩ := bcell b1
  have c7 : w1.cell? ⟨w.heap.size, 7, none⟩ = some (.slice a2 n2 c2) := (hcl _ 7 (by simp)).trans (by go_simp)
  have c9 : w1.cell? ⟨w.heap.size, 9, none⟩ = some (.int .u32 val) := (hcl _ 9 (by simp)).trans (by go_simp)
  have b1' : Below w.heap.size w w1 := (below_1 _ _).trans (b1.mono (by simp))
  clear hcl b1
  have R0' := Lib.hid (row_below R0.out b1')
  have R2' := Lib.hid (row_below R2.out b1')
  clear R0 R2
  have hg : goodH 20 lo hi = true := goodH_iff.2 (by omega)
  have hg' := Lib.hid hg
  have hbd := hb_of hg
  have hrb := prod_small (x := r % 65) (y := 20 * hi) (m := 64) (n := 4032) (by omega) (by omega) (by omega) (by omega)
  have hok : okE 20 lo hi (r % 65) = true := okE_iff.2 ⟨hg, by omega⟩
  have hok' := Lib.hid hok
  have hdo : diffOk val 20 lo hi t = true := by rw [diffOk, hg, all2, timeB_yes (by omega), timeB_yes (by omega)]; rfl
  have hdo' := Lib.hid hdo
  clear hg hok hdo
  go_wp2_with fail
  go_loop [12, 13] (fun u i => L1 20 lo hi u i) (fun _ i => 20 - (intOf i).toNat)
  case atStart => exact l1_mk 0 0 (by omega) rfl rfl (by simp) (by omega) (by omega)
  case round =>
    obtain ⟨k, T, hk, rfl, rfl, hT, hT0, hT1⟩ := hrel
    by_cases hlt : (k : Int) < 20
    · obtain ⟨b, off, x, rfl, hb0, hcell, hx⟩ : ∃ b off x, a0 = some ⟨b, off, none⟩ ∧ b < w1.heap.size ∧ w1.cell? ⟨b, off + k, none⟩ = some (.int .u8 x) ∧ 0 ≤ x ∧ x ≤ 255 := by
        have r1 := R0'.out
        have hle := r1.le
        rcases r1.at' with c | ⟨b, off, e, hb, hc⟩
        · omega
        · exact ⟨b, off, _, e, hb, hc k (by omega), range_u8 r1.wf k⟩
      have hm := mod_bd (x := x) (y := hi - lo + 1) (by omega)
      have hz : (hi - lo + 1 == 0) = false := eq_false' (by omega)
      go_wp2_with fail
      go_round
      case rel =>
        have hT' := hT.out
        exact l1_mk (k + 1) (T + (lo + x % (hi - lo + 1))) (by omega) (by go_num) rfl ⟨step_mul _ _ _ _ hT'.1 (by omega), step_mul' _ _ _ _ hT'.2 (by omega)⟩ (by omega) (by omega)
      case measure => simp [intOf]; omega
    · have hkk : k = 20 := by omega
      subst hkk
      have hT' := hT.out
      go_wp2_with fail
      go_quiet ((go_at_call 50; exact quiet_l (went_int _ _ _ z2 _ _ _ _ (row_dN R2'.out _) (by omega) (by omega) (by omega))))
      obtain ⟨W, e1, k1, l1⟩ : ∃ W, wentF z2 n2 0 (r % 65) T.toNat = W ∧ RowKit.Hid (-(r % 65 * T) ≤ W - 1024 * T ∧ W - 1024 * T ≤ r % 65 * T) ∧ (-(320 * T) ≤ W - 1024 * T ∧ W - 1024 * T ≤ 320 * T) := by
        have q1 := went_bd z2 n2 0 (r % 65) (by omega) T.toNat
        have q2 := went_lin z2 n2 0 (r % 65) (by omega) T.toNat
        rw [Int.toNat_of_nonneg (by omega)] at q1 q2
        exact ⟨_, rfl, Lib.hid q1, q2⟩
      rw [show Int.toNat 0 = 0 from rfl, e1]
      clear e1
      have hw := whole hT'.1 hT'.2 (by omega : 0 ≤ r % 65) k1.out
      have e20 : ((20 : Nat) : Int) = 20 := rfl
      rw [e20] at hT' hw
      clear e20
      rw [IntWalk.wrap64_in (val + W) (by omega), IntWalk.wrap64_in (val + W - t) (by omega)]
      go_wp2_with fail
      refine (diff_any _ _ _ _ _ _).mono ?_
      rintro e w3 ⟨rfl, b3⟩
      rw [diff_yes hdo'.out, midH_yes hg'.out, hdo'.out]
      go_wp2_with fail
      refine (err_h _ _ _ _ _).mono ?_
      rintro e w4 ⟨rfl, rfl⟩
      rw [errH_yes hok'.out, hok'.out]
      go_wp2_with fail
      refine (Reading.works_any _).mono ?_
      rintro e w5 ⟨rfl, b5⟩
      go_wp2_with fail
      go_ret
      exact ⟨rfl, (below_dN b1' _).trans (Below.trans (b := w3) (b3.mono (by simpa using Nat.le_of_lt hs1)) (b5.mono (Nat.le_trans (Nat.le_of_lt hs1) (by simpa using b3.size))))⟩
theorem far_walk (d0 d1 r s th ba : Int) (a0 a1 a2 : Option Addr) (n0 c0 n1 c1 n2 c2 : Nat) (z0 z2 : List Int) (sent val t : Int) (w : World)
    (h0 : 0 ≤ d0 ∧ d0 ≤ 255) (h1 : 0 ≤ d1 ∧ d1 ≤ 255) (hr : 0 ≤ r ∧ r ≤ 255) (hs : 0 ≤ s ∧ s ≤ 255)
    (hva : 0 ≤ val ∧ val ≤ 4294967295) (ht : 0 ≤ t ∧ t ≤ 4294967295) (r0 : IntRow .u8 w a0 n0 c0 z0) (r2 : IntRow .i16 w a2 n2 c2 z2) :
    Calls Try.prog 14 #[.agg #[.int .u8 d0, .int .u8 d1, .int .u8 r, .int .u8 s, .int .u8 th, .int .u8 ba, .slice a1 n1 c1, .slice a2 n2 c2, .int .u32 sent, .int .u32 val], .slice a0 n0 c0, .int .u32 t] w fun e w' => e = .returned (.bool true) ∧ Below w.heap.size w w' := by
  by_cases hc : n0 ≤ 20
  · exact far_all d0 d1 r s th ba a0 a1 a2 n0 c0 n1 c1 n2 c2 z0 z2 sent val t w h0 h1 hr hs hva ht r0 r2 hc
  · exact far_cut d0 d1 r s th ba a0 a1 a2 n0 c0 n1 c1 n2 c2 z0 z2 sent val t w h0 h1 hr hs hva ht r0 r2 (by omega)
end Go.Proofs.Ytcicnanchikpjaa.Trip
