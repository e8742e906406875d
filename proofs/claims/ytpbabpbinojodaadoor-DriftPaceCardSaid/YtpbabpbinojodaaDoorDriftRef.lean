/- The document's has and Gap, walked. -/
import Derived.Test.YtpbabpbinojodaaDoorDriftNote
namespace Go.Proofs.YtpbabpbinojodaaDoor.Drift
open Go.RowKit
open Go.Proofs.YtpbabpbinojodaaDoor.Arith Go.Proofs.YtpbabpbinojodaaDoor.Nodes Go.Proofs.YtpbabpbinojodaaDoor.Heap Go.Proofs.YtpbabpbinojodaaDoor.RF
set_option linter.unusedVariables false
set_option linter.unusedSimpArgs false
theorem power_any (i : Nat) (hi : i < 64) (w : World) :
    Calls Tryd.prog 27 #[.int .i64 i] w fun e w' => e = .returned (.int .u64 ((2 ^ i : Nat) : Int)) ∧ w' = w := by
  go_enter Tryd.func27, Tryd.ntmps27
  go_wp2
  go_loop [3, 4] (fun v3 v4 => ∃ k p : Nat, v3 = .int .u64 p ∧ v4 = .int .i64 k ∧ k ≤ i ∧ RowKit.Hid (p = 2 ^ k)) (fun _ v4 => match v4 with | .int _ k => i - k.toNat | _ => 0)
  case atStart => exact ⟨0, 1, rfl, rfl, Nat.zero_le _, Lib.hid rfl⟩
  case round =>
    obtain ⟨k, p, rfl, rfl, hk, hp⟩ := hrel
    by_cases hlt : k < i
    · have hp2 := Lib.hid (show p * 2 = 2 ^ (k + 1) by rw [Nat.pow_succ, hp.out])
      have hb : p * 2 < 2 ^ 64 := by rw [hp2.out]; exact Nat.pow_lt_pow_right (by omega) (by omega)
      have hw : IntKind.u64.wrap ((p : Int) * 2) = ((p * 2 : Nat) : Int) := by rw [IntKind.wrap_u64]; omega
      have l4 : (k : Int) < (i : Int) := by omega
      have l5 : (k : Int) + 1 ≤ 64 := by omega
      go_wp2
      go_round
      case rel => exact ⟨k + 1, p * 2, rfl, rfl, hlt, hp2⟩
      case measure => simp; omega
    · obtain rfl : k = i := by omega
      go_wp2
      go_ret
      exact ⟨ret_u (by simp [hp.out]), rfl⟩
theorem quo_bit (s i : Nat) : ((s / 2 ^ i % 2 : Nat) == 1) = s.testBit i := by
  rw [Nat.testBit_eq_decide_div_mod_eq, Bool.eq_iff_iff]
  simp
theorem quo_val {s p : Nat} (h : s / p < 18446744073709551616) : ((IntKind.u64.wrap ((s : Int) / (p : Int))).tmod 2 == 1) = (s / p % 2 == 1) := by
  have e1 : (s : Int) / (p : Int) = ((s / p : Nat) : Int) := by simp
  rw [e1]
  obtain ⟨q, hq⟩ : ∃ q, s / p = q := ⟨_, rfl⟩
  rw [hq] at h ⊢
  have e2 : IntKind.u64.wrap (q : Int) = (q : Int) := by rw [IntKind.wrap_u64]; omega
  rw [e2, Int.tmod_eq_emod_of_nonneg (by omega), Bool.eq_iff_iff, beq_iff_eq, beq_iff_eq]
  omega
theorem refHas_any (s : Nat) (hs : s < 2 ^ 64) (k : Nat) (hk : k < 64) (w : World) :
    Calls Tryd.prog 21 #[.int .u64 s, .int .i64 (k : Nat)] w fun e w' => e = .returned (.bool (s.testBit k)) ∧ w' = w := by
  have Hpow := Lib.hid (power_any k hk w)
  rw [← quo_bit]
  have hp0 : 0 < 2 ^ k := Nat.pow_pos (by omega)
  have h64 : (k : Int) < 64 := by omega
  obtain ⟨p, hp⟩ : ∃ p, 2 ^ k = p := ⟨_, rfl⟩
  rw [hp] at Hpow hp0 ⊢
  clear hp
  have hp1 : ¬ (p : Int) = 0 := by omega
  have hq : s / p < 18446744073709551616 := Nat.lt_of_le_of_lt (Nat.div_le_self _ _) (by omega)
  go_enter Tryd.func21, Tryd.ntmps21
  go_wp2_with (go_at_call 27; refine Hpow.out.mono ?_; rintro e w' ⟨rfl, h⟩; rw [h]; clear h w')
  go_ret
  exact ⟨ret_b (quo_val hq), rfl⟩
theorem nhas_any (tick : Int) (ad : Option Addr) (cap : Nat) (zs : List Int) (s : Nat) (hs : s < 2 ^ 64) (k : Nat) (hk : k < 64) (w : World) :
    Calls Tryd.prog 15 #[.agg #[.int .i64 tick, .slice ad zs.length cap, .int .u64 (s : Nat)], .int .i64 (k : Nat)] w fun e w' => e = .returned (.bool (Nt.live ⟨tick, zs, s⟩ k)) ∧ Below w.heap.size w w' := by
  have H := Lib.hid (fun V => refHas_any s hs k hk V)
  unfold Nt.live
  by_cases h : k < zs.length
  · rw [show decide (k < zs.length) = true by simpa using h]
    obtain ⟨t, ht⟩ : ∃ t, s.testBit k = t := ⟨_, rfl⟩
    simp only [ht] at H ⊢
    clear ht
    have h2 : (k : Int) < (zs.length : Int) := by omega
    go_enter Tryd.func15, Tryd.ntmps15
    go_wp2_with (go_at_call 21; refine (H.out _).mono ?_; rintro e w' ⟨rfl, h⟩; rw [h]; clear h w')
    go_ret
    exact ⟨by simp, (Below.refl _ w).alloc (Nat.le_refl _) _⟩
  · rw [show decide (k < zs.length) = false by simpa using h]
    have h2 : ¬ (k : Int) < (zs.length : Int) := by omega
    go_enter Tryd.func15, Tryd.ntmps15
    go_wp2_with fail
    go_ret
    exact ⟨by simp, (Below.refl _ w).alloc (Nat.le_refl _) _⟩
/-- The greatest of some pairs. -/
structure GapP (n : Nt) (P : Nat → Nat → Prop) (g : Int) : Prop where
  nn : 0 ≤ g
  le : ∀ i k, i < 64 → k < 64 → P i k → n.live i = true → n.live k = true → n.at i - n.at k ≤ g
  is : g = 0 ∨ ∃ i k, i < 64 ∧ k < 64 ∧ n.live i = true ∧ n.live k = true ∧ g = n.at i - n.at k
def fore (i k a b : Nat) : Prop := a < i ∨ a = i ∧ b < k
theorem GapP.start (n : Nt) : GapP n (fore 0 0) 0 := ⟨by omega, fun i k _ _ h => by unfold fore at h; omega, .inl rfl⟩
theorem GapP.line {n : Nt} {i : Nat} {g : Int} (h : GapP n (fore i 64) g) : GapP n (fore (i + 1) 0) g := ⟨h.nn, fun a b ha hb hp => h.le a b ha hb (by unfold fore at *; omega), h.is⟩
theorem GapP.skip {n : Nt} {i k : Nat} {g : Int} (h : GapP n (fore i k) g) (hs : n.live i = true → n.live k = true → n.at i - n.at k ≤ g) : GapP n (fore i (k + 1)) g := ⟨h.nn, fun a b ha hb hp la lb => by
  by_cases c : a = i ∧ b = k
  · obtain ⟨rfl, rfl⟩ := c; exact hs la lb
  · exact h.le a b ha hb (by unfold fore at *; omega) la lb, h.is⟩
theorem GapP.take {n : Nt} {i k : Nat} {g : Int} (h : GapP n (fore i k) g) (hi : i < 64) (hk : k < 64) (li : n.live i = true) (lk : n.live k = true) (hg : g < n.at i - n.at k) : GapP n (fore i (k + 1)) (n.at i - n.at k) := ⟨by have := h.nn; omega, fun a b ha hb hp la lb => by
  by_cases c : a = i ∧ b = k
  · obtain ⟨rfl, rfl⟩ := c; exact Int.le_refl _
  · have := h.le a b ha hb (by unfold fore at *; omega) la lb; omega, .inr ⟨i, k, hi, hk, li, lk, rfl⟩⟩
theorem GapP.gap {n : Nt} {g : Int} (h : GapP n (fore 64 0) g) : GapOf n g := ⟨h.nn, fun a b ha hb la lb => h.le a b ha hb (by unfold fore; omega) la lb, h.is⟩
theorem GapP.most {n : Nt} {P : Nat → Nat → Prop} {g : Int} (a : GapP n P g) : g ≤ 1152921504606846976 := by
  rcases a.is with c | ⟨i, k, hi, hk, li, lk, c⟩
  · omega
  · have := tm_in (n.l.getD i 0)
    have := tm_in (n.l.getD k 0)
    unfold Nt.at at c
    omega
end Go.Proofs.YtpbabpbinojodaaDoor.Drift
