/- The numbers of a word's bits, rising: plain Lean. -/
import Derived.Lib.TrailingZeros
import Derived.Laws.Bits64b
import Derived.WalkKit
namespace Go.Proofs.YtmbblhajbecomaaDoor.Nodes
set_option maxRecDepth 100000
open Go.RowKit
set_option linter.unusedVariables false

/-- The numbers of a number's bits, rising. -/
def ones (s : Nat) : List Nat := (List.range 64).filter fun i => s.testBit i
theorem ones_zero : ones 0 = [] := by simp [ones]
theorem mem_ones {s i : Nat} : i ∈ ones s ↔ i < 64 ∧ s.testBit i = true := by simp [ones]
theorem ones_lt {s i : Nat} (h : i ∈ ones s) : i < 64 := (mem_ones.1 h).1
theorem bit_low {k m i : Nat} : (2 ^ k * (2 * m + 1)).testBit i = (decide (k ≤ i) && (2 * m + 1).testBit (i - k)) := by
  rw [Nat.mul_comm, Nat.testBit_mul_two_pow]
theorem bit_less {k m i : Nat} : (2 ^ k * (2 * m + 1) - 1).testBit i = if i < k then true else (2 * m).testBit (i - k) := by
  have h0 : 0 < 2 ^ k := Nat.two_pow_pos k
  have e : 2 ^ k * (2 * m + 1) - 1 = 2 ^ k * (2 * m) + (2 ^ k - 1) := by rw [Nat.mul_add, Nat.mul_one]; omega
  rw [e, Nat.testBit_two_pow_mul_add _ (by omega)]
  split
  · rename_i h
    rw [Nat.testBit_two_pow_sub_one]; simp [h]
  · rfl
/-- The lowest bit's number; the word without it. -/
theorem lowest {s : Nat} (h0 : s ≠ 0) (h : s < 2 ^ 64) :
    (∀ i, i < Lib.ctz 64 s → s.testBit i = false) ∧ s.testBit (Lib.ctz 64 s) = true ∧ Lib.ctz 64 s < 64 ∧ ∀ i, (s &&& (s - 1)).testBit i = (s.testBit i && decide (i ≠ Lib.ctz 64 s)) := by
  obtain ⟨m, hm, hk⟩ := Lib.ctzFrom_spec 64 s (by omega) h
  have e : Lib.ctz 64 s = Lib.ctzFrom 64 s := by simp [Lib.ctz, h0]
  rw [e]
  obtain ⟨k, hk'⟩ : ∃ k, Lib.ctzFrom 64 s = k := ⟨_, rfl⟩
  rw [hk'] at hm hk ⊢
  clear hk' e h h0
  subst hm
  refine ⟨fun i hi => ?_, ?_, hk, fun i => ?_⟩
  · rw [bit_low]; simp [show ¬ k ≤ i by omega]
  · rw [bit_low]; simp [Nat.testBit_zero]
  · rw [Nat.testBit_and, bit_low, bit_less]
    by_cases h1 : i < k
    · simp [h1, show ¬ k ≤ i by omega]
    · rw [if_neg h1]
      by_cases h2 : i = k
      · subst h2; simp [Nat.testBit_zero]
      · obtain ⟨d, rfl⟩ : ∃ d, i = k + (d + 1) := ⟨i - k - 1, by omega⟩
        have e3 : k + (d + 1) - k = d + 1 := by omega
        have d1 : (2 * m + 1) / 2 = m := by omega
        have d2 : 2 * m / 2 = m := by omega
        rw [e3, Nat.testBit_succ, Nat.testBit_succ, d1, d2]
        simp
theorem ones_cons {s : Nat} (h0 : s ≠ 0) (h : s < 2 ^ 64) : ones s = Lib.ctz 64 s :: ones (s &&& (s - 1)) := by
  obtain ⟨h1, h2, h3, h4⟩ := lowest h0 h
  obtain ⟨k, hk⟩ : ∃ k, Lib.ctz 64 s = k := ⟨_, rfl⟩
  rw [hk] at h1 h2 h3 h4 ⊢
  have e : List.range 64 = List.range' 0 k ++ (k :: List.range' (k + 1) (63 - k)) := by
    have := List.range'_append_1 (s := 0) (m := k) (n := 63 - k + 1)
    rw [Nat.zero_add, show k + (63 - k + 1) = 64 by omega] at this
    rw [List.range_eq_range', ← List.range'_succ, this]
  unfold ones
  rw [e, List.filter_append, List.filter_append, List.filter_cons_of_pos (by simpa using h2), List.filter_cons_of_neg (by simp [h4])]
  have n1 : ∀ s' : Nat, (∀ i, i < k → s'.testBit i = false) → (List.range' 0 k).filter (fun i => s'.testBit i) = [] := fun s' hs' => by
    rw [List.filter_eq_nil_iff]
    intro i hi
    rw [List.mem_range'_1] at hi
    simp [hs' i (by omega)]
  rw [n1 s h1, n1 (s &&& (s - 1)) (fun i hi => by rw [h4, h1 i hi]; rfl), List.nil_append, List.nil_append]
  congr 1
  refine List.filter_congr fun i hi => ?_
  rw [List.mem_range'_1] at hi
  rw [h4]
  simp [show i ≠ k by omega]
theorem less_lt {s : Nat} (h : s < 2 ^ 64) : s &&& (s - 1) < 2 ^ 64 := Nat.and_lt_two_pow _ (by omega)
theorem wrap_less {s : Nat} (h0 : s ≠ 0) (h : s < 2 ^ 64) : IntKind.u64.wrap ((s : Int) - 1) = ((s - 1 : Nat) : Int) := by
  rw [IntKind.wrap_u64]; omega
theorem and_less {s : Nat} (h0 : s ≠ 0) (h : s < 2 ^ 64) : bits .and .u64 (s : Int) ((s - 1 : Nat) : Int) = ((s &&& (s - 1) : Nat) : Int) := bits_and_u64_nat _ _ (by omega) (by omega)
theorem eq0 {s : Nat} (h0 : s ≠ 0) : ((s : Int) == 0) = false := by simp; omega
theorem tz_key (x a : Nat) (hx : x < 18446744073709551616) (hx0 : x ≠ 0) (hlow : x &&& (18446744073709551616 - x) = a) :
    IntKind.u64.wrap (bits BinOp.and IntKind.u64 (x : Int) (IntKind.u64.wrap (-(x : Int))) * 285870213051353865) / 288230376151711744 = ((a * 285870213051353865 % 18446744073709551616 / 288230376151711744 : Nat) : Int) := by
  have e1 : IntKind.u64.wrap (-(x : Int)) = ((18446744073709551616 - x : Nat) : Int) := by rw [IntKind.wrap_u64]; omega
  rw [e1, bits_and_u64_nat x _ hx (by omega), hlow, IntKind.wrap_u64]
  omega
end Go.Proofs.YtmbblhajbecomaaDoor.Nodes
