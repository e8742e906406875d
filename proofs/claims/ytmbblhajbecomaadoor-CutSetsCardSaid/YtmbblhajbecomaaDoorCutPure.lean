/- Sets of few nodes, by their number: plain. -/
import Derived.Test.YtmbblhajbecomaaDoorWidePure
import Derived.Test.YtmbblhajbecomaaDoorReachBall
import Derived.Laws.Bits64
namespace Go.Proofs.YtmbblhajbecomaaDoor.Cut
open Go.Proofs.YtmbblhajbecomaaDoor.Nodes Go.Proofs.YtmbblhajbecomaaDoor.Graph Go.Proofs.YtmbblhajbecomaaDoor.Reach
set_option linter.unusedVariables false
set_option linter.unusedSimpArgs false

def lowN (s : Nat) : Nat := s &&& (18446744073709551616 - s)
/-- The next set that has as many. -/
def nextN (s : Nat) : Nat := (s + lowN s) ||| ((s ^^^ (s + lowN s)) / lowN s / 4)
theorem low_ok : ∀ s, s < 256 → 0 < s → 0 < lowN s ∧ lowN s ≤ s := by decide +kernel
/-- All sets of n nodes that have k. -/
def sub (n k : Nat) : List Nat := (List.range (2 ^ n)).filter fun s => (ones s).length == k
def chk (n : Nat) : List Nat → Bool
  | [] => true
  | [s] => decide (0 < s) && decide (s < 2 ^ n) && decide (2 ^ n ≤ nextN s) && decide (nextN s < 65536)
  | s :: t :: r => decide (0 < s) && decide (s < 2 ^ n) && decide (nextN s = t) && chk n (t :: r)
theorem sub_chk : ∀ n, n < 9 → ∀ k, k < 5 → 1 ≤ k → k ≤ n → (chk n (sub n k) && decide ((sub n k)[0]? = some (2 ^ k - 1))) = true := by decide +kernel
theorem sub_zero : ∀ n, n < 9 → sub n 0 = [0] := by decide +kernel
theorem chk_at {n : Nat} : ∀ {l : List Nat}, chk n l = true → ∀ (j s : Nat), l[j]? = some s → 0 < s ∧ s < 2 ^ n ∧ ((∃ t, l[j + 1]? = some t ∧ nextN s = t) ∨ (l.length = j + 1 ∧ 2 ^ n ≤ nextN s ∧ nextN s < 65536))
  | [], _, j, s, h => by simp at h
  | [x], hc, j, s, h => by
    rcases j with _ | j
    · simp at h
      subst h
      simp only [chk, Bool.and_eq_true, decide_eq_true_eq] at hc
      exact ⟨hc.1.1.1, hc.1.1.2, .inr ⟨rfl, hc.1.2, hc.2⟩⟩
    · simp at h
  | x :: y :: r, hc, j, s, h => by
    simp only [chk, Bool.and_eq_true, decide_eq_true_eq] at hc
    rcases j with _ | j
    · simp at h
      subst h
      exact ⟨hc.1.1.1, hc.1.1.2, .inl ⟨y, rfl, hc.1.2⟩⟩
    · have := chk_at hc.2 j s (by simpa using h)
      refine ⟨this.1, this.2.1, ?_⟩
      rcases this.2.2 with ⟨t, h1, h2⟩ | ⟨h1, h2⟩
      · exact .inl ⟨t, by simpa using h1, h2⟩
      · exact .inr ⟨by simp at h1 ⊢; omega, h2⟩
/-- The sets that have fewer than K. -/
def setsTo (n K : Nat) : List Nat := (List.range K).flatMap (sub n)
theorem setsTo_succ (n K : Nat) : setsTo n (K + 1) = setsTo n K ++ sub n K := by simp [setsTo, List.range_succ]
/-- The sets that have m at most. -/
def setsF (n : Nat) (m : Int) : List Nat := setsTo n (min (n : Int) m + 1).toNat
theorem mem_sub {n k s : Nat} : s ∈ sub n k ↔ s < 2 ^ n ∧ (ones s).length = k := by simp [sub]
theorem mem_setsTo {n K s : Nat} : s ∈ setsTo n K ↔ s < 2 ^ n ∧ (ones s).length < K := by
  simp only [setsTo, List.mem_flatMap, List.mem_range, mem_sub]
  constructor
  · rintro ⟨k, h1, h2, h3⟩; exact ⟨h2, by omega⟩
  · rintro ⟨h1, h2⟩; exact ⟨_, h2, h1, rfl⟩
end Go.Proofs.YtmbblhajbecomaaDoor.Cut
namespace Go.Proofs.YtmbblhajbecomaaDoor.Cut
open Go.RowKit
open Go.Proofs.YtmbblhajbecomaaDoor.RF Go.Proofs.YtmbblhajbecomaaDoor.Heap Go.Proofs.YtmbblhajbecomaaDoor.Nodes Go.Proofs.YtmbblhajbecomaaDoor.Graph Go.Proofs.YtmbblhajbecomaaDoor.Reach
set_option linter.unusedVariables false
set_option linter.unusedSimpArgs false
theorem ret_u' {a b : Int} (h : a = b) : Ending.returned (.int .u64 a) = Ending.returned (.int .u64 b) := by rw [h]
theorem next_any (s : Nat) (h0 : 0 < s) (h1 : s < 256) (w : World) :
    Calls Tryd.prog 63 #[.int .u64 s] w fun e w' => e = .returned (.int .u64 (nextN s : Nat)) ∧ w' = w := by
  obtain ⟨hl0, hl1⟩ := low_ok s h1 h0
  have e1 : IntKind.u64.wrap (-(s : Int)) = ((18446744073709551616 - s : Nat) : Int) := by rw [IntKind.wrap_u64]; omega
  have e2 : bits .and .u64 (s : Int) ((18446744073709551616 - s : Nat) : Int) = ((lowN s : Nat) : Int) := bits_and_u64_nat _ _ (by omega) (by omega)
  unfold nextN
  obtain ⟨l, hl⟩ : ∃ l, lowN s = l := ⟨_, rfl⟩
  rw [hl] at e2 hl0 hl1 ⊢
  clear hl
  have e3 : IntKind.u64.wrap ((s : Int) + (l : Int)) = ((s + l : Nat) : Int) := by rw [IntKind.wrap_u64]; omega
  have e4 : bits .xor .u64 (s : Int) ((s + l : Nat) : Int) = ((s ^^^ (s + l) : Nat) : Int) := bits_xor_u64_nat _ _ (by omega) (by omega)
  have hx : s ^^^ (s + l) < 2 ^ 64 := Nat.xor_lt_two_pow (by omega) (by omega)
  obtain ⟨u, hu⟩ : ∃ u, s + l = u := ⟨_, rfl⟩
  rw [hu] at e3 e4 hx ⊢
  obtain ⟨x, hxx⟩ : ∃ x, s ^^^ u = x := ⟨_, rfl⟩
  rw [hxx] at e4 hx ⊢
  have hq : x / l ≤ x := Nat.div_le_self _ _
  obtain ⟨y, hy⟩ : ∃ y, x / l = y := ⟨_, rfl⟩
  have e7 : (x : Int) / (l : Int) = ((y : Nat) : Int) := by rw [← hy]; simp
  rw [hy] at hq ⊢
  have e5 : IntKind.u64.wrap ((x : Int) / (l : Int)) = ((y : Nat) : Int) := by rw [e7, IntKind.wrap_u64]; omega
  have hy4 : y / 4 ≤ y := Nat.div_le_self _ _
  have e6 : bits .or .u64 (u : Int) ((y / 4 : Nat) : Int) = ((u ||| (y / 4) : Nat) : Int) := bits_or_u64_nat _ _ (by omega) (by omega)
  have n1 : ¬ (l : Int) = 0 := by omega
  have n2 : ((u : Int) == 0) = false := by simp; omega
  clear hxx hy hu e7
  go_enter Tryd.func63, Tryd.ntmps63
  go_wp2
  go_ret
  exact ⟨ret_u' (by rw [show (y : Int) / 4 = ((y / 4 : Nat) : Int) by simp]; exact e6), rfl⟩
end Go.Proofs.YtmbblhajbecomaaDoor.Cut
