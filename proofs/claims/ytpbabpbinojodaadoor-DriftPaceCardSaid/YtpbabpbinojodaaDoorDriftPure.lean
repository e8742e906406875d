/- Clocks noted: how far they are apart, and how many are out of pace: plain. -/
import Derived.Test.YtpbabpbinojodaaDoorOnes
import Derived.Test.YtpbabpbinojodaaDoorArith
namespace Go.Proofs.YtpbabpbinojodaaDoor.Drift
open Go.RowKit
open Go.Proofs.YtpbabpbinojodaaDoor.Arith Go.Proofs.YtpbabpbinojodaaDoor.Nodes
set_option linter.unusedVariables false

def tm (x : Int) : Int := clampI x 0 1152921504606846976
theorem tm_in (x : Int) : 0 ≤ tm x ∧ tm x ≤ 1152921504606846976 := by
  unfold tm clampI
  split
  · omega
  · split <;> omega
/-- A note: when, what clocks tell, of which. -/
structure Nt where
  tick : Int
  l : List Int
  s : Nat
def Nt.live (n : Nt) (i : Nat) : Bool := decide (i < n.l.length) && n.s.testBit i
def Nt.at (n : Nt) (i : Nat) : Int := tm (n.l.getD i 0)
/-- How far clocks are apart. -/
structure GapOf (n : Nt) (g : Int) : Prop where
  nn : 0 ≤ g
  le : ∀ i k, i < 64 → k < 64 → n.live i = true → n.live k = true → n.at i - n.at k ≤ g
  is : g = 0 ∨ ∃ i k, i < 64 ∧ k < 64 ∧ n.live i = true ∧ n.live k = true ∧ g = n.at i - n.at k
theorem GapOf.uniq {n : Nt} {g h : Int} (a : GapOf n g) (b : GapOf n h) : g = h := by
  have h1 : g ≤ h := by
    rcases a.is with c | ⟨i, k, hi, hk, li, lk, c⟩
    · rw [c]; exact b.nn
    · rw [c]; exact b.le i k hi hk li lk
  have h2 : h ≤ g := by
    rcases b.is with c | ⟨i, k, hi, hk, li, lk, c⟩
    · rw [c]; exact a.nn
    · rw [c]; exact a.le i k hi hk li lk
  omega
theorem GapOf.most {n : Nt} {g : Int} (a : GapOf n g) : g ≤ 1152921504606846976 := by
  rcases a.is with c | ⟨i, k, hi, hk, li, lk, c⟩
  · omega
  · have := tm_in (n.l.getD i 0)
    have := tm_in (n.l.getD k 0)
    unfold Nt.at at c
    omega
/-- One clock is out of pace. -/
def bad (d t s f : Int) : Bool := (if inr (t * s) then decide (d < t * s) else decide (0 < s)) || (if inr (t * f) then decide (t * f < d) else decide (f < 0))
/-- How many clocks are out of pace. -/
def outOf (a b : Nt) (s f : Int) : Nat := if 1 ≤ tm b.tick - tm a.tick then (List.range 64).countP fun i => a.live i && b.live i && bad (b.at i - a.at i) (tm b.tick - tm a.tick) s f else 0
theorem outOf_le (a b : Nt) (s f : Int) : outOf a b s f ≤ 64 := by
  unfold outOf
  split
  · exact Nat.le_trans List.countP_le_length (by simp)
  · omega
/-- What the watch keeps of a note. -/
structure Told (n : Nt) (T : Int) (A : List Int) (m : Nat) : Prop where
  tick : T = tm n.tick
  len : A.length = 64
  lt : m < 2 ^ 64
  bit : ∀ i, i < 64 → m.testBit i = n.live i
  val : ∀ i, i < 64 → n.live i = true → A.getD i 0 = n.at i
  inn : ∀ i, 0 ≤ A.getD i 0 ∧ A.getD i 0 ≤ 1152921504606846976
theorem Told.zero : Told ⟨0, [], 0⟩ 0 (List.replicate 64 0) 0 := by
  refine ⟨rfl, by simp, by omega, fun i _ => by simp [Nt.live], fun i _ h => by simp [Nt.live] at h, fun i => ?_⟩
  have : (List.replicate 64 (0 : Int)).getD i 0 = 0 := by
    rw [List.getD_eq_getElem?_getD, List.getElem?_replicate]
    split <;> rfl
  omega
/-- The least and the greatest of some. -/
structure Ext (A : List Int) (pre : List Nat) (lo hi : Int) : Prop where
  none : pre = [] → lo = 1152921504606846976 ∧ hi = 0
  all : ∀ i ∈ pre, lo ≤ A.getD i 0 ∧ A.getD i 0 ≤ hi
  some : pre ≠ [] → (∃ i ∈ pre, A.getD i 0 = lo) ∧ (∃ k ∈ pre, A.getD k 0 = hi)
theorem Ext.nil (A : List Int) : Ext A [] 1152921504606846976 0 := ⟨fun _ => ⟨rfl, rfl⟩, fun i hi => (by simp at hi), fun h => absurd rfl h⟩
theorem Ext.rng {A : List Int} {pre : List Nat} {lo hi : Int} (h : Ext A pre lo hi) (hA : ∀ i, 0 ≤ A.getD i 0 ∧ A.getD i 0 ≤ 1152921504606846976) : 0 ≤ lo ∧ lo ≤ 1152921504606846976 ∧ 0 ≤ hi ∧ hi ≤ 1152921504606846976 := by
  by_cases c : pre = []
  · obtain ⟨rfl, rfl⟩ := h.none c; omega
  · obtain ⟨⟨i, _, rfl⟩, k, _, rfl⟩ := h.some c
    have := hA i
    have := hA k
    omega
theorem Ext.add {A : List Int} {pre : List Nat} {lo hi : Int} (h : Ext A pre lo hi) (hA : ∀ i, 0 ≤ A.getD i 0 ∧ A.getD i 0 ≤ 1152921504606846976) (x : Nat) : Ext A (pre ++ [x]) (min lo (A.getD x 0)) (max hi (A.getD x 0)) := by
  have hx := hA x
  refine ⟨fun c => by simp at c, fun i hi' => ?_, fun _ => ?_⟩
  · rcases List.mem_append.1 hi' with c | c
    · have := h.all i c; omega
    · rw [List.mem_singleton] at c; subst c; omega
  · by_cases c : pre = []
    · obtain ⟨rfl, rfl⟩ := h.none c
      exact ⟨⟨x, by simp, by omega⟩, x, by simp, by omega⟩
    · obtain ⟨⟨i, hi', e1⟩, k, hk, e2⟩ := h.some c
      constructor
      · by_cases d : lo ≤ A.getD x 0
        · exact ⟨i, List.mem_append_left _ hi', by omega⟩
        · exact ⟨x, by simp, by omega⟩
      · by_cases d : A.getD x 0 ≤ hi
        · exact ⟨k, List.mem_append_left _ hk, by omega⟩
        · exact ⟨x, by simp, by omega⟩
theorem Told.gap {n : Nt} {T : Int} {A : List Int} {m : Nat} (h : Told n T A m) {lo hi : Int} (hm : m ≠ 0) (he : Ext A (ones m) lo hi) : GapOf n (hi - lo) := by
  have hne : ones m ≠ [] := by rw [ones_cons hm h.lt]; simp
  obtain ⟨⟨i, hi', e1⟩, k, hk, e2⟩ := he.some hne
  have li : ∀ j ∈ ones m, j < 64 ∧ n.live j = true ∧ A.getD j 0 = n.at j := fun j hj => by
    obtain ⟨c1, c2⟩ := mem_ones.1 hj
    have c3 := (h.bit j c1).symm.trans c2
    exact ⟨c1, c3, h.val j c1 c3⟩
  have mem : ∀ j, j < 64 → n.live j = true → j ∈ ones m := fun j c1 c2 => mem_ones.2 ⟨c1, (h.bit j c1).trans c2⟩
  refine ⟨?_, fun a b ha hb la lb => ?_, .inr ⟨k, i, (li k hk).1, (li i hi').1, (li k hk).2.1, (li i hi').2.1, ?_⟩⟩
  · have := he.all i hi'; omega
  · have h1 := he.all a (mem a ha la)
    have h2 := he.all b (mem b hb lb)
    rw [h.val a ha la] at h1
    rw [h.val b hb lb] at h2
    omega
  · rw [← (li k hk).2.2, ← (li i hi').2.2, e1, e2]
theorem Told.gap0 {n : Nt} {T : Int} {A : List Int} (h : Told n T A 0) : GapOf n 0 :=
  ⟨by omega, fun i k hi hk li lk => (by have := h.bit i hi; rw [li] at this; simp at this), .inl rfl⟩
theorem Told.out {a b : Nt} {T U : Int} {A B : List Int} {m k : Nat} (ha : Told a T A m) (hb : Told b U B k) (s f : Int) (h1 : 1 ≤ U - T) :
    (ones (k &&& m)).countP (fun i => bad (B.getD i 0 - A.getD i 0) (U - T) s f) = outOf a b s f := by
  have e := ha.tick
  have e' := hb.tick
  unfold outOf
  rw [← e, ← e', if_pos h1]
  unfold ones
  rw [List.countP_filter]
  refine List.countP_congr fun i hi => ?_
  have hi : i < 64 := by simpa using hi
  rw [Nat.testBit_and, ha.bit i hi, hb.bit i hi]
  cases ca : a.live i <;> cases cb : b.live i <;> simp only [Bool.and_true, Bool.and_false, Bool.false_and, Bool.true_and]
  rw [ha.val i hi ca, hb.val i hi cb]
theorem outOf_early {a b : Nt} {T U : Int} {A B : List Int} {m k : Nat} (ha : Told a T A m) (hb : Told b U B k) (s f : Int) (h1 : ¬ 1 ≤ U - T) : outOf a b s f = 0 := by
  have e := ha.tick
  have e' := hb.tick
  unfold outOf
  rw [← e, ← e', if_neg h1]
/-- What is told below and above, as the code has it. -/
theorem below_is {d t s : Int} (ht : 1 ≤ t) : (if inr (t * s) then decide (d < t * s) else ((decide (t < 0)) == (decide (s < 0)))) = (if inr (t * s) then decide (d < t * s) else decide (0 < s)) := by
  by_cases c : inr (t * s)
  · rw [if_pos c, if_pos c]
  · rw [if_neg c, if_neg c]
    have h0 : s ≠ 0 := fun e => c (by subst e; simp [inr])
    have e1 : decide (t < 0) = false := by simp; omega
    rw [e1]
    by_cases c2 : s < 0
    · simp [c2]; omega
    · simp [c2]; omega
theorem above_is {d t f : Int} (ht : 1 ≤ t) : (if inr (t * f) then decide (t * f < d) else ((decide (t < 0)) != (decide (f < 0)))) = (if inr (t * f) then decide (t * f < d) else decide (f < 0)) := by
  by_cases c : inr (t * f)
  · rw [if_pos c, if_pos c]
  · rw [if_neg c, if_neg c]
    have e1 : decide (t < 0) = false := by simp; omega
    rw [e1]
    cases decide (f < 0) <;> rfl
end Go.Proofs.YtpbabpbinojodaaDoor.Drift
