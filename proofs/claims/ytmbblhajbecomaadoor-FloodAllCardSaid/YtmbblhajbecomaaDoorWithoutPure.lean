/- A graph without the links of some nodes; plain. -/
import Derived.Test.YtmbblhajbecomaaDoorShapesPure
namespace Go.Proofs.YtmbblhajbecomaaDoor.Graph
set_option maxRecDepth 100000
open Go.RowKit
open Go.Proofs.YtmbblhajbecomaaDoor.RF Go.Proofs.YtmbblhajbecomaaDoor.Heap Go.Proofs.YtmbblhajbecomaaDoor.Nodes Go.Proofs.YtmbblhajbecomaaDoor.Seen
set_option linter.unusedVariables false
set_option linter.unusedSimpArgs false

theorem bits_andNot_nat (a b : Nat) (ha : a < 18446744073709551616) (hb : b < 18446744073709551616) :
    bits .andNot .u64 (a : Int) (b : Int) = ((a &&& (18446744073709551615 - b) : Nat) : Int) := by
  have hx : a &&& (18446744073709551615 - b) < 2 ^ 64 := Nat.and_lt_two_pow _ (by omega)
  have h1 : (BitVec.ofInt 64 (a : Int)).toNat = a := by
    rw [BitVec.ofInt_natCast, BitVec.toNat_ofNat]; exact Nat.mod_eq_of_lt (by omega)
  have h2 : (BitVec.ofInt 64 (b : Int)).toNat = b := by
    rw [BitVec.ofInt_natCast, BitVec.toNat_ofNat]; exact Nat.mod_eq_of_lt (by omega)
  show IntKind.u64.wrap ((BitVec.ofInt 64 (a : Int) &&& ~~~ BitVec.ofInt 64 (b : Int)).toNat : Int) = _
  rw [BitVec.toNat_and, BitVec.toNat_not, h1, h2, IntKind.wrap_u64]
  rw [show 2 ^ 64 - 1 - b = 18446744073709551615 - b by omega]
  omega
/-- a without the bits of s. -/
def anotN (a s : Nat) : Nat := a &&& (18446744073709551615 - s)
theorem anotN_lt {a s : Nat} (ha : a < 2 ^ 64) : anotN a s < 2 ^ 64 := Nat.and_lt_two_pow _ (by omega)
theorem anotN_bit {a s : Nat} (hs : s < 2 ^ 64) (k : Nat) (hk : k < 64) : (anotN a s).testBit k = (a.testBit k && !s.testBit k) := by
  unfold anotN
  rw [Nat.testBit_and, show 18446744073709551615 - s = 2 ^ 64 - (s + 1) by omega, Nat.testBit_two_pow_sub_succ hs]
  simp [hk]
theorem anotN_high {a s : Nat} (ha : a < 2 ^ 64) (k : Nat) (hk : 64 ≤ k) : (anotN a s).testBit k = false :=
  Nat.testBit_lt_two_pow (Nat.lt_of_lt_of_le (anotN_lt ha) (Nat.pow_le_pow_right (by omega) hk))
/-- A graph's sets without the nodes of s. -/
def withoutTo (near : List Nat) (s k : Nat) : List Nat := (List.range near.length).map fun i => if i < k ∧ s.testBit i = false then anotN (near.getD i 0) s else 0
def withoutR (near : List Nat) (s : Nat) : List Nat := withoutTo near s near.length
theorem withoutTo_len (near : List Nat) (s k : Nat) : (withoutTo near s k).length = near.length := by simp [withoutTo]
theorem withoutTo_zero (near : List Nat) (s : Nat) : withoutTo near s 0 = List.replicate near.length 0 := by
  unfold withoutTo
  refine List.ext_getElem (by simp) fun i h1 h2 => ?_
  simp
theorem withoutTo_hit {near : List Nat} {s k : Nat} (h : s.testBit k = true) : withoutTo near s (k + 1) = withoutTo near s k := by
  unfold withoutTo
  refine List.map_congr_left fun i _ => ?_
  by_cases e : i = k
  · subst e; rw [h, if_neg (by simp), if_neg (by simp)]
  · by_cases c : i < k ∧ s.testBit i = false
    · rw [if_pos c, if_pos ⟨by omega, c.2⟩]
    · rw [if_neg c, if_neg (fun d => c ⟨by omega, d.2⟩)]
theorem withoutTo_get (near : List Nat) (s k i : Nat) (h : i < (withoutTo near s k).length) : (withoutTo near s k)[i] = if i < k ∧ s.testBit i = false then anotN (near.getD i 0) s else 0 := by
  simp [withoutTo]
theorem withoutTo_miss {near : List Nat} {s k : Nat} (h : s.testBit k = false) (hk : k < near.length) : withoutTo near s (k + 1) = (withoutTo near s k).set k (anotN (near.getD k 0) s) := by
  refine List.ext_getElem (by simp [withoutTo]) fun i h1 h2 => ?_
  rw [List.getElem_set, withoutTo_get]
  by_cases e : k = i
  · subst e; rw [if_pos ⟨by omega, h⟩, if_pos rfl]
  · rw [if_neg e, withoutTo_get]
    by_cases c : i < k ∧ s.testBit i = false
    · rw [if_pos c, if_pos ⟨by omega, c.2⟩]
    · rw [if_neg c, if_neg (fun d => c ⟨by omega, d.2⟩)]
theorem withoutR_at {near : List Nat} {s i : Nat} (hi : i < near.length) : (withoutR near s).getD i 0 = if s.testBit i = false then anotN (near.getD i 0) s else 0 := by
  unfold withoutR withoutTo
  rw [List.getD_eq_getElem?_getD, List.getElem?_map, List.getElem?_range hi]
  simp [hi]
/-- Is a link none of these nodes'? -/
def keepP (xs : List Int) (p : Int × Int) : Bool := !decide (p.1 ∈ xs) && !decide (p.2 ∈ xs)
theorem keepP_snoc (xs : List Int) (x : Int) (p : Int × Int) : keepP (xs ++ [x]) p = (keepP xs p && (p.1 != x && p.2 != x)) := by
  unfold keepP
  rw [Bool.eq_iff_iff]
  simp only [List.mem_append, List.mem_singleton, Bool.and_eq_true, Bool.not_eq_true', decide_eq_false_iff_not, bne_iff_ne, ne_eq, not_or]
  exact ⟨fun ⟨⟨a, b⟩, c, d⟩ => ⟨⟨a, c⟩, b, d⟩, fun ⟨⟨a, c⟩, b, d⟩ => ⟨⟨a, b⟩, c, d⟩⟩
theorem refL_keep (L : List (Int × Int)) (xs : List Int) (a b : Int) : refL (L.filter (keepP xs)) a b = (refL L a b && !decide (a ∈ xs) && !decide (b ∈ xs)) := by
  rw [Bool.eq_iff_iff]
  simp only [refL, List.any_eq_true, List.mem_filter, Bool.and_eq_true, keepP]
  constructor
  · rintro ⟨⟨x, y⟩, ⟨hm, hk⟩, hh⟩
    have h2 := hh
    simp only [hit, Bool.or_eq_true, Bool.and_eq_true, beq_iff_eq] at h2
    rcases h2 with ⟨rfl, rfl⟩ | ⟨rfl, rfl⟩
    · exact ⟨⟨⟨_, hm, hh⟩, hk.1⟩, hk.2⟩
    · exact ⟨⟨⟨_, hm, hh⟩, hk.2⟩, hk.1⟩
  · rintro ⟨⟨⟨⟨x, y⟩, hm, hh⟩, ha⟩, hb⟩
    refine ⟨(x, y), ⟨hm, ?_⟩, hh⟩
    simp only [hit, Bool.or_eq_true, Bool.and_eq_true, beq_iff_eq] at hh
    rcases hh with ⟨rfl, rfl⟩ | ⟨rfl, rfl⟩
    · exact ⟨ha, hb⟩
    · exact ⟨hb, ha⟩
theorem match_without {n : Nat} {near : List Nat} {L : List (Int × Int)} (h : Match n near L) (h64 : n ≤ 64) {s : Nat} (hs : s < 2 ^ 64) :
    Match n (withoutR near s) (L.filter (keepP ((ones s).map fun k : Nat => (k : Int)))) := by
  have hin : ∀ k : Nat, k < 64 → decide ((k : Int) ∈ (ones s).map fun k : Nat => (k : Int)) = s.testBit k := fun k hk => by
    rw [Bool.eq_iff_iff, decide_eq_true_eq, List.mem_map]
    constructor
    · rintro ⟨a, ha, e⟩
      rw [Int.natCast_inj] at e
      subst e
      simp only [ones, List.mem_filter] at ha
      exact ha.2
    · intro c
      exact ⟨k, by simp only [ones, List.mem_filter, List.mem_range]; exact ⟨hk, c⟩, rfl⟩
  refine ⟨by unfold withoutR; rw [withoutTo_len, h.len], fun i k hi => ?_, fun a b hab => ?_⟩
  · rw [withoutR_at (by rw [h.len]; exact hi), refL_keep, hin i (by omega)]
    have hw : near.getD i 0 < 2 ^ 64 := Nat.lt_of_lt_of_le (h.word hi) (Nat.pow_le_pow_right (by omega) h64)
    by_cases hk : k < 64
    · rw [hin k hk]
      by_cases c : s.testBit i = false
      · rw [if_pos c, anotN_bit hs k hk, h.bits i k hi, c]
        simp
      · rw [if_neg c]
        simp only [Bool.not_eq_false] at c
        rw [c]; simp
    · have hl : refL L i k = false := by
        cases c : refL L i k
        · rfl
        · have := h.out _ _ c; omega
      rw [hl]
      by_cases c : s.testBit i = false
      · rw [if_pos c, anotN_high hw k (by omega)]; simp
      · rw [if_neg c]; simp
  · rw [refL_keep] at hab
    simp only [Bool.and_eq_true] at hab
    exact h.out a b hab.1.1
end Go.Proofs.YtmbblhajbecomaaDoor.Graph
