/- The document's graph and the program's, in plain Lean: links, sets of bits, what is wrong with links. -/
import Derived.Test.YtmbblhajbecomaaDoorNewWalk
namespace Go.Proofs.YtmbblhajbecomaaDoor.Graph
set_option maxRecDepth 100000
open Go.RowKit
open Go.Proofs.YtmbblhajbecomaaDoor.RF Go.Proofs.YtmbblhajbecomaaDoor.Heap Go.Proofs.YtmbblhajbecomaaDoor.Nodes Go.Proofs.YtmbblhajbecomaaDoor.Seen
set_option linter.unusedVariables false

--PURE
def hit (a b : Int) (p : Int × Int) : Bool := (p.1 == a && p.2 == b) || (p.1 == b && p.2 == a)
/-- Are two linked, by a list of links? -/
def refL (L : List (Int × Int)) (a b : Int) : Bool := L.any (hit a b)
theorem hit_lk (a b : Int) (p : Int × Int) : hit a b p = true ↔ lk p = lk (a, b) := by
  obtain ⟨x, y⟩ := p
  simp only [hit, lk, Bool.or_eq_true, Bool.and_eq_true, beq_iff_eq, Prod.mk.injEq]
  omega
theorem refL_lk (L : List (Int × Int)) (a b : Int) : refL L a b = true ↔ lk (a, b) ∈ L.map lk := by
  simp only [refL, List.any_eq_true, hit_lk, List.mem_map]
theorem refL_comm (L : List (Int × Int)) (a b : Int) : refL L a b = refL L b a := by
  rw [Bool.eq_iff_iff, refL_lk, refL_lk]
  rw [show lk (a, b) = lk (b, a) by simp only [lk, Prod.mk.injEq]; omega]
theorem refL_nil (a b : Int) : refL [] a b = false := rfl
/-- What the document finds wrong with one link more. -/
theorem bad_ref (n : Nat) (L : List (Int × Int)) (a b : Int) :
    bad n (L.map lk) (a, b) = if isN n a = false ∨ isN n b = false then 8 else if a = b then 5 else if refL L a b = true then 12 else 0 := by
  unfold bad
  have h1 : (isN n (lk (a, b)).1 = false ∨ isN n (lk (a, b)).2 = false) ↔ (isN n a = false ∨ isN n b = false) := by
    rcases Int.le_total a b with c | c
    · rw [show lk (a, b) = (a, b) by simp only [lk, Prod.mk.injEq]; omega]
    · rw [show lk (a, b) = (b, a) by simp only [lk, Prod.mk.injEq]; omega]
      exact Or.comm
  have h2 : (lk (a, b)).1 = (lk (a, b)).2 ↔ a = b := by simp only [lk]; omega
  have h3 : lk (a, b) ∈ L.map lk ↔ refL L a b = true := (refL_lk L a b).symm
  simp only [h1, h2, h3]

/-- Links of nodes below n, the lesser node first. -/
def Good (n : Nat) (S : List (Int × Int)) : Prop := ∀ p ∈ S, 0 ≤ p.1 ∧ p.1 < p.2 ∧ p.2 < (n : Int)
theorem bad_zero {n : Nat} {S : List (Int × Int)} {l : Int × Int} (h : bad n S l = 0) : (0 ≤ (lk l).1 ∧ (lk l).1 < (lk l).2 ∧ (lk l).2 < (n : Int)) ∧ lk l ∉ S := by
  unfold bad at h
  split at h
  · cases h
  · rename_i h1
    split at h
    · cases h
    · rename_i h2
      split at h
      · cases h
      · rename_i h3
        simp only [isN, Bool.and_eq_false_iff, decide_eq_false_iff_not] at h1
        refine ⟨?_, h3⟩
        have : (lk l).1 ≤ (lk l).2 := by simp only [lk]; omega
        omega
theorem newE_spec {n : Nat} : ∀ (ls : List (Int × Int)) (S : List (Int × Int)), newE n S ls = 0 → Good n S → S.Nodup → Good n (S ++ ls.map lk) ∧ (S ++ ls.map lk).Nodup
  | [], S, _, hg, hd => by simpa using ⟨hg, hd⟩
  | l :: r, S, h, hg, hd => by
    rw [newE] at h
    split at h
    · rename_i hb
      obtain ⟨h1, h2⟩ := bad_zero hb
      have := newE_spec r (S ++ [lk l]) h (fun p hp => by
        rcases List.mem_append.1 hp with c | c
        · exact hg p c
        · rw [List.mem_singleton] at c; subst c; exact h1) (by
        rw [List.nodup_append]
        exact ⟨hd, by simp, fun a ha b hb e => by rw [List.mem_singleton] at hb; subst hb; subst e; exact h2 ha⟩)
      simpa using this
    · rename_i hb
      exact absurd h hb
theorem newE_of_good {n : Nat} : ∀ (ls : List (Int × Int)) (S : List (Int × Int)), Good n (S ++ ls.map lk) → (S ++ ls.map lk).Nodup → newE n S ls = 0
  | [], S, _, _ => rfl
  | l :: r, S, hg, hd => by
    have hl := hg (lk l) (by simp)
    have hn : lk l ∉ S := fun c => by
      rw [List.nodup_append] at hd
      exact hd.2.2 _ c _ (by simp) rfl
    have hb : bad n S l = 0 := by
      unfold bad
      rw [if_neg (by simp only [isN, Bool.and_eq_false_iff, decide_eq_false_iff_not]; omega), if_neg (by omega), if_neg hn]
    rw [newE, if_pos hb]
    exact newE_of_good r (S ++ [lk l]) (by simpa using hg) (by simpa using hd)
theorem getD_set {l : List Nat} {i k : Nat} {x : Nat} : (l.set i x).getD k 0 = if i = k ∧ k < l.length then x else l.getD k 0 := by
  simp only [List.getD_eq_getElem?_getD, List.getElem?_set]
  by_cases h : i = k
  · subst h
    by_cases h2 : i < l.length
    · simp [h2]
    · simp [h2]
  · simp [h]
theorem bit_or (x m k : Nat) : (x ||| 2 ^ m).testBit k = (x.testBit k || decide (m = k)) := by
  rw [Nat.testBit_or, Nat.testBit_two_pow]
/-- The bits of the sets that are made of links. -/
theorem near_bits {n : Nat} (i k : Nat) (hi : i < n) : ∀ (T : List (Int × Int)), Good n T.reverse → ((nearOf n T.reverse).getD i 0).testBit k = decide (lk ((i : Int), (k : Int)) ∈ T.reverse)
  | [], _ => by simp [nearOf, hi]
  | p :: T, hg => by
    rw [List.reverse_cons] at hg ⊢
    have ih := near_bits i k hi T (fun q hq => hg q (List.mem_append_left _ hq))
    obtain ⟨h1, h2, h3⟩ := hg p (by simp)
    obtain ⟨a, b⟩ := p
    simp only at h1 h2 h3
    have hlen := nearOf_len n T.reverse
    obtain ⟨x, rfl⟩ : ∃ x : Nat, a = x := ⟨a.toNat, by omega⟩
    obtain ⟨y, rfl⟩ : ∃ y : Nat, b = y := ⟨b.toNat, by omega⟩
    have hx : x < n := by omega
    have hy : y < n := by omega
    have hmem : decide (lk ((i : Int), (k : Int)) ∈ T.reverse ++ [((x : Int), (y : Int))]) = (decide (lk ((i : Int), (k : Int)) ∈ T.reverse) || decide ((i = x ∧ k = y) ∨ (i = y ∧ k = x))) := by
      rw [Bool.eq_iff_iff]
      simp only [List.mem_append, List.mem_singleton, Bool.or_eq_true, decide_eq_true_eq]
      have : lk ((i : Int), (k : Int)) = ((x : Int), (y : Int)) ↔ ((i = x ∧ k = y) ∨ (i = y ∧ k = x)) := by
        simp only [lk, Prod.mk.injEq]; omega
      rw [this]
    rw [nearOf_snoc, hmem, ← ih]
    simp only [joinR, Int.toNat_natCast]
    rw [getD_set, getD_set, List.length_set, hlen]
    by_cases c1 : y = i
    · subst c1
      have d1 : x ≠ y := by omega
      rw [if_pos ⟨rfl, hy⟩, bit_or]
      congr 1
      rw [decide_eq_decide]; omega
    · rw [if_neg (fun c => c1 c.1)]
      by_cases c2 : x = i
      · subst c2
        rw [if_pos ⟨rfl, hx⟩, bit_or]
        congr 1
        rw [decide_eq_decide]; omega
      · rw [if_neg (fun c => c2 c.1)]
        have : decide ((i = x ∧ k = y) ∨ (i = y ∧ k = x)) = false := by rw [decide_eq_false_iff_not]; omega
        rw [this, Bool.or_false]
/-- Sets and links say the same. -/
structure Match (n : Nat) (near : List Nat) (L : List (Int × Int)) : Prop where
  len : near.length = n
  bits : ∀ i k : Nat, i < n → (near.getD i 0).testBit k = refL L i k
  out : ∀ a b : Int, refL L a b = true → 0 ≤ a ∧ a < (n : Int) ∧ 0 ≤ b ∧ b < (n : Int)
theorem match_new {n : Nat} {ls : List (Int × Int)} (h : newE n [] ls = 0) : Match n (nearOf n (ls.map lk)) ls := by
  obtain ⟨hg, _⟩ := newE_spec ls [] h (fun p hp => by cases hp) List.nodup_nil
  rw [List.nil_append] at hg
  refine ⟨nearOf_len _ _, fun i k hi => ?_, fun a b hab => ?_⟩
  · have := near_bits (n := n) i k hi (ls.map lk).reverse (by rw [List.reverse_reverse]; exact hg)
    rw [List.reverse_reverse] at this
    rw [this, Bool.eq_iff_iff, decide_eq_true_eq, refL_lk]
  · rw [refL_lk] at hab
    have := hg _ hab
    simp only [lk] at this
    omega
theorem match_none : Match 0 [] [] := ⟨rfl, fun i k h => by omega, fun a b h => by cases h⟩
section
variable {n : Nat} {near : List Nat} {L : List (Int × Int)}
theorem Match.both (h : Match n near L) {a b : Int} (hl : refL L a b = true) : isN n a = true ∧ isN n b = true := by
  have := h.out a b hl
  simp only [isN, Bool.and_eq_true, decide_eq_true_eq]; omega
theorem Match.word (h : Match n near L) {i : Nat} (hi : i < n) : near.getD i 0 < 2 ^ n := by
  refine Nat.lt_pow_two_of_testBit _ fun k hk => ?_
  rw [h.bits i k hi]
  cases c : refL L i k
  · rfl
  · have := h.out _ _ c; omega
theorem Match.linked (h : Match n near L) (h64 : n ≤ 64) (a b : Int) : linkR near a b = refL L a b := by
  unfold linkR
  rw [h.len, Bool.eq_iff_iff]
  constructor
  · intro c
    rw [Bool.and_eq_true] at c
    obtain ⟨k, rfl, hk⟩ := isN_yes c.1
    have c2 := c.2
    simp only [hasR, Bool.and_eq_true, decide_eq_true_eq] at c2
    obtain ⟨m, rfl⟩ : ∃ m : Nat, b = m := ⟨b.toNat, by omega⟩
    rw [Int.toNat_natCast, Int.toNat_natCast, h.bits k m hk] at c2
    exact c2.2
  · intro c
    have o := h.out a b c
    obtain ⟨k, rfl⟩ : ∃ m : Nat, a = m := ⟨a.toNat, by omega⟩
    obtain ⟨m, rfl⟩ : ∃ m : Nat, b = m := ⟨b.toNat, by omega⟩
    rw [Bool.and_eq_true]
    refine ⟨(h.both c).1, ?_⟩
    simp only [hasR, Bool.and_eq_true, decide_eq_true_eq]
    rw [Int.toNat_natCast, Int.toNat_natCast, h.bits k m (by omega)]
    exact ⟨⟨by omega, by omega⟩, c⟩
/-- A number by its bits. -/
def ofBits (f : Nat → Bool) : Nat → Nat
  | 0 => 0
  | k + 1 => ofBits f k + if f k = true then 2 ^ k else 0
theorem ofBits_lt (f : Nat → Bool) : ∀ m, ofBits f m < 2 ^ m
  | 0 => by simp [ofBits]
  | m + 1 => by
    have := ofBits_lt f m
    rw [ofBits, Nat.pow_succ]
    split <;> omega
theorem ofBits_bit (f : Nat → Bool) (k : Nat) : ∀ m, (ofBits f m).testBit k = (decide (k < m) && f k)
  | 0 => by simp [ofBits]
  | m + 1 => by
    have ih := ofBits_bit f k m
    have hl := ofBits_lt f m
    rw [ofBits]
    by_cases hf : f m = true
    · rw [if_pos hf, Nat.add_comm]
      by_cases hk : k = m
      · subst hk
        rw [Nat.testBit_two_pow_add_eq, ih]
        simp [hf]
      · rcases Nat.lt_or_ge k m with c | c
        · rw [Nat.testBit_two_pow_add_gt c, ih]
          simp [c, Nat.lt_succ_of_lt c]
        · have : 2 ^ m + ofBits f m < 2 ^ k := by
            have : 2 ^ (m + 1) ≤ 2 ^ k := Nat.pow_le_pow_right (by omega) (by omega)
            rw [Nat.pow_succ] at this
            omega
          rw [Nat.testBit_lt_two_pow this]
          simp; omega
    · rw [if_neg hf, Nat.add_zero, ih]
      rcases Nat.lt_trichotomy k m with c | c | c
      · simp [c, Nat.lt_succ_of_lt c]
      · subst c
        simp at hf
        simp [hf]
      · have h1 : decide (k < m) = false := by simp; omega
        have h2 : decide (k < m + 1) = false := by simp; omega
        rw [h1, h2]
/-- The nodes that one is linked with, as the document tells them. -/
def refNear (n : Nat) (L : List (Int × Int)) (i : Int) : List Nat := (List.range n).filter fun k => refL L i k
theorem Match.nearAt (h : Match n near L) (h64 : n ≤ 64) (i : Int) : nearR near i = ofBits (fun k => decide (k ∈ refNear n L i)) 64 := by
  refine Nat.eq_of_testBit_eq fun k => ?_
  rw [ofBits_bit]
  unfold nearR
  rw [h.len]
  have hm : decide (k ∈ refNear n L i) = (decide (k < n) && refL L i k) := by
    rw [Bool.eq_iff_iff]; simp [refNear]
  rw [hm]
  split
  · rename_i c
    obtain ⟨j, rfl, hj⟩ := isN_yes c
    rw [Int.toNat_natCast, h.bits j k hj]
    cases c2 : refL L j k
    · simp
    · have := h.out _ _ c2
      simp; omega
  · rename_i c
    rw [Nat.zero_testBit]
    cases c2 : refL L i k
    · simp
    · exact absurd (h.both c2).1 c
/-- The links, as the document tells them. -/
def refUp (n : Nat) (L : List (Int × Int)) (a : Nat) : List (Nat × Nat) := ((List.range n).filter fun b => decide (a < b) && refL L a b).map fun b => (a, b)
def refTo (n : Nat) (L : List (Int × Int)) (k : Nat) : List (Nat × Nat) := (List.range k).flatMap (refUp n L)
def refLinks (n : Nat) (L : List (Int × Int)) : List (Nat × Nat) := refTo n L n
theorem range_split {n m : Nat} (h : n ≤ m) : List.range m = List.range n ++ (List.range (m - n)).map (n + ·) := by
  rw [← List.range_add, Nat.add_sub_cancel' h]
theorem Match.links (h : Match n near L) (h64 : n ≤ 64) : linksOf near = refLinks n L := by
  unfold linksOf linksTo refLinks refTo
  rw [h.len, List.flatMap_def, List.flatMap_def]
  congr 1
  refine List.map_congr_left fun a ha => ?_
  rw [List.mem_range] at ha
  unfold up refUp
  congr 1
  rw [ones, List.filter_filter, range_split h64, List.filter_append]
  have e2 : List.filter (fun b => decide (a < b) && (near.getD a 0).testBit b) ((List.range (64 - n)).map (n + ·)) = [] := by
    rw [List.filter_eq_nil_iff]
    intro b hb
    rw [List.mem_map] at hb
    obtain ⟨c, _, rfl⟩ := hb
    rw [h.bits a (n + c) ha]
    cases c2 : refL L a (n + c : Nat)
    · simp
    · have := h.out _ _ c2; omega
  rw [e2, List.append_nil]
  refine List.filter_congr fun b hb => ?_
  rw [h.bits a b ha]
end
--END
end Go.Proofs.YtmbblhajbecomaaDoor.Graph
