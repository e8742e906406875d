/- Rings and full graphs; plain. -/
import Derived.Test.YtmbblhajbecomaaDoorBackPure
namespace Go.Proofs.YtmbblhajbecomaaDoor.Graph
set_option maxRecDepth 100000
open Go.RowKit
open Go.Proofs.YtmbblhajbecomaaDoor.RF Go.Proofs.YtmbblhajbecomaaDoor.Heap Go.Proofs.YtmbblhajbecomaaDoor.Nodes Go.Proofs.YtmbblhajbecomaaDoor.Seen
set_option linter.unusedVariables false
set_option linter.unusedSimpArgs false
/-- Each node with the next one, from 0 on; k links. -/
def chain (k : Nat) : List (Nat × Nat) := (List.range k).map fun i => (i, i + 1)
theorem chain_succ (k : Nat) : chain (k + 1) = chain k ++ [(k, k + 1)] := by simp [chain, List.range_succ]
def ringL (n : Nat) : List (Nat × Nat) := chain (n - 1) ++ if 2 < n then [(n - 1, 0)] else []
/-- Node a with those above it, below m. -/
def over (m a : Nat) : List (Nat × Nat) := ((List.range m).filter fun b => decide (a < b)).map fun b => (a, b)
def fullTo (n k : Nat) : List (Nat × Nat) := (List.range k).flatMap (over n)
def fullL (n : Nat) : List (Nat × Nat) := fullTo n n
theorem over_start (a : Nat) : over (a + 1) a = [] := by
  unfold over
  rw [List.map_eq_nil_iff, List.filter_eq_nil_iff]
  intro b hb
  rw [List.mem_range] at hb
  simp; omega
theorem over_succ {m a : Nat} (h : a < m) : over (m + 1) a = over m a ++ [(a, m)] := by
  unfold over
  rw [List.range_succ, List.filter_append, List.map_append]
  simp [h]
theorem over_len (m a : Nat) : (over m a).length ≤ m := by
  have := List.length_filter_le (fun b : Nat => decide (a < b)) (List.range m)
  simpa [over] using this
theorem fullTo_succ (n k : Nat) : fullTo n (k + 1) = fullTo n k ++ over n k := by
  unfold fullTo
  rw [List.range_succ, List.flatMap_append]
  simp
theorem fullTo_len (n : Nat) : ∀ k, (fullTo n k).length ≤ k * n
  | 0 => by simp [fullTo]
  | k + 1 => by
    have h1 := fullTo_len n k
    have h2 := over_len n k
    rw [fullTo_succ, List.length_append, Nat.add_mul]; omega
theorem chain_len (k : Nat) : (chain k).length = k := by simp [chain]
theorem mem_chain {k : Nat} {p : Nat × Nat} : p ∈ chain k ↔ p.1 < k ∧ p.2 = p.1 + 1 := by
  obtain ⟨a, b⟩ := p
  simp only [chain, List.mem_map, List.mem_range, Prod.mk.injEq]
  constructor
  · rintro ⟨i, h, rfl, rfl⟩; exact ⟨h, rfl⟩
  · rintro ⟨h, rfl⟩; exact ⟨a, h, rfl, rfl⟩
theorem mem_over {m a : Nat} {p : Nat × Nat} : p ∈ over m a ↔ p.1 = a ∧ a < p.2 ∧ p.2 < m := by
  obtain ⟨x, y⟩ := p
  simp only [over, List.mem_map, List.mem_filter, List.mem_range, decide_eq_true_eq, Prod.mk.injEq]
  constructor
  · rintro ⟨b, ⟨h1, h2⟩, rfl, rfl⟩; exact ⟨rfl, h2, h1⟩
  · rintro ⟨rfl, h1, h2⟩; exact ⟨y, ⟨h2, h1⟩, rfl, rfl⟩
theorem zp_app (l m : List (Nat × Nat)) : zp (l ++ m) = zp l ++ zp m := by simp [zp]
theorem chain_good {n : Nat} : Good n (zp (chain (n - 1))) := by
  rintro ⟨x, y⟩ hp
  obtain ⟨⟨a, b⟩, h, rfl, rfl⟩ := mem_zp.1 hp
  have := mem_chain.1 h
  simp only at this ⊢
  omega
theorem ring_ok (n : Nat) (h : 1 ≤ n) : newE n [] (zp (ringL n)) = 0 := by
  have hc : (zp (chain (n - 1))).map lk = zp (chain (n - 1)) := lk_good chain_good
  have hd : (chain (n - 1)).Nodup := by
    rw [List.nodup_iff_pairwise_ne]
    unfold chain
    refine List.Pairwise.map (R := fun b c : Nat => b ≠ c) _ (fun b c h e => h (by simp at e; exact e)) List.nodup_range
  unfold ringL
  by_cases h2 : 2 < n
  · rw [if_pos h2]
    have e : (zp (chain (n - 1) ++ [(n - 1, 0)])).map lk = zp (chain (n - 1)) ++ [((0 : Int), ((n - 1 : Nat) : Int))] := by
      rw [zp_app, List.map_append, hc]
      congr 1
      simp only [zp, List.map_cons, List.map_nil, lk, List.cons.injEq, Prod.mk.injEq, and_true]
      omega
    refine newE_of_good _ _ ?_ ?_
    · rw [List.nil_append, e]
      intro p hp
      rcases List.mem_append.1 hp with c | c
      · exact chain_good p c
      · rw [List.mem_singleton] at c; subst c; simp only; omega
    · rw [List.nil_append, e, List.nodup_append]
      refine ⟨zp_nodup hd, by simp, fun a ha b hb he => ?_⟩
      rw [List.mem_singleton] at hb
      subst hb
      subst he
      obtain ⟨⟨x, y⟩, hm, h3, h4⟩ := mem_zp.1 ha
      have := mem_chain.1 hm
      simp only at this h3 h4
      omega
  · rw [if_neg h2, List.append_nil]
    refine newE_of_good _ _ ?_ ?_
    · rw [List.nil_append, hc]; exact chain_good
    · rw [List.nil_append, hc]; exact zp_nodup hd
theorem full_good (n : Nat) : Good n (zp (fullL n)) := by
  rintro ⟨x, y⟩ hp
  obtain ⟨⟨a, b⟩, h, rfl, rfl⟩ := mem_zp.1 hp
  simp only [fullL, fullTo, List.mem_flatMap, List.mem_range] at h
  obtain ⟨c, hc, h⟩ := h
  have := mem_over.1 h
  simp only at this ⊢
  omega
theorem full_ok (n : Nat) : newE n [] (zp (fullL n)) = 0 := by
  have hd : (fullL n).Nodup := by
    unfold fullL fullTo
    rw [List.nodup_iff_pairwise_ne, List.pairwise_flatMap]
    constructor
    · intro a _
      unfold over
      refine List.Pairwise.map (R := fun b c : Nat => b ≠ c) _ (fun b c h e => h (by simp at e; exact e)) ?_
      exact List.Pairwise.filter _ List.nodup_range
    · have := List.nodup_range (n := n)
      rw [List.nodup_iff_pairwise_ne] at this
      refine List.Pairwise.imp (fun {a b} hab x hx y hy e => ?_) this
      have h1 := (mem_over.1 hx).1
      have h2 := (mem_over.1 hy).1
      rw [e, h2] at h1
      exact hab h1.symm
  refine newE_of_good _ _ ?_ ?_
  · rw [List.nil_append, lk_good (full_good n)]; exact full_good n
  · rw [List.nil_append, lk_good (full_good n)]; exact zp_nodup hd
/-- The rings and the full graphs that are told, of any number. -/
def ringN (n : Int) : List (Nat × Nat) := if 64 < n then [] else ringL n.toNat
def fullN (n : Int) : List (Nat × Nat) := if 64 < n then [] else fullL n.toNat
theorem shape_new {n : Int} {f : Nat → List (Nat × Nat)} (hf : ∀ k : Nat, 1 ≤ k → newE k [] (zp (f k)) = 0) : (newR n (zp (if 64 < n then [] else f n.toNat)) == 0) = (decide (1 ≤ n) && decide (n ≤ 64)) := by
  by_cases h : n < 1 ∨ 64 < n
  · have : newR n (zp (if 64 < n then [] else f n.toNat)) = 1 := by unfold newR; rw [if_pos h]
    rw [this]
    have : (decide (1 ≤ n) && decide (n ≤ 64)) = false := by simp; omega
    rw [this]; rfl
  · have : newR n (zp (if 64 < n then [] else f n.toNat)) = 0 := by
      unfold newR
      rw [if_neg h, if_neg (by omega)]
      exact hf _ (by omega)
    rw [this]
    have : (decide (1 ≤ n) && decide (n ≤ 64)) = true := by simp; omega
    rw [this]; rfl
theorem ringN_len (n : Int) : (ringN n).length ≤ 64 := by
  unfold ringN ringL
  split
  · simp
  · rw [List.length_append, chain_len]
    split
    · simp; omega
    · simp; omega
theorem fullN_len (n : Int) : (fullN n).length ≤ 4096 := by
  unfold fullN fullL
  split
  · simp
  · have := fullTo_len n.toNat n.toNat
    have h2 : n.toNat * n.toNat ≤ 64 * 64 := Nat.mul_le_mul (by omega) (by omega)
    omega
theorem ringN_lt (n : Int) : ∀ p ∈ ringN n, p.1 < 2 ^ 63 ∧ p.2 < 2 ^ 63 := by
  intro p hp
  unfold ringN at hp
  split at hp
  · cases hp
  · unfold ringL at hp
    rcases List.mem_append.1 hp with c | c
    · have := mem_chain.1 c; omega
    · split at c
      · rw [List.mem_singleton] at c; subst c; simp only; omega
      · cases c
theorem fullN_lt (n : Int) : ∀ p ∈ fullN n, p.1 < 2 ^ 63 ∧ p.2 < 2 ^ 63 := by
  rintro ⟨a, b⟩ hp
  unfold fullN at hp
  split at hp
  · cases hp
  · simp only [fullL, fullTo, List.mem_flatMap, List.mem_range] at hp
    obtain ⟨c, hc, h⟩ := hp
    have := mem_over.1 h
    simp only at this ⊢
    omega
end Go.Proofs.YtmbblhajbecomaaDoor.Graph
