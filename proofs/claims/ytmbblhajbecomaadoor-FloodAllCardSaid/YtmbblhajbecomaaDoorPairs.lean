/- Lists of pairs: own rows of them, those that came in; the law's Cut and links; small functions over lists of numbers: in, power, Of. -/
import Derived.Test.YtmbblhajbecomaaDoorRefLinked
import Derived.Test.YtmbblhajbecomaaDoorRead
import Derived.Deep.AppendSrc
namespace Go.Proofs.YtmbblhajbecomaaDoor.Graph
set_option maxRecDepth 100000
open Go.RowKit
open Go.Proofs.YtmbblhajbecomaaDoor.RF Go.Proofs.YtmbblhajbecomaaDoor.Heap Go.Proofs.YtmbblhajbecomaaDoor.Nodes Go.Proofs.YtmbblhajbecomaaDoor.Seen
set_option linter.unusedVariables false
set_option linter.unusedSimpArgs false

/-- A list of pairs as cells. -/
def pcI (l : List (Int × Int)) : List Value := l.flatMap fun p => [.int .i64 p.1, .int .i64 p.2]
theorem pcI_snoc (l : List (Int × Int)) (p : Int × Int) : pcI (l ++ [p]) = pcI l ++ [.int .i64 p.1, .int .i64 p.2] := by simp [pcI]
theorem pcI_len : ∀ l : List (Int × Int), (pcI l).length = l.length * 2
  | [] => rfl
  | p :: l => by
    have := pcI_len l
    simp only [pcI, List.flatMap_cons, List.length_append, List.length_cons, List.length_nil] at this ⊢
    omega
theorem pcI_at : ∀ (l : List (Int × Int)) (i : Nat) (p : Int × Int), l[i]? = some p → (pcI l)[i * 2]? = some (.int .i64 p.1) ∧ (pcI l)[i * 2 + 1]? = some (.int .i64 p.2)
  | [], i, p, h => by simp at h
  | q :: l, 0, p, h => by
    simp at h
    subst h
    exact ⟨rfl, rfl⟩
  | q :: l, i + 1, p, h => by
    have := pcI_at l i p (by simpa using h)
    rw [show pcI (q :: l) = .int .i64 q.1 :: .int .i64 q.2 :: pcI l from rfl, show (i + 1) * 2 = i * 2 + 1 + 1 by omega]
    simpa using this
theorem pcI_one (l : List (Int × Int)) : ∀ u ∈ pcI l, u.oneCell' = true := by
  intro u hu
  simp only [pcI, List.mem_flatMap] at hu
  obtain ⟨p, _, h⟩ := hu
  simp at h
  rcases h with rfl | rfl <;> rfl
/-- Numbers as integers. -/
def zp (l : List (Nat × Nat)) : List (Int × Int) := l.map fun p => ((p.1 : Int), (p.2 : Int))
theorem pc_zp (l : List (Nat × Nat)) : pc l = pcI (zp l) := by simp [pc, pcI, zp, List.flatMap_map]
theorem zp_len (l : List (Nat × Nat)) : (zp l).length = l.length := by simp [zp]
theorem zp_inj : ∀ {l m : List (Nat × Nat)}, zp l = zp m → l = m
  | [], [], _ => rfl
  | [], q :: m, h => by simp [zp] at h
  | p :: l, [], h => by simp [zp] at h
  | p :: l, q :: m, h => by
    simp only [zp, List.map_cons, List.cons.injEq, Prod.mk.injEq, Int.natCast_inj] at h
    rw [zp_inj (l := l) (m := m) h.2, Prod.ext h.1.1 h.1.2]
theorem wf_nat {k : Nat} (h : k < 2 ^ 63) : (Lit.int .i64 (k : Int)).wf = true := by
  have e1 : IntKind.i64.min = -9223372036854775808 := by decide
  have e2 : IntKind.i64.max = 9223372036854775807 := by decide
  simp only [Lit.wf, e1, e2, Bool.and_eq_true, decide_eq_true_eq]
  omega
theorem zp_wf {l : List (Nat × Nat)} (h : ∀ p ∈ l, p.1 < 2 ^ 63 ∧ p.2 < 2 ^ 63) : ∀ p ∈ zp l, wfp p := by
  intro p hp
  simp only [zp, List.mem_map] at hp
  obtain ⟨q, hq, rfl⟩ := hp
  have := h q hq
  exact ⟨wf_nat this.1, wf_nat this.2⟩
/-- An own row of pairs is a list of pairs. -/
theorem own_pairs {w : World} {base : Nat} {v : Value} {l : List (Int × Int)} {n : Nat} (h : w.ownsRow base 55 2 v n (pcI l)) (hn : l.length = n) (hw : ∀ p ∈ l, wfp p) : PairsAt w v l := by
  subst hn
  refine ⟨?_, hw⟩
  rcases h.2 with ⟨rfl, h0⟩ | ⟨g, cap, cur, rfl, hb, hg, hnc, hcm, hcs, ht⟩
  · refine ⟨none, 0, by rw [h0], fun i p hp => ?_⟩
    rw [List.length_eq_zero_iff.1 h0] at hp
    simp at hp
  · refine ⟨_, _, rfl, fun i p hp => ⟨g, rfl, (Array.getElem?_eq_some_iff.1 hg).1, ?_, ?_⟩⟩
    all_goals
      have hc : ∀ k u, (pcI l)[k]? = some u → w.cell? ⟨g, k, none⟩ = some u := fun k u hk => by
        rw [cell_of_row w g k cur _ _ hg]
        rw [← ht, List.getElem?_take] at hk
        split at hk
        · simpa using hk
        · cases hk
      first
        | exact hc _ _ (pcI_at l i p hp).1
        | exact hc _ _ (pcI_at l i p hp).2
theorem PairsAt.off {w w' : World} {v : Value} {ls : List (Int × Int)} (h : PairsAt w v ls) (k : Below w.heap.size w w') : PairsAt w' v ls := h.below k (Nat.le_refl _)
theorem below_own {w A B : World} {b base : Nat} {e : TypeId} {s n : Nat} {v : Value} {xs : List Value} (h : Below b w A) (hg : A.grownBy B v.ownBlock) (o : A.ownsRow base e s v n xs) (hb : b ≤ base) (hw : b ≤ w.heap.size) : Below b w B := by
  refine ⟨hg.os.trans h.os, hg.tape.trans h.tape, hg.output.trans h.output, Nat.le_trans h.size hg.size, fun k hk => (hg.block k (by have := h.size; omega) (fun c => ?_)).trans (h.block k hk)⟩
  rcases o.2 with ⟨rfl, _⟩ | ⟨g, cap, cur, rfl, hbg, _⟩
  · simp [Value.ownBlock] at c
  · simp only [Value.ownBlock, Option.some.injEq] at c
    omega
/-- A slice of pairs that came in. -/
structure PairIn (w : World) (a : Option Addr) (len cap : Nat) (ls : List (Int × Int)) : Prop where
  le : len ≤ cap
  max : cap ≤ 9223372036854775807
  size : ls.length = len
  wf : ∀ p ∈ ls, wfp p
  at' : (a = none ∧ len = 0 ∧ cap = 0) ∨ (∃ x, a = some x ∧ len = 0) ∨ ∃ b off, a = some ⟨b, off, none⟩ ∧ b < w.heap.size ∧ ∀ j u, (pcI ls)[j]? = some u → w.cell? ⟨b, off + j, none⟩ = some u
theorem pairs_of : ∀ (n : Nat) (zs : List Int), zs.length = 2 * n → ∃ ls : List (Int × Int), ls.length = n ∧ pcI ls = zs.map (Value.int .i64) ∧ ∀ p ∈ ls, p.1 ∈ zs ∧ p.2 ∈ zs
  | 0, zs, h => ⟨[], rfl, by rw [List.length_eq_zero_iff.1 (by omega : zs.length = 0)]; rfl, by simp⟩
  | n + 1, [], h => by simp at h
  | n + 1, [x], h => by simp at h; omega
  | n + 1, x :: y :: zs, h => by
    obtain ⟨ls, h1, h2, h3⟩ := pairs_of n zs (by simp at h; omega)
    refine ⟨(x, y) :: ls, by simp [h1], ?_, fun p hp => ?_⟩
    · rw [List.map_cons, List.map_cons, ← h2]; rfl
    · rcases List.mem_cons.1 hp with rfl | hp
      · simp
      · have := h3 p hp
        simp [this.1, this.2]
theorem rd_pairs {P : Program} {w : World} {t e e' : TypeId} {a : Option Addr} {len cap : Nat} (ht : P.underlying t = some (.slice e)) (he : P.underlying e = some (.array 2 e')) (hi : P.underlying e' = some (.int .i64)) (hc : P.cellsOf e' = 1) (hC : P.cellsOf e = 2)
    (h : Read.Rd P w t [.slice a len cap]) : ∃ ls, PairIn w a len cap ls := by
  rcases h.slice ht with h1 | ⟨x, l, c, h1, hl, hm, hr⟩
  · simp at h1
    obtain ⟨rfl, rfl, rfl⟩ := h1
    exact ⟨[], Nat.le_refl _, by omega, rfl, by simp, .inl ⟨rfl, rfl, rfl⟩⟩
  · simp at h1
    obtain ⟨rfl, rfl, rfl⟩ := h1
    have hr' : ∀ j, j < 2 * len → ∃ n, w.cell? (x.add j) = some (.int .i64 n) ∧ (Lit.int .i64 n).wf = true := by
      intro j hj
      obtain ⟨es, h2, h3⟩ := hr (j / 2) (by omega)
      rw [hC] at h2
      obtain ⟨m, n, rfl, hw1, hw2⟩ := h3.two he hi hc hC
      have hcl := (Read.cells_at h2).2 (j % 2) (by omega)
      rw [Addr.add_add, show j / 2 * 2 + j % 2 = j by omega] at hcl
      rcases (by omega : j % 2 = 0 ∨ j % 2 = 1) with c | c
      · rw [c] at hcl; exact ⟨m, hcl, hw1⟩
      · rw [c] at hcl; exact ⟨n, hcl, hw2⟩
    obtain ⟨zs, hz, hp⟩ := Read.choose_list (2 * len) hr'
    obtain ⟨ls, h1, h2, h3⟩ := pairs_of len zs hz
    have hwf : ∀ n ∈ zs, (Lit.int .i64 n).wf = true := fun n hn => by
      obtain ⟨i, hi⟩ := List.getElem?_of_mem hn
      exact (hp i n hi).2
    refine ⟨ls, hl, by unfold maxLen at hm; omega, h1, fun p hpp => ⟨hwf _ (h3 p hpp).1, hwf _ (h3 p hpp).2⟩, ?_⟩
    rcases Nat.eq_zero_or_pos len with c0 | c0
    · exact .inr (.inl ⟨x, rfl, c0⟩)
    · right; right
      have hcell : ∀ i, i < zs.length → w.cell? (x.add i) = some (.int .i64 (zs.getD i 0)) := by
        intro i hi
        have := (hp i zs[i] (by simp [hi])).1
        rw [this]; simp [List.getD_eq_getElem?_getD, hi]
      obtain ⟨b, off, rfl, hb⟩ := ints_at hcell (by omega)
      refine ⟨b, off, rfl, World.block_lt_of_cell? w _ (hb 0 (by omega)), fun j u hu => ?_⟩
      rw [h2, List.getElem?_map] at hu
      obtain ⟨n, hn, rfl⟩ := Option.map_eq_some_iff.1 hu
      have hj := (List.getElem?_eq_some_iff.1 hn).1
      rw [hb j hj, List.getD_eq_getElem?_getD, hn]
      rfl
theorem pcI_take (ls : List (Int × Int)) (k j : Nat) (u : Value) (h : (pcI (ls.take k))[j]? = some u) : (pcI ls)[j]? = some u := by
  have : pcI ls = pcI (ls.take k) ++ pcI (ls.drop k) := by
    conv => lhs; rw [← List.take_append_drop k ls]
    simp only [pcI, List.flatMap_append]
  rw [this]
  have hl := (List.getElem?_eq_some_iff.1 h).1
  rw [List.getElem?_append_left hl]
  exact h
end Go.Proofs.YtmbblhajbecomaaDoor.Graph
