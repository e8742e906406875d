/- Clocks that go on by what they may: plain; what comes in of the law DriftPace. -/
import Derived.Test.YtpbabpbinojodaaDoorDriftIn
namespace Go.Proofs.YtpbabpbinojodaaDoor.Drift
open Go.RowKit
open Go.Proofs.YtpbabpbinojodaaDoor.Arith Go.Proofs.YtpbabpbinojodaaDoor.Nodes Go.Proofs.YtpbabpbinojodaaDoor.Heap Go.Proofs.YtpbabpbinojodaaDoor.RF
set_option linter.unusedVariables false
set_option linter.unusedSimpArgs false
theorem WAt.off {w w' : World} {q p : Nat} {c : Wt} {a : Nt} (h : WAt w q c a) (k : Off (fun j => j = p) w w') (hp : q ≠ p) : WAt w' q c a := by
  obtain ⟨T, A, m, hb, ht⟩ := h
  exact ⟨T, A, m, hb.off k hp, ht⟩
theorem WAt.fine' {w : World} {q : Nat} {c : Wt} {a : Nt} (h : WAt w q c a) :
    Calls Tryd.prog 13 #[.pointer (some ⟨q, 0, none⟩)] w fun r w' => r = .returned (.bool ((c.apart == 0) && (c.pace == 0))) ∧ w' = w := h.fine
theorem wf_u8 {n : Int} (h : (Lit.int .u8 n).wf = true) : 0 ≤ n ∧ n ≤ 255 := by
  have h' := h
  simp [Lit.wf, IntKind.min, IntKind.max, IntKind.bits, IntKind.signed] at h'
  omega
theorem wf_u32 {n : Int} (h : (Lit.int .u32 n).wf = true) : 0 ≤ n ∧ n ≤ 4294967295 := by
  have h' := h
  simp [Lit.wf, IntKind.min, IntKind.max, IntKind.bits, IntKind.signed] at h'
  omega
theorem rd_three {P : Program} {w : World} {t e : TypeId} {k : IntKind} {cs : List Value} (ht : P.underlying t = some (.array 3 e)) (he : P.underlying e = some (.int k)) (hc : P.cellsOf e = 1) (hC : P.cellsOf t = 3) (h : Read.Rd P w t cs) :
    ∃ a b c, cs = [.int k a, .int k b, .int k c] ∧ (Lit.int k a).wf = true ∧ (Lit.int k b).wf = true ∧ (Lit.int k c).wf = true := by
  obtain ⟨hl, hf⟩ := h.array ht
  rw [hC] at hl
  rw [hc] at hf
  obtain ⟨m, hm, wm⟩ := (hf 0 (by omega)).int he
  obtain ⟨n, hn, wn⟩ := (hf 1 (by omega)).int he
  obtain ⟨p, hp, wp⟩ := (hf 2 (by omega)).int he
  match cs, hl with
  | [x, y, z], _ =>
    simp at hm hn hp
    subst hm hn hp
    exact ⟨m, n, p, rfl, wm, wn, wp⟩
theorem three_in {w : World} {cs : Array Value} (g : Read.Rd Tryd.prog w 42 cs.toList) : ∃ x y z : Int, cs = #[.int .u32 x, .int .u32 y, .int .u32 z] ∧ (0 ≤ x ∧ x ≤ 4294967295) ∧ (0 ≤ y ∧ y ≤ 4294967295) ∧ (0 ≤ z ∧ z ≤ 4294967295) := by
  obtain ⟨x, y, z, h, hx, hy, hz⟩ := rd_three Tryd.underlying42 Tryd.underlying41 (by kernel_rfl) (by kernel_rfl) g
  exact ⟨x, y, z, by rw [← Array.toArray_toList (xs := cs), h], wf_u32 hx, wf_u32 hy, wf_u32 hz⟩
theorem two8_in {w : World} {cs : Array Value} (g : Read.Rd Tryd.prog w 43 cs.toList) : ∃ x y : Int, cs = #[.int .u8 x, .int .u8 y] ∧ (0 ≤ x ∧ x ≤ 255) ∧ (0 ≤ y ∧ y ≤ 255) := by
  obtain ⟨x, y, h, hx, hy⟩ := g.two Tryd.underlying43 Tryd.underlying5 (by kernel_rfl) (by kernel_rfl)
  exact ⟨x, y, by rw [← Array.toArray_toList (xs := cs), h], wf_u8 hx, wf_u8 hy⟩
/-- By what clocks go on, as it lies. -/
def BysAt (w : World) (a : Option Addr) (len : Nat) : Prop := ∀ i k, i < len → k < 3 → ∃ b off r, a = some ⟨b, off, none⟩ ∧ b < w.heap.size ∧ w.cell? ⟨b, off + i * 3 + k, none⟩ = some (.int .u8 r) ∧ 0 ≤ r ∧ r ≤ 255
theorem bys_in {w : World} {a : Option Addr} {len cap : Nat} (g : Read.Rd Tryd.prog w 44 [.slice a len cap]) : BysAt w a len ∧ len ≤ 9223372036854775807 := by
  rcases g.slice Tryd.underlying44 with h1 | ⟨x, l, c, h1, hl, hm, hr⟩
  · simp at h1
    obtain ⟨rfl, rfl, rfl⟩ := h1
    exact ⟨fun i k hi => by omega, by omega⟩
  · simp at h1
    obtain ⟨rfl, rfl, rfl⟩ := h1
    refine ⟨fun i k hi hk => ?_, by unfold maxLen at hm; omega⟩
    have key : ∀ i, i < cap → ∀ k, k < 3 → ∃ r, w.cell? (x.add (i * 3 + k)) = some (.int .u8 r) ∧ 0 ≤ r ∧ r ≤ 255 := fun i hi k hk => by
      obtain ⟨es, h2, h3⟩ := hr i hi
      rw [show Tryd.prog.cellsOf 45 = 3 by kernel_rfl] at h2
      obtain ⟨p, q, r, rfl, hp, hq, hr'⟩ := rd_three Tryd.underlying45 Tryd.underlying5 (by kernel_rfl) (by kernel_rfl) h3
      have hcl := (Read.cells_at h2).2 k hk
      rw [Addr.add_add] at hcl
      rcases k with _ | _ | _ | k
      · exact ⟨p, hcl, wf_u8 hp⟩
      · exact ⟨q, hcl, wf_u8 hq⟩
      · exact ⟨r, hcl, wf_u8 hr'⟩
      · omega
    obtain ⟨b, o, spot⟩ := x
    have h0 := key 0 (by omega) 0 (by omega)
    obtain ⟨r0, h0, _⟩ := h0
    have hspot : spot = none := by simpa [Addr.add] using World.cell?_spot h0
    subst hspot
    obtain ⟨r, h1, h2⟩ := key i (by omega) k hk
    simp only [Go.WideShapes.add_plain] at h1
    exact ⟨b, o, r, rfl, World.block_lt_of_cell? w _ h1, by rw [Nat.add_assoc]; exact h1, h2⟩
/-- What was noted last, by round. -/
def Ahead (S F : Int) (i : Nat) (a : Nt) (xs : List Int) : Prop := i = 0 ∧ a = ⟨0, [], 0⟩ ∨ 1 ≤ i ∧ a.tick = (i : Int) - 1 ∧ a.s = 7 ∧ a.l.length = 3 ∧ ∀ j, j < 3 → S ≤ xs.getD j 0 - a.l.getD j 0 ∧ xs.getD j 0 - a.l.getD j 0 ≤ F ∧ 0 ≤ a.l.getD j 0
theorem tm_id {x : Int} (h0 : 0 ≤ x) (h1 : x ≤ 1152921504606846976) : tm x = x := by
  unfold tm clampI
  rw [if_neg (by omega), if_neg (by omega)]
theorem live7 {t : Int} {l : List Int} {k : Nat} (hl : l.length = 3) : Nt.live ⟨t, l, 7⟩ k = decide (k < 3) := by
  unfold Nt.live
  rw [hl]
  rcases k with _ | _ | _ | k
  · show (decide (0 < 3) && (7 : Nat).testBit 0) = decide (0 < 3); decide
  · show (decide (1 < 3) && (7 : Nat).testBit 1) = decide (1 < 3); decide
  · show (decide (2 < 3) && (7 : Nat).testBit 2) = decide (2 < 3); decide
  · rw [decide_eq_false (by omega)]; rfl
theorem ahead_out {S F : Int} {i : Nat} {a : Nt} {xs : List Int} (h : Ahead S F i a xs) (hx : xs.length = 3) (hr : ∀ j, j < 3 → 0 ≤ xs.getD j 0 ∧ xs.getD j 0 ≤ 1152921504606846976) (hi : i ≤ 64) (hS : 0 ≤ S ∧ S ≤ 600) (hF : 0 ≤ F ∧ F ≤ 600) :
    outOf a ⟨i, xs, 7⟩ S F = 0 := by
  unfold outOf
  split
  · rename_i h1
    rw [List.countP_eq_zero]
    intro k hk
    rcases h with ⟨_, rfl⟩ | ⟨h2, h3, h4, h5, h6⟩
    · simp [Nt.live]
    · obtain ⟨at_, al, aq⟩ := a
      simp only at h3 h4 h5 h6
      subst h4
      rw [live7 h5, live7 hx]
      by_cases c : k < 3
      · have e1 : tm ((i : Nat) : Int) - tm at_ = 1 := by rw [tm_id (by omega) (by omega), tm_id (x := at_) (by omega) (by omega)]; omega
        have h7 := h6 k c
        have h8 := hr k c
        have e2 : Nt.at ⟨i, xs, 7⟩ k = xs.getD k 0 := tm_id h8.1 h8.2
        have h9 : al.getD k 0 ≤ 1152921504606846976 := by omega
        have e3 : Nt.at ⟨at_, al, 7⟩ k = al.getD k 0 := tm_id h7.2.2 h9
        rw [show tm (Nt.tick ⟨(i : Nat), xs, 7⟩) - tm (Nt.tick ⟨at_, al, 7⟩) = 1 from e1, e2, e3]
        have i1 : inr (1 * S) = true := inr_iff.2 (by unfold I64; omega)
        have i2 : inr (1 * F) = true := inr_iff.2 (by unfold I64; omega)
        unfold bad
        rw [if_pos i1, if_pos i2, decide_eq_true c, decide_eq_false (p := xs.getD k 0 - al.getD k 0 < 1 * S) (by omega), decide_eq_false (p := 1 * F < xs.getD k 0 - al.getD k 0) (by omega)]
        simp
      · simp [c]
  · rfl
end Go.Proofs.YtpbabpbinojodaaDoor.Drift
