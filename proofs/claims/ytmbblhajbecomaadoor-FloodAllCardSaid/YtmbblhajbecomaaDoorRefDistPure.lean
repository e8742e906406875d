/- Distances that are bettered till none is, in plain Lean. -/
import Derived.Test.YtmbblhajbecomaaDoorReachPure
namespace Go.Proofs.YtmbblhajbecomaaDoor.Reach
set_option maxRecDepth 100000
open Go.Proofs.YtmbblhajbecomaaDoor.Nodes Go.Proofs.YtmbblhajbecomaaDoor.Graph
set_option linter.unusedVariables false
set_option linter.unusedSimpArgs false

/-- How much there is to better. -/
def mu1 (x : Int) : Nat := if x < 0 then 65 else x.toNat
def mu (d : List Int) : Nat := (d.map mu1).sum
theorem sum_set : ∀ (l : List Nat) (i a : Nat) (h : i < l.length), (l.set i a).sum + l[i] = l.sum + a
  | x :: l, 0, a, _ => by simp; omega
  | x :: l, i + 1, a, h => by
    have := sum_set l i a (by simpa using h)
    simp at this ⊢; omega
theorem mu_set (d : List Int) (b : Nat) (v : Int) (h : b < d.length) : mu (d.set b v) + mu1 (d.getD b (-1)) = mu d + mu1 v := by
  have := sum_set (d.map mu1) b (mu1 v) (by simpa using h)
  rw [List.getElem_map] at this
  rw [mu, List.map_set, List.getD_eq_getElem?_getD, List.getElem?_eq_getElem h]
  exact this
def got (d : List Int) : Nat := d.countP fun x => decide (0 ≤ x)
section
variable {near : List Nat} {off : Nat} {i : Int}
structure DInv (near : List Nat) (off : Nat) (i : Int) (d : List Int) : Prop where
  len : d.length = near.length
  low : ∀ k, -1 ≤ d.getD k (-1)
  way : ∀ k, 0 ≤ d.getD k (-1) → Way near off i (d.getD k (-1)).toNat k
  zero : ∀ k : Nat, i = (k : Int) → Reach.on near.length off k = true → d.getD k (-1) = 0
  few : ∀ k, d.getD k (-1) < got d
/-- What is bettered at two nodes. -/
def bet (near : List Nat) (off : Nat) (d : List Int) (a b : Nat) : Bool :=
  decide (0 ≤ d.getD a (-1)) && !off.testBit b && adj near a b && (decide (d.getD b (-1) < 0) || decide (d.getD a (-1) + 1 < d.getD b (-1)))
theorem getD_setI (d : List Int) (b k : Nat) (v : Int) (h : b < d.length) : (d.set b v).getD k (-1) = if b = k then v else d.getD k (-1) := by
  simp only [List.getD_eq_getElem?_getD, List.getElem?_set]
  by_cases c : b = k
  · subst c; simp [h]
  · simp [c]
theorem got_set (d : List Int) (b : Nat) (v : Int) (h : b < d.length) (hv : 0 ≤ v) : got (d.set b v) = if d.getD b (-1) < 0 then got d + 1 else got d := by
  unfold got
  rw [List.countP_set h]
  have e : d.getD b (-1) = d[b] := by rw [List.getD_eq_getElem?_getD, List.getElem?_eq_getElem h]; rfl
  rw [e]
  have hp : decide (0 ≤ v) = true := decide_eq_true hv
  rw [if_pos hp]
  by_cases c : d[b] < 0
  · rw [if_pos c, if_neg (by simp; omega)]; rfl
  · rw [if_neg c, if_pos (by simp; omega)]
    have : 0 < List.countP (fun x => decide (0 ≤ x)) d := List.countP_pos_iff.2 ⟨d[b], List.getElem_mem h, by simp; omega⟩
    omega
theorem got_le (d : List Int) : got d ≤ d.length := List.countP_le_length
theorem DInv.better {d : List Int} {a b : Nat} (h : DInv near off i d) (h64 : near.length ≤ 64) (hb : b < near.length) (hc : Reach.bet near off d a b = true) :
    DInv near off i (d.set b (d.getD a (-1) + 1)) ∧ mu (d.set b (d.getD a (-1) + 1)) < mu d := by
  unfold Reach.bet at hc
  simp only [Bool.and_eq_true, Bool.or_eq_true, decide_eq_true_eq, Bool.not_eq_true'] at hc
  obtain ⟨⟨⟨h1, h2⟩, h3⟩, h4⟩ := hc
  have hbl : b < d.length := by rw [h.len]; exact hb
  have hw : Way near off i ((d.getD a (-1)).toNat + 1) b := .step (h.way a h1) h3 (on_of hb h2)
  have hg := got_set d b (d.getD a (-1) + 1) hbl (by omega)
  have hf := h.few
  have hm := mu_set d b (d.getD a (-1) + 1) hbl
  have hgl := got_le d
  obtain ⟨x, hx⟩ : ∃ x, d.getD a (-1) = x := ⟨_, rfl⟩
  have fa := hf a
  have fb := hf b
  rw [hx] at h1 h4 hw hg hm fa ⊢
  refine ⟨⟨by rw [List.length_set]; exact h.len, fun k => ?_, fun k hk => ?_, fun k e1 e2 => ?_, fun k => ?_⟩, ?_⟩
  · rw [getD_setI _ _ _ _ hbl]
    split
    · omega
    · exact h.low k
  · rw [getD_setI _ _ _ _ hbl] at hk ⊢
    split
    · rename_i c
      subst c
      have : (x + 1).toNat = x.toNat + 1 := by omega
      rw [this]; exact hw
    · rename_i c
      rw [if_neg c] at hk
      exact h.way k hk
  · rw [getD_setI _ _ _ _ hbl]
    have := h.zero k e1 e2
    split
    · rename_i c
      subst c
      omega
    · exact this
  · rw [getD_setI _ _ _ _ hbl, hg]
    have := hf k
    split <;> split <;> omega
  · have e1 : mu1 (x + 1) = (x + 1).toNat := by unfold mu1; rw [if_neg (by omega)]
    rw [e1] at hm
    have e2 : mu1 (d.getD b (-1)) = if d.getD b (-1) < 0 then 65 else (d.getD b (-1)).toNat := rfl
    rw [e2] at hm
    have := h.len
    split at hm
    · rename_i c
      rw [if_pos c] at hg
      have g2 := got_le (d.set b (x + 1))
      rw [hg, List.length_set] at g2
      omega
    · omega
/-- Ahead of all. -/
def dist0 (n : Nat) (off : Nat) (i : Int) : List Int := if isN n i = true ∧ off.testBit i.toNat = false then (List.replicate n (-1)).set i.toNat 0 else List.replicate n (-1)
theorem rep_at (n k : Nat) : (List.replicate n (-1 : Int)).getD k (-1) = -1 := by
  rw [List.getD_eq_getElem?_getD, List.getElem?_replicate]
  split <;> rfl
theorem got_rep (n : Nat) : got (List.replicate n (-1)) = 0 := by
  unfold got
  rw [List.countP_eq_zero]
  intro x hx
  rw [List.mem_replicate] at hx
  rw [hx.2]; decide
theorem dist0_no (h : ¬ (isN near.length i = true ∧ off.testBit i.toNat = false)) : Dist near off i (List.replicate near.length (-1)) := by
  refine ⟨by simp, fun k => by rw [rep_at]; omega, fun k hk => by rw [rep_at] at hk; omega, fun k e1 e2 => ?_, fun a b ha _ _ => by rw [rep_at] at ha; omega⟩
  subst e1
  exact absurd ⟨by rw [isN_nat]; simpa using on_lt e2, by simpa using on_off e2⟩ h
theorem dist0_yes {s : Nat} (hs : s < near.length) (h : off.testBit s = false) : DInv near off (s : Int) ((List.replicate near.length (-1)).set s 0) := by
  have hl : s < (List.replicate near.length (-1 : Int)).length := by simpa using hs
  have hg := got_set (List.replicate near.length (-1)) s 0 hl (by omega)
  rw [rep_at, if_pos (by omega), got_rep] at hg
  refine ⟨by simp, fun k => ?_, fun k hk => ?_, fun k e1 e2 => ?_, fun k => ?_⟩
  · rw [getD_setI _ _ _ _ hl, rep_at]; split <;> omega
  · rw [getD_setI _ _ _ _ hl, rep_at] at hk ⊢
    split
    · rename_i c; subst c; exact .nil rfl (on_of hs h)
    · rename_i c; rw [if_neg c] at hk; omega
  · obtain rfl : s = k := by omega
    rw [getD_setI _ _ _ _ hl, if_pos rfl]
  · rw [getD_setI _ _ _ _ hl, rep_at, hg]; split <;> omega
theorem DInv.dist {d : List Int} (h : DInv near off i d) (hs : ∀ a b : Nat, a < near.length → b < near.length → Reach.bet near off d a b = false) : Dist near off i d := by
  refine ⟨h.len, h.low, h.way, h.zero, fun a b ha hab hb => ?_⟩
  have hal : a < near.length := by
    rcases Nat.lt_or_ge a near.length with c | c
    · exact c
    · rw [List.getD_eq_getElem?_getD, List.getElem?_eq_none (by rw [h.len]; exact c)] at ha
      simp at ha
  have := hs a b hal (on_lt hb)
  unfold Reach.bet at this
  rw [decide_eq_true ha, on_off hb, hab] at this
  simp only [Bool.not_false, Bool.true_and, Bool.or_eq_false_iff, decide_eq_false_iff_not] at this
  omega
end
end Go.Proofs.YtmbblhajbecomaaDoor.Reach
