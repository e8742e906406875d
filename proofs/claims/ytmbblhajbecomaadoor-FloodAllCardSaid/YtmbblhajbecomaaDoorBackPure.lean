/- Links told and made a graph again: the same graph; plain. -/
import Derived.Test.YtmbblhajbecomaaDoorRefLinks
namespace Go.Proofs.YtmbblhajbecomaaDoor.Graph
set_option maxRecDepth 100000
open Go.RowKit
open Go.Proofs.YtmbblhajbecomaaDoor.RF Go.Proofs.YtmbblhajbecomaaDoor.Heap Go.Proofs.YtmbblhajbecomaaDoor.Nodes Go.Proofs.YtmbblhajbecomaaDoor.Seen
set_option linter.unusedVariables false
set_option linter.unusedSimpArgs false
theorem mem_refLinks {n : Nat} {L : List (Int × Int)} {p : Nat × Nat} : p ∈ refLinks n L ↔ p.1 < n ∧ p.1 < p.2 ∧ p.2 < n ∧ refL L p.1 p.2 = true := by
  obtain ⟨a, b⟩ := p
  simp only [refLinks, refTo, refUp, List.mem_flatMap, List.mem_range, List.mem_map, List.mem_filter, Bool.and_eq_true, decide_eq_true_eq, Prod.mk.injEq]
  constructor
  · rintro ⟨a', ha, b', ⟨hb, hab, hl⟩, rfl, rfl⟩
    exact ⟨ha, hab, hb, hl⟩
  · rintro ⟨ha, hab, hb, hl⟩
    exact ⟨a, ha, b, ⟨hb, hab, hl⟩, rfl, rfl⟩
theorem mem_zp {l : List (Nat × Nat)} {x y : Int} : (x, y) ∈ zp l ↔ ∃ p ∈ l, (p.1 : Int) = x ∧ (p.2 : Int) = y := by
  simp only [zp, List.mem_map, Prod.mk.injEq]
theorem refLinks_nodup (n : Nat) (L : List (Int × Int)) : (refLinks n L).Nodup := by
  unfold refLinks refTo
  rw [List.nodup_iff_pairwise_ne, List.pairwise_flatMap]
  constructor
  · intro a _
    unfold refUp
    refine List.Pairwise.map (R := fun b c : Nat => b ≠ c) _ (fun b c h e => h (by simp at e; exact e)) ?_
    exact List.Pairwise.filter _ List.nodup_range
  · have := List.nodup_range (n := n)
    rw [List.nodup_iff_pairwise_ne] at this
    refine List.Pairwise.imp (fun {a b} hab x hx y hy e => ?_) this
    simp only [refUp, List.mem_map] at hx hy
    obtain ⟨_, _, rfl⟩ := hx
    obtain ⟨_, _, rfl⟩ := hy
    simp at e
    exact hab e.1
theorem zp_nodup {l : List (Nat × Nat)} (h : l.Nodup) : (zp l).Nodup := by
  rw [List.nodup_iff_pairwise_ne] at h ⊢
  refine List.Pairwise.map (R := fun b c : Nat × Nat => b ≠ c) _ (fun b c h e => h ?_) h
  simp only [Prod.mk.injEq, Int.natCast_inj] at e
  exact Prod.ext e.1 e.2
theorem refLinks_good (n : Nat) (L : List (Int × Int)) : Good n (zp (refLinks n L)) := by
  rintro ⟨x, y⟩ hp
  obtain ⟨⟨a, b⟩, h, rfl, rfl⟩ := mem_zp.1 hp
  have := mem_refLinks.1 h
  simp only at this ⊢
  omega
theorem lk_good {n : Nat} {S : List (Int × Int)} (h : Good n S) : S.map lk = S := by
  conv => rhs; rw [← List.map_id S]
  refine List.map_congr_left fun p hp => ?_
  have := h p hp
  obtain ⟨x, y⟩ := p
  simp only [lk, id, Prod.mk.injEq] at this ⊢
  omega
section
variable {n : Nat} {near : List Nat} {L : List (Int × Int)}
theorem mem_back (hM : Match n near L) (i j : Nat) : lk ((i : Int), (j : Int)) ∈ zp (refLinks n L) ↔ i ≠ j ∧ refL L i j = true := by
  rw [show lk ((i : Int), (j : Int)) = (((min i j : Nat) : Int), ((max i j : Nat) : Int)) by simp only [lk, Prod.mk.injEq]; omega, mem_zp]
  constructor
  · rintro ⟨⟨a, b⟩, h, h1, h2⟩
    obtain ⟨h3, h4, h5, h6⟩ := mem_refLinks.1 h
    simp only [Int.natCast_inj] at h1 h2 h3 h4 h5 h6
    subst h1 h2
    refine ⟨by omega, ?_⟩
    rcases Nat.le_total i j with c | c
    · rw [Nat.min_eq_left c, Nat.max_eq_right c] at h6; exact h6
    · rw [Nat.min_eq_right c, Nat.max_eq_left c] at h6; rw [refL_comm]; exact h6
  · rintro ⟨hne, hl⟩
    have := hM.out _ _ hl
    refine ⟨(min i j, max i j), mem_refLinks.2 ⟨by simp only; omega, by simp only; omega, by simp only; omega, ?_⟩, rfl, rfl⟩
    rcases Nat.le_total i j with c | c
    · simp only [Nat.min_eq_left c, Nat.max_eq_right c]; exact hl
    · simp only [Nat.min_eq_right c, Nat.max_eq_left c]; rw [refL_comm]; exact hl
/-- No node is linked with itself. -/
theorem refL_self {ls : List (Int × Int)} (h : newE n [] ls = 0) (i : Int) : refL ls i i = false := by
  obtain ⟨hg, _⟩ := newE_spec ls [] h (fun p hp => by cases hp) List.nodup_nil
  rw [List.nil_append] at hg
  cases c : refL ls i i
  · rfl
  · rw [refL_lk] at c
    have := hg _ c
    simp only [lk] at this
    omega
theorem back_ok (n : Nat) (L : List (Int × Int)) : newE n [] (zp (refLinks n L)) = 0 := by
  refine newE_of_good _ _ ?_ ?_
  · rw [List.nil_append, lk_good (refLinks_good n L)]; exact refLinks_good n L
  · rw [List.nil_append, lk_good (refLinks_good n L)]; exact zp_nodup (refLinks_nodup n L)
theorem back_near {ls : List (Int × Int)} (h : newE n [] ls = 0) : nearOf n ((zp (refLinks n ls)).map lk) = nearOf n (ls.map lk) := by
  have h2 := match_new (back_ok n ls)
  have h1 := match_new h
  refine List.ext_getElem (by rw [h1.len, h2.len]) fun i hi _ => ?_
  rw [h2.len] at hi
  have e1 : ∀ (l : List Nat) (hl : i < l.length), l[i] = l.getD i 0 := fun l hl => by simp [List.getD_eq_getElem?_getD, hl]
  rw [e1, e1]
  refine Nat.eq_of_testBit_eq fun k => ?_
  rw [h1.bits i k hi, h2.bits i k hi, Bool.eq_iff_iff, refL_lk, lk_good (refLinks_good n ls), mem_back h1]
  constructor
  · exact fun c => c.2
  · intro c
    refine ⟨fun e => ?_, c⟩
    subst e
    rw [refL_self h] at c
    cases c
theorem back_len {ls : List (Int × Int)} (h : newE n [] ls = 0) : (refLinks n ls).length = ls.length := by
  obtain ⟨hg, hd⟩ := newE_spec ls [] h (fun p hp => by cases hp) List.nodup_nil
  rw [List.nil_append] at hg hd
  have h1 := match_new h
  have hp : (zp (refLinks n ls)).Perm (ls.map lk) := by
    rw [List.perm_ext_iff_of_nodup (zp_nodup (refLinks_nodup n ls)) hd]
    rintro ⟨x, y⟩
    constructor
    · intro c
      obtain ⟨⟨a, b⟩, hm, rfl, rfl⟩ := mem_zp.1 c
      obtain ⟨_, h4, _, h6⟩ := mem_refLinks.1 hm
      simp only at h4 h6
      rw [refL_lk] at h6
      rwa [show lk ((a : Int), (b : Int)) = ((a : Int), (b : Int)) by simp only [lk, Prod.mk.injEq]; omega] at h6
    · intro c
      have hgc := hg _ c
      simp only at hgc
      obtain ⟨a, rfl⟩ : ∃ a : Nat, x = a := ⟨x.toNat, by omega⟩
      obtain ⟨b, rfl⟩ : ∃ b : Nat, y = b := ⟨y.toNat, by omega⟩
      have e : lk ((a : Int), (b : Int)) = ((a : Int), (b : Int)) := by simp only [lk, Prod.mk.injEq]; omega
      have := (mem_back h1 a b).2 ⟨by omega, by rw [refL_lk, e]; exact c⟩
      rwa [e] at this
  have := hp.length_eq
  simpa [zp] using this
end
end Go.Proofs.YtmbblhajbecomaaDoor.Graph
