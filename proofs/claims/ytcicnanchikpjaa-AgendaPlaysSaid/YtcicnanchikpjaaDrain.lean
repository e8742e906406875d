/- What is taken out by a time: it comes by its time, and of one time by its number. Plain. -/
import Derived.Test.YtcicnanchikpjaaAgendaPure
namespace Go.Proofs.Ytcicnanchikpjaa.Heap
variable {α : Type}

theorem Drained.uniq {now : Int} {S : List (Th α)} {xs : List α} {S' : List (Th α)} (h : Drained now S xs S') : ∀ {ys : List α} {S'' : List (Th α)}, Drained now S ys S'' → xs = ys ∧ S' = S'' := by
  induction h with
  | stop S hs =>
    intro ys S'' k
    cases k with
    | stop _ _ => exact ⟨rfl, rfl⟩
    | take _ i t _ _ hf hd _ => have := hs i t hf.get; omega
  | take S i t xs S' hf hd _ ih =>
    intro ys S'' k
    cases k with
    | stop _ hs => have := hs i t hf.get; omega
    | take _ j u ys _ hf' _ k' =>
      obtain ⟨rfl, rfl⟩ := hf.uniq hf'
      obtain ⟨rfl, rfl⟩ := ih k'
      exact ⟨rfl, rfl⟩
/-- One comes ahead of the other. -/
def Ord (a b : Th α) : Prop := a.due < b.due ∨ a.due = b.due ∧ a.no < b.no
theorem ord_of {a b : Th α} (h : fore b a = false) (hn : a.no ≠ b.no) : Ord a b := by
  rw [fore_no] at h; unfold Ord; omega
/-- What came, and what is left: all of S, no more; it came in order. -/
theorem Drained.spec {now : Int} {S : List (Th α)} {xs : List α} {S' : List (Th α)} (h : Drained now S xs S') (hr : Rising S) :
    ∃ ts : List (Th α), xs = ts.map Th.x ∧ (ts ++ S').Perm S ∧ ts.Pairwise Ord ∧ (∀ t ∈ ts, t.due ≤ now) ∧ (∀ u ∈ S', now < u.due) := by
  induction h with
  | stop S hs =>
    refine ⟨[], rfl, List.Perm.refl _, List.Pairwise.nil, fun t ht => (by cases ht), fun u hu => ?_⟩
    obtain ⟨j, hj⟩ := get_of_mem hu
    exact hs j u hj
  | take S i t xs S' hf hd _ ih =>
    obtain ⟨ts, rfl, hp, ho, h1, h2⟩ := ih (hr.erase i)
    have hall := perm_erase S i t hf.get
    refine ⟨t :: ts, rfl, ?_, ?_, ?_, h2⟩
    · exact (hp.cons t).trans hall.symm
    · refine List.Pairwise.cons (fun b hb => ?_) ho
      have hb' : b ∈ S.eraseIdx i := hp.mem_iff.1 (List.mem_append_left _ hb)
      obtain ⟨j, hj⟩ := get_of_mem hb'
      obtain ⟨k, hk, hki⟩ := get_erase hj
      refine ord_of (hf.least hr hk) (fun e => ?_)
      have := (hr.uniq hf.get hk e).1
      omega
    · intro u hu
      rcases List.mem_cons.1 hu with rfl | hu
      · exact hd
      · exact h1 u hu
/-- How many come by a time. -/
theorem Drained.count {now : Int} {S : List (Th α)} {xs : List α} {S' : List (Th α)} (h : Drained now S xs S') (hr : Rising S) : xs.length = S.countP (fun t => decide (t.due ≤ now)) := by
  obtain ⟨ts, rfl, hp, _, h1, h2⟩ := h.spec hr
  rw [← hp.countP_eq, List.countP_append, List.countP_eq_length.2 (fun a ha => by simpa using h1 a ha), List.countP_eq_zero.2 (fun a ha => by have := h2 a ha; simp; omega), List.length_map]
  omega
end Go.Proofs.Ytcicnanchikpjaa.Heap
