/- What an agenda gives first, said of the things as they were added, and of the heap that keeps them: one and the same. Plain. -/
import Derived.Test.YtmbblhajbecomaaDoorHeap
namespace Go.Proofs.YtmbblhajbecomaaDoor.Heap
set_option maxRecDepth 100000
variable {α : Type}

/-- In S, at place i, stands t, which comes first: the least time, and of that time the earliest. -/
structure First (S : List (Th α)) (i : Nat) (t : Th α) : Prop where
  get : S[i]? = some t
  le : ∀ (j : Nat) (u : Th α), S[j]? = some u → t.due ≤ u.due
  lt : ∀ (j : Nat) (u : Th α), j < i → S[j]? = some u → t.due < u.due
/-- The numbers rise. -/
def Rising (S : List (Th α)) : Prop := ∀ (i j : Nat) (a b : Th α), i < j → S[i]? = some a → S[j]? = some b → a.no < b.no
theorem rising_nil : Rising ([] : List (Th α)) := fun i j a b _ h => by simp at h
theorem Rising.add {S : List (Th α)} (h : Rising S) {t : Th α} (ht : ∀ (j : Nat) (u : Th α), S[j]? = some u → u.no < t.no) : Rising (S ++ [t]) := fun i j a b hij ha hb => by
  have lj := lt_of_get hb
  simp at lj
  rw [List.getElem?_append_left (by omega)] at ha
  by_cases c : j < S.length
  · rw [List.getElem?_append_left c] at hb
    exact h i j a b hij ha hb
  · obtain rfl : j = S.length := by omega
    simp at hb
    subst hb
    exact ht i a ha
theorem get_erase {β : Type} {S : List β} {i j : Nat} {a : β} (h : (S.eraseIdx i)[j]? = some a) : ∃ k, S[k]? = some a ∧ (j < i ∧ k = j ∨ i ≤ j ∧ k = j + 1) := by
  rw [List.getElem?_eraseIdx] at h
  by_cases c : j < i
  · rw [if_pos c] at h; exact ⟨j, h, .inl ⟨c, rfl⟩⟩
  · rw [if_neg c] at h; exact ⟨j + 1, h, .inr ⟨by omega, rfl⟩⟩
theorem Rising.erase {S : List (Th α)} (h : Rising S) (i : Nat) : Rising (S.eraseIdx i) := fun p q a b hpq ha hb => by
  obtain ⟨p', ha', _⟩ := get_erase ha
  obtain ⟨q', hb', _⟩ := get_erase hb
  exact h p' q' a b (by omega) ha' hb'
theorem First.least {S : List (Th α)} {i : Nat} {t : Th α} (h : First S i t) (hr : Rising S) {j : Nat} {u : Th α} (hu : S[j]? = some u) : fore u t = false := by
  rw [fore_no]
  have h1 := h.le j u hu
  rcases Nat.lt_trichotomy j i with c | c | c
  · have := h.lt j u c hu; omega
  · subst c; rw [h.get] at hu; cases hu; omega
  · have := hr i j t u c h.get hu; omega
theorem get_of_mem {β : Type} {S : List β} {a : β} (h : a ∈ S) : ∃ j : Nat, S[j]? = some a := List.mem_iff_getElem?.1 h
theorem mem_of_get {β : Type} {S : List β} {a : β} {j : Nat} (h : S[j]? = some a) : a ∈ S := List.mem_iff_getElem?.2 ⟨j, h⟩
theorem Rising.uniq {S : List (Th α)} (hr : Rising S) {i j : Nat} {a b : Th α} (ha : S[i]? = some a) (hb : S[j]? = some b) (hn : a.no = b.no) : i = j ∧ a = b := by
  rcases Nat.lt_trichotomy i j with c | c | c
  · have := hr i j a b c ha hb; omega
  · subst c; rw [ha] at hb; cases hb; exact ⟨rfl, rfl⟩
  · have := hr j i b a c hb ha; omega
/-- The heap's root is what comes first. -/
theorem root_first {L S : List (Th α)} (hp : L.Perm S) (hr : Rising S) (hh : Heap L) {r t : Th α} {i : Nat} (h0 : L[0]? = some r) (hf : First S i t) : r = t := by
  obtain ⟨j, hj⟩ := get_of_mem (hp.mem_iff.1 (mem_of_get h0))
  have h1 := hf.least hr hj
  obtain ⟨k, hk⟩ := get_of_mem (hp.mem_iff.2 (mem_of_get hf.get))
  have h2 := hh.root h0 k t hk
  exact (hr.uniq hj hf.get (both_no h1 h2).2).2
theorem First.uniq {S : List (Th α)} {i j : Nat} {t u : Th α} (h : First S i t) (k : First S j u) : i = j ∧ t = u := by
  rcases Nat.lt_trichotomy i j with c | c | c
  · have := k.lt i t c h.get; have := h.le j u k.get; omega
  · subst c; exact ⟨rfl, Option.some.inj (h.get.symm.trans k.get)⟩
  · have := h.lt j u c k.get; have := k.le i t h.get; omega
theorem First.mk_snoc {S : List (Th α)} {i : Nat} {t x : Th α} (h : First S i t) : (t.due ≤ x.due → First (S ++ [x]) i t) ∧ (x.due < t.due → First (S ++ [x]) S.length x) := by
  have li := lt_of_get h.get
  constructor
  · intro hx
    refine ⟨by rw [List.getElem?_append_left li]; exact h.get, fun j u hu => ?_, fun j u hj hu => ?_⟩
    · by_cases c : j < S.length
      · rw [List.getElem?_append_left c] at hu; exact h.le j u hu
      · have lj := lt_of_get hu
        simp at lj
        obtain rfl : j = S.length := by omega
        simp at hu; subst hu; exact hx
    · rw [List.getElem?_append_left (by omega)] at hu
      exact h.lt j u hj hu
  · intro hx
    refine ⟨by simp, fun j u hu => ?_, fun j u hj hu => ?_⟩
    · by_cases c : j < S.length
      · rw [List.getElem?_append_left c] at hu; have := h.le j u hu; omega
      · have lj := lt_of_get hu
        simp at lj
        obtain rfl : j = S.length := by omega
        simp at hu; subst hu; exact Int.le_refl _
    · rw [List.getElem?_append_left hj] at hu
      have := h.le j u hu; omega
theorem first_one (x : Th α) : First [x] 0 x := ⟨rfl, fun j u hu => by
  rcases j with _ | j
  · simp at hu; subst hu; exact Int.le_refl _
  · simp at hu, fun j u hj => by omega⟩
theorem exists_first_n : ∀ (n : Nat) (S : List (Th α)), S.length = n → S ≠ [] → ∃ i t, First S i t := by
  intro n
  induction n with
  | zero => intro S h0 h; exact absurd (List.eq_nil_of_length_eq_zero h0) h
  | succ n ih =>
    intro S hn h
    have e : S = S.dropLast ++ [S.getLast h] := (List.dropLast_concat_getLast h).symm
    by_cases c : S.dropLast = []
    · rw [c] at e; rw [e]; exact ⟨0, _, first_one _⟩
    · obtain ⟨i, t, k⟩ := ih S.dropLast (by simp; omega) c
      rw [e]
      by_cases d : t.due ≤ (S.getLast h).due
      · exact ⟨i, t, k.mk_snoc.1 d⟩
      · exact ⟨_, _, k.mk_snoc.2 (by omega)⟩
theorem exists_first (S : List (Th α)) (h : S ≠ []) : ∃ i t, First S i t := exists_first_n _ S rfl h
theorem perm_erase {β : Type} : ∀ (S : List β) (i : Nat) (t : β), S[i]? = some t → S.Perm (t :: S.eraseIdx i)
  | [], i, t, h => by simp at h
  | a :: S, 0, t, h => by simp at h; subst h; exact List.Perm.refl _
  | a :: S, i + 1, t, h => by
    simp at h
    rw [List.eraseIdx_cons_succ]
    exact ((perm_erase S i t h).cons a).trans (List.Perm.swap _ _ _)
theorem cut_erase {L S : List (Th α)} (hp : L.Perm S) {t : Th α} {i : Nat} (h0 : L[0]? = some t) (hi : S[i]? = some t) : (cut L).Perm (S.eraseIdx i) :=
  ((cut_perm h0).symm.trans (hp.trans (perm_erase S i t hi))).cons_inv
/-- Of S there come xs by the time 'now', and S' is left. -/
inductive Drained (now : Int) : List (Th α) → List α → List (Th α) → Prop
  | stop (S : List (Th α)) : (∀ (j : Nat) (u : Th α), S[j]? = some u → now < u.due) → Drained now S [] S
  | take (S : List (Th α)) (i : Nat) (t : Th α) (xs : List α) (S' : List (Th α)) : First S i t → t.due ≤ now → Drained now (S.eraseIdx i) xs S' → Drained now S (t.x :: xs) S'
theorem erase_len {β : Type} {S : List β} {i : Nat} {t : β} (h : S[i]? = some t) : (S.eraseIdx i).length + 1 = S.length := by
  have := lt_of_get h
  rw [List.length_eraseIdx, if_pos this]; omega
end Go.Proofs.YtmbblhajbecomaaDoor.Heap
