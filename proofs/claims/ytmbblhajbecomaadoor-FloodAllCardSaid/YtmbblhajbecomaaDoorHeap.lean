/- A heap of things that come by their time, and of one time by their number: what moving up and moving down keeps; for whatever things. Plain, no program in sight. -/
namespace Go.Proofs.YtmbblhajbecomaaDoor.Heap
set_option maxRecDepth 100000

/-- A thing: when it is to come, its number, what it is. -/
structure Th (α : Type) where
  due : Int
  no : Nat
  x : α
variable {α : Type}
/-- Does t come fore of u? -/
def fore (t u : Th α) : Bool := decide (t.due < u.due ∨ t.due = u.due ∧ t.no < u.no)
theorem fore_iff {t u : Th α} : fore t u = true ↔ t.due < u.due ∨ t.due = u.due ∧ t.no < u.no := by simp [fore]
theorem fore_no {t u : Th α} : fore t u = false ↔ ¬ (t.due < u.due ∨ t.due = u.due ∧ t.no < u.no) := by simp [fore]
theorem fore_self (t : Th α) : fore t t = false := by rw [fore_no]; omega
theorem fore_asym {t u : Th α} (h : fore t u = true) : fore u t = false := by rw [fore_iff] at h; rw [fore_no]; omega
theorem le_trans' {a b c : Th α} (h : fore b a = false) (k : fore c b = false) : fore c a = false := by rw [fore_no] at *; omega
theorem lt_le {a b c : Th α} (h : fore a b = true) (k : fore c b = false) : fore c a = false := le_trans' (fore_asym h) k
theorem both_no {t u : Th α} (h : fore t u = false) (k : fore u t = false) : t.due = u.due ∧ t.no = u.no := by rw [fore_no] at *; omega

/-- Two places changed. -/
def swp (L : List (Th α)) (i j : Nat) : List (Th α) :=
  match L[i]?, L[j]? with
  | some a, some b => (L.set i b).set j a
  | _, _ => L
theorem swp_eq {L : List (Th α)} {i j : Nat} {a b : Th α} (hi : L[i]? = some a) (hj : L[j]? = some b) : swp L i j = (L.set i b).set j a := by simp [swp, hi, hj]
theorem lt_of_get {β : Type} {L : List β} {i : Nat} {a : β} (h : L[i]? = some a) : i < L.length := by
  rcases Nat.lt_or_ge i L.length with c | c
  · exact c
  · rw [List.getElem?_eq_none c] at h; cases h
theorem swp_length (L : List (Th α)) (i j : Nat) : (swp L i j).length = L.length := by unfold swp; split <;> simp
theorem swp_get {L : List (Th α)} {i j : Nat} {a b : Th α} (hi : L[i]? = some a) (hj : L[j]? = some b) (k : Nat) : (swp L i j)[k]? = if k = j then some a else if k = i then some b else L[k]? := by
  have li := lt_of_get hi
  have lj := lt_of_get hj
  rw [swp_eq hi hj, List.getElem?_set]
  by_cases h1 : j = k
  · subst h1; simp [lj]
  · rw [if_neg h1, if_neg (fun c => h1 c.symm), List.getElem?_set]
    by_cases h2 : i = k
    · subst h2; simp [li]
    · rw [if_neg h2, if_neg (fun c => h2 c.symm)]
theorem swp_perm (L : List (Th α)) (i j : Nat) : (swp L i j).Perm L := by
  unfold swp
  split
  · rename_i a b hi hj
    have li := lt_of_get hi
    have lj := lt_of_get hj
    have h := Array.swap_perm (xs := L.toArray) (i := i) (j := j) (by simpa using li) (by simpa using lj)
    rw [Array.perm_iff_toList_perm] at h
    have e : (L.toArray.swap i j (by simpa using li) (by simpa using lj)).toList = (L.set i b).set j a := by
      rw [List.getElem?_eq_getElem li] at hi
      rw [List.getElem?_eq_getElem lj] at hj
      simp only [Option.some.injEq] at hi hj
      simp [Array.swap, hi, hj]
    rw [e] at h
    exact h
  · exact List.Perm.refl _

/-- No thing is fore of the one above it. -/
def Heap (L : List (Th α)) : Prop := ∀ (j : Nat) (t u : Th α), 0 < j → L[j]? = some t → L[(j - 1) / 2]? = some u → fore t u = false
/-- So but for place i, which may be fore of the one above it. -/
structure Up (L : List (Th α)) (i : Nat) : Prop where
  most : ∀ (j : Nat) (t u : Th α), 0 < j → j ≠ i → L[j]? = some t → L[(j - 1) / 2]? = some u → fore t u = false
  far : ∀ (j : Nat) (t u : Th α), 0 < i → 0 < j → (j - 1) / 2 = i → L[j]? = some t → L[(i - 1) / 2]? = some u → fore t u = false
/-- So but for place i, which those below it may be fore of. -/
structure Down (L : List (Th α)) (i : Nat) : Prop where
  most : ∀ (j : Nat) (t u : Th α), 0 < j → (j - 1) / 2 ≠ i → L[j]? = some t → L[(j - 1) / 2]? = some u → fore t u = false
  far : ∀ (j : Nat) (t u : Th α), 0 < i → 0 < j → (j - 1) / 2 = i → L[j]? = some t → L[(i - 1) / 2]? = some u → fore t u = false

theorem Up.heap0 {L : List (Th α)} (h : Up L 0) : Heap L := fun j t u hj ht hu => h.most j t u hj (by omega) ht hu
theorem Up.heap {L : List (Th α)} {i : Nat} (h : Up L i) {a b : Th α} (ha : L[i]? = some a) (hb : L[(i - 1) / 2]? = some b) (hn : fore a b = false) : Heap L := fun j t u hj ht hu => by
  by_cases e : j = i
  · subst e; rw [ha] at ht; rw [hb] at hu; cases ht; cases hu; exact hn
  · exact h.most j t u hj e ht hu
theorem Up.step {L : List (Th α)} {i : Nat} (h : Up L i) (h0 : 0 < i) {a b : Th α} (ha : L[i]? = some a) (hb : L[(i - 1) / 2]? = some b) (hn : fore a b = true) : Up (swp L i ((i - 1) / 2)) ((i - 1) / 2) := by
  have hup : (i - 1) / 2 < i := by omega
  have G := swp_get ha hb
  constructor
  · intro j t u hj hne ht hu
    rw [G] at ht hu
    rw [if_neg hne] at ht
    by_cases e : j = i
    · subst e
      rw [if_pos rfl] at ht hu
      cases ht; cases hu
      exact fore_asym hn
    · rw [if_neg e] at ht
      by_cases p1 : (j - 1) / 2 = (i - 1) / 2
      · rw [if_pos p1] at hu
        cases hu
        exact lt_le hn (h.most j t b hj e ht (by rw [p1]; exact hb))
      · rw [if_neg p1] at hu
        by_cases p2 : (j - 1) / 2 = i
        · rw [if_pos p2] at hu
          cases hu
          exact h.far j t b h0 hj p2 ht hb
        · rw [if_neg p2] at hu
          exact h.most j t u hj e ht hu
  · intro j t u hp hj hpj ht hu
    rw [G] at ht hu
    rw [if_neg (by omega), if_neg (by omega)] at hu
    have hbu := h.most ((i - 1) / 2) b u hp (by omega) hb hu
    rw [if_neg (by omega)] at ht
    by_cases e : j = i
    · rw [if_pos e] at ht; cases ht; exact hbu
    · rw [if_neg e] at ht
      exact le_trans' hbu (h.most j t b hj e ht (by rw [hpj]; exact hb))
theorem Down.heap {L : List (Th α)} {i : Nat} (h : Down L i) {a : Th α} (ha : L[i]? = some a) (h1 : ∀ t, L[2 * i + 1]? = some t → fore t a = false) (h2 : ∀ t, L[2 * i + 2]? = some t → fore t a = false) : Heap L := fun j t u hj ht hu => by
  by_cases e : (j - 1) / 2 = i
  · rw [e, ha] at hu
    cases hu
    by_cases e1 : j = 2 * i + 1
    · subst e1; exact h1 t ht
    · obtain rfl : j = 2 * i + 2 := by omega
      exact h2 t ht
  · exact h.most j t u hj e ht hu
/-- c: the least of place i and those below it, which is not i; d: the other one. -/
theorem Down.step {L : List (Th α)} {i c : Nat} (h : Down L i) (hc0 : 0 < c) (hc : (c - 1) / 2 = i) {a b : Th α} (ha : L[i]? = some a) (hb : L[c]? = some b) (hn : fore a b = false)
    (ho : ∀ (d : Nat) (t : Th α), 0 < d → (d - 1) / 2 = i → d ≠ c → L[d]? = some t → fore t b = false) : Down (swp L i c) c := by
  have hic : i < c := by omega
  have G := swp_get ha hb
  constructor
  · intro j t u hj hne ht hu
    rw [G] at ht hu
    rw [if_neg hne] at hu
    by_cases e : j = c
    · subst e
      rw [if_pos rfl] at ht
      rw [if_pos hc] at hu
      cases ht; cases hu
      exact hn
    · rw [if_neg e] at ht
      by_cases e2 : j = i
      · rw [if_pos e2] at ht
        cases ht
        rw [if_neg (by omega)] at hu
        subst e2
        exact h.far c b u hj hc0 hc hb hu
      · rw [if_neg e2] at ht
        by_cases p : (j - 1) / 2 = i
        · rw [if_pos p] at hu
          cases hu
          exact ho j t hj p e ht
        · rw [if_neg p] at hu
          exact h.most j t u hj p ht hu
  · intro j t u _ hj hpj ht hu
    rw [G] at ht hu
    rw [hc, if_neg (by omega), if_pos rfl] at hu
    cases hu
    rw [if_neg (by omega), if_neg (by omega)] at ht
    exact h.most j t b hj (by omega) ht (by rw [hpj]; exact hb)
/-- c: the least of place i and of the first j ones below it. -/
structure Best (M : List (Th α)) (i j c : Nat) : Prop where
  inr : c < M.length
  who : c = i ∨ (2 * i + 1 ≤ c ∧ c < 2 * i + 1 + j)
  least : ∀ (d : Nat) (t b : Th α), (d = i ∨ 2 * i + 1 ≤ d ∧ d < 2 * i + 1 + j) → M[d]? = some t → M[c]? = some b → fore t b = false
theorem Best.start {M : List (Th α)} {i : Nat} (h : i < M.length) : Best M i 0 i := ⟨h, .inl rfl, fun d t b hd ht hb => by
  obtain rfl : d = i := by omega
  rw [ht] at hb; cases hb; exact fore_self _⟩
theorem Best.off {M : List (Th α)} {i j c : Nat} (h : Best M i j c) (hd : M.length ≤ 2 * i + 1 + j) : Best M i (j + 1) c := ⟨h.inr, by have := h.who; omega, fun d t b hdd ht hb => by
  have := lt_of_get ht
  exact h.least d t b (by omega) ht hb⟩
theorem Best.keep {M : List (Th α)} {i j c : Nat} (h : Best M i j c) {u b : Th α} (hu : M[2 * i + 1 + j]? = some u) (hb : M[c]? = some b) (hf : fore u b = false) : Best M i (j + 1) c := ⟨h.inr, by have := h.who; omega, fun d t b' hd ht hb' => by
  rw [hb] at hb'; cases hb'
  by_cases e : d = 2 * i + 1 + j
  · subst e; rw [hu] at ht; cases ht; exact hf
  · exact h.least d t b (by omega) ht hb⟩
theorem Best.take {M : List (Th α)} {i j c : Nat} (h : Best M i j c) {u b : Th α} (hu : M[2 * i + 1 + j]? = some u) (hb : M[c]? = some b) (hf : fore u b = true) : Best M i (j + 1) (2 * i + 1 + j) := ⟨lt_of_get hu, by omega, fun d t u' hd ht hu' => by
  rw [hu] at hu'; cases hu'
  by_cases e : d = 2 * i + 1 + j
  · subst e; rw [hu] at ht; cases ht; exact fore_self _
  · exact lt_le hf (h.least d t b (by omega) ht hb)⟩
theorem Best.heap {M : List (Th α)} {i : Nat} (h : Best M i 2 i) (hD : Down M i) : Heap M :=
  hD.heap (List.getElem?_eq_getElem h.inr) (fun t ht => h.least _ t _ (by omega) ht (List.getElem?_eq_getElem h.inr)) (fun t ht => h.least _ t _ (by omega) ht (List.getElem?_eq_getElem h.inr))
theorem Best.step {M : List (Th α)} {i c : Nat} (h : Best M i 2 c) (hD : Down M i) (hne : c ≠ i) (hi : i < M.length) : Down (swp M i c) c := by
  have w := h.who
  have hb := List.getElem?_eq_getElem h.inr
  have ha := List.getElem?_eq_getElem hi
  exact hD.step (by omega) (by omega) ha hb (h.least i _ _ (.inl rfl) ha hb) (fun d t hd0 hdi _ ht => h.least d t _ (by omega) ht hb)
theorem down_nil : Down ([] : List (Th α)) 0 := ⟨fun j t u _ _ ht => by simp at ht, fun j t u h => by omega⟩
theorem Heap.root {L : List (Th α)} (h : Heap L) {r : Th α} (hr : L[0]? = some r) : ∀ (j : Nat) (t : Th α), L[j]? = some t → fore t r = false := by
  intro j
  induction j using Nat.strongRecOn with
  | ind j ih =>
    intro t ht
    by_cases e : j = 0
    · subst e; rw [hr] at ht; cases ht; exact fore_self _
    · have hj := lt_of_get ht
      have hp : (j - 1) / 2 < L.length := by omega
      have hu := List.getElem?_eq_getElem hp
      exact le_trans' (ih ((j - 1) / 2) (by omega) _ hu) (h j t _ (by omega) ht hu)
theorem heap_nil : Heap ([] : List (Th α)) := fun j t u _ ht _ => by simp at ht
theorem Heap.add {L : List (Th α)} (h : Heap L) (t : Th α) : Up (L ++ [t]) L.length := by
  constructor
  · intro j a b hj hne ha hb
    have hl := lt_of_get ha
    simp at hl
    rw [List.getElem?_append_left (by omega)] at ha
    rw [List.getElem?_append_left (by omega)] at hb
    exact h j a b hj ha hb
  · intro j a b h0 hj hp ha hb
    have hl := lt_of_get ha
    simp at hl
    omega
/-- The first one is taken out: the last one comes into its place, and the place behind is let go. -/
def cut (L : List (Th α)) : List (Th α) := (swp L 0 (L.length - 1)).take (L.length - 1)
theorem cut_length (L : List (Th α)) : (cut L).length = L.length - 1 := by simp [cut, swp_length]
theorem cut_get {L : List (Th α)} {k : Nat} (h0 : 0 < k) (hk : k < L.length - 1) : (cut L)[k]? = L[k]? := by
  have ha := List.getElem?_eq_getElem (show 0 < L.length by omega)
  have hb := List.getElem?_eq_getElem (show L.length - 1 < L.length by omega)
  rw [cut, List.getElem?_take_of_lt hk, swp_get ha hb, if_neg (by omega), if_neg (by omega)]
theorem Heap.down {L : List (Th α)} (h : Heap L) : Down (cut L) 0 := by
  constructor
  · intro j t u hj hne ht hu
    have hl := lt_of_get ht
    rw [cut_length] at hl
    rw [cut_get hj hl] at ht
    rw [cut_get (by omega) (by omega)] at hu
    exact h j t u hj ht hu
  · intro j t u h0; omega
theorem cut_perm {L : List (Th α)} {r : Th α} (hr : L[0]? = some r) : L.Perm (r :: cut L) := by
  have h0 := lt_of_get hr
  have hb := List.getElem?_eq_getElem (show L.length - 1 < L.length by omega)
  have hs : (swp L 0 (L.length - 1)).length = L.length := swp_length _ _ _
  have h1 : swp L 0 (L.length - 1) = cut L ++ [r] := by
    refine List.ext_getElem? fun k => ?_
    by_cases hk : k < L.length - 1
    · rw [List.getElem?_append_left (by rw [cut_length]; exact hk), cut, List.getElem?_take_of_lt hk]
    · by_cases hk2 : k = L.length - 1
      · rw [swp_get hr hb, if_pos hk2, List.getElem?_append_right (by rw [cut_length]; omega), cut_length, hk2, Nat.sub_self]; rfl
      · rw [List.getElem?_eq_none (by omega), List.getElem?_eq_none (by simp [cut_length]; omega)]
  have h2 := (swp_perm L 0 (L.length - 1)).symm
  rw [h1] at h2
  exact h2.trans (List.perm_append_singleton _ _)
end Go.Proofs.YtmbblhajbecomaaDoor.Heap
