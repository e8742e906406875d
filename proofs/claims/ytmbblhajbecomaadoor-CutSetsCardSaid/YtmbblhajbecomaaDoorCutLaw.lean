/- What the cut laws say without the document: plain Lean. -/
import Derived.Test.YtmbblhajbecomaaDoorCutFirst
import Derived.Test.YtmbblhajbecomaaDoorBackPure
import Derived.Test.YtmbblhajbecomaaDoorMadeEx
namespace Go.Proofs.YtmbblhajbecomaaDoor.Cut
open Go.RowKit
open Go.Proofs.YtmbblhajbecomaaDoor.RF Go.Proofs.YtmbblhajbecomaaDoor.Heap Go.Proofs.YtmbblhajbecomaaDoor.Nodes Go.Proofs.YtmbblhajbecomaaDoor.Graph Go.Proofs.YtmbblhajbecomaaDoor.Reach
set_option linter.unusedVariables false
set_option linter.unusedSimpArgs false
section
variable {near : List Nat} {off : Nat}
theorem wdTo_at (ok : Ok near) (ho : off < 2 ^ 64) : ∀ k, (∃ i, i < k ∧ on near.length off i = true) → 0 ≤ wdTo near off k
  | 0, ⟨i, h, _⟩ => by omega
  | k + 1, ⟨i, h, h2⟩ => by
    rw [wdTo]
    rcases Nat.lt_succ_iff_lt_or_eq.1 h with c | c
    · have := wdTo_at ok ho k ⟨i, c, h2⟩
      split <;> omega
    · subst c
      have := (mxD_full ok ho h2 (-1)).1
      rw [if_pos h2]; omega
theorem wdTo_none (hn : ∀ i, on near.length off i = false) : ∀ k, wdTo near off k = -1
  | 0 => rfl
  | k + 1 => by rw [wdTo, if_neg (by rw [hn k]; decide), wdTo_none hn k]
/-- A width is one of a graph that is whole and is not none. -/
theorem wide_ge (ok : Ok near) (ho : off < 2 ^ 64) : 0 ≤ wideF near off ↔ whole near off = true ∧ ∃ i, on near.length off i = true := by
  unfold wideF
  constructor
  · intro h
    split at h
    · rename_i hw
      refine ⟨hw, ?_⟩
      apply Classical.byContradiction
      intro c
      rw [wdTo_none (fun i => by
        rcases e : on near.length off i with _ | _
        · rfl
        · exact absurd ⟨i, e⟩ c)] at h
      omega
    · omega
  · rintro ⟨hw, i, hi⟩
    rw [if_pos hw]
    exact wdTo_at ok ho _ ⟨i, on_lt hi, hi⟩
theorem whole_way (ok : Ok near) (ho : off < 2 ^ 64) : whole near off = true ↔ ∀ a b, on near.length off a = true → on near.length off b = true → ∃ m, Reach.Way near off (a : Int) m b := by
  rw [whole_spec]
  constructor
  · intro h a b ha hb
    exact ⟨_, (dist_spec ok ho (a : Int)).way b (okI_spec.1 (h a ha) b hb)⟩
  · intro h a ha
    rw [okI_spec]
    intro b hb
    obtain ⟨m, hm⟩ := h a b ha hb
    exact ((dist_spec ok ho (a : Int)).le hm).1
theorem way_more {near' : List Nat} (hl : near'.length = near.length) (hm : ∀ a b, adj near a b = true → adj near' a b = true) {i : Int} {m k : Nat} (h : Reach.Way near off i m k) : Reach.Way near' off i m k := by
  induction h with
  | nil h1 h2 => exact .nil h1 (by rw [hl]; exact h2)
  | step _ h2 h3 ih => exact .step ih (hm _ _ h2) (by rw [hl]; exact h3)
theorem wide_more {near' : List Nat} (ok : Ok near) (ok' : Ok near') (ho : off < 2 ^ 64) (hl : near'.length = near.length) (hm : ∀ a b, adj near a b = true → adj near' a b = true) (h : 0 ≤ wideF near off) : 0 ≤ wideF near' off := by
  obtain ⟨h1, i, hi⟩ := (wide_ge ok ho).1 h
  refine (wide_ge ok' ho).2 ⟨(whole_way ok' ho).2 fun a b ha hb => ?_, i, by rw [hl]; exact hi⟩
  rw [hl] at ha hb
  obtain ⟨m, hw⟩ := (whole_way ok ho).1 h1 a b ha hb
  exact ⟨m, way_more hl hm hw⟩
theorem set_lt {n : Nat} {m : Int} (hn : n < 9) {x : Nat} (h : x ∈ setsF n m) : x < 2 ^ 64 := by
  have h1 := (mem_setsTo.1 h).1
  have h2 : 2 ^ n ≤ 2 ^ 8 := Nat.pow_le_pow_right (by omega) (by omega)
  omega
theorem first_is {f : Int} : firstF near f = none ↔ ∀ s ∈ setsF near.length f, 0 ≤ wideF near s := by
  unfold firstF
  rw [List.find?_eq_none]
  constructor
  · intro h s hs
    have := h s hs
    simpa [cutsB] using this
  · intro h s hs
    have := h s hs
    simpa [cutsB] using this
theorem safe_is {f : Int} : safeF near f = true ↔ 0 ≤ f ∧ f ≤ 3 ∧ f < (near.length : Int) ∧ ∀ s ∈ setsF near.length f, 0 ≤ wideF near s := by
  rw [← first_is]
  unfold safeF
  simp [and_assoc]
theorem safe_more {near' : List Nat} (ok : Ok near) (ok' : Ok near') (h9 : near.length < 9) (hl : near'.length = near.length) (hm : ∀ a b, adj near a b = true → adj near' a b = true) {f : Int} (h : safeF near f = true) : safeF near' f = true := by
  obtain ⟨h1, h2, h3, h4⟩ := safe_is.1 h
  refine safe_is.2 ⟨h1, h2, by rw [hl]; exact h3, fun s hs => ?_⟩
  rw [hl] at hs
  exact wide_more ok ok' (set_lt h9 hs) hl hm (h4 s hs)
/-- With more links no graph is less safe. -/
theorem str_more {near' : List Nat} (ok : Ok near) (ok' : Ok near') (h9 : near.length < 9) (hl : near'.length = near.length) (hm : ∀ a b, adj near a b = true → adj near' a b = true) : strF near ≤ strF near' := by
  have H := fun f : Int => safe_more (f := f) ok ok' h9 hl hm
  have H0 := H 0
  have H1 := H 1
  have H2 := H 2
  have H3 := H 3
  unfold strF
  by_cases c3 : safeF near 3 = true
  · rw [if_pos c3, if_pos (H3 c3)]; omega
  · rw [if_neg c3]
    by_cases c2 : safeF near 2 = true
    · rw [if_pos c2, if_pos (H2 c2)]; split <;> omega
    · rw [if_neg c2]
      by_cases c1 : safeF near 1 = true
      · rw [if_pos c1, if_pos (H1 c1)]; repeat' split
        all_goals omega
      · rw [if_neg c1]
        by_cases c0 : safeF near 0 = true
        · rw [if_pos c0, if_pos (H0 c0)]; repeat' split
          all_goals omega
        · rw [if_neg c0]; repeat' split
          all_goals omega
/-- What is safe of so many is safe of fewer. -/
theorem safe_less {k : Int} (h : safeF near k = true) (hk : 1 ≤ k) : safeF near (k - 1) = true := by
  obtain ⟨h1, h2, h3, h4⟩ := safe_is.1 h
  refine safe_is.2 ⟨by omega, by omega, by omega, fun s hs => h4 s ?_⟩
  unfold setsF at hs ⊢
  rw [mem_setsTo] at hs ⊢
  exact ⟨hs.1, by omega⟩
end
theorem ones_few {s n : Nat} (h : s < 2 ^ n) (hn : n ≤ 64) : ones s = (List.range n).filter fun i => s.testBit i := by
  unfold ones
  rw [range_split hn, List.filter_append]
  have e2 : List.filter (fun i => s.testBit i) ((List.range (64 - n)).map (n + ·)) = [] := by
    rw [List.filter_eq_nil_iff]
    intro b hb
    rw [List.mem_map] at hb
    obtain ⟨c, _, rfl⟩ := hb
    have := Nat.testBit_lt_two_pow (i := n + c) (Nat.lt_of_lt_of_le h (Nat.pow_le_pow_right (by omega) (by omega)))
    simp [this]
  rw [e2, List.append_nil]
theorem cnt_below (i : Nat) : ∀ n, n ≤ i → (List.range n).countP (fun j => decide (j ≠ i)) = n
  | 0, _ => rfl
  | n + 1, h => by
    rw [List.range_succ, List.countP_append, cnt_below i n (by omega), List.countP_singleton, if_pos (by simp; omega)]
theorem cnt_but (i : Nat) : ∀ n, i < n → (List.range n).countP (fun j => decide (j ≠ i)) = n - 1
  | 0, h => by omega
  | n + 1, h => by
    rw [List.range_succ, List.countP_append, List.countP_singleton]
    rcases Nat.lt_succ_iff_lt_or_eq.1 h with c | c
    · rw [cnt_but i n c, if_pos (by simp; omega)]; omega
    · subst c
      rw [cnt_below i i (Nat.le_refl _), if_neg (by simp)]; omega
/-- Where a graph is safe of k, each node has more links than k, or there are no more nodes. -/
theorem safe_deg {n : Nat} {near : List Nat} {L : List (Int × Int)} (hM : Match n near L) (hs : newE n [] L = 0) (h9 : n < 9) {k : Int} (h : safeF near k = true) {i : Nat} (hi : i < n)
    (h1 : ((refNear n L (i : Nat)).length : Int) ≤ k) (h2 : ((refNear n L (i : Nat)).length : Int) < (n : Int) - 1) : False := by
  have ok : Ok near := hM.ok (by omega)
  obtain ⟨_, _, h3, h4⟩ := safe_is.1 h
  have hw := hM.word hi
  have ho : near.getD i 0 < 2 ^ 64 := Nat.lt_of_lt_of_le hw (Nat.pow_le_pow_right (by omega) (by omega))
  have hon := ones_few hw (by omega)
  have href : refNear n L (i : Nat) = (List.range n).filter fun j => (near.getD i 0).testBit j := by
    unfold refNear
    exact List.filter_congr fun b _ => (hM.bits i b hi).symm
  have hmem : near.getD i 0 ∈ setsF near.length k := by
    rw [hM.len] at h3 ⊢
    unfold setsF
    rw [mem_setsTo]
    refine ⟨hw, ?_⟩
    rw [hon, ← href]
    omega
  have hwd := h4 _ hmem
  obtain ⟨hwh, _⟩ := (wide_ge ok ho).1 hwd
  have hself : (near.getD i 0).testBit i = false := by rw [hM.bits i i hi]; exact refL_self hs i
  obtain ⟨j, hj, hji, hjs⟩ : ∃ j, j < n ∧ j ≠ i ∧ (near.getD i 0).testBit j = false := by
    apply Classical.byContradiction
    intro c
    have hall : ∀ j, j ∈ List.range n → decide (j ≠ i) = true → (near.getD i 0).testBit j = true := by
      intro j hj hd
      rcases e : (near.getD i 0).testBit j with _ | _
      · exact absurd ⟨j, List.mem_range.1 hj, by simpa using hd, e⟩ c
      · rfl
    have h5 := List.countP_mono_left hall
    rw [cnt_but i n hi, List.countP_eq_length_filter, ← href] at h5
    omega
  rw [whole_way ok ho] at hwh
  obtain ⟨m, hm⟩ := hwh i j (on_of (by rw [hM.len]; exact hi) hself) (on_of (by rw [hM.len]; exact hj) hjs)
  have hst : ∀ m c, Reach.Way near (near.getD i 0) (i : Int) m c → c = i := by
    intro m c hwc
    induction hwc with
    | nil h5 _ => omega
    | step h5 h6 h7 ih =>
      subst ih
      have := on_off h7
      unfold adj at h6
      rw [this] at h6; cases h6
  exact hji (hst m j hm)
theorem u8_in {n : Int} (h : (Lit.int .u8 n).wf = true) : 0 ≤ n ∧ n ≤ 255 := by
  have e1 : IntKind.u8.min = 0 := by decide
  have e2 : IntKind.u8.max = 255 := by decide
  simp only [Lit.wf, e1, e2, Bool.and_eq_true, decide_eq_true_eq] at h
  omega
theorem u16_in {n : Int} (h : (Lit.int .u16 n).wf = true) : 0 ≤ n ∧ n ≤ 65535 := by
  have e1 : IntKind.u16.min = 0 := by decide
  have e2 : IntKind.u16.max = 65535 := by decide
  simp only [Lit.wf, e1, e2, Bool.and_eq_true, decide_eq_true_eq] at h
  omega
/-- One link more. -/
theorem one_more {m : Nat} {L : List (Int × Int)} (hs : newE m [] L = 0) {x y : Nat} (hx : x < m) (hy : y < m) (hne : x ≠ y) (hnl : refL L x y = false) (h9 : m < 9) {near near' : List Nat} (hn : near = nearOf m (L.map lk)) (hn' : near' = nearOf m ((L ++ [((x : Int), (y : Int))]).map lk)) :
    newE m [] (L ++ [((x : Int), (y : Int))]) = 0 ∧ Match m near' (L ++ [((x : Int), (y : Int))]) ∧ strF near ≤ strF near' ∧ hasR (nearR near' x) y = true ∧ nearR near' x < 2 ^ 64 := by
  have h0 : newE m [] (L ++ [((x : Int), (y : Int))]) = 0 := newE_snoc L [] _ hs (by
    rw [List.nil_append, bad_ref, isN_nat, isN_nat, if_neg (by simp [hx, hy]), if_neg (by omega), if_neg (by rw [hnl]; decide)])
  have hM := match_new hs
  have hM' := match_new h0
  rw [← hn] at hM
  rw [← hn'] at hM'
  have hxy : refL (L ++ [((x : Int), (y : Int))]) x y = true := by simp [refL, hit]
  have hlk : (near'.getD x 0).testBit y = true := by rw [hM'.bits x y hx]; exact hxy
  have hnr : nearR near' x = near'.getD x 0 := by unfold nearR; rw [hM'.len, isN_nat, if_pos (by simpa using hx), Int.toNat_natCast]
  refine ⟨h0, hM', str_more (hM.ok (by omega)) (hM'.ok (by omega)) (by rw [hM.len]; exact h9) (by rw [hM.len, hM'.len]) (fun a b h => ?_), ?_, ?_⟩
  · unfold adj at h ⊢
    by_cases ha : a < m
    · rw [hM.bits a b ha] at h
      rw [hM'.bits a b ha]
      simp only [refL, List.any_append, Bool.or_eq_true] at h ⊢
      exact .inl h
    · rw [List.getD_eq_getElem?_getD, List.getElem?_eq_none (by rw [hM.len]; omega)] at h
      simp at h
  · rw [hnr]
    simp only [hasR, Int.toNat_natCast, hlk, Bool.and_true, Bool.and_eq_true, decide_eq_true_eq]
    omega
  · rw [hnr]
    exact Nat.lt_of_lt_of_le (hM'.word hx) (Nat.pow_le_pow_right (by omega) (by omega))
end Go.Proofs.YtmbblhajbecomaaDoor.Cut
