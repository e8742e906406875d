/- Numbers put into an agenda one by one, and what comes out by a time. Plain. -/
import Derived.Test.YtcicnanchikpjaaDrain
namespace Go.Proofs.Ytcicnanchikpjaa.Heap

/-- The first k numbers, each a thing: its time, its place, and f of both. -/
def mkS (f : Int → Nat → Int) (zs : List Int) (k : Nat) : List (Th Int) := (List.range k).map fun i => ⟨zs[i]?.getD 0, i, f (zs[i]?.getD 0) i⟩
theorem mkS_succ (f : Int → Nat → Int) (zs : List Int) (k : Nat) : mkS f zs (k + 1) = mkS f zs k ++ [⟨zs[k]?.getD 0, k, f (zs[k]?.getD 0) k⟩] := by simp [mkS, List.range_succ]
theorem mkS_len (f : Int → Nat → Int) (zs : List Int) (k : Nat) : (mkS f zs k).length = k := by simp [mkS]
theorem mkS_get {f : Int → Nat → Int} {zs : List Int} {k i : Nat} {t : Th Int} (h : (mkS f zs k)[i]? = some t) : i < k ∧ t = ⟨zs[i]?.getD 0, i, f (zs[i]?.getD 0) i⟩ := by
  have hi := lt_of_get h
  rw [mkS_len] at hi
  rw [mkS, List.getElem?_map, List.getElem?_range hi] at h
  simp at h
  exact ⟨hi, h.symm⟩
theorem mkS_rising (f : Int → Nat → Int) (zs : List Int) (k : Nat) : Rising (mkS f zs k) := fun i j a b hij ha hb => by
  obtain ⟨_, rfl⟩ := mkS_get ha
  obtain ⟨_, rfl⟩ := mkS_get hb
  exact hij
theorem mkS_mem {f : Int → Nat → Int} {zs : List Int} {k : Nat} {t : Th Int} (h : t ∈ mkS f zs k) : t.no < k ∧ t.due = zs[t.no]?.getD 0 ∧ t.x = f (zs[t.no]?.getD 0) t.no := by
  obtain ⟨i, hi⟩ := get_of_mem h
  obtain ⟨hk, rfl⟩ := mkS_get hi
  exact ⟨hk, rfl, rfl⟩
theorem order_facts {now : Int} {zs : List Int} {m : Nat} {xs : List Int} {S' : List (Th Int)} (h : Drained now (mkS (fun _ i => i) zs m) xs S') (hmax : ∀ i : Nat, zs[i]?.getD 0 ≤ now) :
    S' = [] ∧ ∃ ns : List Nat, xs = ns.map (fun (n : Nat) => (n : Int)) ∧ ns.length = m ∧ (∀ (k n : Nat), ns[k]? = some n → n < m) ∧ (∀ (i j a b : Nat), i < j → ns[i]? = some a → ns[j]? = some b → a ≠ b) ∧
      (∀ (k a b : Nat), ns[k]? = some a → ns[k + 1]? = some b → zs[a]?.getD 0 < zs[b]?.getD 0 ∨ zs[a]?.getD 0 = zs[b]?.getD 0 ∧ a < b) := by
  obtain ⟨ts, rfl, hp, ho, h1, h2⟩ := h.spec (mkS_rising _ _ _)
  have hS : S' = [] := by
    cases S' with
    | nil => rfl
    | cons u S' =>
      have hm : u ∈ mkS (fun _ i => i) zs m := hp.mem_iff.1 (List.mem_append_right _ List.mem_cons_self)
      obtain ⟨_, hd, _⟩ := mkS_mem hm
      have := h2 u List.mem_cons_self
      have := hmax u.no
      omega
  subst hS
  rw [List.append_nil] at hp
  have hmem : ∀ t ∈ ts, t.no < m ∧ t.due = zs[t.no]?.getD 0 ∧ t.x = t.no := fun t ht => mkS_mem (hp.mem_iff.1 ht)
  have hget : ∀ (k n : Nat), (ts.map Th.no)[k]? = some n → ∃ t, ts[k]? = some t ∧ t.no = n ∧ n < m ∧ t.due = zs[n]?.getD 0 := fun k n hk => by
    rw [List.getElem?_map] at hk
    cases hc : ts[k]? with
    | none => rw [hc] at hk; cases hk
    | some t =>
      rw [hc] at hk
      simp at hk
      subst hk
      obtain ⟨a, b, _⟩ := hmem t (mem_of_get hc)
      exact ⟨t, rfl, rfl, a, b⟩
  have hord : ∀ (i j : Nat) (a b : Th Int), i < j → ts[i]? = some a → ts[j]? = some b → Ord a b := fun i j a b hij ha hb => by
    have li := lt_of_get ha
    have lj := lt_of_get hb
    have := (List.pairwise_iff_getElem.1 ho) i j li lj hij
    rw [List.getElem?_eq_getElem li] at ha
    rw [List.getElem?_eq_getElem lj] at hb
    cases ha; cases hb
    exact this
  refine ⟨rfl, ts.map Th.no, ?_, ?_, fun k n hk => ?_, fun i j a b hij ha hb => ?_, fun k a b ha hb => ?_⟩
  · rw [List.map_map]
    exact List.map_congr_left fun t ht => (hmem t ht).2.2
  · rw [List.length_map, hp.length_eq, mkS_len]
  · obtain ⟨_, _, _, h, _⟩ := hget k n hk
    exact h
  · obtain ⟨t, ht, rfl, _, dt⟩ := hget i a ha
    obtain ⟨u, hu, rfl, _, du⟩ := hget j b hb
    have := hord i j t u hij ht hu
    intro e
    rw [e] at dt
    unfold Ord at this
    omega
  · obtain ⟨t, ht, rfl, _, dt⟩ := hget k a ha
    obtain ⟨u, hu, rfl, _, du⟩ := hget (k + 1) b hb
    have := hord k (k + 1) t u (by omega) ht hu
    unfold Ord at this
    omega
theorem waits_facts {now : Int} {zs : List Int} {m : Nat} {xs : List Int} {S' : List (Th Int)} (h : Drained now (mkS (fun z _ => z) zs m) xs S') :
    xs.length = ((List.range m).countP fun i => decide (zs[i]?.getD 0 ≤ now)) ∧ (∀ x ∈ xs, x ≤ now) ∧ (∀ u ∈ S', now < u.due) := by
  obtain ⟨ts, rfl, hp, ho, h1, h2⟩ := h.spec (mkS_rising _ _ _)
  refine ⟨?_, fun x hx => ?_, h2⟩
  · rw [h.count (mkS_rising _ _ _), mkS, List.countP_map]
    rfl
  · obtain ⟨t, ht, rfl⟩ := List.mem_map.1 hx
    obtain ⟨_, hd, hx⟩ := mkS_mem (hp.mem_iff.1 (List.mem_append_left _ ht))
    have := h1 t ht
    omega
end Go.Proofs.Ytcicnanchikpjaa.Heap
