/- What holds of all that comes of a storm, in plain Lean. -/
import Derived.Test.YtmbblhajbecomaaDoorFloodRun
namespace Go.Proofs.YtmbblhajbecomaaDoor.Flood
open Go.RowKit
open Go.Proofs.YtmbblhajbecomaaDoor.RF Go.Proofs.YtmbblhajbecomaaDoor.Heap Go.Proofs.YtmbblhajbecomaaDoor.Nodes Go.Proofs.YtmbblhajbecomaaDoor.Graph Go.Proofs.YtmbblhajbecomaaDoor.Reach
set_option linter.unusedVariables false
set_option linter.unusedSimpArgs false

/-- The first one. -/
def x0F (src : Int) : Arr := ⟨src, 0, 0, -1⟩
/-- x comes from y. -/
structure FromF (near mu : List Nat) (dl : List (List Int)) (y x : Arr) : Prop where
  node : y.node = x.frm
  hops : x.hops = y.hops + 1
  time : x.time = y.time + takesF dl y.node x.node
  pos : 0 ≤ x.node
  bit : (hearsF near mu y).testBit x.node.toNat = true
/-- What holds of what is under way and what came. -/
structure EI (near mu : List Nat) (dl : List (List Int)) (src : Int) (way out : List Arr) : Prop where
  st : (out = [] ∧ (way = [] ∨ way = [x0F src])) ∨ (out ≠ [] ∧ ∀ x ∈ way, ∃ y ∈ out, FromF near mu dl y x)
  head : ∀ x, out[0]? = some x → x = x0F src
  tail : ∀ (k : Nat) (x : Arr), 1 ≤ k → out[k]? = some x → ∃ (j : Nat) (y : Arr), j < k ∧ out[j]? = some y ∧ FromF near mu dl y x
  late : ∀ y ∈ out, ∀ x ∈ way, y.time ≤ x.time
  rise : ∀ (i j : Nat) (a b : Arr), i ≤ j → out[i]? = some a → out[j]? = some b → a.time ≤ b.time
  full : ∀ y ∈ out, ∀ v : Nat, v < 64 → (hearsF near mu y).testBit v = true → ∃ z, (z ∈ out ∨ z ∈ way) ∧ z.node = (v : Int) ∧ z.time ≤ y.time + takesF dl y.node v
section
variable {near mu : List Nat} {dl : List (List Int)} {src : Int}
theorem mem_erase_or {S : List Arr} {i : Nat} {x z : Arr} (h : S[i]? = some x) (hz : z ∈ S) : z = x ∨ z ∈ S.eraseIdx i := by
  have := (perm_erase S i x h).mem_iff.1 hz
  rcases List.mem_cons.1 this with c | c
  · exact .inl c
  · exact .inr c
theorem EI.start : EI near mu dl src [x0F src] [] :=
  ⟨.inl ⟨rfl, .inr rfl⟩, fun x h => by simp at h, fun k x _ h => by simp at h, fun y h => by simp at h, fun i j a b _ h => by simp at h, fun y h => by simp at h⟩
theorem EI.nil : EI near mu dl src [] [] :=
  ⟨.inl ⟨rfl, .inl rfl⟩, fun x h => by simp at h, fun k x _ h => by simp at h, fun y h => by simp at h, fun i j a b _ h => by simp at h, fun y h => by simp at h⟩
theorem EI.skip {way out : List Arr} (h : EI near mu dl src way out) {i : Nat} {x : Arr} (f : FirstA way i x) (c : cameF out x.node = true) : EI near mu dl src (way.eraseIdx i) out := by
  have hx := mem_of_get f.get
  obtain ⟨y0, hy0, hyn⟩ := cameF_iff.1 c
  refine ⟨?_, h.head, h.tail, fun y hy z hz => h.late y hy z (mem_erase hz), h.rise, fun y hy v hv hb => ?_⟩
  · rcases h.st with ⟨rfl, _⟩ | ⟨h1, h2⟩
    · simp at hy0
    · exact .inr ⟨h1, fun z hz => h2 z (mem_erase hz)⟩
  · obtain ⟨z, hz, hn, ht⟩ := h.full y hy v hv hb
    rcases hz with hz | hz
    · exact ⟨z, .inl hz, hn, ht⟩
    · rcases mem_erase_or f.get hz with rfl | hz
      · exact ⟨y0, .inl hy0, by rw [hyn, hn], Int.le_trans (h.late y0 hy0 z hx) ht⟩
      · exact ⟨z, .inr hz, hn, ht⟩
theorem EI.come {way out : List Arr} (h : EI near mu dl src way out) {i : Nat} {x : Arr} (f : FirstA way i x) (c : cameF out x.node = false) :
    EI near mu dl src (way.eraseIdx i ++ sendsF near mu dl x) (out ++ [x]) := by
  have hx := mem_of_get f.get
  have hsend : ∀ z ∈ sendsF near mu dl x, ∃ v : Nat, v < 64 ∧ (hearsF near mu x).testBit v = true ∧ z = sendF dl x v := fun z hz => by
    obtain ⟨v, hv, rfl⟩ := List.mem_map.1 hz
    exact ⟨v, (mem_ones.1 hv).1, (mem_ones.1 hv).2, rfl⟩
  have hlast : ∀ y ∈ out ++ [x], y ∈ out ∨ y = x := fun y hy => by
    rcases List.mem_append.1 hy with c | c
    · exact .inl c
    · exact .inr (by simpa using c)
  have hle : ∀ y ∈ out ++ [x], y.time ≤ x.time := fun y hy => by
    rcases hlast y hy with c | rfl
    · exact h.late y c x hx
    · exact Int.le_refl _
  refine ⟨.inr ⟨by simp, fun z hz => ?_⟩, fun z hz => ?_, fun k z hk hz => ?_, fun y hy z hz => ?_, fun p q a b hpq ha hb => ?_, fun y hy v hv hb => ?_⟩
  · rcases List.mem_append.1 hz with hz | hz
    · rcases h.st with ⟨_, h2⟩ | ⟨_, h2⟩
      · rcases h2 with rfl | rfl
        · simp at hz
        · obtain rfl : i = 0 := by have := lt_of_get f.get; simp at this; omega
          simp at hz
      · obtain ⟨y, hy, hf⟩ := h2 z (mem_erase hz)
        exact ⟨y, List.mem_append_left _ hy, hf⟩
    · obtain ⟨v, hv, hb, rfl⟩ := hsend z hz
      exact ⟨x, by simp, rfl, rfl, rfl, by simp [sendF], by simpa [sendF] using hb⟩
  · rcases h.st with ⟨rfl, h2⟩ | ⟨h1, _⟩
    · simp at hz
      subst hz
      rcases h2 with rfl | rfl
      · simp at hx
      · simpa using hx
    · have : 0 < out.length := List.length_pos_iff.2 h1
      rw [List.getElem?_append_left this] at hz
      exact h.head z hz
  · by_cases hk2 : k < out.length
    · rw [List.getElem?_append_left hk2] at hz
      obtain ⟨j, y, h1, h2, h3⟩ := h.tail k z hk hz
      exact ⟨j, y, h1, by rw [List.getElem?_append_left (by omega)]; exact h2, h3⟩
    · have := lt_of_get hz
      simp at this
      obtain rfl : k = out.length := by omega
      simp at hz
      subst hz
      rcases h.st with ⟨rfl, _⟩ | ⟨_, h2⟩
      · simp at hk
      · obtain ⟨y, hy, hf⟩ := h2 x hx
        obtain ⟨j, hj⟩ := get_of_mem hy
        exact ⟨j, y, lt_of_get hj, by rw [List.getElem?_append_left (lt_of_get hj)]; exact hj, hf⟩
  · have h1 := hle y hy
    rcases List.mem_append.1 hz with hz | hz
    · obtain ⟨j, hj⟩ := get_of_mem (mem_erase hz)
      exact Int.le_trans h1 (f.le j z hj)
    · obtain ⟨v, _, _, rfl⟩ := hsend z hz
      have := takesF_bd dl x.node v
      simp only [sendF]; omega
  · by_cases hq : q < out.length
    · rw [List.getElem?_append_left (by omega)] at ha
      rw [List.getElem?_append_left hq] at hb
      exact h.rise p q a b hpq ha hb
    · have := lt_of_get hb
      simp at this
      obtain rfl : q = out.length := by omega
      simp at hb
      subst hb
      exact hle a (mem_of_get ha)
  · rcases hlast y hy with hy | rfl
    · obtain ⟨z, hz, hn, ht⟩ := h.full y hy v hv hb
      rcases hz with hz | hz
      · exact ⟨z, .inl (List.mem_append_left _ hz), hn, ht⟩
      · rcases mem_erase_or f.get hz with rfl | hz
        · exact ⟨z, .inl (by simp), hn, ht⟩
        · exact ⟨z, .inr (List.mem_append_left _ hz), hn, ht⟩
    · exact ⟨sendF dl y v, .inr (List.mem_append_right _ (List.mem_map.2 ⟨v, mem_ones.2 ⟨hv, hb⟩, rfl⟩)), rfl, Int.le_refl _⟩
theorem EI.ends {way out r : List Arr} (k : Ends near mu dl way out r) : EI near mu dl src way out → EI near mu dl src [] r := by
  induction k with
  | done out => exact id
  | skip f c _ ih => exact fun h => ih (h.skip f c)
  | come f c _ ih => exact fun h => ih (h.come f c)
theorem Runs.ei {r : List Arr} (h : Runs near mu dl src r) : EI near mu dl src [] r := by
  unfold Runs at h
  refine EI.ends h ?_
  unfold startF
  split
  · exact EI.start
  · exact EI.nil
/-- A path to x. -/
structure PathOk (r : List Arr) (src : Int) (x : Arr) (p : List Int) : Prop where
  len : (p.length : Int) = x.hops + 1
  first : p[0]? = some src
  last : p[p.length - 1]? = some x.node
  step : ∀ (i : Nat) (u v : Int), p[i]? = some u → p[i + 1]? = some v → ∃ y ∈ r, y.node = v ∧ y.frm = u ∧ y.hops = ((i + 1 : Nat) : Int)
theorem PathOk.start {r : List Arr} : PathOk r src (x0F src) [src] :=
  ⟨rfl, rfl, rfl, fun i u v _ h => by simp at h⟩
theorem PathOk.more {r : List Arr} {y x : Arr} {p : List Int} (h : PathOk r src y p) (f : FromF near mu dl y x) (hx : x ∈ r) : PathOk r src x (p ++ [x.node]) := by
  have hpos : 0 < p.length := lt_of_get h.first
  refine ⟨by have := h.len; have := f.hops; simp; omega, by rw [List.getElem?_append_left hpos]; exact h.first, by simp, fun i u v hu hv => ?_⟩
  have hl := lt_of_get hv
  simp at hl
  by_cases c : i + 1 < p.length
  · rw [List.getElem?_append_left (by omega)] at hu
    rw [List.getElem?_append_left c] at hv
    exact h.step i u v hu hv
  · have hi : i + 1 = p.length := by omega
    rw [List.getElem?_append_left (by omega), show i = p.length - 1 by omega, h.last] at hu
    rw [List.getElem?_append_right (by omega), hi] at hv
    simp at hu hv
    have := h.len
    have := f.hops
    exact ⟨x, hx, hv, by rw [← f.node, hu], by omega⟩
end
end Go.Proofs.YtmbblhajbecomaaDoor.Flood
