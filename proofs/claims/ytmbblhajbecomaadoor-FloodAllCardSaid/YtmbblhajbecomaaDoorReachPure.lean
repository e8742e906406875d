/- How far the nodes of a graph are from one, in plain Lean. -/
import Derived.Test.YtmbblhajbecomaaDoorWithoutPure
namespace Go.Proofs.YtmbblhajbecomaaDoor.Reach
set_option maxRecDepth 100000
open Go.Proofs.YtmbblhajbecomaaDoor.Nodes Go.Proofs.YtmbblhajbecomaaDoor.Graph
set_option linter.unusedVariables false
set_option linter.unusedSimpArgs false

theorem anotN_bits {a s : Nat} (ha : a < 2 ^ 64) (hs : s < 2 ^ 64) (k : Nat) : (anotN a s).testBit k = (a.testBit k && !s.testBit k) := by
  rcases Nat.lt_or_ge k 64 with h | h
  · exact anotN_bit hs k h
  · rw [anotN_high ha k h, Nat.testBit_lt_two_pow (Nat.lt_of_lt_of_le ha (Nat.pow_le_pow_right (by omega) h)), Bool.false_and]
theorem lt_of_bits {s : Nat} (h : ∀ k, s.testBit k = true → k < 64) : s < 2 ^ 64 := Nat.lt_pow_two_of_testBit s fun k hk => by
  rcases e : s.testBit k with _ | _
  · rfl
  · have := h k e; omega
/-- Two are linked; one is there. -/
abbrev adj (near : List Nat) (a b : Nat) : Bool := (near.getD a 0).testBit b
def on (n off k : Nat) : Bool := decide (k < n) && !off.testBit k
theorem on_lt {n off k : Nat} (h : on n off k = true) : k < n := by
  simp only [on, Bool.and_eq_true, decide_eq_true_eq] at h; exact h.1
theorem on_off {n off k : Nat} (h : on n off k = true) : off.testBit k = false := by
  simp only [on, Bool.and_eq_true, Bool.not_eq_true'] at h; exact h.2
theorem on_of {n off k : Nat} (h : k < n) (h2 : off.testBit k = false) : on n off k = true := by simp [on, h, h2]
/-- A way of so many links. -/
inductive Way (near : List Nat) (off : Nat) (i : Int) : Nat → Nat → Prop
  | nil {k : Nat} : i = (k : Int) → on near.length off k = true → Way near off i 0 k
  | step {m a b : Nat} : Way near off i m a → adj near a b = true → on near.length off b = true → Way near off i (m + 1) b
section
variable {near : List Nat} {off : Nat} {i : Int}
theorem Way.on {m k : Nat} (h : Way near off i m k) : Reach.on near.length off k = true := by
  cases h <;> assumption
theorem way_zero {k : Nat} : Way near off i 0 k ↔ i = (k : Int) ∧ Reach.on near.length off k = true := by
  constructor
  · intro h
    cases h with
    | nil h1 h2 => exact ⟨h1, h2⟩
  · exact fun h => .nil h.1 h.2
theorem way_succ {m b : Nat} : Way near off i (m + 1) b ↔ ∃ a, Way near off i m a ∧ adj near a b = true ∧ Reach.on near.length off b = true := by
  constructor
  · intro h
    cases h with
    | step h1 h2 h3 => exact ⟨_, h1, h2, h3⟩
  · exact fun ⟨a, h1, h2, h3⟩ => .step h1 h2 h3
/-- How far all are. -/
structure Dist (near : List Nat) (off : Nat) (i : Int) (d : List Int) : Prop where
  len : d.length = near.length
  low : ∀ k, -1 ≤ d.getD k (-1)
  way : ∀ k, 0 ≤ d.getD k (-1) → Way near off i (d.getD k (-1)).toNat k
  zero : ∀ k : Nat, i = (k : Int) → Reach.on near.length off k = true → d.getD k (-1) = 0
  step : ∀ a b, 0 ≤ d.getD a (-1) → adj near a b = true → Reach.on near.length off b = true → 0 ≤ d.getD b (-1) ∧ d.getD b (-1) ≤ d.getD a (-1) + 1
theorem Dist.le {d : List Int} (h : Dist near off i d) {m k : Nat} (hw : Way near off i m k) : 0 ≤ d.getD k (-1) ∧ d.getD k (-1) ≤ (m : Int) := by
  induction hw with
  | nil h1 h2 => rw [h.zero _ h1 h2]; omega
  | step _ h2 h3 ih =>
    have := h.step _ _ ih.1 h2 h3
    omega
theorem Dist.uniq {d d' : List Int} (h : Dist near off i d) (k : Dist near off i d') : d = d' := by
  refine List.ext_getElem (h.len.trans k.len.symm) fun j h1 h2 => ?_
  have e1 : d.getD j (-1) = d[j] := by rw [List.getD_eq_getElem?_getD, List.getElem?_eq_getElem h1]; rfl
  have e2 : d'.getD j (-1) = d'[j] := by rw [List.getD_eq_getElem?_getD, List.getElem?_eq_getElem h2]; rfl
  rw [← e1, ← e2]
  have l1 := h.low j
  have l2 := k.low j
  rcases Int.lt_or_le (d.getD j (-1)) 0 with c | c
  · rcases Int.lt_or_le (d'.getD j (-1)) 0 with c' | c'
    · omega
    · have := h.le (k.way j c'); omega
  · have a1 := k.le (h.way j c)
    have a2 := h.le (k.way j a1.1)
    omega
/-- Just so far. -/
def Rk (near : List Nat) (off : Nat) (i : Int) (m k : Nat) : Prop := Way near off i m k ∧ ∀ j, j < m → ¬ Way near off i j k
/-- What the program keeps as it goes on. -/
structure RgInv (near : List Nat) (off : Nat) (i : Int) (out : List Nat) (all ring : Nat) : Prop where
  at_ : ∀ j k, j < out.length → ((out.getD j 0).testBit k = true ↔ Rk near off i j k)
  pos : ∀ j, j < out.length → out.getD j 0 ≠ 0
  all : ∀ k, all.testBit k = true ↔ ∃ j, j < out.length ∧ Way near off i j k
  ring : ∀ k, ring.testBit k = true ↔ Rk near off i out.length k
def startN (near : List Nat) (off : Nat) (i : Int) : Nat := if isN near.length i = true ∧ off.testBit i.toNat = false then 2 ^ i.toNat else 0
theorem startN_bit (k : Nat) : (startN near off i).testBit k = true ↔ i = (k : Int) ∧ Reach.on near.length off k = true := by
  unfold startN
  split
  · rename_i h
    obtain ⟨j, rfl, hj⟩ := isN_yes h.1
    rw [Nat.testBit_two_pow]
    simp only [Int.toNat_natCast, decide_eq_true_eq] at h ⊢
    constructor
    · rintro rfl; exact ⟨rfl, on_of hj h.2⟩
    · intro c; omega
  · rename_i h
    simp only [Nat.zero_testBit, Bool.false_eq_true, false_iff]
    rintro ⟨rfl, hk⟩
    exact h ⟨by rw [isN_nat]; simpa using on_lt hk, by simpa using on_off hk⟩
def growN (near : List Nat) (off s : Nat) : Nat := anotN ((ones s).foldl (fun o a => o ||| near.getD a 0) s) off
theorem fold_bit (near : List Nat) (k : Nat) : ∀ (l : List Nat) (s : Nat), (l.foldl (fun o a => o ||| near.getD a 0) s).testBit k = true ↔ s.testBit k = true ∨ ∃ a, a ∈ l ∧ adj near a k = true
  | [], s => by simp
  | a :: l, s => by
    rw [List.foldl_cons, fold_bit near k l, Nat.testBit_or, Bool.or_eq_true]
    simp only [List.mem_cons]
    constructor
    · rintro ((h | h) | ⟨b, h1, h2⟩)
      · exact .inl h
      · exact .inr ⟨a, .inl rfl, h⟩
      · exact .inr ⟨b, .inr h1, h2⟩
    · rintro (h | ⟨b, rfl | h1, h2⟩)
      · exact .inl (.inl h)
      · exact .inl (.inr h2)
      · exact .inr ⟨b, h1, h2⟩
/-- Links lead to nodes alone; there are 64 nodes at most. -/
structure Ok (near : List Nat) : Prop where
  few : near.length ≤ 64
  lt : ∀ a b, adj near a b = true → b < near.length
theorem _root_.Go.Proofs.YtmbblhajbecomaaDoor.Graph.Match.ok {n : Nat} {near : List Nat} {L : List (Int × Int)} (h : Match n near L) (h64 : n ≤ 64) : Ok near where
  few := by rw [h.len]; exact h64
  lt := fun a b hab => by
    rw [h.len]
    rcases Nat.lt_or_ge a n with c | c
    · have e : refL L a b = true := by rw [← h.bits a b c]; exact hab
      have := h.out _ _ e
      omega
    · have e : near.getD a 0 = 0 := by rw [List.getD_eq_getElem?_getD, List.getElem?_eq_none (by rw [h.len]; exact c)]; rfl
      rw [adj, e, Nat.zero_testBit] at hab
      cases hab
theorem Way.lt {m k : Nat} (h : Way near off i m k) : k < near.length := on_lt h.on
theorem fold_lt (ok : Ok near) {s : Nat} (hs : s < 2 ^ 64) (l : List Nat) : l.foldl (fun o a => o ||| near.getD a 0) s < 2 ^ 64 := lt_of_bits fun k hk => by
  rcases (fold_bit near k l s).1 hk with h | ⟨a, _, h⟩
  · rcases Nat.lt_or_ge k 64 with c | c
    · exact c
    · rw [Nat.testBit_lt_two_pow (Nat.lt_of_lt_of_le hs (Nat.pow_le_pow_right (by omega) c))] at h; cases h
  · have := ok.lt a k h; have := ok.few; omega
theorem growN_bit (ok : Ok near) {s : Nat} (hs : s < 2 ^ 64) (ho : off < 2 ^ 64) (k : Nat) : (growN near off s).testBit k = true ↔ (s.testBit k = true ∨ ∃ a, s.testBit a = true ∧ adj near a k = true) ∧ off.testBit k = false := by
  unfold growN
  rw [anotN_bits (fold_lt ok hs _) ho, Bool.and_eq_true, Bool.not_eq_true', fold_bit]
  have : (∃ a, a ∈ ones s ∧ adj near a k = true) ↔ ∃ a, s.testBit a = true ∧ adj near a k = true := by
    constructor
    · rintro ⟨a, h1, h2⟩; exact ⟨a, (mem_ones.1 h1).2, h2⟩
    · rintro ⟨a, h1, h2⟩
      refine ⟨a, mem_ones.2 ⟨?_, h1⟩, h2⟩
      rcases Nat.lt_or_ge a 64 with c | c
      · exact c
      · rw [Nat.testBit_lt_two_pow (Nat.lt_of_lt_of_le hs (Nat.pow_le_pow_right (by omega) c))] at h1; cases h1
  rw [this]
theorem RgInv.start : RgInv near off i [] 0 (startN near off i) :=
  ⟨fun j k h => by simp at h, fun j h => by simp at h, fun k => by simp, fun k => by
    rw [startN_bit]
    unfold Rk
    rw [List.length_nil, way_zero]
    exact ⟨fun h => ⟨h, fun j hj => by omega⟩, fun h => h.1⟩⟩
theorem RgInv.ring_lt {out : List Nat} {all ring : Nat} (h : RgInv near off i out all ring) (ok : Ok near) : ring < 2 ^ 64 :=
  lt_of_bits fun k hk => by have := ((h.ring k).1 hk).1.lt; have := ok.few; omega
theorem RgInv.all_lt {out : List Nat} {all ring : Nat} (h : RgInv near off i out all ring) (ok : Ok near) : all < 2 ^ 64 :=
  lt_of_bits fun k hk => by obtain ⟨j, _, hj⟩ := (h.all k).1 hk; have := hj.lt; have := ok.few; omega
theorem getD_snoc (out : List Nat) (x j : Nat) : (out ++ [x]).getD j 0 = if j < out.length then out.getD j 0 else if j = out.length then x else 0 := by
  simp only [List.getD_eq_getElem?_getD]
  split
  · rename_i h; rw [List.getElem?_append_left h]
  · rename_i h
    rw [List.getElem?_append_right (by omega)]
    split
    · rename_i h2; subst h2; simp
    · rw [List.getElem?_eq_none (by simp; omega)]; rfl
theorem RgInv.next {out : List Nat} {all ring : Nat} (h : RgInv near off i out all ring) (ok : Ok near) (ho : off < 2 ^ 64) (h0 : ring ≠ 0) :
    RgInv near off i (out ++ [ring]) (all ||| ring) (anotN (growN near off ring) (all ||| ring)) := by
  have hr := h.ring_lt ok
  have ha := h.all_lt ok
  have hall : ∀ k, (all ||| ring).testBit k = true ↔ ∃ j, j < out.length + 1 ∧ Way near off i j k := fun k => by
    rw [Nat.testBit_or, Bool.or_eq_true, h.all, h.ring]
    constructor
    · rintro (⟨j, h1, h2⟩ | h1)
      · exact ⟨j, by omega, h2⟩
      · exact ⟨_, Nat.lt_succ_self _, h1.1⟩
    · rintro ⟨j, h1, h2⟩
      by_cases c : ∃ j, j < out.length ∧ Way near off i j k
      · exact .inl c
      · have : j = out.length := by
          rcases Nat.lt_or_ge j out.length with d | d
          · exact absurd ⟨j, d, h2⟩ c
          · omega
        subst this
        exact .inr ⟨h2, fun j hj hw => c ⟨j, hj, hw⟩⟩
  have hg : growN near off ring < 2 ^ 64 := anotN_lt (fold_lt ok hr _)
  have hor : all ||| ring < 2 ^ 64 := Nat.or_lt_two_pow ha hr
  refine ⟨fun j k hj => ?_, fun j hj => ?_, fun k => ?_, fun k => ?_⟩
  · rw [getD_snoc]
    split
    · rename_i c; exact h.at_ j k c
    · rename_i c
      have : j = out.length := by simp at hj; omega
      subst this
      rw [if_pos rfl]; exact h.ring k
  · rw [getD_snoc]
    split
    · rename_i c; exact h.pos j c
    · rename_i c
      rw [if_pos (by simp at hj; omega)]; exact h0
  · rw [hall, List.length_append]; rfl
  · have hno : (all ||| ring).testBit k = false ↔ ¬ ∃ j, j < out.length + 1 ∧ Way near off i j k := by rw [← hall, Bool.not_eq_true]
    rw [anotN_bits hg hor, Bool.and_eq_true, growN_bit ok hr ho, Bool.not_eq_true', hno, List.length_append, List.length_singleton]
    unfold Rk
    constructor
    · rintro ⟨⟨h1, h2⟩, h3⟩
      refine ⟨?_, fun j hj hw => h3 ⟨j, hj, hw⟩⟩
      rcases h1 with h1 | ⟨a, h1, h4⟩
      · exact absurd ⟨_, Nat.lt_succ_self _, ((h.ring k).1 h1).1⟩ h3
      · exact .step ((h.ring a).1 h1).1 h4 (on_of (ok.lt a k h4) h2)
    · rintro ⟨h1, h2⟩
      obtain ⟨a, w1, w2, w3⟩ := way_succ.1 h1
      refine ⟨⟨.inr ⟨a, (h.ring a).2 ⟨w1, fun j hj hw => h2 (j + 1) (by omega) (.step hw w2 w3)⟩, w2⟩, on_off w3⟩, fun ⟨j, hj, hw⟩ => h2 j hj hw⟩
theorem bit_of_ne {s : Nat} (h : s ≠ 0) : ∃ k, s.testBit k = true := by
  rcases Classical.em (∃ k, s.testBit k = true) with c | c
  · exact c
  · refine absurd (Nat.eq_of_testBit_eq fun k => ?_) h
    rw [Nat.zero_testBit, ← Bool.not_eq_true]
    exact fun e => c ⟨k, e⟩
/-- There are no more rings than nodes. -/
theorem RgInv.len {out : List Nat} {all ring : Nat} (h : RgInv near off i out all ring) : out.length ≤ near.length := by
  have hex : ∀ j : Nat, ∃ k, j < out.length → Rk near off i j k := fun j => by
    by_cases c : j < out.length
    · obtain ⟨k, hk⟩ := bit_of_ne (h.pos j c)
      exact ⟨k, fun _ => (h.at_ j k c).1 hk⟩
    · exact ⟨0, fun d => absurd d c⟩
  obtain ⟨f, hf⟩ := Classical.axiomOfChoice hex
  have hd : ((List.range out.length).map f).Nodup := by
    rw [List.nodup_iff_pairwise_ne, List.pairwise_iff_getElem]
    intro x y hx hy hxy e
    simp only [List.length_map, List.length_range] at hx hy
    simp only [List.getElem_map, List.getElem_range] at e
    have r1 := hf x hx
    have r2 := hf y hy
    rw [← e] at r2
    exact r2.2 x hxy r1.1
  have hs : ((List.range out.length).map f) ⊆ List.range near.length := fun k hk => by
    obtain ⟨j, hj, rfl⟩ := List.mem_map.1 hk
    exact List.mem_range.2 (hf j (List.mem_range.1 hj)).1.lt
  have := hd.length_le_of_subset hs
  simpa using this
theorem RgInv.len_lt {out : List Nat} {all ring : Nat} (h : RgInv near off i out all ring) (ok : Ok near) (ho : off < 2 ^ 64) (h0 : ring ≠ 0) : out.length < near.length := by
  have := (h.next ok ho h0).len
  simp at this
  omega
/-- The rings. -/
def ringsF (near : List Nat) (off : Nat) : Nat → Nat → Nat → List Nat
  | 0, _, _ => []
  | f + 1, all, ring => if ring = 0 then [] else ring :: ringsF near off f (all ||| ring) (anotN (growN near off ring) (all ||| ring))
def rings (near : List Nat) (off : Nat) (i : Int) : List Nat := ringsF near off 65 0 (startN near off i)
theorem ringsF_zero (f all : Nat) : ringsF near off f all 0 = [] := by
  cases f with
  | zero => rfl
  | succ f => rw [ringsF, if_pos rfl]
theorem ringsF_spec (ok : Ok near) (ho : off < 2 ^ 64) : ∀ (f : Nat) (out : List Nat) (all ring : Nat), RgInv near off i out all ring → near.length < out.length + f → ∃ all', RgInv near off i (out ++ ringsF near off f all ring) all' 0
  | 0, out, all, ring, h, hl => by have := h.len; omega
  | f + 1, out, all, ring, h, hl => by
    by_cases c : ring = 0
    · subst c
      rw [ringsF_zero, List.append_nil]
      exact ⟨all, h⟩
    · rw [ringsF, if_neg c]
      obtain ⟨a, ha⟩ := ringsF_spec ok ho f (out ++ [ring]) _ _ (h.next ok ho c) (by simp; omega)
      exact ⟨a, by simpa using ha⟩
theorem rings_spec (ok : Ok near) (ho : off < 2 ^ 64) (i : Int) : ∃ all, RgInv near off i (rings near off i) all 0 := by
  have := ringsF_spec (i := i) ok ho 65 [] 0 _ RgInv.start (by have := ok.few; simp; omega)
  simpa [rings] using this
/-- The distance by the first t rings. -/
def dl (out : List Nat) : Nat → Nat → Int
  | 0, _ => -1
  | t + 1, k => if (out.getD t 0).testBit k = true then (t : Int) else dl out t k
def distTo (n : Nat) (out : List Nat) (t : Nat) : List Int := (List.range n).map (dl out t)
def distF (near : List Nat) (off : Nat) (i : Int) : List Int := distTo near.length (rings near off i) (rings near off i).length
theorem distTo_len (n : Nat) (out : List Nat) (t : Nat) : (distTo n out t).length = n := by simp [distTo]
theorem distTo_at {n t k : Nat} (out : List Nat) (h : k < n) : (distTo n out t).getD k (-1) = dl out t k := by
  simp [distTo, List.getD_eq_getElem?_getD, h]
theorem distTo_off {n t k : Nat} (out : List Nat) (h : n ≤ k) : (distTo n out t).getD k (-1) = -1 := by
  rw [List.getD_eq_getElem?_getD, List.getElem?_eq_none (by simp [distTo]; exact h)]; rfl
theorem dl_cases (out : List Nat) (k : Nat) : ∀ t, (dl out t k = -1 ∧ ∀ j, j < t → (out.getD j 0).testBit k = false) ∨ ∃ j, j < t ∧ dl out t k = (j : Int) ∧ (out.getD j 0).testBit k = true
  | 0 => .inl ⟨rfl, fun j h => by omega⟩
  | t + 1 => by
    rw [dl]
    by_cases c : (out.getD t 0).testBit k = true
    · rw [if_pos c]; exact .inr ⟨t, Nat.lt_succ_self _, rfl, c⟩
    · rw [if_neg c]
      rcases dl_cases out k t with ⟨h1, h2⟩ | ⟨j, h1, h2, h3⟩
      · refine .inl ⟨h1, fun j hj => ?_⟩
        rcases Nat.lt_succ_iff_lt_or_eq.1 hj with d | d
        · exact h2 j d
        · subst d; simpa using c
      · exact .inr ⟨j, by omega, h2, h3⟩
theorem RgInv.stop {out : List Nat} {all : Nat} (h : RgInv near off i out all 0) : ∀ m k, Way near off i m k → ∃ j, j < out.length ∧ Rk near off i j k := by
  have hno : ∀ d k, ¬ Way near off i (out.length + d) k ∨ ∃ j, j < out.length ∧ Way near off i j k := by
    intro d
    induction d with
    | zero =>
      intro k
      by_cases c : ∃ j, j < out.length ∧ Way near off i j k
      · exact .inr c
      · refine .inl fun hw => ?_
        have := (h.ring k).2 ⟨hw, fun j hj hw => c ⟨j, hj, hw⟩⟩
        simp at this
    | succ d ih =>
      intro k
      by_cases c : ∃ j, j < out.length ∧ Way near off i j k
      · exact .inr c
      · refine .inl fun hw => ?_
        obtain ⟨a, w1, w2, w3⟩ := way_succ.1 hw
        rcases ih a with h1 | ⟨j, h1, h2⟩
        · exact h1 w1
        · have hk := Way.step h2 w2 w3
          rcases Nat.lt_or_ge (j + 1) out.length with e | e
          · exact c ⟨j + 1, e, hk⟩
          · have : j + 1 = out.length := by omega
            rw [this] at hk
            have := (h.ring k).2 ⟨hk, fun j hj hw => c ⟨j, hj, hw⟩⟩
            simp at this
  have hmin : ∀ m k, Way near off i m k → ∃ j, j ≤ m ∧ Rk near off i j k := by
    intro m
    induction m using Nat.strongRecOn with
    | _ m ih =>
      intro k hw
      by_cases c : ∃ j, j < m ∧ Way near off i j k
      · obtain ⟨j, h1, h2⟩ := c
        obtain ⟨j', h3, h4⟩ := ih j h1 k h2
        exact ⟨j', by omega, h4⟩
      · exact ⟨m, Nat.le_refl _, hw, fun j hj hw => c ⟨j, hj, hw⟩⟩
  intro m k hw
  obtain ⟨j, h1, h2⟩ := hmin m k hw
  rcases Nat.lt_or_ge j out.length with c | c
  · exact ⟨j, c, h2⟩
  · obtain ⟨d, rfl⟩ : ∃ d, j = out.length + d := ⟨j - out.length, by omega⟩
    rcases hno d k with e | ⟨j', e1, e2⟩
    · exact absurd h2.1 e
    · exact absurd e2 (h2.2 j' (by omega))
theorem RgInv.dist {out : List Nat} {all : Nat} (h : RgInv near off i out all 0) : Dist near off i (distTo near.length out out.length) := by
  have hd : ∀ k, 0 ≤ (distTo near.length out out.length).getD k (-1) → ∃ j, j < out.length ∧ (distTo near.length out out.length).getD k (-1) = (j : Int) ∧ Rk near off i j k := fun k hk => by
    rcases Nat.lt_or_ge k near.length with c | c
    · rw [distTo_at out c] at hk ⊢
      rcases dl_cases out k out.length with ⟨h1, _⟩ | ⟨j, h1, h2, h3⟩
      · rw [h1] at hk; omega
      · exact ⟨j, h1, h2, (h.at_ j k h1).1 h3⟩
    · rw [distTo_off out c] at hk; omega
  have hb : ∀ j k, j < out.length → Rk near off i j k → (distTo near.length out out.length).getD k (-1) = (j : Int) := fun j k hj hr => by
    rw [distTo_at out hr.1.lt]
    rcases dl_cases out k out.length with ⟨_, h2⟩ | ⟨j', h1, h2, h3⟩
    · have := h2 j hj
      rw [(h.at_ j k hj).2 hr] at this; cases this
    · have r := (h.at_ j' k h1).1 h3
      rw [h2]
      rcases Nat.lt_trichotomy j j' with c | c | c
      · exact absurd hr.1 (r.2 j c)
      · rw [c]
      · exact absurd r.1 (hr.2 j' c)
  refine ⟨distTo_len _ _ _, fun k => ?_, fun k hk => ?_, fun k h1 h2 => ?_, fun a b ha hab hb' => ?_⟩
  · rcases Int.lt_or_le ((distTo near.length out out.length).getD k (-1)) 0 with c | c
    · rcases Nat.lt_or_ge k near.length with e | e
      · rw [distTo_at out e] at c ⊢
        rcases dl_cases out k out.length with ⟨h1, _⟩ | ⟨j, h1, h2, h3⟩ <;> omega
      · rw [distTo_off out e]; omega
    · omega
  · obtain ⟨j, h1, h2, h3⟩ := hd k hk
    rw [h2]; exact h3.1
  · have hw : Way near off i 0 k := .nil h1 h2
    obtain ⟨j, e1, e2⟩ := h.stop 0 k hw
    have : j = 0 := by
      rcases Nat.eq_zero_or_pos j with c | c
      · exact c
      · exact absurd hw (e2.2 0 c)
    subst this
    rw [hb 0 k e1 e2]; rfl
  · obtain ⟨j, h1, h2, h3⟩ := hd a ha
    have hw : Way near off i (j + 1) b := .step h3.1 hab hb'
    obtain ⟨j', e1, e2⟩ := h.stop _ b hw
    rw [hb j' b e1 e2, h2]
    have : j' ≤ j + 1 := by
      rcases Nat.lt_or_ge (j + 1) j' with c | c
      · exact absurd hw (e2.2 _ c)
      · exact c
    omega
theorem dist_spec (ok : Ok near) (ho : off < 2 ^ 64) (i : Int) : Dist near off i (distF near off i) := by
  obtain ⟨a, h⟩ := rings_spec ok ho i
  exact h.dist
/-- The distances are those of the rings. -/
theorem dist_ring (ok : Ok near) (ho : off < 2 ^ 64) (i : Int) (j k : Nat) : (j < (rings near off i).length ∧ ((rings near off i).getD j 0).testBit k = true) ↔ (distF near off i).getD k (-1) = (j : Int) := by
  obtain ⟨a, h⟩ := rings_spec ok ho i
  constructor
  · rintro ⟨h1, h2⟩
    have r := (h.at_ j k h1).1 h2
    have l := h.dist.le r.1
    have w := h.dist.way k l.1
    show (distTo near.length (rings near off i) (rings near off i).length).getD k (-1) = _
    obtain ⟨x, hx⟩ : ∃ x, (distTo near.length (rings near off i) (rings near off i).length).getD k (-1) = x := ⟨_, rfl⟩
    rw [hx] at l w ⊢
    rcases Nat.lt_or_ge x.toNat j with c | c
    · exact absurd w (r.2 _ c)
    · omega
  · intro hd
    rcases Nat.lt_or_ge k near.length with c | c
    · rw [distF, distTo_at _ c] at hd
      rcases dl_cases (rings near off i) k (rings near off i).length with ⟨h1, _⟩ | ⟨j', h1, h2, h3⟩
      · omega
      · have : j' = j := by omega
        subst this; exact ⟨h1, h3⟩
    · rw [distF, distTo_off _ c] at hd; omega
/-- The nodes that are near, by the first t rings. -/
def ballT (out : List Nat) (most : Int) : Nat → Nat
  | 0 => 0
  | t + 1 => if (t : Int) ≤ most then ballT out most t ||| out.getD t 0 else ballT out most t
theorem ballT_bit (out : List Nat) (most : Int) (k : Nat) : ∀ t, (ballT out most t).testBit k = true ↔ ∃ j, j < t ∧ (j : Int) ≤ most ∧ (out.getD j 0).testBit k = true
  | 0 => by simp [ballT]
  | t + 1 => by
    rw [ballT]
    split
    · rename_i c
      rw [Nat.testBit_or, Bool.or_eq_true, ballT_bit out most k t]
      constructor
      · rintro (⟨j, h1, h2⟩ | h)
        · exact ⟨j, by omega, h2⟩
        · exact ⟨t, Nat.lt_succ_self _, c, h⟩
      · rintro ⟨j, h1, h2, h3⟩
        rcases Nat.lt_succ_iff_lt_or_eq.1 h1 with d | d
        · exact .inl ⟨j, d, h2, h3⟩
        · subst d; exact .inr h3
    · rename_i c
      rw [ballT_bit out most k t]
      constructor
      · rintro ⟨j, h1, h2⟩; exact ⟨j, by omega, h2⟩
      · rintro ⟨j, h1, h2, h3⟩
        rcases Nat.lt_succ_iff_lt_or_eq.1 h1 with d | d
        · exact ⟨j, d, h2, h3⟩
        · subst d; exact absurd h2 c
def ballF (near : List Nat) (off : Nat) (i most : Int) : Nat := ballT (rings near off i) most (rings near off i).length
theorem ballF_bit (ok : Ok near) (ho : off < 2 ^ 64) (i most : Int) (k : Nat) : (ballF near off i most).testBit k = true ↔ 0 ≤ (distF near off i).getD k (-1) ∧ (distF near off i).getD k (-1) ≤ most := by
  unfold ballF
  rw [ballT_bit]
  constructor
  · rintro ⟨j, h1, h2, h3⟩
    rw [(dist_ring ok ho i j k).1 ⟨h1, h3⟩]; omega
  · rintro ⟨h1, h2⟩
    have := (dist_ring ok ho i ((distF near off i).getD k (-1)).toNat k).2 (by omega)
    exact ⟨_, this.1, by omega, this.2⟩
theorem distF_off (k : Nat) (h : near.length ≤ k) : (distF near off i).getD k (-1) = -1 := distTo_off _ h
theorem distF_lt {k : Nat} (h : 0 ≤ (distF near off i).getD k (-1)) : k < near.length := by
  rcases Nat.lt_or_ge k near.length with c | c
  · exact c
  · rw [distF_off k c] at h; omega
theorem distF_most (ok : Ok near) (ho : off < 2 ^ 64) (i : Int) (k : Nat) : (distF near off i).getD k (-1) < (rings near off i).length := by
  rcases Int.lt_or_le ((distF near off i).getD k (-1)) 0 with c | c
  · omega
  · have := (dist_ring ok ho i ((distF near off i).getD k (-1)).toNat k).2 (by omega)
    omega
theorem rings_few (ok : Ok near) (ho : off < 2 ^ 64) (i : Int) : (rings near off i).length ≤ near.length := by
  obtain ⟨a, h⟩ := rings_spec ok ho i
  exact h.len
theorem rings_lt (ok : Ok near) (ho : off < 2 ^ 64) (i : Int) (j : Nat) : (rings near off i).getD j 0 < 2 ^ 64 := by
  obtain ⟨a, h⟩ := rings_spec ok ho i
  refine lt_of_bits fun k hk => ?_
  rcases Nat.lt_or_ge j (rings near off i).length with c | c
  · have := ((h.at_ j k c).1 hk).1.lt
    have := ok.few
    omega
  · rw [List.getD_eq_getElem?_getD, List.getElem?_eq_none c] at hk
    simp at hk
theorem ballF_lt (ok : Ok near) (ho : off < 2 ^ 64) (i most : Int) : ballF near off i most < 2 ^ 64 := lt_of_bits fun k hk => by
  have := distF_lt ((ballF_bit ok ho i most k).1 hk).1
  have := ok.few
  omega
end
end Go.Proofs.YtmbblhajbecomaaDoor.Reach
