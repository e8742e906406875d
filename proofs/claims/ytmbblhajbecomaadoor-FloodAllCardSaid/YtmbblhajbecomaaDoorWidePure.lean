/- How wide a graph is, and whether it is whole: plain Lean. -/
import Derived.Test.YtmbblhajbecomaaDoorRefDistPure
namespace Go.Proofs.YtmbblhajbecomaaDoor.Reach
set_option maxRecDepth 100000
open Go.Proofs.YtmbblhajbecomaaDoor.Nodes Go.Proofs.YtmbblhajbecomaaDoor.Graph
set_option linter.unusedVariables false
set_option linter.unusedSimpArgs false

/-- Links go both ways. -/
def Sym (near : List Nat) : Prop := ∀ a b, a < near.length → b < near.length → adj near a b = adj near b a
theorem _root_.Go.Proofs.YtmbblhajbecomaaDoor.Graph.Match.sym {n : Nat} {near : List Nat} {L : List (Int × Int)} (h : Match n near L) : Sym near := fun a b ha hb => by
  rw [h.len] at ha hb
  rw [adj, adj, h.bits a b ha, h.bits b a hb, refL_comm]
section
variable {near : List Nat} {off : Nat}
theorem way_front (sy : Sym near) {a b m c : Nat} (hab : adj near a b = true) (ha : on near.length off a = true) (hw : Way near off (b : Int) m c) : Way near off (a : Int) (m + 1) c := by
  induction hw with
  | @nil k h1 h2 =>
    obtain rfl : b = k := by omega
    exact .step (.nil rfl ha) hab h2
  | step _ h2 h3 ih => exact .step ih h2 h3
theorem way_turn (sy : Sym near) {a m b : Nat} (hw : Way near off (a : Int) m b) : Way near off (b : Int) m a := by
  induction hw with
  | @nil k h1 h2 =>
    obtain rfl : a = k := by omega
    exact .nil rfl h2
  | @step m x y h1 h2 h3 ih => exact way_front sy (by rw [← sy x y h1.lt (on_lt h3)]; exact h2) h3 ih
theorem way_trans {a m b k c : Nat} (h : Way near off (a : Int) m b) (h' : Way near off (b : Int) k c) : Way near off (a : Int) (m + k) c := by
  induction h' with
  | @nil x h1 h2 =>
    obtain rfl : b = x := by omega
    exact h
  | step _ h2 h3 ih => exact .step ih h2 h3
theorem way_on {a m b : Nat} (h : Way near off (a : Int) m b) : on near.length off a = true := by
  obtain ⟨i, hi⟩ : ∃ i : Int, i = (a : Int) := ⟨_, rfl⟩
  rw [← hi] at h
  induction h with
  | @nil k h1 h2 =>
    obtain rfl : a = k := by omega
    exact h2
  | step _ _ _ ih => exact ih
/-- Does one reach all that are there? -/
def okI (near : List Nat) (off : Nat) (i : Nat) : Bool := (List.range near.length).all fun k => !on near.length off k || decide (0 ≤ (distF near off i).getD k (-1))
theorem okI_spec {i : Nat} : okI near off i = true ↔ ∀ k, on near.length off k = true → 0 ≤ (distF near off i).getD k (-1) := by
  unfold okI
  rw [List.all_eq_true]
  constructor
  · intro h k hk
    have := h k (List.mem_range.2 (on_lt hk))
    rw [hk] at this
    simpa using this
  · intro h k _
    rcases e : on near.length off k with _ | _
    · rfl
    · have := h k e
      simpa using this
def whole (near : List Nat) (off : Nat) : Bool := (List.range near.length).all fun i => !on near.length off i || okI near off i
theorem whole_spec : whole near off = true ↔ ∀ i, on near.length off i = true → okI near off i = true := by
  unfold whole
  rw [List.all_eq_true]
  constructor
  · intro h k hk
    have := h k (List.mem_range.2 (on_lt hk))
    rw [hk] at this
    simpa using this
  · intro h k _
    rcases e : on near.length off k with _ | _
    · rfl
    · simp [h k e]
theorem whole_no {i : Nat} (h : on near.length off i = true) (h2 : okI near off i = false) : whole near off = false := by
  rw [← Bool.not_eq_true, whole_spec]
  intro c
  rw [c i h] at h2; cases h2
/-- The greatest distance, by the first nodes. -/
def wdTo (near : List Nat) (off : Nat) : Nat → Int
  | 0 => -1
  | i + 1 => if on near.length off i = true then max (wdTo near off i) ((rings near off i).length - 1) else wdTo near off i
def wideF (near : List Nat) (off : Nat) : Int := if whole near off = true then wdTo near off near.length else -1
def mxD (near : List Nat) (off : Nat) (d : List Int) (m : Int) : Nat → Int
  | 0 => m
  | k + 1 => if on near.length off k = true then max (mxD near off d m k) (d.getD k (-1)) else mxD near off d m k
theorem mxD_le (d : List Int) (m x : Int) (hm : m ≤ x) : ∀ k, (∀ j, j < k → d.getD j (-1) ≤ x) → mxD near off d m k ≤ x
  | 0, _ => hm
  | k + 1, h => by
    have := mxD_le d m x hm k (fun j hj => h j (by omega))
    have := h k (by omega)
    rw [mxD]
    split <;> omega
theorem mxD_ge (d : List Int) (m : Int) : ∀ k, m ≤ mxD near off d m k
  | 0 => Int.le_refl _
  | k + 1 => by
    have := mxD_ge d m k
    rw [mxD]
    split <;> omega
theorem mxD_at (d : List Int) (m : Int) : ∀ k j, j < k → on near.length off j = true → d.getD j (-1) ≤ mxD near off d m k
  | 0, j, h, _ => by omega
  | k + 1, j, h, ho => by
    rw [mxD]
    rcases Nat.lt_succ_iff_lt_or_eq.1 h with c | c
    · have := mxD_at d m k j c ho
      split <;> omega
    · subst c
      rw [if_pos ho]; omega
theorem mxD_full (ok : Ok near) (ho : off < 2 ^ 64) {i : Nat} (hi : on near.length off i = true) (m : Int) :
    1 ≤ (rings near off i).length ∧ mxD near off (distF near off i) m near.length = max m ((rings near off i).length - 1) := by
  obtain ⟨a, h⟩ := rings_spec ok ho (i : Int)
  have h1 : 0 < (rings near off i).length := by
    obtain ⟨j, hj, _⟩ := h.stop 0 i (.nil rfl hi)
    omega
  obtain ⟨k, hk⟩ := bit_of_ne (h.pos ((rings near off i).length - 1) (by omega))
  have hd := (dist_ring ok ho (i : Int) ((rings near off i).length - 1) k).1 ⟨by omega, hk⟩
  have hon := ((h.at_ _ k (by omega)).1 hk).1.on
  have := mxD_at (near := near) (off := off) (distF near off i) m near.length k (on_lt hon) hon
  have hge := mxD_ge (near := near) (off := off) (distF near off i) m near.length
  have hle := mxD_le (near := near) (off := off) (distF near off i) m (max m ((rings near off i).length - 1)) (by omega) near.length (fun j _ => by
    have := distF_most ok ho (i : Int) j
    omega)
  refine ⟨h1, ?_⟩
  omega
/-- All that are there, as a set. -/
def thereN (n off : Nat) : Nat := anotN (2 ^ n - 1) off
theorem all_lt {n : Nat} (h : n ≤ 64) : 2 ^ n - 1 < 2 ^ 64 := by
  have := Nat.pow_le_pow_right (n := 2) (by omega) h
  have := Nat.two_pow_pos n
  omega
theorem thereN_bit {n off : Nat} (h : n ≤ 64) (ho : off < 2 ^ 64) (k : Nat) : (thereN n off).testBit k = on n off k := by
  rw [thereN, anotN_bits (all_lt h) ho, Nat.testBit_two_pow_sub_one]
  rfl
theorem thereN_lt {n off : Nat} (h : n ≤ 64) : thereN n off < 2 ^ 64 := anotN_lt (all_lt h)
theorem ones_there {n off : Nat} (h : n ≤ 64) (ho : off < 2 ^ 64) : ones (thereN n off) = (List.range n).filter (on n off) := by
  unfold ones
  rw [range_split h, List.filter_append]
  have e2 : List.filter (fun i => (thereN n off).testBit i) ((List.range (64 - n)).map (n + ·)) = [] := by
    rw [List.filter_eq_nil_iff]
    intro b hb
    rw [List.mem_map] at hb
    obtain ⟨c, _, rfl⟩ := hb
    rw [thereN_bit h ho]
    simp [on]
    intro c; omega
  rw [e2, List.append_nil]
  exact List.filter_congr fun b _ => thereN_bit h ho b
def wdL (near : List Nat) (off : Nat) (l : List Nat) : Int := l.foldl (fun (m : Int) (i : Nat) => max m (((rings near off (i : Int)).length : Int) - 1)) (-1)
theorem wdL_snoc (l : List Nat) (i : Nat) : wdL near off (l ++ [i]) = max (wdL near off l) (((rings near off i).length : Int) - 1) := by simp [wdL]
theorem wdL_to : ∀ k, wdL near off ((List.range k).filter (on near.length off)) = wdTo near off k
  | 0 => rfl
  | k + 1 => by
    rw [List.range_succ, List.filter_append, wdTo, ← wdL_to k]
    rcases e : on near.length off k with _ | _
    · simp [e]
    · rw [show List.filter (on near.length off) [k] = [k] by simp [e], wdL_snoc, if_pos rfl]
theorem wdL_bd (ok : Ok near) (ho : off < 2 ^ 64) : ∀ l : List Nat, -1 ≤ wdL near off l.reverse ∧ wdL near off l.reverse ≤ 64
  | [] => by simp [wdL]
  | i :: l => by
    rw [List.reverse_cons, wdL_snoc]
    have := wdL_bd ok ho l
    have := rings_few ok ho (i : Int)
    have := ok.few
    omega
/-- All of the first t rings. -/
def orT (out : List Nat) : Nat → Nat
  | 0 => 0
  | t + 1 => orT out t ||| out.getD t 0
theorem orT_ball (out : List Nat) : ∀ t, t ≤ 65 → orT out t = ballT out 64 t
  | 0, _ => rfl
  | t + 1, h => by rw [orT, ballT, if_pos (by omega), orT_ball out t (by omega)]
theorem ball_okI (ok : Ok near) (ho : off < 2 ^ 64) (i : Nat) : (ballF near off i 64 = thereN near.length off) ↔ okI near off i = true := by
  rw [okI_spec]
  constructor
  · intro h k hk
    have : (ballF near off i 64).testBit k = true := by rw [h, thereN_bit ok.few ho]; exact hk
    exact ((ballF_bit ok ho i 64 k).1 this).1
  · intro h
    refine Nat.eq_of_testBit_eq fun k => ?_
    rw [thereN_bit ok.few ho, Bool.eq_iff_iff, ballF_bit ok ho]
    constructor
    · rintro ⟨h1, _⟩
      exact ((dist_spec ok ho (i : Int)).way k h1).on
    · intro hk
      have := distF_most ok ho (i : Int) k
      have := rings_few ok ho (i : Int)
      have := ok.few
      exact ⟨h k hk, by omega⟩
theorem or_okI (ok : Ok near) (ho : off < 2 ^ 64) (i : Nat) : (orT (rings near off i) (rings near off i).length = thereN near.length off) ↔ okI near off i = true := by
  rw [orT_ball _ _ (by have := rings_few ok ho (i : Int); have := ok.few; omega)]
  exact ball_okI ok ho i
/-- If one reaches all, each does. -/
theorem okI_all (ok : Ok near) (sy : Sym near) (ho : off < 2 ^ 64) {i : Nat} (hi : on near.length off i = true) : okI near off i = whole near off := by
  rw [Bool.eq_iff_iff, whole_spec]
  constructor
  · intro h k hk
    rw [okI_spec] at h ⊢
    intro x hx
    have w1 := way_turn sy ((dist_spec ok ho (i : Int)).way k (h k hk))
    have w2 := (dist_spec ok ho (i : Int)).way x (h x hx)
    exact ((dist_spec ok ho (k : Int)).le (way_trans w1 w2)).1
  · exact fun h => h i hi
theorem wdTo_ge : ∀ k, -1 ≤ wdTo near off k
  | 0 => by simp [wdTo]
  | k + 1 => by
    have := wdTo_ge k
    rw [wdTo]
    split <;> omega
theorem wdTo_pos (ok : Ok near) (ho : off < 2 ^ 64) : ∀ k i, i < k → on near.length off i = true → 0 ≤ wdTo near off k
  | 0, i, h, _ => by omega
  | k + 1, i, h, hi => by
    rw [wdTo]
    rcases Nat.lt_succ_iff_lt_or_eq.1 h with c | c
    · have := wdTo_pos ok ho k i c hi
      split <;> omega
    · subst c
      have := (mxD_full ok ho hi 0).1
      rw [if_pos hi]; omega
theorem wdTo_none : ∀ k, (∀ i, i < k → on near.length off i = false) → wdTo near off k = -1
  | 0, _ => rfl
  | k + 1, h => by
    rw [wdTo, h k (by omega), if_neg (by decide)]
    exact wdTo_none k fun i hi => h i (by omega)
/-- Whether it is whole, as the program tells it. -/
theorem whole_wide (ok : Ok near) (sy : Sym near) (ho : off < 2 ^ 64) : decide (0 ≤ wideF near off) = (decide (thereN near.length off ≠ 0) && whole near off) := by
  unfold wideF
  by_cases h0 : thereN near.length off = 0
  · have hn : ∀ i, i < near.length → on near.length off i = false := fun i _ => by rw [← thereN_bit ok.few ho, h0, Nat.zero_testBit]
    rw [wdTo_none _ hn]
    simp [h0]
  · obtain ⟨k, hk⟩ := bit_of_ne h0
    rw [thereN_bit ok.few ho] at hk
    have := wdTo_pos ok ho near.length k (on_lt hk) hk
    rcases e : whole near off with _ | _
    · simp
    · simp [h0]; exact this
end
end Go.Proofs.YtmbblhajbecomaaDoor.Reach
