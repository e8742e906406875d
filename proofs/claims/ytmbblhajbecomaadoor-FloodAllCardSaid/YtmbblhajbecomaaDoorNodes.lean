/- Package nodes' small functions: bit, with one, has; graph.Graph's node, Near, Linked; graph.link. -/
import Derived.Test.YtmbblhajbecomaaDoorLinksWalk
import Derived.Deep.MidRow
namespace Go.Proofs.YtmbblhajbecomaaDoor.Nodes
set_option maxRecDepth 100000
open Go.RowKit
open Go.Proofs.YtmbblhajbecomaaDoor.RF Go.Proofs.YtmbblhajbecomaaDoor.Heap
set_option linter.unusedVariables false

theorem ret_u {a b : Int} (h : a = b) : Ending.returned (.int .u64 a) = Ending.returned (.int .u64 b) := by rw [h]
theorem ret_b {a b : Bool} (h : a = b) : Ending.returned (.bool a) = Ending.returned (.bool b) := by rw [h]
theorem pow_wrap {i : Nat} (hi : i < 64) : IntKind.u64.wrap ((2 : Int) ^ i) = ((2 ^ i : Nat) : Int) := by
  have h1 : 2 ^ i < 2 ^ 64 := Nat.pow_lt_pow_right (by omega) hi
  have h2 : ((2 : Int) ^ i) = ((2 ^ i : Nat) : Int) := by simp
  rw [h2, IntKind.wrap_u64]
  obtain ⟨p, hp⟩ : ∃ p, 2 ^ i = p := ⟨_, rfl⟩
  rw [hp] at h1 ⊢
  omega
theorem bit_no (i : Int) (hi : i < 0 ∨ 64 ≤ i) (w : World) :
    Calls Tryd.prog 69 #[.int .i64 i] w fun e w' => e = .returned (.int .u64 0) ∧ w' = w := by
  rcases hi with hi | hi
  · go_enter Tryd.func69, Tryd.ntmps69
    go_wp2
    go_ret
    exact ⟨rfl, rfl⟩
  · have h0 : ¬ i < 0 := by omega
    go_enter Tryd.func69, Tryd.ntmps69
    go_wp2
    go_ret
    exact ⟨rfl, rfl⟩
theorem bit_yes (i : Nat) (hi : i < 64) (w : World) :
    Calls Tryd.prog 69 #[.int .i64 i] w fun e w' => e = .returned (.int .u64 ((2 ^ i : Nat) : Int)) ∧ w' = w := by
  have h0 : ¬ (i : Int) < 0 := by omega
  have h1 : (i : Int) < 64 := by omega
  go_enter Tryd.func69, Tryd.ntmps69
  go_wp2
  go_ret
  exact ⟨ret_u (pow_wrap hi), rfl⟩
/-- Is i in s? -/
def hasR (s : Nat) (i : Int) : Bool := decide (0 ≤ i) && decide (i < 64) && s.testBit i.toNat
theorem has_pow (s i : Nat) : (((s &&& 2 ^ i : Nat) : Int) != 0) = s.testBit i := by
  rcases h : s.testBit i with _ | _
  · have : s &&& 2 ^ i = 0 := Nat.eq_of_testBit_eq fun j => by
      rw [Nat.testBit_and, Nat.testBit_two_pow, Nat.zero_testBit]
      by_cases c : i = j
      · subst c; rw [h]; rfl
      · simp [c]
    rw [this]; rfl
  · have h1 : (s &&& 2 ^ i).testBit i = true := by rw [Nat.testBit_and, h, Nat.testBit_two_pow]; simp
    have h2 : s &&& 2 ^ i ≠ 0 := by
      intro c; rw [c] at h1; simp at h1
    obtain ⟨p, hp⟩ : ∃ p, s &&& 2 ^ i = p := ⟨_, rfl⟩
    rw [hp] at h2 ⊢
    simpa using h2
theorem has_any (s : Nat) (hs : s < 2 ^ 64) (i : Int) (w : World) :
    Calls Tryd.prog 57 #[.int .u64 s, .int .i64 i] w fun e w' => e = .returned (.bool (hasR s i)) ∧ w' = w := by
  by_cases hi : 0 ≤ i ∧ i < 64
  · obtain ⟨k, rfl⟩ : ∃ k : Nat, i = k := ⟨i.toNat, by omega⟩
    have hk : k < 64 := by omega
    have e1 : bits .and .u64 (s : Int) ((2 ^ k : Nat) : Int) = ((s &&& 2 ^ k : Nat) : Int) := bits_and_u64_nat _ _ (by omega) (Nat.pow_lt_pow_right (by omega) hk)
    have e2 := has_pow s k
    obtain ⟨p, hp⟩ : ∃ p, 2 ^ k = p := ⟨_, rfl⟩
    have hb := Lib.hid (bit_yes k hk w)
    rw [hp] at e1 e2 hb
    obtain ⟨q, hq⟩ : ∃ q, s &&& p = q := ⟨_, rfl⟩
    rw [hq] at e1 e2
    clear hp hq
    go_enter Tryd.func57, Tryd.ntmps57
    go_wp2_with (go_at_call 69; refine hb.out.mono ?_; rintro e w' ⟨rfl, h⟩; rw [h]; clear h w')
    go_ret
    exact ⟨ret_b (by simp [hasR]; intro _; omega), rfl⟩
  · have hb := Lib.hid (bit_no i (by omega) w)
    have e1 : bits .and .u64 (s : Int) 0 = 0 := by
      have := bits_and_u64_nat s 0 (by omega) (by omega)
      simpa using this
    go_enter Tryd.func57, Tryd.ntmps57
    go_wp2_with (go_at_call 69; refine hb.out.mono ?_; rintro e w' ⟨rfl, h⟩; rw [h]; clear h w')
    go_ret
    exact ⟨ret_b (by
      have h1 : (decide (0 ≤ i) && decide (i < 64)) = false := by
        rw [Bool.and_eq_false_iff, decide_eq_false_iff_not, decide_eq_false_iff_not]; omega
      simp [hasR, h1]), rfl⟩
/-- nodes.With(s, j). -/
theorem with_one (s j b : Nat) (hs : s < 2 ^ 64) (hj : j < 64) (w : World) (hb : w.cell? ⟨b, 0, none⟩ = some (.int .i64 j)) :
    Calls Tryd.prog 54 #[.int .u64 s, .slice (some ⟨b, 0, none⟩) 1 1] w fun e w' => e = .returned (.int .u64 ((s ||| 2 ^ j : Nat) : Int)) ∧ w' = w := by
  have e1 : bits .or .u64 (s : Int) ((2 ^ j : Nat) : Int) = ((s ||| 2 ^ j : Nat) : Int) := bits_or_u64_nat _ _ (by omega) (Nat.pow_lt_pow_right (by omega) hj)
  have hbit := Lib.hid (bit_yes j hj w)
  obtain ⟨p, hp⟩ : ∃ p, 2 ^ j = p := ⟨_, rfl⟩
  rw [hp] at e1 hbit ⊢
  obtain ⟨q, hq⟩ : ∃ q, s ||| p = q := ⟨_, rfl⟩
  rw [hq] at e1 ⊢
  clear hp hq
  go_enter Tryd.func54, Tryd.ntmps54
  go_wp2
  go_loop [0, 9] (fun v0 v9 => (v0 = .int .u64 (s : Nat) ∧ v9 = .int .i64 0) ∨ (v0 = .int .u64 (q : Nat) ∧ v9 = .int .i64 1)) (fun v0 v9 => match v9 with | .int _ n => 1 - n.toNat | _ => 0)
  case atStart => exact .inl ⟨rfl, rfl⟩
  case round =>
    rcases hrel with ⟨rfl, rfl⟩ | ⟨rfl, rfl⟩
    · go_wp2_with (go_at_call 69; refine hbit.out.mono ?_; rintro e w' ⟨rfl, h⟩; rw [h]; clear h w')
      go_round
      case rel => exact .inr ⟨rfl, rfl⟩
      case measure => simp
    · go_wp2
      go_ret
      exact ⟨rfl, rfl⟩
end Go.Proofs.YtmbblhajbecomaaDoor.Nodes
namespace Go.Proofs.YtmbblhajbecomaaDoor.Graph
open Go.RowKit
open Go.Proofs.YtmbblhajbecomaaDoor.RF Go.Proofs.YtmbblhajbecomaaDoor.Heap Go.Proofs.YtmbblhajbecomaaDoor.Nodes

/-- Is i a node? -/
def isN (n : Nat) (i : Int) : Bool := decide (0 ≤ i) && decide (i < (n : Int))
theorem isN_yes {n : Nat} {i : Int} (h : isN n i = true) : ∃ k : Nat, i = k ∧ k < n := by
  simp [isN] at h
  exact ⟨i.toNat, by omega, by omega⟩
theorem isN_nat {n k : Nat} : isN n (k : Int) = decide (k < n) := by simp [isN]
theorem node_any {w : World} {G R : Nat} {near : List Nat} (hg : GraphAt w G R near) (i : Int) :
    Calls Tryd.prog 47 #[.pointer (some ⟨G, 0, none⟩), .int .i64 i] w fun e w' => e = .returned (.bool (isN near.length i)) ∧ w' = w := by
  have cG := hg.box.cell 0
  simp at cG
  by_cases h0 : 0 ≤ i
  · go_enter Tryd.func47, Tryd.ntmps47
    go_wp2
    go_ret
    exact ⟨ret_b (by simp [isN, h0]), rfl⟩
  · go_enter Tryd.func47, Tryd.ntmps47
    go_wp2
    go_ret
    exact ⟨ret_b (by simp [isN]; omega), rfl⟩
theorem node_nil (i : Int) (w : World) :
    Calls Tryd.prog 47 #[.pointer none, .int .i64 i] w fun e w' => e = .returned (.bool false) ∧ w' = w := by
  go_enter Tryd.func47, Tryd.ntmps47
  go_wp2
  go_ret
  exact ⟨rfl, rfl⟩
/-- The nodes that one is linked with. -/
def nearR (near : List Nat) (i : Int) : Nat := if isN near.length i then near.getD i.toNat 0 else 0
theorem near_any {w : World} {G R : Nat} {near : List Nat} (hg : GraphAt w G R near) (i : Int) :
    Calls Tryd.prog 28 #[.pointer (some ⟨G, 0, none⟩), .int .i64 i] w fun e w' => e = .returned (.int .u64 (nearR near i : Nat)) ∧ w' = w := by
  have cG := hg.box.cell 0
  simp at cG
  have hn := Lib.hid (node_any hg i)
  by_cases h : isN near.length i = true
  · obtain ⟨k, rfl, hk⟩ := isN_yes h
    have cR := hg.at hk
    have b3 : (0 : Int) ≤ (k : Int) := by omega
    have b4 : (k : Int) < (near.length : Int) := by omega
    obtain ⟨s, hs⟩ : ∃ s, near.getD k 0 = s := ⟨_, rfl⟩
    have hr : nearR near k = s := by simp only [nearR, h, if_true]; exact hs
    rw [hr]
    rw [hs] at cR
    rw [h] at hn
    clear hs hr
    go_enter Tryd.func28, Tryd.ntmps28
    go_wp2_with (go_at_call 47; refine hn.out.mono ?_; rintro e w' ⟨rfl, h⟩; rw [h]; clear h w')
    go_ret
    exact ⟨rfl, rfl⟩
  · have h : isN near.length i = false := by simpa using h
    have hr : nearR near i = 0 := by simp [nearR, h]
    rw [hr]
    rw [h] at hn
    clear hr
    go_enter Tryd.func28, Tryd.ntmps28
    go_wp2_with (go_at_call 47; refine hn.out.mono ?_; rintro e w' ⟨rfl, h⟩; rw [h]; clear h w')
    go_ret
    exact ⟨rfl, rfl⟩
theorem near_nil (i : Int) (w : World) :
    Calls Tryd.prog 28 #[.pointer none, .int .i64 i] w fun e w' => e = .returned (.int .u64 0) ∧ w' = w := by
  have hn := Lib.hid (node_nil i w)
  go_enter Tryd.func28, Tryd.ntmps28
  go_wp2_with (go_at_call 47; refine hn.out.mono ?_; rintro e w' ⟨rfl, h⟩; rw [h]; clear h w')
  go_ret
  exact ⟨rfl, rfl⟩
/-- Are they linked? -/
def linkR (near : List Nat) (a b : Int) : Bool := isN near.length a && hasR (near.getD a.toNat 0) b
theorem linked_any {w : World} {G R : Nat} {near : List Nat} (hg : GraphAt w G R near) (a b : Int) :
    Calls Tryd.prog 36 #[.pointer (some ⟨G, 0, none⟩), .int .i64 a, .int .i64 b] w fun e w' => e = .returned (.bool (linkR near a b)) ∧ w' = w := by
  have cG := hg.box.cell 0
  simp at cG
  have hn := Lib.hid (node_any hg a)
  by_cases h : isN near.length a = true
  · obtain ⟨k, rfl, hk⟩ := isN_yes h
    have cR := hg.at hk
    have b3 : (0 : Int) ≤ (k : Int) := by omega
    have b4 : (k : Int) < (near.length : Int) := by omega
    have hl := hg.lt k
    obtain ⟨s, hs⟩ : ∃ s, near.getD k 0 = s := ⟨_, rfl⟩
    have hr : linkR near k b = hasR s b := by simp only [linkR, h, Bool.true_and]; rw [← hs]; rfl
    rw [hr]
    rw [hs] at cR hl
    rw [h] at hn
    have hh := Lib.hid (has_any s hl b w)
    clear hs hr hl
    go_enter Tryd.func36, Tryd.ntmps36
    go_wp2_with (first
      | (go_at_call 47; refine hn.out.mono ?_; rintro e w' ⟨rfl, h⟩; rw [h]; clear h w')
      | (go_at_call 57; refine hh.out.mono ?_; rintro e w' ⟨rfl, h⟩; rw [h]; clear h w'))
    go_ret
    exact ⟨rfl, rfl⟩
  · have h : isN near.length a = false := by simpa using h
    have hr : linkR near a b = false := by simp [linkR, h]
    rw [hr]
    rw [h] at hn
    clear hr
    go_enter Tryd.func36, Tryd.ntmps36
    go_wp2_with (go_at_call 47; refine hn.out.mono ?_; rintro e w' ⟨rfl, h⟩; rw [h]; clear h w')
    go_ret
    exact ⟨rfl, rfl⟩
theorem linked_nil (a b : Int) (w : World) :
    Calls Tryd.prog 36 #[.pointer none, .int .i64 a, .int .i64 b] w fun e w' => e = .returned (.bool false) ∧ w' = w := by
  have hn := Lib.hid (node_nil a w)
  go_enter Tryd.func36, Tryd.ntmps36
  go_wp2_with (go_at_call 47; refine hn.out.mono ?_; rintro e w' ⟨rfl, h⟩; rw [h]; clear h w')
  go_ret
  exact ⟨rfl, rfl⟩
theorem ret_p {a b c d : Int} (h : a = c) (k : b = d) : Ending.returned (.agg #[.int .i64 a, .int .i64 b]) = Ending.returned (.agg #[.int .i64 c, .int .i64 d]) := by rw [h, k]
theorem results_cell {P : Program} {fn : Func} {a : Tmp} {t : TypeId} {tmps : Array Value} {w : World} {b : Nat} {cs : List Value} {d : TypeDesc} (h : fn.results = #[.cell a t]) (ha : tmps.getD a undef = .pointer (some ⟨b, 0, none⟩))
    (hu : P.underlying t = some d) (hd : d.isRow = true) (hi : (P.info? t).map (·.size) = some cs.length) (hc : w.rangeAt b 0 cs) :
    (results fn tmps).run P w = .ok (.agg cs.toArray) w := by
  have hl := run_loadVar_mid (P := P) w b 0 t cs d hc hu hd hi
  have hp : (asAddr (.pointer (some ⟨b, 0, none⟩) : Value)).run P w = .ok ⟨b, 0, none⟩ w := by simp [asAddr]
  rw [Array.getD_eq_getD_getElem?] at ha
  simp [results, h, ha, Sem.run_bind, hl, hp]
theorem range2 {w : World} {b : Nat} {c0 c1 : Value} (h0 : w.cell? ⟨b, 0, none⟩ = some c0) (h1 : w.cell? ⟨b, 1, none⟩ = some c1) : w.rangeAt b 0 [c0, c1] := by
  intro j v hj
  rcases j with _ | _ | j <;> simp at hj <;> subst hj <;> simpa
/-- graph.link. -/
theorem link_any (a b : Int) (w : World) :
    Calls Tryd.prog 46 #[.agg #[.int .i64 a, .int .i64 b]] w fun e w' => e = .returned (.agg #[.int .i64 (min a b), .int .i64 (max a b)]) ∧ Below w.heap.size w w' := by
  rcases Int.lt_trichotomy a b with h | h | h
  · have h1 : ¬ b ≤ a := by omega
    rw [show min a b = a by omega, show max a b = b by omega]
    go_enter Tryd.func46, Tryd.ntmps46
    go_wp2
    all_goals
      refine bodyPost_ret (results_cell (b := w.heap.size + 1) Tryd.results46 rfl Tryd.underlying55 (by kernel_rfl) (by kernel_rfl) (range2 (c0 := .int .i64 a) (c1 := .int .i64 b) ?_ ?_)) rfl ⟨rfl, ?_⟩
      · first | omega | go_simp
      · first | omega | go_simp
      · exact ((Below.refl _ w).alloc (Nat.le_refl _) _).alloc (by simp) _
  · subst h
    rw [show min a a = a by omega, show max a a = a by omega]
    go_enter Tryd.func46, Tryd.ntmps46
    go_wp2
    all_goals
      refine bodyPost_ret (results_cell (b := w.heap.size + 1) Tryd.results46 rfl Tryd.underlying55 (by kernel_rfl) (by kernel_rfl) (range2 (c0 := .int .i64 a) (c1 := .int .i64 a) ?_ ?_)) rfl ⟨rfl, ?_⟩
      · first | omega | go_simp
      · first | omega | go_simp
      · exact ((Below.refl _ w).alloc (Nat.le_refl _) _).alloc (by simp) _
  · have h1 : ¬ a ≤ b := by omega
    rw [show min a b = b by omega, show max a b = a by omega]
    go_enter Tryd.func46, Tryd.ntmps46
    go_wp2
    all_goals
      refine bodyPost_ret (results_cell (b := w.heap.size + 1) Tryd.results46 rfl Tryd.underlying55 (by kernel_rfl) (by kernel_rfl) (range2 (c0 := .int .i64 b) (c1 := .int .i64 a) ?_ ?_)) rfl ⟨rfl, ?_⟩
      · first | omega | go_simp
      · first | omega | go_simp
      · exact ((Below.refl _ w).alloc (Nat.le_refl _) _).alloc (by simp) _
end Go.Proofs.YtmbblhajbecomaaDoor.Graph
