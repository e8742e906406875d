/- reach's start and grow: walked. -/
import Derived.Test.YtmbblhajbecomaaDoorWidePure
import Derived.Test.YtmbblhajbecomaaDoorHasList
import Derived.Test.YtmbblhajbecomaaDoorGraphNewWalk
import Derived.Shelf.RegionOpen
namespace Go.Proofs.YtmbblhajbecomaaDoor.Reach
set_option maxRecDepth 100000
open Go.RowKit
open Go.Proofs.YtmbblhajbecomaaDoor.RF Go.Proofs.YtmbblhajbecomaaDoor.Heap Go.Proofs.YtmbblhajbecomaaDoor.Nodes Go.Proofs.YtmbblhajbecomaaDoor.Graph
set_option linter.unusedVariables false
set_option linter.unusedSimpArgs false

theorem with_none (s : Int) (i : Int) (hi : i < 0 ∨ 64 ≤ i) (b : Nat) (hs : bits .or .u64 s 0 = s) (w : World) (hb : w.cell? ⟨b, 0, none⟩ = some (.int .i64 i)) :
    Calls Tryd.prog 54 #[.int .u64 s, .slice (some ⟨b, 0, none⟩) 1 1] w fun e w' => e = .returned (.int .u64 s) ∧ w' = w := by
  have hbit := Lib.hid (bit_no i hi w)
  clear hi
  go_enter Tryd.func54, Tryd.ntmps54
  go_wp2
  go_loop [0, 9] (fun v0 v9 => (v0 = .int .u64 s ∧ v9 = .int .i64 0) ∨ (v0 = .int .u64 s ∧ v9 = .int .i64 1)) (fun v0 v9 => match v9 with | .int _ n => 1 - n.toNat | _ => 0)
  case atStart => exact .inl ⟨rfl, rfl⟩
  case round =>
    rcases hrel with ⟨rfl, rfl⟩ | ⟨rfl, rfl⟩
    · go_wp2_with (go_at_call 69; refine hbit.out.mono ?_; rintro e w' ⟨rfl, h⟩; rw [h]; clear h w')
      go_round
      case rel => exact .inr ⟨rfl, rfl⟩
      case measure => simp
    · go_wp2
      go_ret
      exact ⟨rfl, rfl⟩
/-- nodes.Of of one. -/
def oneN (i : Int) : Nat := if 0 ≤ i ∧ i < 64 then 2 ^ i.toNat else 0
theorem oneN_bit (i : Int) (k : Nat) (hk : k < 64) : (oneN i).testBit k = decide (i = (k : Int)) := by
  unfold oneN
  split
  · rename_i h
    rw [Nat.testBit_two_pow, decide_eq_decide]
    omega
  · rename_i h
    rw [Nat.zero_testBit]
    symm
    rw [decide_eq_false_iff_not]
    omega
theorem oneN_lt (i : Int) : oneN i < 2 ^ 64 := by
  unfold oneN
  split
  · exact Nat.pow_lt_pow_right (by omega) (by omega)
  · omega
theorem of_one (i : Int) (b : Nat) (w : World) (hb : w.cell? ⟨b, 0, none⟩ = some (.int .i64 i)) :
    Calls Tryd.prog 86 #[.slice (some ⟨b, 0, none⟩) 1 1] w fun e w' => e = .returned (.int .u64 (oneN i : Nat)) ∧ w' = w := by
  by_cases hi : 0 ≤ i ∧ i < 64
  · have hw := with_one 0 i.toNat b (by omega) (by omega) w (by rw [hb]; congr 2; omega)
    rw [show 0 ||| 2 ^ i.toNat = oneN i by rw [oneN, if_pos hi, Nat.zero_or]] at hw
    have HW := Lib.hid hw
    clear hw hb hi
    go_enter Tryd.func86, Tryd.ntmps86
    go_wp2_with (go_at_call 54; refine HW.out.mono ?_; rintro e w' ⟨rfl, h⟩; rw [h]; clear h w')
    go_ret
    exact ⟨rfl, rfl⟩
  · have hw := with_none 0 i (by omega) b (by decide) w hb
    have HW := Lib.hid hw
    have h0 : oneN i = 0 := by rw [oneN, if_neg hi]
    rw [h0]
    clear hw hb hi h0
    go_enter Tryd.func86, Tryd.ntmps86
    go_wp2_with (go_at_call 54; refine HW.out.mono ?_; rintro e w' ⟨rfl, h⟩; rw [h]; clear h w')
    go_ret
    exact ⟨rfl, rfl⟩
theorem all_any (n : Nat) (hn : n ≤ 64) (w : World) :
    Calls Tryd.prog 60 #[.int .i64 (n : Nat)] w fun e w' => e = .returned (.int .u64 ((2 ^ n - 1 : Nat) : Int)) ∧ w' = w := by
  by_cases h1 : n = 64
  · subst h1
    go_enter Tryd.func60, Tryd.ntmps60
    go_wp2
    go_ret
    exact ⟨rfl, rfl⟩
  · by_cases h2 : n = 0
    · subst h2
      go_enter Tryd.func60, Tryd.ntmps60
      go_wp2
      go_ret
      exact ⟨rfl, rfl⟩
    · have l1 : ¬ (64 : Int) ≤ (n : Int) := by omega
      have l2 : ¬ (n : Int) < 1 := by omega
      have hp : 2 ^ n < 2 ^ 64 := Nat.pow_lt_pow_right (by omega) (by omega)
      have hq := Nat.two_pow_pos n
      have Hb := Lib.hid (bit_yes n (by omega) w)
      obtain ⟨p, hpe⟩ : ∃ p, 2 ^ n = p := ⟨_, rfl⟩
      rw [hpe] at Hb hp hq ⊢
      have e1 : IntKind.u64.wrap ((p : Int) - 1) = ((p - 1 : Nat) : Int) := by rw [IntKind.wrap_u64]; omega
      clear hpe h1 h2
      go_enter Tryd.func60, Tryd.ntmps60
      go_wp2_with (go_at_call 69; refine Hb.out.mono ?_; rintro e w' ⟨rfl, h⟩; rw [h]; clear h w')
      go_ret
      exact ⟨rfl, rfl⟩
theorem startN_eq {near : List Nat} {off : Nat} (hf : near.length ≤ 64) (ho : off < 2 ^ 64) (i : Int) : anotN (oneN i &&& (2 ^ near.length - 1)) off = startN near off i := by
  have hlt : oneN i &&& (2 ^ near.length - 1) < 2 ^ 64 := Nat.and_lt_two_pow _ (all_lt hf)
  refine Nat.eq_of_testBit_eq fun k => ?_
  rw [Bool.eq_iff_iff, startN_bit, anotN_bits hlt ho, Nat.testBit_and, Nat.testBit_two_pow_sub_one]
  rcases Nat.lt_or_ge k 64 with c | c
  · rw [oneN_bit i k c]
    simp only [on, Bool.and_eq_true, decide_eq_true_eq, and_assoc]
  · have : decide (k < near.length) = false := by rw [decide_eq_false_iff_not]; omega
    simp [on, this]
set_option maxHeartbeats 2000000 in
theorem start_any {w : World} {G R : Nat} {near : List Nat} (hg : GraphAt w G R near) (i : Int) (off : Nat) (ho : off < 2 ^ 64) :
    Calls Tryd.prog 84 #[.pointer (some ⟨G, 0, none⟩), .int .i64 i, .int .u64 (off : Nat)] w fun e w' => e = .returned (.int .u64 (startN near off i : Nat)) ∧ Below w.heap.size w w' := by
  obtain ⟨W, hW⟩ : ∃ W, w.alloc (.cells #[.int .i64 i] 3) = W := ⟨_, rfl⟩
  have bW : Blk W w.heap.size 3 #[.int .i64 i] := by rw [← hW]; exact Blk.new w _ _
  have lW : Below w.heap.size w W := by rw [← hW]; exact (Below.refl _ w).alloc (Nat.le_refl _) _
  have hf := hg.few
  have H1 := Lib.hid (of_one i w.heap.size W (bW.cell 0))
  have H2 := Lib.hid (n_any (hg.below lW (Nat.le_refl _)))
  have H3 := Lib.hid (all_any near.length hf W)
  have e1 : bits .and .u64 (oneN i : Int) ((2 ^ near.length - 1 : Nat) : Int) = ((oneN i &&& (2 ^ near.length - 1) : Nat) : Int) := bits_and_u64_nat _ _ (oneN_lt i) (all_lt hf)
  have e2 := bits_andNot_nat (oneN i &&& (2 ^ near.length - 1)) off (Nat.and_lt_two_pow _ (all_lt hf)) ho
  change _ = ((anotN _ off : Nat) : Int) at e2
  rw [startN_eq hf ho] at e2
  obtain ⟨p, hp⟩ : ∃ p, 2 ^ near.length - 1 = p := ⟨_, rfl⟩
  rw [hp] at H3 e1 e2
  obtain ⟨q, hq⟩ : ∃ q, oneN i &&& p = q := ⟨_, rfl⟩
  rw [hq] at e1 e2
  obtain ⟨r, hr⟩ : ∃ r, startN near off i = r := ⟨_, rfl⟩
  rw [hr] at e2 ⊢
  have HW := Lib.hid hW
  clear hp hq hr hg hf bW hW
  go_enter Tryd.func84, Tryd.ntmps84
  go_wp2_with (first
    | (rw [HW.out])
    | (go_at_call 86; refine H1.out.mono ?_; rintro e w' ⟨rfl, h⟩; rw [h]; clear h w')
    | (go_at_call 40; refine H2.out.mono ?_; rintro e w' ⟨rfl, h⟩; rw [h]; clear h w')
    | (go_at_call 60; refine H3.out.mono ?_; rintro e w' ⟨rfl, h⟩; rw [h]; clear h w'))
  go_ret
  exact ⟨rfl, lW⟩
end Go.Proofs.YtmbblhajbecomaaDoor.Reach
