/- reach's Ball, From and Whole: walked. -/
import Derived.Test.YtmbblhajbecomaaDoorReachRings
namespace Go.Proofs.YtmbblhajbecomaaDoor.Reach
set_option maxRecDepth 100000
open Go.RowKit
open Go.Proofs.YtmbblhajbecomaaDoor.RF Go.Proofs.YtmbblhajbecomaaDoor.Heap Go.Proofs.YtmbblhajbecomaaDoor.Nodes Go.Proofs.YtmbblhajbecomaaDoor.Graph
set_option linter.unusedVariables false
set_option linter.unusedSimpArgs false

/-- A list of sets lies. -/
def SetsAt (w : World) (v : Value) (l : List Nat) : Prop := ∃ a cap, v = .slice a l.length cap ∧ ∀ j, j < l.length → ∃ b, a = some ⟨b, 0, none⟩ ∧ b < w.heap.size ∧ w.cell? ⟨b, j, none⟩ = some (.int .u64 (l.getD j 0 : Nat))
theorem own_sets {w : World} {base : Nat} {v : Value} {l : List Nat} (h : w.ownsRow base 31 1 v l.length (sc l)) : SetsAt w v l := by
  rcases h.2 with ⟨rfl, h0⟩ | ⟨g, cap, cur, rfl, hb, hg, hnc, hcm, hcs, ht⟩
  · exact ⟨none, 0, by rw [h0], fun j hj => by omega⟩
  · refine ⟨_, _, rfl, fun j hj => ⟨g, rfl, (show Blk w g _ cur from hg).lt, ?_⟩⟩
    rw [cell_of_row w g j cur _ _ hg]
    have hk : (sc l)[j]? = some (.int .u64 (l.getD j 0 : Nat)) := by
      simp [sc, List.getElem?_map, List.getElem?_eq_getElem hj]
    rw [← ht, List.getElem?_take] at hk
    split at hk
    · simpa using hk
    · cases hk
theorem SetsAt.off {w w' : World} {v : Value} {l : List Nat} (h : SetsAt w v l) (k : Below w.heap.size w w') : SetsAt w' v l := by
  obtain ⟨a, c, e, h⟩ := h
  refine ⟨a, c, e, fun j hj => ?_⟩
  obtain ⟨b, e1, e2, e3⟩ := h j hj
  exact ⟨b, e1, Nat.lt_of_lt_of_le e2 k.size, (k.cell (p := ⟨b, j, none⟩) e2).trans e3⟩
theorem ballT_lt (out : List Nat) (most : Int) (h : ∀ j, out.getD j 0 < 2 ^ 64) : ∀ t, ballT out most t < 2 ^ 64
  | 0 => by simp [ballT]
  | t + 1 => by
    rw [ballT]
    split
    · exact Nat.or_lt_two_pow (ballT_lt out most h t) (h t)
    · exact ballT_lt out most h t
set_option maxRecDepth 100000 in
set_option maxHeartbeats 8000000 in
theorem ball_any {w : World} {G R : Nat} {near : List Nat} (hg : GraphAt w G R near) (hT : Tab w) (ok : Ok near) (i most : Int) (off : Nat) (ho : off < 2 ^ 64) :
    Calls Tryd.prog 70 #[.pointer (some ⟨G, 0, none⟩), .int .i64 i, .int .i64 most, .int .u64 (off : Nat)] w fun e w' => e = .returned (.int .u64 (ballF near off i most : Nat)) ∧ Below w.heap.size w w' := by
  have H1 := Lib.hid (rings_any hg hT ok i off ho)
  have hf := rings_few ok ho i
  have hlt := rings_lt ok ho i
  have hfew := ok.few
  unfold ballF
  obtain ⟨l, hl⟩ : ∃ l, rings near off i = l := ⟨_, rfl⟩
  rw [hl] at H1 hf hlt ⊢
  have Hlt := Lib.hid hlt
  clear hl hlt hg
  go_enter Tryd.func70, Tryd.ntmps70
  go_wp2_with fail
  refine H1.out.mono ?_
  rintro e w1 ⟨v, rfl, own, b1⟩
  obtain ⟨a, cap, rfl, hc⟩ := own_sets own
  have Hc := Lib.hid hc
  clear H1 own hc
  go_wp2_with fail
  go_loop [9, 17] (fun v9 v17 => ∃ k : Nat, v9 = .int .u64 (ballT l most k : Nat) ∧ v17 = .int .i64 k ∧ k ≤ l.length) (fun _ v17 => match v17 with | .int _ k => l.length - k.toNat | _ => 0)
  case atStart => exact ⟨0, rfl, rfl, Nat.zero_le _⟩
  case round =>
    obtain ⟨k, rfl, rfl, hk⟩ := hrel
    by_cases hlk : k < l.length
    · obtain ⟨b, rfl, hb, c0⟩ := Hc.out k hlk
      have l3 : (0 : Int) ≤ (k : Int) := by omega
      have l4 : (k : Int) < (l.length : Int) := by omega
      have l5 : (k : Int) ≤ 64 := by omega
      have hx := Hlt.out k
      have hy := ballT_lt l most Hlt.out k
      obtain ⟨x, hxx⟩ : ∃ x, l.getD k 0 = x := ⟨_, rfl⟩
      obtain ⟨y, hyy⟩ : ∃ y, ballT l most k = y := ⟨_, rfl⟩
      rw [hxx] at c0 hx
      rw [hyy] at hy ⊢
      have hst : ballT l most (k + 1) = if (k : Int) ≤ most then y ||| x else y := by rw [ballT, hyy, hxx]
      have e1 : bits .or .u64 (y : Int) (x : Int) = ((y ||| x : Nat) : Int) := bits_or_u64_nat _ _ hy hx
      obtain ⟨z, hz⟩ : ∃ z, y ||| x = z := ⟨_, rfl⟩
      rw [hz] at e1 hst
      have Hst := Lib.hid hst
      clear hst hz hxx hyy hx hy
      by_cases hm : (k : Int) ≤ most
      · go_wp2_with fail
        go_round
        case rel => exact ⟨k + 1, by rw [Hst.out, if_pos hm], rfl, hlk⟩
        case measure => simp; omega
      · go_wp2_with fail
        go_round
        case rel => exact ⟨k + 1, by rw [Hst.out, if_neg hm], rfl, hlk⟩
        case measure => simp; omega
    · obtain rfl : k = l.length := by omega
      go_wp2_with fail
      go_ret
      exact ⟨rfl, b1⟩
theorem from_any {w : World} {G R : Nat} {near : List Nat} (hg : GraphAt w G R near) (hT : Tab w) (ok : Ok near) (i : Int) (off : Nat) (ho : off < 2 ^ 64) :
    Calls Tryd.prog 61 #[.pointer (some ⟨G, 0, none⟩), .int .i64 i, .int .u64 (off : Nat)] w fun e w' => e = .returned (.int .u64 (ballF near off i 64 : Nat)) ∧ Below w.heap.size w w' := by
  have H1 := Lib.hid (ball_any hg hT ok i 64 off ho)
  clear hg hT ok
  go_enter Tryd.func61, Tryd.ntmps61
  go_wp2_with (go_at_call 70; refine H1.out.mono ?_; rintro e w1 ⟨rfl, b1⟩)
  go_ret
  exact ⟨rfl, b1⟩
theorem there_any {n off : Nat} (hn : n ≤ 64) (ho : off < 2 ^ 64) : bits .andNot .u64 ((2 ^ n - 1 : Nat) : Int) (off : Int) = ((thereN n off : Nat) : Int) := bits_andNot_nat _ _ (all_lt hn) ho
theorem whole_any {w : World} {G R : Nat} {near : List Nat} (hg : GraphAt w G R near) (hT : Tab w) (ok : Ok near) (sy : Sym near) (off : Nat) (ho : off < 2 ^ 64) :
    Calls Tryd.prog 41 #[.pointer (some ⟨G, 0, none⟩), .int .u64 (off : Nat)] w fun e w' => e = .returned (.bool (decide (0 ≤ wideF near off))) ∧ Below w.heap.size w w' := by
  have hf := ok.few
  have H1 := Lib.hid (n_any hg)
  have H2 := Lib.hid (all_any near.length hf w)
  have e1 := there_any hf ho
  have hww := whole_wide ok sy ho
  have htl := thereN_lt (n := near.length) (off := off) hf
  obtain ⟨p, hp⟩ : ∃ p, 2 ^ near.length - 1 = p := ⟨_, rfl⟩
  rw [hp] at H2 e1
  by_cases h0 : thereN near.length off = 0
  · rw [h0] at e1 hww
    have Hw := Lib.hid hww
    clear hp hww htl h0 sy ok hT hg
    go_enter Tryd.func41, Tryd.ntmps41
    go_wp2_with (first
      | (go_at_call 40; refine H1.out.mono ?_; rintro e w' ⟨rfl, h⟩; rw [h]; clear h w')
      | (go_at_call 60; refine H2.out.mono ?_; rintro e w' ⟨rfl, h⟩; rw [h]; clear h w'))
    go_ret
    exact ⟨by rw [Hw.out]; rfl, Below.refl _ _⟩
  · have hle := lowest h0 htl
    obtain ⟨i, hi⟩ : ∃ i, Lib.ctz 64 (thereN near.length off) = i := ⟨_, rfl⟩
    have H3 := least_any (thereN near.length off) htl h0 w hT
    rw [hi] at hle H3
    have hon : on near.length off i = true := by rw [← thereN_bit hf ho]; exact hle.2.1
    have H4 := Lib.hid (from_any hg hT ok (i : Int) off ho)
    have hq : ((ballF near off i 64 : Int) == (thereN near.length off : Int)) = whole near off := by
      rw [← okI_all ok sy ho hon, Bool.eq_iff_iff, ← ball_okI ok ho i]
      simp only [beq_iff_eq]
      exact ⟨fun h => by omega, fun h => by rw [h]⟩
    rw [show decide (thereN near.length off ≠ 0) = true from decide_eq_true h0, Bool.true_and] at hww
    have hne : ((thereN near.length off : Int) != 0) = true := by simp; omega
    obtain ⟨t, ht⟩ : ∃ t, thereN near.length off = t := ⟨_, rfl⟩
    obtain ⟨f, hff⟩ : ∃ f, ballF near off i 64 = f := ⟨_, rfl⟩
    rw [ht] at e1 H3 hq hne
    rw [hff] at H4 hq
    have Hw := Lib.hid hww
    have H3' := Lib.hid H3
    clear hp hww htl h0 sy ok hT hg hle hi H3 hon ht hff
    go_enter Tryd.func41, Tryd.ntmps41
    go_wp2_with (first
      | (go_at_call 40; refine H1.out.mono ?_; rintro e w' ⟨rfl, h⟩; rw [h]; clear h w')
      | (go_at_call 60; refine H2.out.mono ?_; rintro e w' ⟨rfl, h⟩; rw [h]; clear h w')
      | (go_at_call 62; refine H3'.out.mono ?_; rintro e w' ⟨rfl, h⟩; rw [h]; clear h w')
      | (go_at_call 61; refine H4.out.mono ?_; rintro e w1 ⟨rfl, b1⟩))
    go_ret
    exact ⟨by rw [Hw.out]; rfl, b1⟩
end Go.Proofs.YtmbblhajbecomaaDoor.Reach
