/- The document's Ball and Wide; nodesSame: walked. -/
import Derived.Test.YtmbblhajbecomaaDoorRefDist
import Derived.Test.YtmbblhajbecomaaDoorWideGo
namespace Go.Proofs.YtmbblhajbecomaaDoor.Reach
set_option maxRecDepth 100000
open Go.RowKit
open Go.Proofs.YtmbblhajbecomaaDoor.RF Go.Proofs.YtmbblhajbecomaaDoor.Heap Go.Proofs.YtmbblhajbecomaaDoor.Nodes Go.Proofs.YtmbblhajbecomaaDoor.Graph
set_option linter.unusedVariables false
set_option linter.unusedSimpArgs false

/-- The nodes that are near, in their order. -/
def selB (d : List Int) (most : Int) (all : Bool) (k : Nat) : Bool := decide (0 ≤ d.getD k (-1)) && (all || decide (d.getD k (-1) ≤ most))
def selTo (d : List Int) (most : Int) (all : Bool) (m : Nat) : List Nat := (List.range m).filter (selB d most all)
theorem selTo_succ (d : List Int) (most : Int) (all : Bool) (m : Nat) : selTo d most all (m + 1) = selTo d most all m ++ if selB d most all m = true then [m] else [] := by
  unfold selTo
  rw [List.range_succ, List.filter_append]
  congr 1
  cases h : selB d most all m <;> simp [h]
theorem selTo_len (d : List Int) (most : Int) (all : Bool) (m : Nat) : (selTo d most all m).length ≤ m := by
  have := List.length_filter_le (selB d most all) (List.range m)
  simpa [selTo] using this
def ballN (d : List Int) (most : Int) (all : Bool) : Nat := ofBits (fun k => decide (k ∈ selTo d most all d.length)) 64
theorem ballN_eq {near : List Nat} {off : Nat} (ok : Ok near) (ho : off < 2 ^ 64) (i most : Int) : ballN (distF near off i) most false = ballF near off i most := by
  have hl : (distF near off i).length = near.length := distTo_len _ _ _
  refine Nat.eq_of_testBit_eq fun k => ?_
  rw [Bool.eq_iff_iff, ballF_bit ok ho, ballN, ofBits_bit, Bool.and_eq_true, decide_eq_true_eq, decide_eq_true_eq, selTo, List.mem_filter, List.mem_range, hl]
  simp only [selB, Bool.and_eq_true, Bool.false_or, decide_eq_true_eq]
  constructor
  · rintro ⟨_, _, h⟩; exact h
  · intro h
    have := distF_lt h.1
    have := ok.few
    exact ⟨by omega, by omega, h⟩
theorem ballN_all {near : List Nat} {off : Nat} (ok : Ok near) (ho : off < 2 ^ 64) (i most : Int) : ballN (distF near off i) most true = ballF near off i 64 := by
  rw [← ballN_eq ok ho]
  unfold ballN selTo
  congr 1
  funext k
  congr 2
  refine List.filter_congr fun k hk => ?_
  have := distF_most ok ho i k
  have := rings_few ok ho i
  have := ok.few
  simp only [selB, Bool.true_or, Bool.and_true, Bool.false_or]
  rw [show decide ((distF near off i).getD k (-1) ≤ 64) = true from decide_eq_true (by omega), Bool.and_true]
set_option maxRecDepth 100000 in
set_option maxHeartbeats 8000000 in
theorem refwide_any {w : World} (n : Nat) (v : Value) (L : List (Int × Int)) (near : List Nat) (hp : PairsAt w v L) (hlen : L.length ≤ 65536) (hM : Match n near L) (h1 : 1 ≤ n) (hn : n ≤ 64) (off : Nat) (ho : off < 2 ^ 64) :
    Calls Tryd.prog 31 #[.agg #[.int .i64 (n : Nat), v], .int .u64 (off : Nat)] w fun e w' => e = .returned (.int .i64 (wideF near off)) ∧ Below w.heap.size w w' := by
  obtain ⟨la, lc, rfl, _⟩ := hp.1
  have hok : Ok near := hM.ok hn
  have hln : near.length = n := hM.len
  obtain ⟨W0, hW0⟩ : ∃ W0, w.alloc (.cells #[.int .i64 (n : Nat), .slice la L.length lc] 27) = W0 := ⟨_, rfl⟩
  have b0 : Blk W0 w.heap.size 27 #[.int .i64 (n : Nat), .slice la L.length lc] := by rw [← hW0]; exact Blk.new w _ _
  have l0 : Below w.heap.size w W0 := by rw [← hW0]; exact (Below.refl _ w).alloc (Nat.le_refl _) _
  have HW0 := Lib.hid hW0
  have hpH := Lib.hid hp
  have HM := Lib.hid hM
  have Hok := Lib.hid hok
  have Hb0 := Lib.hid b0
  clear hW0 hp hM hok b0
  go_enter Tryd.func31, Tryd.ntmps31
  go_wp2_with (rw [HW0.out])
  go_loopw [5, 6] (fun v5 v6 wr => ∃ i : Nat, v5 = .int .i64 (wdTo near off i) ∧ v6 = .int .i64 i ∧ i ≤ n ∧ RowKit.Hid (∀ j, j < i → on near.length off j = true → okI near off j = true) ∧ RowKit.Hid (Blk wr w.heap.size 27 #[.int .i64 (n : Nat), .slice la L.length lc]) ∧ Below w.heap.size w wr) (fun _ v6 _ => match v6 with | .int _ k => n - k.toNat | _ => 0)
  case atStart => exact ⟨0, rfl, rfl, Nat.zero_le _, Lib.hid (fun j hj => by omega), Hb0, l0⟩
  case round =>
    clear l0 Hb0 HW0
    obtain ⟨i, rfl, rfl, hi, hokI, hb, lR⟩ := hrel
    have c0 := hb.out.cell 0
    have c1 := hb.out.cell 1
    simp at c0 c1
    by_cases hlt : i < n
    · have l3 : (0 : Int) ≤ (i : Int) := by omega
      have l4 : (i : Int) < (n : Int) := by omega
      have hst : wdTo near off (i + 1) = if on near.length off i = true then max (wdTo near off i) ((rings near off i).length - 1) else wdTo near off i := rfl
      have hon : on near.length off i = !off.testBit i := by simp [on, hln, hlt]
      have HH := Lib.hid (fun (V : World) => (hasR_nat (off := off) (j := i) (by omega)) ▸ refhas_any off ho (i : Int) V)
      obtain ⟨m0, hm0⟩ : ∃ m, wdTo near off i = m := ⟨_, rfl⟩
      rw [hm0] at hst ⊢
      rcases hbit : off.testBit i with _ | _
      · rw [hbit] at hon HH
        have hon2 : on near.length off i = true := hon
        rw [if_pos hon2] at hst
        have hmx := (mxD_full Hok.out ho hon2 m0).2
        have HD := Lib.hid (refdist_any n (.slice la L.length lc) L near (hpH.out.below lR (Nat.le_refl _)) hlen HM.out h1 hn (i : Int) off ho)
        have Hst := Lib.hid hst
        have Hmx := Lib.hid hmx
        have Hon := Lib.hid hon2
        clear hst hmx hon hon2 hbit hm0
        go_wp2_with (first
          | (go_at_call 27; refine (HH.out _).mono ?_; rintro e w4 ⟨rfl, hw⟩; rw [hw]; clear hw w4)
          | (go_at_call 53; refine HD.out.mono ?_; rintro e w2 ⟨g, cap, rfl, hg, hrow, b2⟩))
        have Hb2 := Lib.hid (hb.out.below b2 hb.out.lt)
        have d0 := Hb2.out.cell 0
        simp at d0
        have lR2 : Below w.heap.size w w2 := lR.trans (b2.mono lR.size)
        have hdl : (distF near off (i : Int)).length = n := by rw [distF, distTo_len]; exact hln
        have hoki := okI_spec (near := near) (off := off) (i := i)
        obtain ⟨d, hd⟩ : ∃ d, distF near off (i : Int) = d := ⟨_, rfl⟩
        rw [hd] at hrow hdl hoki Hmx
        have Hrow := Lib.hid hrow
        have Hoki := Lib.hid hoki
        clear hrow hd HD b2 c0 c1 hb hoki
        go_loop [5, 8] (fun v5 v8 => ∃ k : Nat, v5 = .int .i64 (mxD near off d m0 k) ∧ v8 = .int .i64 k ∧ k ≤ n ∧ RowKit.Hid (∀ j, j < k → on near.length off j = true → 0 ≤ d.getD j (-1))) (fun _ v8 => match v8 with | .int _ k => n - k.toNat | _ => 0)
        case atStart => exact ⟨0, rfl, rfl, Nat.zero_le _, Lib.hid (fun j hj => by omega)⟩
        case round =>
          obtain ⟨k, rfl, rfl, hk, hge⟩ := hrel
          by_cases hkn : k < n
          · have l5 : (0 : Int) ≤ (k : Int) := by omega
            have l6 : (k : Int) < (n : Int) := by omega
            have hms : mxD near off d m0 (k + 1) = if on near.length off k = true then max (mxD near off d m0 k) (d.getD k (-1)) else mxD near off d m0 k := rfl
            have hon : on near.length off k = !off.testBit k := by simp [on, hln, hkn]
            have HK := Lib.hid (fun (V : World) => (hasR_nat (off := off) (j := k) (by omega)) ▸ refhas_any off ho (k : Int) V)
            obtain ⟨m, hm⟩ : ∃ m, mxD near off d m0 k = m := ⟨_, rfl⟩
            rw [hm] at hms ⊢
            rcases hbit : off.testBit k with _ | _
            · rw [hbit] at hon HK
              have hon2 : on near.length off k = true := hon
              rw [if_pos hon2] at hms
              have cx := Hrow.out.cell (j := k) (by omega)
              obtain ⟨x, hx⟩ : ∃ x, d.getD k (-1) = x := ⟨_, rfl⟩
              rw [hx] at cx hms
              have Hx := Lib.hid hx
              have Hms := Lib.hid hms
              have Hon2 := Lib.hid hon2
              clear hms hon hon2 hbit hm hx
              by_cases hx0 : x < 0
              · have hw : wideF near off = -1 := by
                  rw [wideF, whole_no Hon.out (by
                    rw [← Bool.not_eq_true, Hoki.out]
                    intro c
                    have := c k Hon2.out
                    rw [Hx.out] at this
                    omega)]
                  rfl
                have Hw := Lib.hid hw
                clear hw
                go_wp2_with (go_at_call 27; refine (HK.out _).mono ?_; rintro e w4 ⟨rfl, hw⟩; rw [hw]; clear hw w4)
                go_ret
                exact ⟨by rw [Hw.out]; rfl, lR2⟩
              · have hge2 : ∀ j, j < k + 1 → on near.length off j = true → 0 ≤ d.getD j (-1) := fun j hj ho => by
                  rcases Nat.lt_succ_iff_lt_or_eq.1 hj with c | c
                  · exact hge.out j c ho
                  · subst c; rw [Hx.out]; omega
                have Hge2 := Lib.hid hge2
                clear hge2
                by_cases hmx : m < x
                · go_wp2_with (go_at_call 27; refine (HK.out _).mono ?_; rintro e w4 ⟨rfl, hw⟩; rw [hw]; clear hw w4)
                  go_round
                  case rel => exact ⟨k + 1, by rw [Hms.out]; congr 1; omega, rfl, hkn, Hge2⟩
                  case measure => simp; omega
                · go_wp2_with (go_at_call 27; refine (HK.out _).mono ?_; rintro e w4 ⟨rfl, hw⟩; rw [hw]; clear hw w4)
                  go_round
                  case rel => exact ⟨k + 1, by rw [Hms.out]; congr 1; omega, rfl, hkn, Hge2⟩
                  case measure => simp; omega
            · rw [hbit] at hon HK
              have hon2 : ¬ on near.length off k = true := by rw [hon]; decide
              rw [if_neg hon2] at hms
              have Hms := Lib.hid hms
              have Hon2 := Lib.hid hon2
              clear hms hon hon2 hbit hm
              go_wp2_with (go_at_call 27; refine (HK.out _).mono ?_; rintro e w4 ⟨rfl, hw⟩; rw [hw]; clear hw w4)
              go_round
              case rel => exact ⟨k + 1, by rw [Hms.out], rfl, hkn, Lib.hid (fun j hj ho => by
                  rcases Nat.lt_succ_iff_lt_or_eq.1 hj with c | c
                  · exact hge.out j c ho
                  · subst c; exact absurd ho Hon2.out)⟩
              case measure => simp; omega
          · obtain rfl : n = k := by omega
            rw [hln] at Hmx
            have hoi : okI near off i = true := Hoki.out.2 fun k hk => hge.out k (by have := on_lt hk; omega) hk
            have Hoi := Lib.hid hoi
            clear hoi
            go_wp2_with fail
            go_round
            case rel => exact ⟨i + 1, by rw [Hst.out, Hmx.out], rfl, hlt, Lib.hid (fun j hj ho => by
                rcases Nat.lt_succ_iff_lt_or_eq.1 hj with c | c
                · exact hokI.out j c ho
                · subst c; exact Hoi.out), Hb2, lR2⟩
            case measure => simp; omega
      · rw [hbit] at hon HH
        have hon2 : ¬ on near.length off i = true := by rw [hon]; decide
        rw [if_neg hon2] at hst
        have Hst := Lib.hid hst
        have Hon := Lib.hid hon2
        clear hst hon hon2 hbit hm0
        go_wp2_with (go_at_call 27; refine (HH.out _).mono ?_; rintro e w4 ⟨rfl, hw⟩; rw [hw]; clear hw w4)
        go_round
        case rel => exact ⟨i + 1, by rw [Hst.out], rfl, hlt, Lib.hid (fun j hj ho => by
            rcases Nat.lt_succ_iff_lt_or_eq.1 hj with c | c
            · exact hokI.out j c ho
            · subst c; exact absurd ho Hon.out), hb, lR⟩
        case measure => simp; omega
    · obtain rfl : n = i := by omega
      have hw : wideF near off = wdTo near off n := by
        rw [wideF, if_pos (whole_spec.2 fun j hj => hokI.out j (by have := on_lt hj; omega) hj), hln]
      have Hw := Lib.hid hw
      clear hw
      go_wp2_with fail
      go_ret
      exact ⟨by rw [Hw.out]; rfl, lR⟩
end Go.Proofs.YtmbblhajbecomaaDoor.Reach
