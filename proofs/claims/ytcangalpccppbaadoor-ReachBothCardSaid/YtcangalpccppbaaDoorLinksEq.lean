/- The law's links: are two lists of links the same? -/
import Derived.Test.YtcangalpccppbaaDoorCut
namespace Go.Proofs.YtcangalpccppbaaDoor.Graph
open Go.RowKit
open Go.Proofs.YtcangalpccppbaaDoor.RF Go.Proofs.YtcangalpccppbaaDoor.Heap Go.Proofs.YtcangalpccppbaaDoor.Nodes Go.Proofs.YtcangalpccppbaaDoor.Seen
set_option linter.unusedVariables false
set_option linter.unusedSimpArgs false

theorem take_same {α : Type} {l m : List α} {k : Nat} {p q : α} (hp : l[k]? = some p) (hq : m[k]? = some q) (h : l.take k = m.take k) : l.take (k + 1) = m.take (k + 1) ↔ p = q := by
  rw [List.take_add_one, List.take_add_one, hp, hq, h]
  simp
set_option maxRecDepth 100000 in
set_option maxHeartbeats 4000000 in
theorem linkseq_any (w : World) (v1 v2 : Value) (l1 l2 : List (Int × Int)) (h1 : PairsAt w v1 l1) (h2 : PairsAt w v2 l2) (hlen : l1.length ≤ 65536) :
    Calls Tryd.prog 20 #[v1, v2] w fun e w' => e = .returned (.bool (decide (l1 = l2))) ∧ Below w.heap.size w w' := by
  obtain ⟨a1, c1, rfl, hc1⟩ := h1.1
  obtain ⟨a2, c2, rfl, hc2⟩ := h2.1
  clear h1 h2
  by_cases hne : l1.length = l2.length
  · go_enter Tryd.func20, Tryd.ntmps20
    have hI := hne
    rw [← hne]
    go_wp2
    go_loopw [13] (fun v13 wr => ∃ k : Nat, v13 = .int .i64 k ∧ k ≤ l1.length ∧ RowKit.Hid (l1.take k = l2.take k) ∧ Below w.heap.size w wr) (fun v13 _ => match v13 with | .int _ k => l1.length - k.toNat | _ => 0)
    case atStart => exact ⟨0, rfl, Nat.zero_le _, Lib.hid rfl, Below.refl _ w⟩
    case round =>
      obtain ⟨k, rfl, hk, ht, lR⟩ := hrel
      by_cases hlt : k < l1.length
      · obtain ⟨p, hpk⟩ : ∃ p, l1[k]? = some p := ⟨_, List.getElem?_eq_getElem hlt⟩
        obtain ⟨q, hqk⟩ : ∃ q, l2[k]? = some q := ⟨_, List.getElem?_eq_getElem (by omega)⟩
        obtain ⟨b1, rfl, hb1, d1, d2⟩ := hc1 k p hpk
        obtain ⟨b2, rfl, hb2, d3, d4⟩ := hc2 k q hqk
        replace d1 := (lR.cell (p := ⟨b1, k * 2, none⟩) hb1).trans d1
        replace d2 := (lR.cell (p := ⟨b1, k * 2 + 1, none⟩) hb1).trans d2
        replace d3 := (lR.cell (p := ⟨b2, k * 2, none⟩) hb2).trans d3
        replace d4 := (lR.cell (p := ⟨b2, k * 2 + 1, none⟩) hb2).trans d4
        have l3 : (0 : Int) ≤ (k : Int) := by omega
        have l4 : (k : Int) < (l1.length : Int) := by omega
        have l5 : (k : Int) ≤ 65535 := by omega
        have Hstep := Lib.hid (take_same hpk hqk ht.out)
        have Hall := Lib.hid (show p ≠ q → l1 ≠ l2 from fun hn he => by subst he; rw [hpk] at hqk; exact hn (Option.some.inj hqk))
        obtain ⟨x1, y1⟩ := p
        obtain ⟨x2, y2⟩ := q
        simp only at d1 d2 d3 d4
        clear hc1 hc2 hpk hqk ht
        have hq := fun w => eqP x1 y1 x2 y2 w
        rcases e1 : (x1 == x2 && y1 == y2) with _ | _
        · have hd := Lib.hid (show decide (l1 = l2) = false from by
            rw [decide_eq_false_iff_not]
            refine Hall.out fun c => ?_
            simp only [Prod.mk.injEq] at c
            simp [c.1, c.2] at e1)
          simp only [e1] at hq
          clear Hall Hstep e1
          go_wp2_with fail
          go_quiet (fail)
          go_wp2_with fail
          go_ret
          exact ⟨ret_b hd.out.symm, ⟨lR.os, lR.tape, lR.output, lR.size, lR.block⟩⟩
        · have hd := Lib.hid (show l1.take (k + 1) = l2.take (k + 1) from by
            rw [Hstep.out]
            simp only [Bool.and_eq_true, beq_iff_eq] at e1
            rw [e1.1, e1.2])
          simp only [e1] at hq
          clear Hall Hstep e1
          go_wp2_with fail
          go_quiet (fail)
          go_wp2_with fail
          go_round
          case rel => exact ⟨k + 1, rfl, hlt, hd, ⟨lR.os, lR.tape, lR.output, lR.size, lR.block⟩⟩
          case measure => simp; omega
      · obtain rfl : k = l1.length := by omega
        have hd := Lib.hid (show decide (l1 = l2) = true from by
          rw [decide_eq_true_eq]
          have := ht.out
          rwa [List.take_length, hI, List.take_length] at this)
        clear ht hc1 hc2
        go_wp2_with fail
        go_ret
        exact ⟨ret_b hd.out.symm, lR⟩
  · have hn : ¬ (l1.length : Int) = (l2.length : Int) := by omega
    have hd := Lib.hid (show decide (l1 = l2) = false from by
      rw [decide_eq_false_iff_not]
      intro c
      exact hne (by rw [c]))
    clear hne hc1 hc2
    go_enter Tryd.func20, Tryd.ntmps20
    go_wp2
    go_ret
    exact ⟨ret_b hd.out.symm, Below.refl _ w⟩
end Go.Proofs.YtcangalpccppbaaDoor.Graph
