/- FloodRuns: walked. -/
import Derived.Test.YtmbblhajbecomaaDoorFloodWorks
namespace Go.Proofs.YtmbblhajbecomaaDoor.Flood
open Go.RowKit
open Go.Proofs.YtmbblhajbecomaaDoor.RF Go.Proofs.YtmbblhajbecomaaDoor.Heap Go.Proofs.YtmbblhajbecomaaDoor.Nodes Go.Proofs.YtmbblhajbecomaaDoor.Graph Go.Proofs.YtmbblhajbecomaaDoor.Reach
set_option linter.unusedVariables false
set_option linter.unusedSimpArgs false

set_option maxRecDepth 100000 in
set_option maxHeartbeats 8000000 in
theorem floodruns_walk (w : World) (hT : Tab w) (n0 : Int) (la : Option Addr) (ln lc : Nat) (ls : List (Int × Int)) (hp : PairIn w la ln lc ls) (src : Int) (dl : List (List Int)) (mu : List Nat) (da ma : Option Addr) (dc mc : Nat) (hd : DelayAt w.heap.size w da dl) (hm : MuteAt w.heap.size w ma mu) (hmu : mu.length * 8 ≤ 140737488351232) :
    Calls Tryd.prog 8 #[.agg #[.int .i64 n0, .slice la ln lc, .int .i64 src, .slice da dl.length dc, .slice ma mu.length mc]] w fun e w' => e = .returned (.bool true) ∧ Below w.heap.size w w' := by
  obtain ⟨W, hW⟩ : ∃ W, w.alloc (.cells #[.int .i64 n0, .slice la ln lc, .int .i64 src, .slice da dl.length dc, .slice ma mu.length mc] 64) = W := ⟨_, rfl⟩
  have b0 : Blk W w.heap.size 64 #[.int .i64 n0, .slice la ln lc, .int .i64 src, .slice da dl.length dc, .slice ma mu.length mc] := by rw [← hW]; exact Blk.new w _ _
  have low : Below w.heap.size w W := by rw [← hW]; exact (Below.refl _ w).alloc (Nat.le_refl _) _
  have c0 := b0.cell 0
  have c1 := b0.cell 1
  have c2 := b0.cell 2
  have c3 := b0.cell 3
  have c4 := b0.cell 4
  simp at c0 c1 c2 c3 c4
  have hT1 := hT.below low hT.size
  have HRn := Lib.hid (lawrun_any W hT1 n0 la ln lc ls (hp.below low) src dl mu da ma dc mc ((hd.keep fun i hi => low.block i hi).mono low.size) ((hm.keep fun i hi => low.block i hi).mono low.size) hmu)
  have HW := Lib.hid hW
  have Low := Lib.hid low
  clear hW low hd hm hp
  go_enter Tryd.func8, Tryd.ntmps8
  go_upto_region 1 with (fail)
  rw [HW.out]
  clear HW
  go_upto_region 2 with (go_at_call 29; refine HRn.out.mono ?_; rintro e w2 ⟨m, G, R, near, L, ha, hc, v1, v2, r, rfl, m1, m2, hnl, hL, HMa, HG, HP, O1, O2, HF, HR, HL⟩)
  obtain ⟨a1, q1, rfl⟩ := own_form O1.out
  obtain ⟨a2, q2, rfl⟩ := own_form O2.out
  have hrl := HF.out.few
  clear c0 c1 c2 c3 c4 b0 HRn
  obtain ⟨W3, hW3⟩ : ∃ W3, w2.alloc (.cells #[.int .i64 (m : Nat), .slice ha L.length hc] 27) = W3 := ⟨_, rfl⟩
  have l3 : Below w2.heap.size w2 W3 := by rw [← hW3]; exact (Below.refl _ _).alloc (Nat.le_refl _) _
  have z3 := l3.size
  rw [hW3]
  have lw := HL.out.size
  have lW := Low.out.size
  have hT3 : Tab W3 := (hT1.below HL.out hT1.size).below l3 (by have := hT1.size; omega)
  have L3 : RowKit.Hid (Below w.heap.size w W3) := Lib.hid ((Low.out.trans (HL.out.mono lW)).trans (l3.mono (by omega)))
  have P1 := Lib.hid (own_below O1.out l3)
  have P2 := Lib.hid (own_below O2.out l3)
  have HT3 := Lib.hid hT3
  clear hW3 l3 hT3 O1 O2 hT hT1
  go_wp2_with fail
  go_loopw [23] (fun v23 wr => ∃ k : Nat, v23 = .int .i64 k ∧ k ≤ r.length ∧ RowKit.Hid (Below W3.heap.size W3 wr)) (fun v23 _ => r.length - (intOf v23).toNat)
  case atStart => exact ⟨0, rfl, Nat.zero_le _, Lib.hid (Below.refl _ _)⟩
  case round =>
    obtain ⟨k, rfl, hk, LR⟩ := hrel
    have lR := LR.out.size
    by_cases hlt : k < r.length
    · obtain ⟨x, hx⟩ : ∃ x, r[k]? = some x := ⟨_, List.getElem?_eq_getElem hlt⟩
      obtain ⟨_, _, e1, h1⟩ := own_arr (own_below P1.out LR.out)
      obtain ⟨_, _, e2, h2⟩ := own_arr (own_below P2.out LR.out)
      simp only [Value.slice.injEq] at e1 e2
      obtain ⟨g1, hb1, hg1, _, x0, x1, x2, x3⟩ := h1 k x hx
      obtain ⟨g2, hb2, hg2, _, y0, y1, y2, y3⟩ := h2 k x hx
      rw [← e1.1] at hb1
      rw [← e2.1] at hb2
      subst hb1
      subst hb2
      have j1 : (0 : Int) ≤ (k : Int) := by omega
      have j2 : (k : Int) < (r.length : Int) := by omega
      have j3 : (k : Int) ≤ 65535 := by omega
      clear e1 h1 e2 h2 hx
      go_upto_region 7 with (fail)
      obtain ⟨V, hV⟩ : ∃ V, wr.alloc (.cells #[.int .i64 x.node, .int .i64 x.time, .int .i64 x.hops, .int .i64 x.frm] 70) = V := ⟨_, rfl⟩
      have bV : Blk V wr.heap.size 70 #[.int .i64 x.node, .int .i64 x.time, .int .i64 x.hops, .int .i64 x.frm] := by rw [← hV]; exact Blk.new wr _ _
      have lV : Below wr.heap.size wr V := by rw [← hV]; exact (Below.refl _ _).alloc (Nat.le_refl _) _
      have p0 : V.cell? ⟨g1, k * 4, none⟩ = some (.int .i64 x.node) := (lV.cell (p := ⟨g1, k * 4, none⟩) hg1).trans x0
      have p1 : V.cell? ⟨g1, k * 4 + 1, none⟩ = some (.int .i64 x.time) := (lV.cell (p := ⟨g1, k * 4 + 1, none⟩) hg1).trans x1
      have p2 : V.cell? ⟨g1, k * 4 + 2, none⟩ = some (.int .i64 x.hops) := (lV.cell (p := ⟨g1, k * 4 + 2, none⟩) hg1).trans x2
      have p3 : V.cell? ⟨g1, k * 4 + 3, none⟩ = some (.int .i64 x.frm) := (lV.cell (p := ⟨g1, k * 4 + 3, none⟩) hg1).trans x3
      have q0 : V.cell? ⟨wr.heap.size, 0, none⟩ = some (.int .i64 x.node) := bV.cell 0
      have q1 : V.cell? ⟨wr.heap.size, 1, none⟩ = some (.int .i64 x.time) := bV.cell 1
      have q2 : V.cell? ⟨wr.heap.size, 2, none⟩ = some (.int .i64 x.hops) := bV.cell 2
      have q3 : V.cell? ⟨wr.heap.size, 3, none⟩ = some (.int .i64 x.frm) := bV.cell 3
      have LV := Lib.hid (LR.out.trans (lV.mono lR))
      rw [hV]
      clear hV bV lV x0 x1 x2 x3 y0 y1 y2 y3
      go_region_held3 (fun U => U.cell? ⟨g1, k * 4, none⟩ = some (.int .i64 x.node) ∧ U.cell? ⟨g1, k * 4 + 1, none⟩ = some (.int .i64 x.time) ∧ U.cell? ⟨g1, k * 4 + 2, none⟩ = some (.int .i64 x.hops) ∧ U.cell? ⟨g1, k * 4 + 3, none⟩ = some (.int .i64 x.frm) ∧ U.cell? ⟨wr.heap.size, 0, none⟩ = some (.int .i64 x.node) ∧ U.cell? ⟨wr.heap.size, 1, none⟩ = some (.int .i64 x.time) ∧ U.cell? ⟨wr.heap.size, 2, none⟩ = some (.int .i64 x.hops) ∧ U.cell? ⟨wr.heap.size, 3, none⟩ = some (.int .i64 x.frm)) ((go_keep; done)) (fail)
      go_wp2_with fail
      go_roundw
      case rel => exact ⟨k + 1, by go_num, hlt, Lib.hid LV.out.drew⟩
      case measure => simp [intOf]; omega
    · obtain rfl : k = r.length := by omega
      have HWk := Lib.hid (floodworks_any wr (HT3.out.below LR.out HT3.out.size))
      go_wp2_with (go_at_call 30; refine HWk.out.mono ?_; rintro e w9 ⟨rfl, b9⟩)
      go_ret
      exact ⟨rfl, (L3.out.trans (LR.out.mono L3.out.size)).trans (b9.mono (by have := L3.out.size; omega))⟩
end Go.Proofs.YtmbblhajbecomaaDoor.Flood
