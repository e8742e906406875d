/- Of any clocks a watch tells what the document says: the law, walked. -/
import Derived.Test.YtpbabpbinojodaaDoorDriftIn
import Derived.Deep.DeepCutAuto
import Derived.Deep.LoopGhost
namespace Go.Proofs.YtpbabpbinojodaaDoor.Drift
open Go.RowKit
open Go.Proofs.YtpbabpbinojodaaDoor.Arith Go.Proofs.YtpbabpbinojodaaDoor.Nodes Go.Proofs.YtpbabpbinojodaaDoor.Heap Go.Proofs.YtpbabpbinojodaaDoor.RF
set_option linter.unusedVariables false
set_option linter.unusedSimpArgs false
def x0 : NC := ⟨0, none, 0, [], 0⟩
/-- What holds ahead of each round. -/
structure WInv (w : World) (slow fast E : Int) (q B : Nat) (i : Nat) (c : Wt) (x : NC) (V : World) : Prop where
  at_ : WAt V q c x.nt
  last : Blk V B 29 x.cells
  pc : Blk V w.heap.size 22 #[.int .i64 slow, .int .i64 fast]
  row : Row64 w x.ad x.zs
  s64 : x.s < 2 ^ 64
  len : x.zs.length ≤ 9223372036854775807
  eps : c.eps = E
  slow : c.slow = slow
  fast : c.fast = fast
  b1 : 0 ≤ c.apart ∧ c.apart ≤ i
  b2 : 0 ≤ c.pace ∧ c.pace ≤ 64 * i
  low : Below w.heap.size w V
theorem WInv.noteAt {w : World} {slow fast E : Int} {q B i : Nat} {c : Wt} {x : NC} {V : World} (h : WInv w slow fast E q B i c x V) : NoteAt V B 0 x :=
  ⟨h.last.lt, h.last.cell 0, h.last.cell 1, h.last.cell 2, h.row.below h.low (Nat.le_refl _), h.s64, h.len⟩
theorem fine_a {g E : Int} {o : Nat} (h : g ≤ E) : Value.bool ((o : Int) == 0) = .bool (decide (g ≤ E) && decide (o = 0)) := by
  rw [decide_eq_true h, Bool.true_and, show ((o : Int) == 0) = decide (o = 0) by rw [Bool.eq_iff_iff]; simp]
theorem fine_b {g E : Int} {o : Nat} (h : E < g) : Value.bool false = .bool (decide (g ≤ E) && decide (o = 0)) := by
  rw [decide_eq_false (by omega)]; rfl
theorem WAt.off {w w' : World} {q p : Nat} {c : Wt} {a : Nt} (h : WAt w q c a) (k : Off (fun j => j = p) w w') (hp : q ≠ p) : WAt w' q c a := by
  obtain ⟨T, A, m, hb, ht⟩ := h
  exact ⟨T, A, m, hb.off k hp, ht⟩
theorem WAt.fine' {w : World} {q : Nat} {c : Wt} {a : Nt} (h : WAt w q c a) :
    Calls Tryd.prog 13 #[.pointer (some ⟨q, 0, none⟩)] w fun r w' => r = .returned (.bool ((c.apart == 0) && (c.pace == 0))) ∧ w' = w := h.fine
theorem WInv.below {w : World} {slow fast E : Int} {q B i : Nat} {c : Wt} {x : NC} {V U : World} (h : WInv w slow fast E q B i c x V) (k : Below V.heap.size V U) : WInv w slow fast E q B i c x U :=
  ⟨h.at_.below k h.at_.lt, h.last.below k h.last.lt, h.pc.below k h.pc.lt, h.row, h.s64, h.len, h.eps, h.slow, h.fast, h.b1, h.b2, h.low.trans (k.mono h.low.size)⟩
/-- Behind Note: the watch is a note further; the last note is yet to be kept. -/
structure WMid (w : World) (slow fast E : Int) (q B : Nat) (i : Nat) (c : Wt) (x y : NC) (V : World) : Prop where
  at_ : WAt V q c y.nt
  last : Blk V B 29 x.cells
  pc : Blk V w.heap.size 22 #[.int .i64 slow, .int .i64 fast]
  eps : c.eps = E
  slow : c.slow = slow
  fast : c.fast = fast
  b1 : 0 ≤ c.apart ∧ c.apart ≤ i + 1
  b2 : 0 ≤ c.pace ∧ c.pace ≤ 64 * (i + 1)
  low : Below w.heap.size w V
theorem WInv.noted {w : World} {slow fast E : Int} {q B i o : Nat} {c c' : Wt} {x y : NC} {V U : World} (h : WInv w slow fast E q B i c x V) (ha : WAt U q c' y.nt) (k : Off (fun j => j = q) V U) (w4 : c'.pace = c.pace + o) (w5 : c'.eps = E) (w6 : c'.slow = slow) (w7 : c'.fast = fast)
    (b1 : 0 ≤ c'.apart ∧ c'.apart ≤ i + 1) (b2 : 0 ≤ c'.pace ∧ c'.pace ≤ 64 * (i + 1)) (hq : w.heap.size < q) (hB : q < B) : WMid w slow fast E q B i c' x y U :=
  ⟨ha, h.last.off k (by omega), h.pc.off k (by omega), w5, w6, w7, b1, b2, h.low.trans (off_low k (by omega) h.low.size)⟩
set_option maxRecDepth 100000 in
set_option maxHeartbeats 4000000 in
theorem watches_walk (w : World) (hT : Tab w) (eps : Int) (heps : (Lit.int .i64 eps).wf = true) (cs1 : Array Value) (g1 : Read.Rd Tryd.prog w 22 cs1.toList) (ad : Option Addr) (len cap : Nat) (g2 : Read.Rd Tryd.prog w 23 [.slice ad len cap]) :
    Calls Tryd.prog 3 #[.int .i64 eps, .agg cs1, .slice ad len cap] w fun e w' => e = .returned (.bool true) ∧ Below w.heap.size w w' := by
  obtain ⟨slow, fast, rfl, is, if_⟩ := two64_in g1
  obtain ⟨l, rfl, hlen, hN⟩ := notes_in g2
  have hw0 := hT.size
  have hE := wf_i64 heps
  clear g1 g2 heps
  obtain ⟨W, hW⟩ : ∃ W, (((w.alloc (.cells #[.int .i64 slow, .int .i64 fast] 22)).alloc (.cells (wl (w0 (max eps 0) slow fast) nz).toArray 52)).alloc (.cells #[.int .i64 0, .slice none 0 0, .int .u64 0] 29)) = W := ⟨_, rfl⟩
  have z1 : (w.alloc (.cells #[.int .i64 slow, .int .i64 fast] 22)).heap.size = w.heap.size + 1 := by simp
  have z2 : ((w.alloc (.cells #[.int .i64 slow, .int .i64 fast] 22)).alloc (.cells (wl (w0 (max eps 0) slow fast) nz).toArray 52)).heap.size = w.heap.size + 2 := by simp
  have HNw := Lib.hid (new_any eps slow fast (w.alloc (.cells #[.int .i64 slow, .int .i64 fast] 22)))
  have l1 : Below w.heap.size w W := by rw [← hW]; exact (((Below.refl _ w).alloc (Nat.le_refl _) _).alloc (by simp) _).alloc (by simp; omega) _
  have bP : Blk W w.heap.size 22 #[.int .i64 slow, .int .i64 fast] := by rw [← hW]; exact ((Blk.new w _ _).alloc _).alloc _
  have bW : WAt W (w.heap.size + 1) (w0 (max eps 0) slow fast) x0.nt := by
    rw [← hW]
    have := WAt.new (w.alloc (.cells #[.int .i64 slow, .int .i64 fast] 22)) (max eps 0) slow fast
    rw [z1] at this
    exact this.below ((Below.refl _ _).alloc (Nat.le_refl _) _) (by rw [z2]; omega)
  have bL : Blk W (w.heap.size + 2) 29 x0.cells := by
    rw [← hW]
    have := Blk.new ((w.alloc (.cells #[.int .i64 slow, .int .i64 fast] 22)).alloc (.cells (wl (w0 (max eps 0) slow fast) nz).toArray 52)) 29 x0.cells
    rwa [z2] at this
  rw [z1] at HNw
  obtain ⟨E, hEE⟩ : ∃ E, max eps 0 = E := ⟨_, rfl⟩
  have rE : 0 ≤ E ∧ E ≤ 9223372036854775807 := by unfold I64 at hE; omega
  rw [hEE] at HNw hW bW
  have HI0 : WInv w slow fast E (w.heap.size + 1) (w.heap.size + 2) 0 (w0 E slow fast) x0 W := ⟨bW, bL, bP, fun i hi => by simp [x0] at hi, by decide, by decide, rfl, rfl, rfl, ⟨by simp [w0], by simp [w0]⟩, ⟨by simp [w0], by simp [w0]⟩, l1⟩
  have HbP := Lib.hid bP
  have HW := Lib.hid hW
  have HN := Lib.hid hN
  have zW : W.heap.size = w.heap.size + 3 := by rw [← hW]; simp
  have HTW := Lib.hid hT
  have c0 : ∀ V : World, V.cell? ⟨w.heap.size, 0, none⟩ = V.cell? ⟨w.heap.size, 0, none⟩ := fun _ => rfl
  clear hN bW bL bP hW z1 z2 hT c0
  go_enter Tryd.func3, Tryd.ntmps3
  go_upto_region 4 with (first
    | (rw [HW.out])
    | (go_at_call 6; refine HNw.out.mono ?_; rintro e w' ⟨rfl, h⟩; rw [h]; clear h w'))
  go_cut [0] (fun s0 V => s0 = .int .i64 E ∧ V = W)
  case first =>
    go_wp2_with fail
    all_goals
      go_meet
      exact ⟨by congr 1; omega, rfl⟩
  case rest =>
    obtain ⟨rfl, rfl⟩ := hcut
    obtain ⟨q, hq⟩ : ∃ q, w.heap.size + 1 = q := ⟨_, rfl⟩
    rw [show w.heap.size + 2 = w.heap.size + 1 + 1 from rfl, hq] at HI0
    clear HNw HW hEE hE eps
    go_wp2_with fail
    simp only [hq]
    go_loopg [8, 9, 10, 11, 13] (l.length) (fun k v8 v9 v10 v11 v13 wr => ∃ (c : Wt) (x : NC) (i : Nat), k = l.length - i ∧ v8 = .int .i64 c.worst ∧ v9 = .int .i64 c.tick ∧ v10 = .int .i64 c.apart ∧ v11 = .int .i64 c.pace ∧ v13 = .int .i64 i ∧ i ≤ l.length ∧ i ≤ 30 ∧ RowKit.Hid (WInv w slow fast E q (q + 1) i c x wr))
    case atStart => exact ⟨w0 E slow fast, x0, 0, rfl, rfl, rfl, rfl, rfl, rfl, Nat.zero_le _, Nat.zero_le _, Lib.hid HI0⟩
    case round =>
      clear HI0 l1
      obtain ⟨c, x, i, hgk, rfl, rfl, rfl, rfl, rfl, hil, hi30, HI⟩ := hrel
      have Hgk := Lib.hid hgk
      clear hgk
      have hTr : Tab wr := HTW.out.below HI.out.low hw0
      by_cases hlt : i < l.length ∧ i < 30
      · obtain ⟨hi, h30⟩ := hlt
        obtain ⟨y, hy⟩ : ∃ y, l[i]? = some y := ⟨_, List.getElem?_eq_getElem hi⟩
        obtain ⟨b, off, rfl, hn⟩ := HN.out i y hy
        have hlow := HI.out.low
        have q1 : (0 : Int) ≤ (i : Int) := by omega
        have q2 : (i : Int) < (l.length : Int) := by omega
        have q3 : (i : Int) < 30 := by omega
        have hnV := hn.below hlow (Nat.le_refl _)
        have y0 := hnV.c0
        have y1 := hnV.c1
        have y2 := hnV.c2
        have HG := Lib.hid (refgap_any y.tick y.ad y.cap y.zs y.s hn.s64 hn.len wr hnV.row)
        have Hn := Lib.hid hn
        clear hnV hn hlow hy
        go_upto_region 9 with (go_at_call 7; refine HG.out.mono ?_; rintro e V1 ⟨g, rfl, hg, k1⟩)
        have I1 := HI.out.below k1
        have hzq : w.heap.size < wr.heap.size := HI.out.pc.lt
        have n1 := I1.noteAt
        have v0 : V1.cell? ⟨q + 1, 0, none⟩ = some (.int .i64 x.tick) := n1.c0
        have v1 : V1.cell? ⟨q + 1, 1, none⟩ = some (.slice x.ad x.zs.length x.cap) := n1.c1
        have v2 : V1.cell? ⟨q + 1, 2, none⟩ = some (.int .u64 (x.s : Nat)) := n1.c2
        have hnV := Hn.out.below I1.low (Nat.le_refl _)
        have u0 := hnV.c0
        have u1 := hnV.c1
        have u2 := hnV.c2
        have p0 : V1.cell? ⟨w.heap.size, 0, none⟩ = some (.int .i64 slow) := I1.pc.cell 0
        have p1 : V1.cell? ⟨w.heap.size, 1, none⟩ = some (.int .i64 fast) := I1.pc.cell 1
        have HP := refpace_any x.tick x.ad x.cap x.zs x.s n1.s64 n1.len y.tick y.ad y.cap y.zs y.s hnV.s64 hnV.len slow fast is if_ V1.drew n1.row hnV.row
        obtain ⟨o, ho⟩ : ∃ o, outOf x.nt y.nt slow fast = o := ⟨_, rfl⟩
        have ho2 : outOf ⟨x.tick, x.zs, x.s⟩ ⟨y.tick, y.zs, y.s⟩ slow fast = o := ho
        rw [ho2] at HP
        have o64 : o ≤ 64 := by rw [← ho]; exact outOf_le _ _ _ _
        have HP := Lib.hid HP
        have HS := Lib.hid (fun (V : World) (k : Below V1.heap.size V1 V) => (show V.cell? ⟨q + 1, 0, none⟩ = some (.int .i64 x.tick) ∧ V.cell? ⟨q + 1, 1, none⟩ = some (.slice x.ad x.zs.length x.cap) ∧ V.cell? ⟨q + 1, 2, none⟩ = some (.int .u64 (x.s : Nat)) ∧ V.cell? ⟨b, off + i * 3, none⟩ = some (.int .i64 y.tick) ∧ V.cell? ⟨b, off + i * 3 + 1, none⟩ = some (.slice y.ad y.zs.length y.cap) ∧ V.cell? ⟨b, off + i * 3 + 2, none⟩ = some (.int .u64 (y.s : Nat)) ∧ V.cell? ⟨w.heap.size, 0, none⟩ = some (.int .i64 slow) ∧ V.cell? ⟨w.heap.size, 1, none⟩ = some (.int .i64 fast) from ⟨(k.cell (p := ⟨q + 1, 0, none⟩) n1.lt).trans v0, (k.cell (p := ⟨q + 1, 1, none⟩) n1.lt).trans v1, (k.cell (p := ⟨q + 1, 2, none⟩) n1.lt).trans v2, (k.cell (p := ⟨b, _, none⟩) hnV.lt).trans u0, (k.cell (p := ⟨b, _, none⟩) hnV.lt).trans u1, (k.cell (p := ⟨b, _, none⟩) hnV.lt).trans u2, (k.cell (p := ⟨w.heap.size, 0, none⟩) I1.pc.lt).trans p0, (k.cell (p := ⟨w.heap.size, 1, none⟩) I1.pc.lt).trans p1⟩))
        have HI1 := Lib.hid I1
        have Ho := Lib.hid ho
        have Hgap := Lib.hid hg
        have rg := hg.nn
        have rg2 := hg.most
        clear y0 y1 y2 HG hnV n1 v0 v1 v2 u0 u1 u2 p0 p1 I1 ho ho2 hg k1 HI hTr
        go_region_held3 (fun V => V.cell? ⟨q + 1, 0, none⟩ = some (.int .i64 x.tick) ∧ V.cell? ⟨q + 1, 1, none⟩ = some (.slice x.ad x.zs.length x.cap) ∧ V.cell? ⟨q + 1, 2, none⟩ = some (.int .u64 (x.s : Nat)) ∧ V.cell? ⟨b, off + i * 3, none⟩ = some (.int .i64 y.tick) ∧ V.cell? ⟨b, off + i * 3 + 1, none⟩ = some (.slice y.ad y.zs.length y.cap) ∧ V.cell? ⟨b, off + i * 3 + 2, none⟩ = some (.int .u64 (y.s : Nat)) ∧ V.cell? ⟨w.heap.size, 0, none⟩ = some (.int .i64 slow) ∧ V.cell? ⟨w.heap.size, 1, none⟩ = some (.int .i64 fast)) (first | exact HS.out _ (Below.refl _ _).drew | exact HS.out _ ((Below.refl _ V1).drew.trans k2)) ((go_at_call 8; refine HP.out.mono ?_; rintro e V2 ⟨rfl, k2⟩))
        have HI2 := Lib.hid (HI1.out.below ((Below.refl _ V1).drew.trans k2))
        clear HI1 HS HP k2
        go_upto_region 10 with fail
        go_cut [16] (fun s16 V => s16 = .bool (decide (g ≤ E) && decide (o = 0)) ∧ V = V2)
        case first =>
          go_wp2_with fail
          all_goals
            go_meet
            first
              | exact ⟨fine_a (by assumption), rfl⟩
              | exact ⟨fine_b (by assumption), rfl⟩
        case rest =>
          obtain ⟨rfl, hV⟩ := hcut
          rw [hV]
          clear hV
          have hT2 := HTW.out.below HI2.out.low hw0
          have HNo := HI2.out.at_.drew.note y.tick y.ad y.cap y.zs y.s Hn.out.s64 Hn.out.len (Hn.out.row.below (HI2.out.low.drew) (Nat.le_refl _)) hT2 (by rw [HI2.out.slow]; exact is) (by rw [HI2.out.fast]; exact if_) (by have := HI2.out.b1; omega) (by have := HI2.out.b2; omega) g Hgap.out
          rw [HI2.out.eps, HI2.out.slow, HI2.out.fast, show outOf x.nt ⟨y.tick, y.zs, y.s⟩ slow fast = o from Ho.out] at HNo
          obtain ⟨bf, hbf⟩ : ∃ bf, (decide (g ≤ E) && decide (o = 0)) = bf := ⟨_, rfl⟩
          rw [hbf] at HNo ⊢
          obtain ⟨c', hc'⟩ : ∃ c', stepW c g (tm y.tick) o = c' := ⟨_, rfl⟩
          rw [hc'] at HNo
          have w1 : c'.worst = if c.worst < g then g else c.worst := by rw [← hc']; rfl
          have w2 : c'.tick = if c.worst < g then tm y.tick else c.tick := by rw [← hc']; rfl
          have w3 : c'.apart = c.apart + if E < g then 1 else 0 := by rw [← hc', ← HI2.out.eps]; rfl
          have w4 : c'.pace = c.pace + o := by rw [← hc']; rfl
          have w5 : c'.eps = E := by rw [← hc', ← HI2.out.eps]; rfl
          have w6 : c'.slow = slow := by rw [← hc', ← HI2.out.slow]; rfl
          have w7 : c'.fast = fast := by rw [← hc', ← HI2.out.fast]; rfl
          have b1 := HI2.out.b1
          have b2 := HI2.out.b2
          have hbb : (bf != bf) = false := by simp
          have hny := Hn.out.below HI2.out.low (Nat.le_refl _)
          have hbw := Hn.out.lt
          have HS := Lib.hid (fun (V : World) (k : Off (fun j => j = q) V2 V) => (show V.cell? ⟨b, off + i * 3, none⟩ = some (.int .i64 y.tick) ∧ V.cell? ⟨b, off + i * 3 + 1, none⟩ = some (.slice y.ad y.zs.length y.cap) ∧ V.cell? ⟨b, off + i * 3 + 2, none⟩ = some (.int .u64 (y.s : Nat)) from ⟨(k.cell (p := ⟨b, _, none⟩) hny.lt (by show ¬ b = q; omega)).trans hny.c0, (k.cell (p := ⟨b, _, none⟩) hny.lt (by show ¬ b = q; omega)).trans hny.c1, (k.cell (p := ⟨b, _, none⟩) hny.lt (by show ¬ b = q; omega)).trans hny.c2⟩))
          have HW1 := Lib.hid w1
          have HW2 := Lib.hid w2
          have HW3 := Lib.hid w3
          have HNo := Lib.hid HNo
          clear hbf hc' w1 w2 w3 hny hT2
          go_upto_region 11 with fail
          go_region_held3 (fun V => V.cell? ⟨b, off + i * 3, none⟩ = some (.int .i64 y.tick) ∧ V.cell? ⟨b, off + i * 3 + 1, none⟩ = some (.slice y.ad y.zs.length y.cap) ∧ V.cell? ⟨b, off + i * 3 + 2, none⟩ = some (.int .u64 (y.s : Nat))) (first | exact HS.out _ (Off.refl _ _).drew | exact HS.out _ ((Off.refl _ V2).drew.trans k3)) ((go_at_call 9; refine HNo.out.mono ?_; rintro e V3 ⟨rfl, a3, k3⟩))
          have k4 : Off (fun j => j = q) V2 V3 := (Off.refl _ V2).drew.trans k3
          have HI3 := Lib.hid (HI2.out.noted a3 k4 w4 w5 w6 w7 (by rw [HW3.out]; have := HI2.out.b1; split <;> omega) (by have := HI2.out.b2; omega) (by omega) (by omega))
          clear HS HNo a3 k3 k4
          have hny := Hn.out.below HI3.out.low (Nat.le_refl _)
          have u0 := hny.c0
          have u1 := hny.c1
          have u2 := hny.c2
          have hlB := HI3.out.last
          have f0 := hlB.frozen 0
          have f1 := hlB.frozen 1
          have f2 := hlB.frozen 2
          have d0 : V3.cell? ⟨q + 1, 0, none⟩ = some (.int .i64 x.tick) := hlB.cell 0
          have d1 : V3.cell? ⟨q + 1, 1, none⟩ = some (.slice x.ad x.zs.length x.cap) := hlB.cell 1
          have d2 : V3.cell? ⟨q + 1, 2, none⟩ = some (.int .u64 (x.s : Nat)) := hlB.cell 2
          have HlB := Lib.hid hlB
          clear hny hlB
          go_upto_if 82 with fail
          go_cut [10] (fun s10 V => s10 = .int .i64 c'.apart ∧ V = V3)
          case first =>
            go_wp2_with fail
            all_goals
              go_meet
              exact ⟨by rw [HW3.out]; congr 1; split <;> omega, rfl⟩
          case rest =>
            obtain ⟨rfl, hV⟩ := hcut
            rw [hV]
            clear hV
            go_upto_if 87 with fail
            go_cut [8, 9] (fun s8 s9 V => s8 = .int .i64 c'.worst ∧ s9 = .int .i64 c'.tick ∧ V = V3)
            case first =>
              go_wp2_with (go_at_call 10; refine (SpanD.rclamp_any y.tick 0 1152921504606846976 _).mono ?_; rintro e w' ⟨rfl, rfl⟩)
              all_goals
                go_meet
                refine ⟨by rw [HW1.out]; first | rw [if_pos (by assumption)] | rw [if_neg (by omega)], ?_, rfl⟩
                first
                  | (rw [HW2.out, if_pos (by assumption)]; rfl)
                  | rw [HW2.out, if_neg (by omega)]
            case rest =>
              obtain ⟨rfl, rfl, hV⟩ := hcut
              rw [hV]
              clear hV
              go_upto_region 19 with fail
              rw [show c.pace + (o : Int) = c'.pace from w4.symm]
              generalize hV4 : World.setCell _ ⟨q + 1, 2, none⟩ _ = V4
              have bL4 : Blk V4 (q + 1) 29 y.cells := by
                rw [← hV4]
                exact ((HlB.out.put 0 _).put 1 _).put 2 _
              have o4 : Off (fun j => j = q + 1) V3 V4 := by
                rw [← hV4]
                exact off_put (off_put (off_put (Off.refl (fun j => j = q + 1) V3) rfl _ _) rfl _ _) rfl _ _
              have a4 := HI3.out.at_.off o4 (by omega)
              have pc4 := HI3.out.pc.off o4 (by omega)
              have l4 : Below w.heap.size w V4 := HI3.out.low.trans (off_low o4 (by omega) HI3.out.low.size)
              have HWo := a4.worst
              have HCo := a4.drew.count
              obtain ⟨W1, hW1⟩ : ∃ W1, c'.worst = W1 := ⟨_, rfl⟩
              obtain ⟨T1, hT1⟩ : ∃ T1, c'.tick = T1 := ⟨_, rfl⟩
              obtain ⟨A1, hA1⟩ : ∃ A1, c'.apart = A1 := ⟨_, rfl⟩
              obtain ⟨P1, hP1⟩ : ∃ P1, c'.pace = P1 := ⟨_, rfl⟩
              have n1 : (W1 != c'.worst) = false := by rw [hW1]; simp
              have n2 : (T1 != c'.tick) = false := by rw [hT1]; simp
              have n3 : (A1 != c'.apart) = false := by rw [hA1]; simp
              have n4 : (P1 != c'.pace) = false := by rw [hP1]; simp
              rw [hW1, hT1] at HWo
              rw [hA1, hP1] at HCo
              have HWo := Lib.hid HWo
              have HCo := Lib.hid HCo
              clear hW1 hT1 hA1 hP1
              have HFi := a4.drew.drew.fine'
              have HI4 : WInv w slow fast E q (q + 1) (i + 1) c' y V4.drew.drew := ⟨a4.drew.drew, bL4, pc4, Hn.out.row, Hn.out.s64, Hn.out.len, w5, w6, w7, HI3.out.b1, HI3.out.b2, l4.drew.drew⟩
              have HI4 := Lib.hid HI4
              clear w4 w5 w6 w7 b1 b2 hbb hbw HW1 HW2 HW3 HI3 u0 u1 u2 f0 f1 f2 d0 d1 d2 HlB hV4 bL4 o4 a4 pc4 l4 HI2 Hgap Ho Hn HN is if_ rE rg rg2 hlen hzq
              rcases e5 : (c'.apart == 0) with _ | _ <;> rcases e6 : (c'.pace == 0) with _ | _
              all_goals
                rw [e5, e6] at HFi
                have HFi := Lib.hid HFi
                go_wp2_with (first
                  | (go_at_call 11; refine HWo.out.mono ?_; rintro e w' ⟨rfl, h⟩; rw [h]; clear h w')
                  | (go_at_call 12; refine HCo.out.mono ?_; rintro e w' ⟨rfl, h⟩; rw [h]; clear h w')
                  | (go_at_call 13; refine HFi.out.mono ?_; rintro e w' ⟨rfl, h⟩; rw [h]; clear h w'))
                go_roundg (l.length - (i + 1))
                case measure => have := Hgk.out; omega
                case rel => exact ⟨c', y, i + 1, rfl, rfl, rfl, rfl, rfl, rfl, hi, h30, HI4⟩
      · have HWk := Lib.hid (works_any wr hTr)
        by_cases hlt2 : i < l.length
        · have h30 : ¬ (i : Int) < 30 := by omega
          have h31 : (i : Int) < (l.length : Int) := by omega
          go_wp2_with (go_at_call 14; refine HWk.out.mono ?_; rintro e w2 ⟨rfl, l2⟩)
          go_ret
          exact ⟨rfl, HI.out.low.trans (l2.mono HI.out.low.size)⟩
        · have h31 : ¬ (i : Int) < (l.length : Int) := by omega
          go_wp2_with (go_at_call 14; refine HWk.out.mono ?_; rintro e w2 ⟨rfl, l2⟩)
          go_ret
          exact ⟨rfl, HI.out.low.trans (l2.mono HI.out.low.size)⟩
end Go.Proofs.YtpbabpbinojodaaDoor.Drift
