/- The laws' walks: CutLess. -/
import Derived.Test.YtmbblhajbecomaaDoorCutWorks
import Derived.Test.YtmbblhajbecomaaDoorCutLaw
namespace Go.Proofs.YtmbblhajbecomaaDoor.Cut
open Go.RowKit
open Go.Proofs.YtmbblhajbecomaaDoor.RF Go.Proofs.YtmbblhajbecomaaDoor.Heap Go.Proofs.YtmbblhajbecomaaDoor.Nodes Go.Proofs.YtmbblhajbecomaaDoor.Graph Go.Proofs.YtmbblhajbecomaaDoor.Reach
set_option linter.unusedVariables false
set_option linter.unusedSimpArgs false
set_option maxRecDepth 100000 in
set_option maxHeartbeats 8000000 in
theorem cutless_walk (w : World) (hT : Tab w) (n : Int) (la : Option Addr) (ll lc : Nat) (ls : List (Int × Int)) (hp : PairIn w la ll lc ls) (x : Int) (hx : 0 ≤ x ∧ x ≤ 255) :
    Calls Tryd.prog 6 #[.agg #[.int .i64 n, .slice la ll lc], .int .u8 x] w fun e w' => e = .returned (.bool true) ∧ Below w.heap.size w w' := by
  obtain ⟨r, hr⟩ : ∃ r, x % 4 = r := ⟨_, rfl⟩
  have hrb : 0 ≤ r ∧ r ≤ 3 := by omega
  have wr1 : IntKind.i64.wrap (r - 1) = r - 1 := IntWalk.i64_in _ (by omega)
  have Hr := Lib.hid hr
  clear hr
  obtain ⟨W, hW⟩ : ∃ W, w.alloc (.cells #[.int .i64 n, .slice la ll lc] 24) = W := ⟨_, rfl⟩
  have bW : Blk W w.heap.size 24 #[.int .i64 n, .slice la ll lc] := by rw [← hW]; exact Blk.new w _ _
  have lW0 : Below w.heap.size w W := by rw [← hW]; exact (Below.refl _ w).alloc (Nat.le_refl _) _
  have hF := Lib.hid (few_any W n la ll lc)
  have hM := Lib.hid (fun V (k : Below W.heap.size W V) => seven_ex V n la ll lc ls ((hp.below lW0).below k))
  have c0 := bW.cell 0
  have c1 := bW.cell 1
  simp at c0 c1
  have HW := Lib.hid hW
  have lW := Lib.hid lW0
  clear hW lW0 hp bW
  go_enter Tryd.func6, Tryd.ntmps6
  go_upto_region 1 with (fail)
  rw [HW.out]
  clear HW
  go_upto_region 2 with (first | (go_at_call 13; refine hF.out.mono ?_; rintro e w1 ⟨rfl, b1⟩) | (go_at_call 12; refine (hM.out _ b1).mono ?_; rintro e w2 ⟨b2, m, G, R, near, L, ha, hcp, rfl, hm1, hm2, hnl, hLl, hNw, hMt, hG, hP⟩))
  obtain ⟨W4, hW4⟩ : ∃ W4, w2.alloc (.cells #[.int .i64 (m : Nat), .slice ha L.length hcp] 27) = W4 := ⟨_, rfl⟩
  have bW4 : Blk W4 w2.heap.size 27 #[.int .i64 (m : Nat), .slice ha L.length hcp] := by rw [← hW4]; exact Blk.new w2 _ _
  have l24 : Below w2.heap.size w2 W4 := by rw [← hW4]; exact (Below.refl _ w2).alloc (Nat.le_refl _) _
  rw [hW4]
  have lw1 : Below w.heap.size w w1 := lW.out.trans (b1.mono lW.out.size)
  have lw2 : Below w.heap.size w w2 := lw1.trans (b2.mono lw1.size)
  have lW4 : Below w.heap.size w W4 := lw2.trans (l24.mono lw2.size)
  have hok : Ok near := hMt.out.ok (by omega)
  have hsy : Sym near := hMt.out.sym
  have h9 : near.length < 9 := by omega
  have g4 := hG.out.below l24 (Nat.le_refl _)
  have p4 := hP.out.off l24
  have d0 := bW4.cell 0
  have d1 := bW4.cell 1
  simp at d0 d1
  have HB4 := Lib.hid bW4
  have hT4 := hT.below lW4 hT.size
  have s4 := lW4.size
  have q4 : w2.heap.size < W4.heap.size := HB4.out.lt
  clear hW4 bW4 hM hF c0 c1 b1 b2 lW hG lw1 lw2
  go_upto_region 3 with (fail)
  rw [Hr.out]
  have HRn := Lib.hid (fun (V : World) (k : Below W4.heap.size W4 V) (i : Nat) => refnear_any m (.slice ha L.length hcp) L (i : Nat) V (p4.off k) (by omega) (by omega))
  have HSf := Lib.hid (fun (V : World) (k : Below W4.heap.size W4 V) (x : Int) => safe_any (g4.below k (Nat.le_refl _)) (hT4.below k hT4.size) hok hsy h9 x)
  have HWk := Lib.hid (fun (V : World) (k : Below W4.heap.size W4 V) => cutworks_any V (hT4.below k hT4.size))
  have HS := Lib.hid (fun (V : World) (k : Below W4.heap.size W4 V) => (show V.cell? ⟨w2.heap.size, 0, none⟩ = some (.int .i64 (m : Nat)) ∧ V.cell? ⟨w2.heap.size, 1, none⟩ = some (.slice ha L.length hcp) from ⟨(k.cell (p := ⟨w2.heap.size, 0, none⟩) q4).trans d0, (k.cell (p := ⟨w2.heap.size, 1, none⟩) q4).trans d1⟩))
  have HL := Lib.hid lW4
  have wm : IntKind.i64.wrap ((m : Int) - 1) = (m : Int) - 1 := IntWalk.i64_in _ (by omega)
  have H5 := HSf.out W4 (Below.refl _ _) r
  rcases hb : safeF near r with _ | _
  · rw [hb] at H5
    have H5 := Lib.hid H5
    clear g4 p4 hT4 hok hsy lW4 hP HB4 hMt hT h9 l24 d0 d1 hb hNw HRn HSf HS
    go_wp2_with fail
    refine H5.out.mono ?_
    rintro e w5 ⟨rfl, b5⟩
    have H6 := Lib.hid (HWk.out _ b5)
    go_wp2_with (go_at_call 18; refine H6.out.mono ?_; rintro e w6 ⟨rfl, b6⟩)
    go_ret
    exact ⟨rfl, HL.out.trans ((b5.trans (b6.mono b5.size)).mono HL.out.size)⟩
  · rw [hb] at H5
    have H5 := Lib.hid H5
    have Hdeg := Lib.hid (fun (i : Nat) (hi : i < m) (c1 : ((refNear m L (i : Nat)).length : Int) ≤ r) (c2 : ((refNear m L (i : Nat)).length : Int) < (m : Int) - 1) => safe_deg hMt.out hNw.out.1 (by omega) hb hi c1 c2)
    have Hls := Lib.hid (fun h => safe_less (k := r) hb h)
    clear g4 p4 hT4 hok hsy lW4 hP HB4 hMt hT h9 l24 d0 d1 hb hNw
    go_wp2_with fail
    refine H5.out.mono ?_
    rintro e w5 ⟨rfl, b5⟩
    have B5 := Lib.hid b5
    clear H5 b5
    go_wp2_with fail
    go_loopg [8, 9] m (fun q v8 v9 wr => ∃ (i : Nat), q = m - i ∧ v8 = .int .i64 i ∧ i ≤ m ∧ Below W4.heap.size W4 wr)
    case atStart => exact ⟨0, rfl, rfl, by omega, B5.out⟩
    case round =>
      obtain ⟨i, hgi, rfl, hi, lR⟩ := hrel
      obtain ⟨d0, d1⟩ := HS.out _ lR
      have HR := Lib.hid lR
      have Hgi := Lib.hid hgi
      clear hgi
      by_cases hlt : i < m
      · have hlt2 : (i : Int) < (m : Int) := by omega
        have HC := HRn.out wr lR i
        have hdeg := Hdeg.out i hlt
        obtain ⟨d, hd⟩ : ∃ d, (refNear m L (i : Nat)).length = d := ⟨_, rfl⟩
        rw [hd] at HC hdeg
        have HC := Lib.hid HC
        have hq := Nat.lt_of_lt_of_le q4 lR.size
        clear hd lR
        by_cases c1 : (d : Int) ≤ r
        · have c2 : ¬ (d : Int) < (m : Int) - 1 := fun c => hdeg c1 c
          clear hdeg
          go_wp2_with (go_at_call 24; refine HC.out.mono ?_; rintro e w6 ⟨v, rfl, own, b6⟩; obtain ⟨A, C, rfl⟩ := own_form own; clear own; have d2 := (b6.cell (p := ⟨w2.heap.size, 0, none⟩) hq).trans d0)
          go_roundg (m - (i + 1))
          case measure => have := Hgi.out; omega
          case rel => exact ⟨i + 1, rfl, rfl, hlt, HR.out.trans (b6.mono HR.out.size)⟩
        · clear hdeg
          go_wp2_with (go_at_call 24; refine HC.out.mono ?_; rintro e w6 ⟨v, rfl, own, b6⟩; obtain ⟨A, C, rfl⟩ := own_form own; clear own; have d2 := (b6.cell (p := ⟨w2.heap.size, 0, none⟩) hq).trans d0)
          go_roundg (m - (i + 1))
          case measure => have := Hgi.out; omega
          case rel => exact ⟨i + 1, rfl, rfl, hlt, HR.out.trans (b6.mono HR.out.size)⟩
      · obtain rfl : i = m := by omega
        by_cases hr0 : r = 0
        · subst hr0
          have H6 := Lib.hid (HWk.out _ lR)
          clear lR
          go_wp2_with (go_at_call 18; refine H6.out.mono ?_; rintro e w6 ⟨rfl, b6⟩)
          go_ret
          exact ⟨rfl, HL.out.trans ((HR.out.trans (b6.mono HR.out.size)).mono HL.out.size)⟩
        · have hr1 : (r == 0) = false := by simp; omega
          have HC := HSf.out wr lR (r - 1)
          rw [Hls.out (by omega)] at HC
          have HC := Lib.hid HC
          have H6 := Lib.hid (fun (V : World) (k : Below wr.heap.size wr V) => HWk.out V (lR.trans (k.mono lR.size)))
          clear lR
          go_wp2_with (first
            | (go_at_call 20; refine HC.out.mono ?_; rintro e w6 ⟨rfl, b6⟩)
            | (go_at_call 18; refine (H6.out _ b6).mono ?_; rintro e w7 ⟨rfl, b7⟩))
          go_ret
          exact ⟨rfl, HL.out.trans ((HR.out.trans ((b6.trans (b7.mono b6.size)).mono HR.out.size)).mono HL.out.size)⟩
end Go.Proofs.YtmbblhajbecomaaDoor.Cut
