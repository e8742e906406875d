/- The laws' walks: ReachDist, ReachWide, ReachBalls. -/
import Derived.Test.YtcangalpccppbaaDoorReachWorks
import Derived.Test.YtcangalpccppbaaDoorMadeEx
namespace Go.Proofs.YtcangalpccppbaaDoor.Reach
open Go.RowKit
open Go.Proofs.YtcangalpccppbaaDoor.RF Go.Proofs.YtcangalpccppbaaDoor.Heap Go.Proofs.YtcangalpccppbaaDoor.Nodes Go.Proofs.YtcangalpccppbaaDoor.Graph
set_option linter.unusedVariables false
set_option linter.unusedSimpArgs false

theorem wide_sign (near : List Nat) (off : Nat) (x : Int) : (decide (0 ≤ x) == decide (x ≥ 0)) = true := by simp
set_option maxRecDepth 100000 in
set_option maxHeartbeats 8000000 in
theorem reachdist_walk (w : World) (hT : Tab w) (n : Int) (la : Option Addr) (ll lc : Nat) (ls : List (Int × Int)) (hp : PairIn w la ll lc ls) (i : Int) (off : Nat) (ho : off < 2 ^ 64) :
    Calls Tryd.prog 9 #[.agg #[.int .i64 n, .slice la ll lc], .int .i64 i, .int .u64 (off : Nat)] w fun e w' => e = .returned (.bool true) ∧ Below w.heap.size w w' := by
  obtain ⟨W, hW⟩ : ∃ W, w.alloc (.cells #[.int .i64 n, .slice la ll lc] 53) = W := ⟨_, rfl⟩
  have bW : Blk W w.heap.size 53 #[.int .i64 n, .slice la ll lc] := by rw [← hW]; exact Blk.new w _ _
  have lW0 : Below w.heap.size w W := by rw [← hW]; exact (Below.refl _ w).alloc (Nat.le_refl _) _
  have hM := Lib.hid (made_ex W n la ll lc ls (hp.below lW0))
  have c0 := bW.cell 0
  have c1 := bW.cell 1
  simp at c0 c1
  have HW := Lib.hid hW
  have lW := Lib.hid lW0
  clear hW lW0 hp bW
  go_enter Tryd.func9, Tryd.ntmps9
  go_upto_region 1 with (fail)
  rw [HW.out]
  clear HW
  go_upto_region 2 with (go_at_call 32; refine hM.out.mono ?_; rintro e w2 ⟨b2, m, G, R, near, L, ha, hcp, rfl, hm1, hm2, hnl, hLl, hMt, hG, hP⟩)
  obtain ⟨W4, hW4⟩ : ∃ W4, w2.alloc (.cells #[.int .i64 (m : Nat), .slice ha L.length hcp] 29) = W4 := ⟨_, rfl⟩
  have bW4 : Blk W4 w2.heap.size 29 #[.int .i64 (m : Nat), .slice ha L.length hcp] := by rw [← hW4]; exact Blk.new w2 _ _
  have l24 : Below w2.heap.size w2 W4 := by rw [← hW4]; exact (Below.refl _ w2).alloc (Nat.le_refl _) _
  rw [hW4]
  have lw2 : Below w.heap.size w w2 := lW.out.trans (b2.mono lW.out.size)
  have lW4 : Below w.heap.size w W4 := lw2.trans (l24.mono lw2.size)
  have hok : Ok near := hMt.out.ok (by omega)
  have hsy : Sym near := hMt.out.sym
  have g4 := hG.out.below l24 (Nat.le_refl _)
  have p4 := hP.out.off l24
  have d0 := bW4.cell 0
  have d1 := bW4.cell 1
  simp at d0 d1
  have HB4 := Lib.hid bW4
  have hT4 := hT.below lW4 hT.size
  have s4 := lW4.size
  clear hW4 bW4 hM c0 c1 b2 lW hG hP lw2
  have hdl : (distF near off i).length = m := by rw [distF, distTo_len]; exact hnl
  have H5 := Lib.hid (refdist_any m (.slice ha L.length hcp) L near p4 (by omega) hMt.out hm1 (by omega) i off ho)
  go_wp2_with fail
  refine H5.out.mono ?_
  rintro e w5 ⟨g, cap, rfl, hg, hrow, b5⟩
  have lW5 : Below w.heap.size w w5 := lW4.trans (b5.mono s4)
  have s5 := lW5.size
  have g5 := g4.below b5 (Nat.le_refl _)
  have hT5 := hT.below lW5 hT.size
  have H6 := Lib.hid (dist_any g5 hT5 hok i off ho)
  go_wp2_with fail
  refine H6.out.mono ?_
  rintro e w6 ⟨g', rfl, hg', hD, b6⟩
  have lW6 : Below w.heap.size w w6 := lW5.trans (b6.mono s5)
  have s6 := lW6.size
  have g6 := g5.below b6 (Nat.le_refl _)
  have hT6 := hT.below lW6 hT.size
  have hrow6 := hrow.below b6
  have hD6 : RowD w6 g' (distF near off i) := ⟨_, hD, fun j hj => ic_at hj⟩
  have hball := ballN_all hok ho i 0
  have hball2 := ballF_lt hok ho i 64
  have hsm := same_yes g' m g cap (distF near off i) hD6 hrow6 (by omega)
  rw [hdl] at hsm
  rw [hnl]
  clear hrow hD
  have H7 := Lib.hid (hsm)
  go_wp2_with fail
  refine H7.out.mono ?_
  rintro e w7 ⟨rfl, b7⟩
  have lW7 : Below w.heap.size w w7 := lW6.trans (b7.mono s6)
  have s7 := lW7.size
  have g7 := g6.below b7 (Nat.le_refl _)
  have hT7 := hT.below lW7 hT.size
  have H8 := Lib.hid (from_any g7 hT7 hok i off ho)
  go_wp2_with fail
  refine H8.out.mono ?_
  rintro e w8 ⟨rfl, b8⟩
  have lW8 : Below w.heap.size w w8 := lW7.trans (b8.mono s7)
  have s8 := lW8.size
  have g8 := g7.below b8 (Nat.le_refl _)
  have hT8 := hT.below lW8 hT.size
  have hrb := refball_any g cap (distF near off i) 0 true ((hrow6.below b7).below b8) (by omega)
  rw [hball, hdl] at hrb
  obtain ⟨b, hb⟩ : ∃ b, ballF near off i 64 = b := ⟨_, rfl⟩
  rw [hb] at hrb
  rw [hb]
  have H9 := Lib.hid (hrb)
  go_wp2_with fail
  refine H9.out.mono ?_
  rintro e w9 ⟨rfl, b9⟩
  have lW9 : Below w.heap.size w w9 := lW8.trans (b9.mono s8)
  have s9 := lW9.size
  have g9 := g8.below b9 (Nat.le_refl _)
  have hT9 := hT.below lW9 hT.size
  have HWk := Lib.hid (reachworks_any w9 hT9)
  clear H5 H6 H7 H8 H9
  go_wp2_with (go_at_call 38; refine HWk.out.mono ?_; rintro e w10 ⟨rfl, b10⟩)
  go_ret
  exact ⟨rfl, lW9.trans (b10.mono s9)⟩
set_option maxRecDepth 100000 in
set_option maxHeartbeats 8000000 in
theorem reachwide_walk (w : World) (hT : Tab w) (n : Int) (la : Option Addr) (ll lc : Nat) (ls : List (Int × Int)) (hp : PairIn w la ll lc ls) (off : Nat) (ho : off < 2 ^ 64) :
    Calls Tryd.prog 10 #[.agg #[.int .i64 n, .slice la ll lc], .int .u64 (off : Nat)] w fun e w' => e = .returned (.bool true) ∧ Below w.heap.size w w' := by
  obtain ⟨W, hW⟩ : ∃ W, w.alloc (.cells #[.int .i64 n, .slice la ll lc] 53) = W := ⟨_, rfl⟩
  have bW : Blk W w.heap.size 53 #[.int .i64 n, .slice la ll lc] := by rw [← hW]; exact Blk.new w _ _
  have lW0 : Below w.heap.size w W := by rw [← hW]; exact (Below.refl _ w).alloc (Nat.le_refl _) _
  have hM := Lib.hid (made_ex W n la ll lc ls (hp.below lW0))
  have c0 := bW.cell 0
  have c1 := bW.cell 1
  simp at c0 c1
  have HW := Lib.hid hW
  have lW := Lib.hid lW0
  clear hW lW0 hp bW
  go_enter Tryd.func10, Tryd.ntmps10
  go_upto_region 1 with (fail)
  rw [HW.out]
  clear HW
  go_upto_region 2 with (go_at_call 32; refine hM.out.mono ?_; rintro e w2 ⟨b2, m, G, R, near, L, ha, hcp, rfl, hm1, hm2, hnl, hLl, hMt, hG, hP⟩)
  obtain ⟨W4, hW4⟩ : ∃ W4, w2.alloc (.cells #[.int .i64 (m : Nat), .slice ha L.length hcp] 29) = W4 := ⟨_, rfl⟩
  have bW4 : Blk W4 w2.heap.size 29 #[.int .i64 (m : Nat), .slice ha L.length hcp] := by rw [← hW4]; exact Blk.new w2 _ _
  have l24 : Below w2.heap.size w2 W4 := by rw [← hW4]; exact (Below.refl _ w2).alloc (Nat.le_refl _) _
  rw [hW4]
  have lw2 : Below w.heap.size w w2 := lW.out.trans (b2.mono lW.out.size)
  have lW4 : Below w.heap.size w W4 := lw2.trans (l24.mono lw2.size)
  have hok : Ok near := hMt.out.ok (by omega)
  have hsy : Sym near := hMt.out.sym
  have g4 := hG.out.below l24 (Nat.le_refl _)
  have p4 := hP.out.off l24
  have d0 := bW4.cell 0
  have d1 := bW4.cell 1
  simp at d0 d1
  have HB4 := Lib.hid bW4
  have hT4 := hT.below lW4 hT.size
  have s4 := lW4.size
  clear hW4 bW4 hM c0 c1 b2 lW hG hP lw2
  have H5 := Lib.hid (refwide_any m (.slice ha L.length hcp) L near p4 (by omega) hMt.out hm1 (by omega) off ho)
  go_wp2_with fail
  refine H5.out.mono ?_
  rintro e w5 ⟨rfl, b5⟩
  have lW5 : Below w.heap.size w w5 := lW4.trans (b5.mono s4)
  have s5 := lW5.size
  have g5 := g4.below b5 (Nat.le_refl _)
  have hT5 := hT.below lW5 hT.size
  have H6 := Lib.hid (wide_any g5 hT5 hok off ho)
  go_wp2_with fail
  refine H6.out.mono ?_
  rintro e w6 ⟨rfl, b6⟩
  have lW6 : Below w.heap.size w w6 := lW5.trans (b6.mono s5)
  have s6 := lW6.size
  have g6 := g5.below b6 (Nat.le_refl _)
  have hT6 := hT.below lW6 hT.size
  have H7 := Lib.hid (whole_any g6 hT6 hok hsy off ho)
  obtain ⟨x, hx⟩ : ∃ x, wideF near off = x := ⟨_, rfl⟩
  rw [hx] at H7
  rw [hx]
  clear hx H5 H6
  go_wp2_with fail
  refine H7.out.mono ?_
  rintro e w7 ⟨rfl, b7⟩
  have lW7 : Below w.heap.size w w7 := lW6.trans (b7.mono s6)
  have hT7 := hT.below lW7 hT.size
  have HWk := Lib.hid (reachworks_any w7 hT7)
  clear H7
  by_cases hx0 : 0 ≤ x
  · have e0 : decide (0 ≤ x) = true := decide_eq_true hx0
    rw [e0]
    go_wp2_with (go_at_call 38; refine HWk.out.mono ?_; rintro e w10 ⟨rfl, b10⟩)
    go_ret
    exact ⟨rfl, lW7.trans (b10.mono lW7.size)⟩
  · have e0 : decide (0 ≤ x) = false := decide_eq_false hx0
    rw [e0]
    go_wp2_with (go_at_call 38; refine HWk.out.mono ?_; rintro e w10 ⟨rfl, b10⟩)
    go_ret
    exact ⟨rfl, lW7.trans (b10.mono lW7.size)⟩
set_option maxRecDepth 100000 in
set_option maxHeartbeats 8000000 in
theorem reachballs_walk (w : World) (hT : Tab w) (n : Int) (la : Option Addr) (ll lc : Nat) (ls : List (Int × Int)) (hp : PairIn w la ll lc ls) (i most : Int) :
    Calls Tryd.prog 11 #[.agg #[.int .i64 n, .slice la ll lc], .int .i64 i, .int .i64 most] w fun e w' => e = .returned (.bool true) ∧ Below w.heap.size w w' := by
  obtain ⟨W, hW⟩ : ∃ W, w.alloc (.cells #[.int .i64 n, .slice la ll lc] 53) = W := ⟨_, rfl⟩
  have bW : Blk W w.heap.size 53 #[.int .i64 n, .slice la ll lc] := by rw [← hW]; exact Blk.new w _ _
  have lW0 : Below w.heap.size w W := by rw [← hW]; exact (Below.refl _ w).alloc (Nat.le_refl _) _
  have hM := Lib.hid (made_ex W n la ll lc ls (hp.below lW0))
  have c0 := bW.cell 0
  have c1 := bW.cell 1
  simp at c0 c1
  have HW := Lib.hid hW
  have lW := Lib.hid lW0
  clear hW lW0 hp bW
  go_enter Tryd.func11, Tryd.ntmps11
  go_upto_region 1 with (fail)
  rw [HW.out]
  clear HW
  go_upto_region 2 with (go_at_call 32; refine hM.out.mono ?_; rintro e w2 ⟨b2, m, G, R, near, L, ha, hcp, rfl, hm1, hm2, hnl, hLl, hMt, hG, hP⟩)
  obtain ⟨W4, hW4⟩ : ∃ W4, w2.alloc (.cells #[.int .i64 (m : Nat), .slice ha L.length hcp] 29) = W4 := ⟨_, rfl⟩
  have bW4 : Blk W4 w2.heap.size 29 #[.int .i64 (m : Nat), .slice ha L.length hcp] := by rw [← hW4]; exact Blk.new w2 _ _
  have l24 : Below w2.heap.size w2 W4 := by rw [← hW4]; exact (Below.refl _ w2).alloc (Nat.le_refl _) _
  rw [hW4]
  have lw2 : Below w.heap.size w w2 := lW.out.trans (b2.mono lW.out.size)
  have lW4 : Below w.heap.size w W4 := lw2.trans (l24.mono lw2.size)
  have hok : Ok near := hMt.out.ok (by omega)
  have hsy : Sym near := hMt.out.sym
  have g4 := hG.out.below l24 (Nat.le_refl _)
  have p4 := hP.out.off l24
  have d0 := bW4.cell 0
  have d1 := bW4.cell 1
  simp at d0 d1
  have HB4 := Lib.hid bW4
  have hT4 := hT.below lW4 hT.size
  have s4 := lW4.size
  clear hW4 bW4 hM c0 c1 b2 lW hG hP lw2
  have ho : (8 : Nat) < 2 ^ 64 := by decide
  have hdl : (distF near 8 i).length = m := by rw [distF, distTo_len]; exact hnl
  have H5 := Lib.hid (refdist_any m (.slice ha L.length hcp) L near p4 (by omega) hMt.out hm1 (by omega) i 8 ho)
  go_wp2_with fail
  refine H5.out.mono ?_
  rintro e w5 ⟨g, cap, rfl, hg, hrow, b5⟩
  have lW5 : Below w.heap.size w w5 := lW4.trans (b5.mono s4)
  have s5 := lW5.size
  have g5 := g4.below b5 (Nat.le_refl _)
  have hT5 := hT.below lW5 hT.size
  have e0 := (HB4.out.below b5 HB4.out.lt).cell 0
  simp at e0
  have hbm : ballF near 8 i (m : Int) = ballF near 8 i 64 := by
    refine Nat.eq_of_testBit_eq fun k => ?_
    rw [Bool.eq_iff_iff, ballF_bit hok ho, ballF_bit hok ho]
    have := distF_most hok ho i k
    have := rings_few hok ho i
    constructor <;> (rintro ⟨x1, x2⟩; exact ⟨x1, by omega⟩)
  have hq := ballN_eq hok ho i most
  have H6 := Lib.hid (ball_any g5 hT5 hok i (m : Int) 8 ho)
  go_wp2_with fail
  refine H6.out.mono ?_
  rintro e w6 ⟨rfl, b6⟩
  have lW6 : Below w.heap.size w w6 := lW5.trans (b6.mono s5)
  have s6 := lW6.size
  have g6 := g5.below b6 (Nat.le_refl _)
  have hT6 := hT.below lW6 hT.size
  rw [hbm]
  have hrow6 := hrow.below b6
  have H7 := Lib.hid (ball_any g6 hT6 hok i most 8 ho)
  go_wp2_with fail
  refine H7.out.mono ?_
  rintro e w7 ⟨rfl, b7⟩
  have lW7 : Below w.heap.size w w7 := lW6.trans (b7.mono s6)
  have s7 := lW7.size
  have g7 := g6.below b7 (Nat.le_refl _)
  have hT7 := hT.below lW7 hT.size
  have hrb := refball_any g cap (distF near 8 i) most false (hrow6.below b7) (by omega)
  rw [hq, hdl] at hrb
  have H9' := fun (V : World) (h1 : GraphAt V G R near) (h2 : Tab V) => from_any h1 h2 hok i 8 ho
  obtain ⟨b, hb⟩ : ∃ b, ballF near 8 i most = b := ⟨_, rfl⟩
  rw [hb] at hrb
  rw [hb]
  obtain ⟨b', hb'⟩ : ∃ b, ballF near 8 i 64 = b := ⟨_, rfl⟩
  rw [hb'] at H9'
  rw [hb']
  have H9'' := Lib.hid H9'
  clear H9' hb hb' hq hbm
  have H8 := Lib.hid (hrb)
  go_wp2_with fail
  refine H8.out.mono ?_
  rintro e w8 ⟨rfl, b8⟩
  have lW8 : Below w.heap.size w w8 := lW7.trans (b8.mono s7)
  have s8 := lW8.size
  have g8 := g7.below b8 (Nat.le_refl _)
  have hT8 := hT.below lW8 hT.size
  have H9 := Lib.hid (H9''.out w8 g8 hT8)
  go_wp2_with fail
  refine H9.out.mono ?_
  rintro e w9 ⟨rfl, b9⟩
  have lW9 : Below w.heap.size w w9 := lW8.trans (b9.mono s8)
  have s9 := lW9.size
  have g9 := g8.below b9 (Nat.le_refl _)
  have hT9 := hT.below lW9 hT.size
  have HWk := Lib.hid (reachworks_any w9 hT9)
  clear H5 H6 H7 H8 H9 H9''
  go_wp2_with (go_at_call 38; refine HWk.out.mono ?_; rintro e w10 ⟨rfl, b10⟩)
  go_ret
  exact ⟨rfl, lW9.trans (b10.mono s9)⟩
end Go.Proofs.YtcangalpccppbaaDoor.Reach
