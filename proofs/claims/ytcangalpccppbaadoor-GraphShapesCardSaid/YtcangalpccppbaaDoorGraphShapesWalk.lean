/- The law of rings and full graphs, walked. -/
import Derived.Test.YtcangalpccppbaaDoorGraphNewWalk
import Derived.Test.YtcangalpccppbaaDoorShapes
namespace Go.Proofs.YtcangalpccppbaaDoor.Graph
open Go.RowKit
open Go.Proofs.YtcangalpccppbaaDoor.RF Go.Proofs.YtcangalpccppbaaDoor.Heap Go.Proofs.YtcangalpccppbaaDoor.Nodes Go.Proofs.YtcangalpccppbaaDoor.Seen
set_option linter.unusedVariables false
set_option linter.unusedSimpArgs false

/-- What New tells of a shape: whether it may be. -/
theorem newshape_any (n : Int) (v : Value) (l : List (Nat × Nat)) (w : World) (hp : PairsAt w v (zp l)) (hlen : l.length ≤ 65536) (b : Bool) (hb : (newR n (zp l) == 0) = b) :
    Calls Tryd.prog 15 #[.int .i64 n, v] w fun e w' => Below w.heap.size w w' ∧ ∃ (p : Value) (c : Int), e = .returned (.tuple #[p, .int .i64 c]) ∧ (c == 0) = b := by
  refine (newgo_any n v (zp l) w hp (by rw [zp_len]; exact hlen)).mono fun e w' he => ?_
  obtain ⟨h1, ⟨h0, k, G, R, rfl, _, _, rfl, _, _⟩ | ⟨h0, rfl⟩⟩ := he
  · exact ⟨h1, _, 0, rfl, by rw [← hb, h0]⟩
  · exact ⟨h1, _, _, rfl, hb⟩
theorem links_true (w : World) (v1 v2 : Value) (l : List (Nat × Nat)) (h1 : PairsAt w v1 (zp l)) (h2 : PairsAt w v2 (zp l)) (hlen : l.length ≤ 65536) :
    Calls Tryd.prog 20 #[v1, v2] w fun e w' => e = .returned (.bool true) ∧ Below w.heap.size w w' := by
  have := linkseq_any w v1 v2 _ _ h1 h2 (by rw [zp_len]; exact hlen)
  rwa [show decide (zp l = zp l) = true by simp] at this
set_option maxRecDepth 100000 in
set_option maxHeartbeats 8000000 in
theorem graphshapes_walk (w : World) (hT : Tab w) (n : Int) :
    Calls Tryd.prog 8 #[.int .i64 n] w fun e w' => e = .returned (.bool true) ∧ Below w.heap.size w w' := by
  have HT := Lib.hid hT
  have hr := shape_new (n := n) (f := ringL) ring_ok
  have hf := shape_new (n := n) (f := fullL) (fun k _ => full_ok k)
  change (newR n (zp (ringN n)) == 0) = _ at hr
  change (newR n (zp (fullN n)) == 0) = _ at hf
  clear hT
  by_cases h1 : 1 ≤ n
  · by_cases h2 : n ≤ 64
    · rw [show (decide (1 ≤ n) && decide (n ≤ 64)) = true by simp [h1, h2]] at hr hf
      have Hr := Lib.hid hr
      have Hf := Lib.hid hf
      clear hr hf
      go_enter Tryd.func8, Tryd.ntmps8
      go_wp2_with fail
      refine (goring_any n w).mono ?_
      rintro e w1 ⟨v1, rfl, P1, b1⟩
      have B1 := Lib.hid b1
      clear b1
      go_wp2_with fail
      refine (gofull_any n w1).mono ?_
      rintro e w2 ⟨v2, rfl, P2, b2⟩
      have B2 := Lib.hid (B1.out.trans (b2.mono B1.out.size))
      have P1b := Lib.hid (P1.out.off b2)
      clear b2 P1
      go_wp2_with fail
      refine (refring_any n w2).mono ?_
      rintro e w3 ⟨v3, rfl, P3, b3⟩
      have B3 := Lib.hid (B2.out.trans (b3.mono B2.out.size))
      have P1c := Lib.hid (P1b.out.off b3)
      have P2c := Lib.hid (P2.out.off b3)
      clear b3 P1b P2
      go_wp2_with fail
      refine (links_true w3 _ _ (ringN n) P1c.out P3.out (by have := ringN_len n; omega)).mono ?_
      rintro e w4 ⟨rfl, b4⟩
      have B4 := Lib.hid (B3.out.trans (b4.mono B3.out.size))
      have P1d := Lib.hid (P1c.out.off b4)
      have P2d := Lib.hid (P2c.out.off b4)
      clear b4 P1c P2c P3
      go_wp2_with fail
      refine (reffull_any n w4).mono ?_
      rintro e w5 ⟨v5, rfl, P5, b5⟩
      have B5 := Lib.hid (B4.out.trans (b5.mono B4.out.size))
      have P1e := Lib.hid (P1d.out.off b5)
      have P2e := Lib.hid (P2d.out.off b5)
      clear b5 P1d P2d
      go_wp2_with fail
      refine (links_true w5 _ _ (fullN n) P2e.out P5.out (by have := fullN_len n; omega)).mono ?_
      rintro e w6 ⟨rfl, b6⟩
      have B6 := Lib.hid (B5.out.trans (b6.mono B5.out.size))
      have P1f := Lib.hid (P1e.out.off b6)
      have P2f := Lib.hid (P2e.out.off b6)
      clear b6 P1e P2e P5
      go_wp2_with fail
      refine (newshape_any n _ (ringN n) w6 P1f.out (by have := ringN_len n; omega) true Hr.out).mono ?_
      rintro e w7 ⟨b7, p7, c7, rfl, h7⟩
      have B7 := Lib.hid (B6.out.trans (b7.mono B6.out.size))
      have P2g := Lib.hid (P2f.out.off b7)
      clear b7 P1f P2f
      go_wp2_with fail
      refine (newshape_any n _ (fullN n) w7 P2g.out (by have := fullN_len n; omega) true Hf.out).mono ?_
      rintro e w8 ⟨b8, p8, c8, rfl, h8⟩
      have B8 := Lib.hid (B7.out.trans (b8.mono B7.out.size))
      clear b8 P2g
      go_wp2_with fail
      refine (works_any _ (HT.out.below B8.out HT.out.size)).mono ?_
      rintro e w9 ⟨rfl, b9⟩
      go_wp2_with fail
      go_ret
      refine ⟨?_, B8.out.trans (b9.mono B8.out.size)⟩
      first | rfl | exact ret_b (by simp; omega)
    · rw [show (decide (1 ≤ n) && decide (n ≤ 64)) = false by simp [h2]] at hr hf
      have Hr := Lib.hid hr
      have Hf := Lib.hid hf
      clear hr hf
      go_enter Tryd.func8, Tryd.ntmps8
      go_wp2_with fail
      refine (goring_any n w).mono ?_
      rintro e w1 ⟨v1, rfl, P1, b1⟩
      have B1 := Lib.hid b1
      clear b1
      go_wp2_with fail
      refine (gofull_any n w1).mono ?_
      rintro e w2 ⟨v2, rfl, P2, b2⟩
      have B2 := Lib.hid (B1.out.trans (b2.mono B1.out.size))
      have P1b := Lib.hid (P1.out.off b2)
      clear b2 P1
      go_wp2_with fail
      refine (refring_any n w2).mono ?_
      rintro e w3 ⟨v3, rfl, P3, b3⟩
      have B3 := Lib.hid (B2.out.trans (b3.mono B2.out.size))
      have P1c := Lib.hid (P1b.out.off b3)
      have P2c := Lib.hid (P2.out.off b3)
      clear b3 P1b P2
      go_wp2_with fail
      refine (links_true w3 _ _ (ringN n) P1c.out P3.out (by have := ringN_len n; omega)).mono ?_
      rintro e w4 ⟨rfl, b4⟩
      have B4 := Lib.hid (B3.out.trans (b4.mono B3.out.size))
      have P1d := Lib.hid (P1c.out.off b4)
      have P2d := Lib.hid (P2c.out.off b4)
      clear b4 P1c P2c P3
      go_wp2_with fail
      refine (reffull_any n w4).mono ?_
      rintro e w5 ⟨v5, rfl, P5, b5⟩
      have B5 := Lib.hid (B4.out.trans (b5.mono B4.out.size))
      have P1e := Lib.hid (P1d.out.off b5)
      have P2e := Lib.hid (P2d.out.off b5)
      clear b5 P1d P2d
      go_wp2_with fail
      refine (links_true w5 _ _ (fullN n) P2e.out P5.out (by have := fullN_len n; omega)).mono ?_
      rintro e w6 ⟨rfl, b6⟩
      have B6 := Lib.hid (B5.out.trans (b6.mono B5.out.size))
      have P1f := Lib.hid (P1e.out.off b6)
      have P2f := Lib.hid (P2e.out.off b6)
      clear b6 P1e P2e P5
      go_wp2_with fail
      refine (newshape_any n _ (ringN n) w6 P1f.out (by have := ringN_len n; omega) false Hr.out).mono ?_
      rintro e w7 ⟨b7, p7, c7, rfl, h7⟩
      have B7 := Lib.hid (B6.out.trans (b7.mono B6.out.size))
      have P2g := Lib.hid (P2f.out.off b7)
      clear b7 P1f P2f
      go_wp2_with fail
      refine (newshape_any n _ (fullN n) w7 P2g.out (by have := fullN_len n; omega) false Hf.out).mono ?_
      rintro e w8 ⟨b8, p8, c8, rfl, h8⟩
      have B8 := Lib.hid (B7.out.trans (b8.mono B7.out.size))
      clear b8 P2g
      go_wp2_with fail
      refine (works_any _ (HT.out.below B8.out HT.out.size)).mono ?_
      rintro e w9 ⟨rfl, b9⟩
      go_wp2_with fail
      go_ret
      refine ⟨?_, B8.out.trans (b9.mono B8.out.size)⟩
      first | rfl | exact ret_b (by simp; omega)
  · rw [show (decide (1 ≤ n) && decide (n ≤ 64)) = false by simp [h1]] at hr hf
    have Hr := Lib.hid hr
    have Hf := Lib.hid hf
    clear hr hf
    go_enter Tryd.func8, Tryd.ntmps8
    go_wp2_with fail
    refine (goring_any n w).mono ?_
    rintro e w1 ⟨v1, rfl, P1, b1⟩
    have B1 := Lib.hid b1
    clear b1
    go_wp2_with fail
    refine (gofull_any n w1).mono ?_
    rintro e w2 ⟨v2, rfl, P2, b2⟩
    have B2 := Lib.hid (B1.out.trans (b2.mono B1.out.size))
    have P1b := Lib.hid (P1.out.off b2)
    clear b2 P1
    go_wp2_with fail
    refine (refring_any n w2).mono ?_
    rintro e w3 ⟨v3, rfl, P3, b3⟩
    have B3 := Lib.hid (B2.out.trans (b3.mono B2.out.size))
    have P1c := Lib.hid (P1b.out.off b3)
    have P2c := Lib.hid (P2.out.off b3)
    clear b3 P1b P2
    go_wp2_with fail
    refine (links_true w3 _ _ (ringN n) P1c.out P3.out (by have := ringN_len n; omega)).mono ?_
    rintro e w4 ⟨rfl, b4⟩
    have B4 := Lib.hid (B3.out.trans (b4.mono B3.out.size))
    have P1d := Lib.hid (P1c.out.off b4)
    have P2d := Lib.hid (P2c.out.off b4)
    clear b4 P1c P2c P3
    go_wp2_with fail
    refine (reffull_any n w4).mono ?_
    rintro e w5 ⟨v5, rfl, P5, b5⟩
    have B5 := Lib.hid (B4.out.trans (b5.mono B4.out.size))
    have P1e := Lib.hid (P1d.out.off b5)
    have P2e := Lib.hid (P2d.out.off b5)
    clear b5 P1d P2d
    go_wp2_with fail
    refine (links_true w5 _ _ (fullN n) P2e.out P5.out (by have := fullN_len n; omega)).mono ?_
    rintro e w6 ⟨rfl, b6⟩
    have B6 := Lib.hid (B5.out.trans (b6.mono B5.out.size))
    have P1f := Lib.hid (P1e.out.off b6)
    have P2f := Lib.hid (P2e.out.off b6)
    clear b6 P1e P2e P5
    go_wp2_with fail
    refine (newshape_any n _ (ringN n) w6 P1f.out (by have := ringN_len n; omega) false Hr.out).mono ?_
    rintro e w7 ⟨b7, p7, c7, rfl, h7⟩
    have B7 := Lib.hid (B6.out.trans (b7.mono B6.out.size))
    have P2g := Lib.hid (P2f.out.off b7)
    clear b7 P1f P2f
    go_wp2_with fail
    refine (newshape_any n _ (fullN n) w7 P2g.out (by have := fullN_len n; omega) false Hf.out).mono ?_
    rintro e w8 ⟨b8, p8, c8, rfl, h8⟩
    have B8 := Lib.hid (B7.out.trans (b8.mono B7.out.size))
    clear b8 P2g
    go_wp2_with fail
    refine (works_any _ (HT.out.below B8.out HT.out.size)).mono ?_
    rintro e w9 ⟨rfl, b9⟩
    go_wp2_with fail
    go_ret
    refine ⟨?_, B8.out.trans (b9.mono B8.out.size)⟩
    first | rfl | exact ret_b (by simp; omega)
end Go.Proofs.YtcangalpccppbaaDoor.Graph
