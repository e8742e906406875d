/- The laws' walks: CutCuts. -/
import Derived.Test.YtmbblhajbecomaaDoorCutWorks
namespace Go.Proofs.YtmbblhajbecomaaDoor.Cut
open Go.RowKit
open Go.Proofs.YtmbblhajbecomaaDoor.RF Go.Proofs.YtmbblhajbecomaaDoor.Heap Go.Proofs.YtmbblhajbecomaaDoor.Nodes Go.Proofs.YtmbblhajbecomaaDoor.Graph Go.Proofs.YtmbblhajbecomaaDoor.Reach
set_option linter.unusedVariables false
set_option linter.unusedSimpArgs false
set_option maxRecDepth 100000 in
set_option maxHeartbeats 8000000 in
theorem cutcuts_walk (w : World) (hT : Tab w) (n : Int) (la : Option Addr) (ll lc : Nat) (ls : List (Int × Int)) (hp : PairIn w la ll lc ls) (s : Nat) (hs : s < 2 ^ 64) (f : Int) :
    Calls Tryd.prog 3 #[.agg #[.int .i64 n, .slice la ll lc], .int .u64 (s : Nat), .int .i64 f] w fun e w' => e = .returned (.bool true) ∧ Below w.heap.size w w' := by
  obtain ⟨W, hW⟩ : ∃ W, w.alloc (.cells #[.int .i64 n, .slice la ll lc] 24) = W := ⟨_, rfl⟩
  have bW : Blk W w.heap.size 24 #[.int .i64 n, .slice la ll lc] := by rw [← hW]; exact Blk.new w _ _
  have lW0 : Below w.heap.size w W := by rw [← hW]; exact (Below.refl _ w).alloc (Nat.le_refl _) _
  have hF := Lib.hid (few_any W n la ll lc)
  have hM := Lib.hid (fun V (k : Below W.heap.size W V) => seven_ex V n la ll lc ls ((hp.below lW0).below k))
  have c0 := bW.cell 0
  have c1 := bW.cell 1
  simp at c0 c1
  have HW := Lib.hid hW
  have lW := Lib.hid lW0
  clear hW lW0 hp bW
  go_enter Tryd.func3, Tryd.ntmps3
  go_upto_region 1 with (fail)
  rw [HW.out]
  clear HW
  go_upto_region 2 with (first | (go_at_call 13; refine hF.out.mono ?_; rintro e w1 ⟨rfl, b1⟩) | (go_at_call 12; refine (hM.out _ b1).mono ?_; rintro e w2 ⟨b2, m, G, R, near, L, ha, hcp, rfl, hm1, hm2, hnl, hLl, hNw, hMt, hG, hP⟩))
  obtain ⟨W4, hW4⟩ : ∃ W4, w2.alloc (.cells #[.int .i64 (m : Nat), .slice ha L.length hcp] 27) = W4 := ⟨_, rfl⟩
  have bW4 : Blk W4 w2.heap.size 27 #[.int .i64 (m : Nat), .slice ha L.length hcp] := by rw [← hW4]; exact Blk.new w2 _ _
  have l24 : Below w2.heap.size w2 W4 := by rw [← hW4]; exact (Below.refl _ w2).alloc (Nat.le_refl _) _
  rw [hW4]
  have lw1 : Below w.heap.size w w1 := lW.out.trans (b1.mono lW.out.size)
  have lw2 : Below w.heap.size w w2 := lw1.trans (b2.mono lw1.size)
  have lW4 : Below w.heap.size w W4 := lw2.trans (l24.mono lw2.size)
  have hok : Ok near := hMt.out.ok (by omega)
  have hsy : Sym near := hMt.out.sym
  have h9 : near.length < 9 := by omega
  have g4 := hG.out.below l24 (Nat.le_refl _)
  have p4 := hP.out.off l24
  have d0 := bW4.cell 0
  have d1 := bW4.cell 1
  simp at d0 d1
  have HB4 := Lib.hid bW4
  have hT4 := hT.below lW4 hT.size
  have s4 := lW4.size
  have q4 : w2.heap.size < W4.heap.size := HB4.out.lt
  clear hW4 bW4 hM hF c0 c1 b1 b2 lW hG lw1 lw2
  have H5 := first_any g4 hT4 hok hsy h9 f
  unfold Firsts at H5
  obtain ⟨x, hx⟩ : ∃ x, (firstF near (min f 3)).getD 0 = x := ⟨_, rfl⟩
  obtain ⟨o, ho⟩ : ∃ o, (firstF near (min f 3)).isSome = o := ⟨_, rfl⟩
  rw [hx, ho] at H5
  have H5 := Lib.hid H5
  go_wp2_with fail
  refine H5.out.mono ?_
  rintro e w5 ⟨rfl, b5⟩
  have lW5 : Below w.heap.size w w5 := lW4.trans (b5.mono s4)
  have s5 := lW5.size
  have q5 := Nat.lt_of_lt_of_le q4 b5.size
  have d0 := (b5.cell (p := ⟨w2.heap.size, 0, none⟩) q4).trans d0
  have d1 := (b5.cell (p := ⟨w2.heap.size, 1, none⟩) q4).trans d1
  have g5 := g4.below b5 (Nat.le_refl _)
  have p5 := p4.off b5
  have hT5 := hT.below lW5 hT.size
  have H6 := reffirst_any m (.slice ha L.length hcp) L near p5 (by omega) hMt.out hm1 (by omega) f
  unfold Firsts at H6
  rw [hx, ho] at H6
  have H6 := Lib.hid H6
  clear hx ho H5
  go_wp2_with fail
  refine H6.out.mono ?_
  rintro e w6 ⟨rfl, b6⟩
  have lW6 : Below w.heap.size w w6 := lW5.trans (b6.mono s5)
  have s6 := lW6.size
  have q6 := Nat.lt_of_lt_of_le q5 b6.size
  have d0 := (b6.cell (p := ⟨w2.heap.size, 0, none⟩) q5).trans d0
  have d1 := (b6.cell (p := ⟨w2.heap.size, 1, none⟩) q5).trans d1
  have g6 := g5.below b6 (Nat.le_refl _)
  have p6 := p5.off b6
  have hT6 := hT.below lW6 hT.size
  obtain ⟨c, hc⟩ : ∃ c, cutsB near s = c := ⟨_, rfl⟩
  have HC := Lib.hid (fun (V : World) (k : Below w6.heap.size w6 V) => (show Calls Tryd.prog 16 #[.pointer (some ⟨G, 0, none⟩), .int .u64 (s : Nat)] V fun e w' => e = .returned (.bool c) ∧ Below V.heap.size V w' from by
    have := cuts_any (g6.below k (Nat.le_refl _)) (hT6.below k hT6.size) hok hsy s hs
    rwa [hc] at this))
  have HR := Lib.hid (fun (V : World) (k : Below w6.heap.size w6 V) => (show Calls Tryd.prog 17 #[.agg #[.int .i64 (m : Nat), .slice ha L.length hcp], .int .u64 (s : Nat)] V fun e w' => e = .returned (.bool c) ∧ Below V.heap.size V w' from by
    have := refcuts_any m (.slice ha L.length hcp) L near (p6.off k) (by omega) hMt.out hm1 (by omega) s hs
    rwa [hc] at this))
  have HWk := Lib.hid (fun (V : World) (k : Below w6.heap.size w6 V) => cutworks_any V (hT6.below k hT6.size))
  have HS := Lib.hid (fun (V : World) (k : Below w6.heap.size w6 V) => (show Below w6.heap.size w6 V ∧ V.cell? ⟨w2.heap.size, 0, none⟩ = some (.int .i64 (m : Nat)) ∧ V.cell? ⟨w2.heap.size, 1, none⟩ = some (.slice ha L.length hcp) from ⟨k, (k.cell (p := ⟨w2.heap.size, 0, none⟩) q6).trans d0, (k.cell (p := ⟨w2.heap.size, 1, none⟩) q6).trans d1⟩))
  have HL := Lib.hid lW6
  clear H6 hc g4 g5 g6 p4 p5 p6 hT4 hT5 hT6 hok hsy b5 b6 lW4 lW5 lW6 hP HB4 hNw hMt hT
  go_wp2_with fail
  go_region_held3 (fun V => Below w6.heap.size w6 V ∧ V.cell? ⟨w2.heap.size, 0, none⟩ = some (.int .i64 (m : Nat)) ∧ V.cell? ⟨w2.heap.size, 1, none⟩ = some (.slice ha L.length hcp))
    ((first | exact HS.out _ (Below.refl _ _) | exact HS.out _ (Below.drew (Below.refl _ _)) | exact HS.out _ (Below.drew (by assumption)) | (obtain ⟨hB, _⟩ : Below w6.heap.size w6 _ ∧ _ := (by assumption); first | exact HS.out _ hB | exact HS.out _ (Below.trans hB (Below.mono b7 hB.size)) | exact HS.out _ (Below.trans hB (Below.mono b8 hB.size)) | exact HS.out _ (Below.trans hB (Below.mono b9 hB.size)))))
    ((first
      | (go_at_call 16; obtain ⟨hB, _⟩ : Below w6.heap.size w6 _ ∧ _ := (by assumption); refine (HC.out _ hB).mono ?_; rintro e w7 ⟨rfl, b7⟩; clear hB)
      | (go_at_call 17; obtain ⟨hB, _⟩ : Below w6.heap.size w6 _ ∧ _ := (by assumption); refine (HR.out _ hB).mono ?_; rintro e w8 ⟨rfl, b8⟩; clear hB)
      | (go_at_call 18; obtain ⟨hB, _⟩ : Below w6.heap.size w6 _ ∧ _ := (by assumption); refine (HWk.out _ hB).mono ?_; rintro e w9 ⟨rfl, b9⟩; clear hB)))
  have hB4 : Below w6.heap.size w6 w9 := by obtain ⟨hB, _⟩ : Below w6.heap.size w6 _ ∧ _ := (by assumption); exact hB
  go_wp2_with fail
  go_ret
  exact ⟨rfl, HL.out.trans (hB4.mono HL.out.size)⟩
end Go.Proofs.YtmbblhajbecomaaDoor.Cut
