/- The laws' walks: CutSafe. -/
import Derived.Test.YtmbblhajbecomaaDoorCutWorks
namespace Go.Proofs.YtmbblhajbecomaaDoor.Cut
open Go.RowKit
open Go.Proofs.YtmbblhajbecomaaDoor.RF Go.Proofs.YtmbblhajbecomaaDoor.Heap Go.Proofs.YtmbblhajbecomaaDoor.Nodes Go.Proofs.YtmbblhajbecomaaDoor.Graph Go.Proofs.YtmbblhajbecomaaDoor.Reach
set_option linter.unusedVariables false
set_option linter.unusedSimpArgs false
/-- How many nodes may fail, as the law counts it. -/
def mostF (near : List Nat) : Nat → Int
  | 0 => -1
  | k + 1 => if safeF near k = true then (k : Nat) else mostF near k
theorem mostF_yes {near : List Nat} {k : Nat} (h : safeF near (k : Nat) = true) : mostF near (k + 1) = (k : Nat) := by rw [mostF, if_pos h]
theorem mostF_no {near : List Nat} {k : Nat} (h : safeF near (k : Nat) = false) : mostF near (k + 1) = mostF near k := by rw [mostF, if_neg (by rw [h]; decide)]
theorem mostF_all (near : List Nat) : mostF near 4 = strF near := by
  unfold strF
  rw [mostF, mostF, mostF, mostF, mostF]
  rfl
set_option maxRecDepth 100000 in
set_option maxHeartbeats 8000000 in
theorem cutsafe_walk (w : World) (hT : Tab w) (n : Int) (la : Option Addr) (ll lc : Nat) (ls : List (Int × Int)) (hp : PairIn w la ll lc ls) (f : Int) :
    Calls Tryd.prog 4 #[.agg #[.int .i64 n, .slice la ll lc], .int .i64 f] w fun e w' => e = .returned (.bool true) ∧ Below w.heap.size w w' := by
  obtain ⟨W, hW⟩ : ∃ W, w.alloc (.cells #[.int .i64 n, .slice la ll lc] 24) = W := ⟨_, rfl⟩
  have bW : Blk W w.heap.size 24 #[.int .i64 n, .slice la ll lc] := by rw [← hW]; exact Blk.new w _ _
  have lW0 : Below w.heap.size w W := by rw [← hW]; exact (Below.refl _ w).alloc (Nat.le_refl _) _
  have hF := Lib.hid (few_any W n la ll lc)
  have hM := Lib.hid (fun V (k : Below W.heap.size W V) => seven_ex V n la ll lc ls ((hp.below lW0).below k))
  have c0 := bW.cell 0
  have c1 := bW.cell 1
  simp at c0 c1
  have HW := Lib.hid hW
  have lW := Lib.hid lW0
  clear hW lW0 hp bW
  go_enter Tryd.func4, Tryd.ntmps4
  go_upto_region 1 with (fail)
  rw [HW.out]
  clear HW
  go_upto_region 2 with (first | (go_at_call 13; refine hF.out.mono ?_; rintro e w1 ⟨rfl, b1⟩) | (go_at_call 12; refine (hM.out _ b1).mono ?_; rintro e w2 ⟨b2, m, G, R, near, L, ha, hcp, rfl, hm1, hm2, hnl, hLl, hNw, hMt, hG, hP⟩))
  obtain ⟨W4, hW4⟩ : ∃ W4, w2.alloc (.cells #[.int .i64 (m : Nat), .slice ha L.length hcp] 27) = W4 := ⟨_, rfl⟩
  have bW4 : Blk W4 w2.heap.size 27 #[.int .i64 (m : Nat), .slice ha L.length hcp] := by rw [← hW4]; exact Blk.new w2 _ _
  have l24 : Below w2.heap.size w2 W4 := by rw [← hW4]; exact (Below.refl _ w2).alloc (Nat.le_refl _) _
  rw [hW4]
  have lw1 : Below w.heap.size w w1 := lW.out.trans (b1.mono lW.out.size)
  have lw2 : Below w.heap.size w w2 := lw1.trans (b2.mono lw1.size)
  have lW4 : Below w.heap.size w W4 := lw2.trans (l24.mono lw2.size)
  have hok : Ok near := hMt.out.ok (by omega)
  have hsy : Sym near := hMt.out.sym
  have h9 : near.length < 9 := by omega
  have g4 := hG.out.below l24 (Nat.le_refl _)
  have p4 := hP.out.off l24
  have d0 := bW4.cell 0
  have d1 := bW4.cell 1
  simp at d0 d1
  have HB4 := Lib.hid bW4
  have hT4 := hT.below lW4 hT.size
  have s4 := lW4.size
  have q4 : w2.heap.size < W4.heap.size := HB4.out.lt
  clear hW4 bW4 hM hF c0 c1 b1 b2 lW hG lw1 lw2
  have HRs := Lib.hid (fun (V : World) (k : Below W4.heap.size W4 V) (x : Int) => refsafe_any m (.slice ha L.length hcp) L near (p4.off k) (by omega) hMt.out hm1 (by omega) x)
  have HSf := Lib.hid (fun (V : World) (k : Below W4.heap.size W4 V) (x : Int) => safe_any (g4.below k (Nat.le_refl _)) (hT4.below k hT4.size) hok hsy h9 x)
  have HSt := Lib.hid (fun (V : World) (k : Below W4.heap.size W4 V) => strength_any (g4.below k (Nat.le_refl _)) (hT4.below k hT4.size) hok hsy h9)
  have HWk := Lib.hid (fun (V : World) (k : Below W4.heap.size W4 V) => cutworks_any V (hT4.below k hT4.size))
  have HS := Lib.hid (fun (V : World) (k : Below W4.heap.size W4 V) => (show Below W4.heap.size W4 V ∧ V.cell? ⟨w2.heap.size, 0, none⟩ = some (.int .i64 (m : Nat)) ∧ V.cell? ⟨w2.heap.size, 1, none⟩ = some (.slice ha L.length hcp) from ⟨k, (k.cell (p := ⟨w2.heap.size, 0, none⟩) q4).trans d0, (k.cell (p := ⟨w2.heap.size, 1, none⟩) q4).trans d1⟩))
  have HL := Lib.hid lW4
  obtain ⟨sf, hsf⟩ : ∃ sf, safeF near f = sf := ⟨_, rfl⟩
  have Hsf := Lib.hid hsf
  clear g4 p4 hT4 hok hsy lW4 hP HB4 hNw hMt hT h9 l24 d0 d1 hsf
  go_wp2_with fail
  go_loopg [7, 8] 4 (fun q v7 v8 wr => ∃ (k : Nat), q = 4 - k ∧ v8 = .int .i64 k ∧ v7 = .int .i64 (mostF near k) ∧ k ≤ 4 ∧ Below W4.heap.size W4 wr)
  case atStart => exact ⟨0, rfl, rfl, rfl, by omega, Below.refl _ _⟩
  case round =>
    obtain ⟨k, hgk, rfl, rfl, hk, lR⟩ := hrel
    obtain ⟨_, d0, d1⟩ := HS.out _ lR
    have HR := Lib.hid lR
    have Hgk := Lib.hid hgk
    clear hgk
    by_cases hlt : k < 4
    · have hlt2 : (k : Int) < 4 := by omega
      have HC := HRs.out wr lR (k : Nat)
      rcases hb : safeF near (k : Nat) with _ | _
      · rw [hb] at HC
        have HC := Lib.hid HC
        have Hm := Lib.hid (mostF_no hb)
        clear hb lR
        go_wp2_with (go_at_call 19; refine HC.out.mono ?_; rintro e w5 ⟨rfl, b5⟩)
        go_roundg (4 - (k + 1))
        case measure => have := Hgk.out; omega
        case rel => exact ⟨k + 1, rfl, rfl, by rw [Hm.out], hlt, HR.out.trans (b5.mono HR.out.size)⟩
      · rw [hb] at HC
        have HC := Lib.hid HC
        have Hm := Lib.hid (mostF_yes hb)
        clear hb lR
        go_wp2_with (go_at_call 19; refine HC.out.mono ?_; rintro e w5 ⟨rfl, b5⟩)
        go_roundg (4 - (k + 1))
        case measure => have := Hgk.out; omega
        case rel => exact ⟨k + 1, rfl, rfl, by rw [Hm.out], hlt, HR.out.trans (b5.mono HR.out.size)⟩
    · obtain rfl : k = 4 := by omega
      rw [mostF_all]
      have HSt := Lib.hid (HSt.out)
      obtain ⟨st, hst⟩ : ∃ st, strF near = st := ⟨_, rfl⟩
      rw [hst]
      rw [hst] at HSt
      have HSf := Lib.hid (fun (V : World) (k : Below wr.heap.size wr V) => (show Calls Tryd.prog 20 #[.pointer (some ⟨G, 0, none⟩), .int .i64 f] V fun e w' => e = .returned (.bool sf) ∧ Below V.heap.size V w' from by
        have := HSf.out V (lR.trans (k.mono lR.size)) f
        rwa [Hsf.out] at this))
      have HRf := Lib.hid (fun (V : World) (k : Below wr.heap.size wr V) => (show Calls Tryd.prog 19 #[.agg #[.int .i64 (m : Nat), .slice ha L.length hcp], .int .i64 f] V fun e w' => e = .returned (.bool sf) ∧ Below V.heap.size V w' from by
        have := HRs.out V (lR.trans (k.mono lR.size)) f
        rwa [Hsf.out] at this))
      have HSt := Lib.hid (fun (V : World) (k : Below wr.heap.size wr V) => HSt.out V (lR.trans (k.mono lR.size)))
      have HWk := Lib.hid (fun (V : World) (k : Below wr.heap.size wr V) => HWk.out V (lR.trans (k.mono lR.size)))
      have q5 := Nat.lt_of_lt_of_le q4 lR.size
      have HS := Lib.hid (fun (V : World) (k : Below wr.heap.size wr V) => (show Below wr.heap.size wr V ∧ V.cell? ⟨w2.heap.size, 0, none⟩ = some (.int .i64 (m : Nat)) ∧ V.cell? ⟨w2.heap.size, 1, none⟩ = some (.slice ha L.length hcp) from ⟨k, (k.cell (p := ⟨w2.heap.size, 0, none⟩) q5).trans d0, (k.cell (p := ⟨w2.heap.size, 1, none⟩) q5).trans d1⟩))
      clear hst HRs lR Hsf
      go_wp2_with fail
      go_region_held3 (fun V => Below wr.heap.size wr V ∧ V.cell? ⟨w2.heap.size, 0, none⟩ = some (.int .i64 (m : Nat)) ∧ V.cell? ⟨w2.heap.size, 1, none⟩ = some (.slice ha L.length hcp))
        ((first | exact HS.out _ (Below.refl _ _) | exact HS.out _ (Below.drew (Below.refl _ _)) | exact HS.out _ (Below.drew (by assumption)) | (obtain ⟨hB, _⟩ : Below wr.heap.size wr _ ∧ _ := (by assumption); first | exact HS.out _ hB | exact HS.out _ (Below.trans hB (Below.mono b7 hB.size)) | exact HS.out _ (Below.trans hB (Below.mono b8 hB.size)) | exact HS.out _ (Below.trans hB (Below.mono b9 hB.size)) | exact HS.out _ (Below.trans hB (Below.mono b10 hB.size)))))
        ((first
      | (go_at_call 20; obtain ⟨hB, _⟩ : Below wr.heap.size wr _ ∧ _ := (by assumption); refine (HSf.out _ hB).mono ?_; rintro e w7 ⟨rfl, b7⟩; clear hB)
      | (go_at_call 19; obtain ⟨hB, _⟩ : Below wr.heap.size wr _ ∧ _ := (by assumption); refine (HRf.out _ hB).mono ?_; rintro e w8 ⟨rfl, b8⟩; clear hB)
      | (go_at_call 21; obtain ⟨hB, _⟩ : Below wr.heap.size wr _ ∧ _ := (by assumption); refine (HSt.out _ hB).mono ?_; rintro e w9 ⟨rfl, b9⟩; clear hB)
      | (go_at_call 18; obtain ⟨hB, _⟩ : Below wr.heap.size wr _ ∧ _ := (by assumption); refine (HWk.out _ hB).mono ?_; rintro e w10 ⟨rfl, b10⟩; clear hB)))
      have hB4 : Below wr.heap.size wr w10 := by obtain ⟨hB, _⟩ : Below wr.heap.size wr _ ∧ _ := (by assumption); exact hB
      go_wp2_with fail
      go_ret
      exact ⟨rfl, HL.out.trans ((HR.out.trans (hB4.mono HR.out.size)).mono HL.out.size)⟩
end Go.Proofs.YtmbblhajbecomaaDoor.Cut
