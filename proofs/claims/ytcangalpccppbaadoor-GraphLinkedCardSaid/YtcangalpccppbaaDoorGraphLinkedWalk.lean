/- The law of Linked, walked. -/
import Derived.Test.YtcangalpccppbaaDoorGraphNewWalk
namespace Go.Proofs.YtcangalpccppbaaDoor.Graph
open Go.RowKit
open Go.Proofs.YtcangalpccppbaaDoor.RF Go.Proofs.YtcangalpccppbaaDoor.Heap Go.Proofs.YtcangalpccppbaaDoor.Nodes Go.Proofs.YtcangalpccppbaaDoor.Seen
set_option linter.unusedVariables false
set_option linter.unusedSimpArgs false

set_option maxRecDepth 100000 in
set_option maxHeartbeats 8000000 in
theorem graphlinked_walk (w : World) (hT : Tab w) (n : Int) (a : Option Addr) (len cap : Nat) (ls : List (Int × Int)) (hp : PairIn w a len cap ls) (x y : Int) :
    Calls Tryd.prog 5 #[.int .i64 n, .slice a len cap, .agg #[.int .i64 x, .int .i64 y]] w fun e w' => e = .returned (.bool true) ∧ Below w.heap.size w w' := by
  have HT := Lib.hid hT
  obtain ⟨W0, hW0⟩ : ∃ W0, w.alloc (.cells #[.int .i64 x, .int .i64 y] 41) = W0 := ⟨_, rfl⟩
  have bA0 : Blk W0 w.heap.size 41 #[.int .i64 x, .int .i64 y] := by rw [← hW0]; exact Blk.new w _ _
  have b0 : Below w.heap.size w W0 := by rw [← hW0]; exact (Below.refl _ w).alloc (Nat.le_refl _) _
  have hp0 : PairIn W0 a len cap ls := ⟨hp.le, hp.max, hp.size, hp.wf, by
    rcases hp.at' with h | h | ⟨b, off, h1, h2, h3⟩
    · exact .inl h
    · exact .inr (.inl h)
    · exact .inr (.inr ⟨b, off, h1, by have := b0.size; omega, fun j u hu => (b0.cell (p := ⟨b, off + j, none⟩) h2).trans (h3 j u hu)⟩)⟩
  have HW0 := Lib.hid hW0
  clear hT hp hW0
  go_enter Tryd.func5, Tryd.ntmps5
  go_wp2_with fail
  rw [HW0.out]
  refine (cut_any W0 a len cap ls hp0).mono ?_
  rintro e w1 ⟨v, rfl, _, hP, b1⟩
  obtain ⟨L, hL⟩ : ∃ L, ls.take 60 = L := ⟨_, rfl⟩
  have hl : L.length ≤ 65536 := by rw [← hL, List.length_take]; omega
  rw [hL] at hP
  have HP := Lib.hid hP
  have Hl := Lib.hid hl
  have bA1 := bA0.below b1 bA0.lt
  have z0 := bA0.lt
  clear hL hl hP hp0 HW0 bA0
  go_wp2_with fail
  refine (newgo_any n v L w1 HP.out Hl.out).mono ?_
  rintro e w2 ⟨b2, hends⟩
  have bA2 := bA1.below b2 bA1.lt
  have P2 := Lib.hid (HP.out.off b2)
  rcases hends with ⟨h0, k, G, R, rfl, hk1, hk, rfl, hg, hE⟩ | ⟨h0, rfl⟩
  · have H0 := Lib.hid h0
    clear h0
    go_wp2_with fail
    refine (refnew_any k v L w2 P2.out Hl.out).mono ?_
    rintro e w3 ⟨b3, ⟨_, v', rfl, P3⟩ | ⟨hc, _⟩⟩
    · obtain ⟨la, lc, rfl, _⟩ := P3.1
      obtain ⟨W, hW⟩ : ∃ W, w3.alloc (.cells #[.int .i64 (k : Nat), .slice la L.length lc] 29) = W := ⟨_, rfl⟩
      have bW : Blk W w3.heap.size 29 #[.int .i64 (k : Nat), .slice la L.length lc] := by rw [← hW]; exact Blk.new w3 _ _
      have o3 : Below w3.heap.size w3 W := by rw [← hW]; exact (Below.refl _ w3).alloc (Nat.le_refl _) _
      have HW := Lib.hid hW
      have s0 := b0.size
      have s1 := b1.size
      have s2 := b2.size
      have s3 := b3.size
      have bA := (bA2.below b3 bA2.lt).below o3 (bA2.below b3 bA2.lt).lt
      have lW := Lib.hid (b0.trans ((b1.mono s0).trans ((b2.mono (by omega)).trans ((b3.mono (by omega)).trans (o3.mono (by omega))))))
      have gW := (hg.out.below b3 (Nat.le_refl _)).below o3 (Nat.le_refl _)
      have pW := P3.off o3
      have hM := match_new hE.out
      have tW := HT.out.below lW.out HT.out.size
      have HK := Lib.hid (fun (w' : World) (i j : Int) (h : Below W.heap.size W w') => (show Calls Tryd.prog 22 #[.pointer (some ⟨G, 0, none⟩), .int .i64 i, .int .i64 j] w' fun e w'' => e = .returned (.bool (refL L i j)) ∧ w'' = w' from by
        have := linked_any (gW.below h (Nat.le_refl _)) i j
        rwa [hM.linked hk] at this))
      have HR := Lib.hid (fun (w' : World) (i j : Int) (h : Below W.heap.size W w') => reflinked_any k _ L i j w' (pW.off h) Hl.out)
      have HWk := Lib.hid (fun (w' : World) (h : Below W.heap.size W w') => works_any w' (tW.below h tW.size))
      have hq := refL_comm L y x
      obtain ⟨q, hq1⟩ : ∃ q, refL L x y = q := ⟨_, rfl⟩
      have hq2 : refL L y x = q := hq.trans hq1
      clear hq b0 b1 b2 b3 o3 gW pW hM tW P3 bA1 bA2 hW hg hE
      have zW := bW.lt
      have HS : ∀ w', Below W.heap.size W w' → (Below W.heap.size W w' ∧ w'.cell? ⟨w3.heap.size, 0, none⟩ = some (.int .i64 (k : Nat)) ∧ w'.cell? ⟨w3.heap.size, 1, none⟩ = some (.slice la L.length lc)) := fun w' h => ⟨h, (bW.below h zW).cell 0, (bW.below h zW).cell 1⟩
      replace HS := Lib.hid HS
      have cA0 := bA.cell 0
      have cA1 := bA.cell 1
      simp at cA0 cA1
      clear bA bW
      go_wp2_with fail
      rw [HW.out]
      clear HW
      go_quiet (fail)
      have HS2 : ∀ w', Below W.heap.size (W.drewN nq) w' → (Below W.heap.size W w' ∧ w'.cell? ⟨w3.heap.size, 0, none⟩ = some (.int .i64 (k : Nat)) ∧ w'.cell? ⟨w3.heap.size, 1, none⟩ = some (.slice la L.length lc)) := fun w' h => HS.out w' ⟨h.os, h.tape, h.output, h.size, h.block⟩
      replace HS2 := Lib.hid HS2
      go_wp2_with fail
      go_region_held3 (fun w' => Below W.heap.size W w' ∧ w'.cell? ⟨w3.heap.size, 0, none⟩ = some (.int .i64 (k : Nat)) ∧ w'.cell? ⟨w3.heap.size, 1, none⟩ = some (.slice la L.length lc))
        ((first | exact HS.out _ (Below.refl _ _) | exact HS.out _ (Below.drewN (Below.refl _ _)) | exact HS2.out _ (Below.drew (Below.refl _ _)) | exact HS.out _ (Below.drew (by assumption)) | (obtain ⟨hB, _⟩ : Below W.heap.size W _ ∧ _ := (by assumption); exact HS.out _ (Below.trans hB (Below.mono b4 hB.size))) | (obtain ⟨hB, _⟩ : Below W.heap.size W _ ∧ _ := (by assumption); exact HS.out _ (Below.trans hB (Below.mono b5 hB.size))) | (obtain ⟨hB, _⟩ : Below W.heap.size W _ ∧ _ := (by assumption); exact HS.out _ hB)))
        (first
          | (go_at_call 22; obtain ⟨hB, _⟩ : Below W.heap.size W _ ∧ _ := (by assumption); refine (HK.out _ _ _ hB).mono ?_; rintro e w' ⟨rfl, h⟩; rw [h]; first | rw [hq1] | rw [hq2]; clear h w' hB)
          | (go_at_call 23; obtain ⟨hB, _⟩ : Below W.heap.size W _ ∧ _ := (by assumption); refine (HR.out _ _ _ hB).mono ?_; rintro e w4 ⟨rfl, b4⟩; rw [hq1]; clear hB)
          | (go_at_call 18; obtain ⟨hB, _⟩ : Below W.heap.size W _ ∧ _ := (by assumption); refine (HWk.out _ hB).mono ?_; rintro e w5 ⟨rfl, b5⟩; clear hB))
      have hB4 : Below W.heap.size W w5 := by obtain ⟨hB, _⟩ : Below W.heap.size W _ ∧ _ := (by assumption); exact hB
      go_wp2_with fail
      go_ret
      exact ⟨rfl, lW.out.trans (hB4.mono lW.out.size)⟩
    · exact absurd H0.out hc
  · have H0 := Lib.hid h0
    clear h0
    go_wp2_with fail
    refine (refnew_any n v L w2 P2.out Hl.out).mono ?_
    rintro e w3 ⟨b3, ⟨hc, _⟩ | ⟨_, rfl⟩⟩
    · exact absurd hc H0.out
    · obtain ⟨W, hW⟩ : ∃ W, w3.alloc (.cells #[.int .i64 0, .slice none 0 0] 29) = W := ⟨_, rfl⟩
      have bW : Blk W w3.heap.size 29 #[.int .i64 0, .slice none 0 0] := by rw [← hW]; exact Blk.new w3 _ _
      have o3 : Below w3.heap.size w3 W := by rw [← hW]; exact (Below.refl _ w3).alloc (Nat.le_refl _) _
      have HW := Lib.hid hW
      have s0 := b0.size
      have s1 := b1.size
      have s2 := b2.size
      have s3 := b3.size
      have bA := (bA2.below b3 bA2.lt).below o3 (bA2.below b3 bA2.lt).lt
      have lW := Lib.hid (b0.trans ((b1.mono s0).trans ((b2.mono (by omega)).trans ((b3.mono (by omega)).trans (o3.mono (by omega))))))
      have tW := HT.out.below lW.out HT.out.size
      have HK := Lib.hid (fun (w' : World) (i j : Int) (h : Below W.heap.size W w') => linked_nil i j w')
      have HR := Lib.hid (fun (w' : World) (i j : Int) (h : Below W.heap.size W w') => reflinked_any 0 (.slice none 0 0) [] i j w' ⟨⟨none, 0, rfl, fun i p hp => by simp at hp⟩, by simp⟩ (by simp))
      have HWk := Lib.hid (fun (w' : World) (h : Below W.heap.size W w') => works_any w' (tW.below h tW.size))
      have hq1 : refL [] x y = false := rfl
      have hq2 : refL [] y x = false := rfl
      clear b0 b1 b2 b3 o3 tW bA1 bA2 hW
      unfold noGraph
      have zW := bW.lt
      have HS : ∀ w', Below W.heap.size W w' → (Below W.heap.size W w' ∧ w'.cell? ⟨w3.heap.size, 0, none⟩ = some (.int .i64 0) ∧ w'.cell? ⟨w3.heap.size, 1, none⟩ = some (.slice none 0 0)) := fun w' h => ⟨h, (bW.below h zW).cell 0, (bW.below h zW).cell 1⟩
      replace HS := Lib.hid HS
      have cA0 := bA.cell 0
      have cA1 := bA.cell 1
      simp at cA0 cA1
      clear bA bW
      go_wp2_with fail
      rw [HW.out]
      clear HW
      go_quiet (fail)
      have HS2 : ∀ w', Below W.heap.size (W.drewN nq) w' → (Below W.heap.size W w' ∧ w'.cell? ⟨w3.heap.size, 0, none⟩ = some (.int .i64 0) ∧ w'.cell? ⟨w3.heap.size, 1, none⟩ = some (.slice none 0 0)) := fun w' h => HS.out w' ⟨h.os, h.tape, h.output, h.size, h.block⟩
      replace HS2 := Lib.hid HS2
      go_wp2_with fail
      go_region_held3 (fun w' => Below W.heap.size W w' ∧ w'.cell? ⟨w3.heap.size, 0, none⟩ = some (.int .i64 0) ∧ w'.cell? ⟨w3.heap.size, 1, none⟩ = some (.slice none 0 0))
        ((first | exact HS.out _ (Below.refl _ _) | exact HS.out _ (Below.drewN (Below.refl _ _)) | exact HS2.out _ (Below.drew (Below.refl _ _)) | exact HS.out _ (Below.drew (by assumption)) | (obtain ⟨hB, _⟩ : Below W.heap.size W _ ∧ _ := (by assumption); exact HS.out _ (Below.trans hB (Below.mono b4 hB.size))) | (obtain ⟨hB, _⟩ : Below W.heap.size W _ ∧ _ := (by assumption); exact HS.out _ (Below.trans hB (Below.mono b5 hB.size))) | (obtain ⟨hB, _⟩ : Below W.heap.size W _ ∧ _ := (by assumption); exact HS.out _ hB)))
        (first
          | (go_at_call 22; obtain ⟨hB, _⟩ : Below W.heap.size W _ ∧ _ := (by assumption); refine (HK.out _ _ _ hB).mono ?_; rintro e w' ⟨rfl, h⟩; rw [h]; clear h w' hB)
          | (go_at_call 23; obtain ⟨hB, _⟩ : Below W.heap.size W _ ∧ _ := (by assumption); refine (HR.out _ _ _ hB).mono ?_; rintro e w4 ⟨rfl, b4⟩; simp only [hq1]; clear hB)
          | (go_at_call 18; obtain ⟨hB, _⟩ : Below W.heap.size W _ ∧ _ := (by assumption); refine (HWk.out _ hB).mono ?_; rintro e w5 ⟨rfl, b5⟩; clear hB))
      have hB4 : Below W.heap.size W w5 := by obtain ⟨hB, _⟩ : Below W.heap.size W _ ∧ _ := (by assumption); exact hB
      go_wp2_with fail
      go_ret
      exact ⟨rfl, lW.out.trans (hB4.mono lW.out.size)⟩
end Go.Proofs.YtcangalpccppbaaDoor.Graph
