/- The law of Without, walked. -/
import Derived.Test.YtcangalpccppbaaDoorGraphNewWalk
import Derived.Test.YtcangalpccppbaaDoorGoWithout
import Derived.Test.YtcangalpccppbaaDoorRefWithout
namespace Go.Proofs.YtcangalpccppbaaDoor.Graph
open Go.RowKit
open Go.Proofs.YtcangalpccppbaaDoor.RF Go.Proofs.YtcangalpccppbaaDoor.Heap Go.Proofs.YtcangalpccppbaaDoor.Nodes Go.Proofs.YtcangalpccppbaaDoor.Seen
set_option linter.unusedVariables false
set_option linter.unusedSimpArgs false

set_option maxRecDepth 100000 in
set_option maxHeartbeats 8000000 in
theorem graphwithout_walk (w : World) (hT : Tab w) (n : Int) (a : Option Addr) (len cap : Nat) (ls : List (Int × Int)) (hp : PairIn w a len cap ls) (si : Int) (hsi : (Lit.int .u64 si).wf = true) :
    Calls Tryd.prog 6 #[.int .i64 n, .slice a len cap, .int .u64 si] w fun e w' => e = .returned (.bool true) ∧ Below w.heap.size w w' := by
  obtain ⟨s, rfl, hs⟩ : ∃ s : Nat, si = s ∧ s < 2 ^ 64 := by
    have e1 : IntKind.u64.min = 0 := by decide
    have e2 : IntKind.u64.max = 18446744073709551615 := by decide
    simp only [Lit.wf, e1, e2, Bool.and_eq_true, decide_eq_true_eq] at hsi
    exact ⟨si.toNat, by omega, by omega⟩
  have HT := Lib.hid hT
  clear hT hsi
  go_enter Tryd.func6, Tryd.ntmps6
  go_wp2_with fail
  refine (cut_any w a len cap ls hp).mono ?_
  rintro e w1 ⟨v, rfl, _, hP, b1⟩
  obtain ⟨L, hL⟩ : ∃ L, ls.take 60 = L := ⟨_, rfl⟩
  have hl : L.length ≤ 65536 := by rw [← hL, List.length_take]; omega
  rw [hL] at hP
  have HP := Lib.hid hP
  have Hl := Lib.hid hl
  clear hL hl hP hp
  go_wp2_with fail
  refine (newgo_any n v L w1 HP.out Hl.out).mono ?_
  rintro e w2 ⟨b2, ⟨h0, k, G, R, rfl, hk1, hk, rfl, hg, hE⟩ | ⟨h0, rfl⟩⟩
  · have H0 := Lib.hid h0
    clear h0
    have P2 := Lib.hid (HP.out.off b2)
    go_wp2_with fail
    refine (refnew_any k v L w2 P2.out Hl.out).mono ?_
    rintro e w3 ⟨b3, ⟨_, v', rfl, P3⟩ | ⟨hc, _⟩⟩
    · obtain ⟨la, lc, rfl, _⟩ := P3.1
      have P3 := Lib.hid P3
      obtain ⟨V, hV⟩ : ∃ V, w3.alloc (.cells #[.int .i64 (k : Nat), .slice la L.length lc] 29) = V := ⟨_, rfl⟩
      have bV : Blk V w3.heap.size 29 #[.int .i64 (k : Nat), .slice la L.length lc] := by rw [← hV]; exact Blk.new w3 _ _
      have o3 : Below w3.heap.size w3 V := by rw [← hV]; exact (Below.refl _ w3).alloc (Nat.le_refl _) _
      have HV := Lib.hid hV
      have s1 := b1.size
      have s2 := b2.size
      have s3 := b3.size
      have lV := b1.trans ((b2.mono s1).trans ((b3.mono (by omega)).trans (o3.mono (by omega))))
      have gV := (hg.out.below b3 (Nat.le_refl _)).below o3 (Nat.le_refl _)
      have GV := Lib.hid gV
      have LV := Lib.hid lV
      have BV := Lib.hid bV
      have PV := Lib.hid (P3.out.off o3)
      clear hV b1 b2 b3 o3 gV lV bV P3 hg P2 HP
      go_wp2_with fail
      rw [HV.out]
      refine (gowithout_any GV.out s hs).mono ?_
      rintro e W ⟨G', R', rfl, g4, b4⟩
      have zV := BV.out.lt
      have sV := LV.out.size
      have bW := BV.out.below b4 zV
      have zW := bW.lt
      have lW := Lib.hid (LV.out.trans (b4.mono (by omega)))
      have tW := HT.out.below lW.out HT.out.size
      have gW := GV.out.below b4 (Nat.le_refl _)
      have pW := PV.out.off b4
      have hM := match_new hE.out
      have hM2 := match_without hM hk hs
      have hl2 : (L.filter (keepP ((ones s).map fun k : Nat => (k : Int)))).length ≤ 65536 := Nat.le_trans (List.length_filter_le _ _) Hl.out
      have HS := Lib.hid (fun (w' : World) (h : Below W.heap.size W w') => (show Below W.heap.size W w' ∧ w'.cell? ⟨w3.heap.size, 0, none⟩ = some (.int .i64 (k : Nat)) ∧ w'.cell? ⟨w3.heap.size, 1, none⟩ = some (.slice la L.length lc) from ⟨h, (bW.below h zW).cell 0, (bW.below h zW).cell 1⟩))
      have HLs := Lib.hid (fun (w' : World) => (show Calls Tryd.prog 26 #[.int .u64 s] w' fun e w'' => ∃ v', e = .returned v' ∧ RowKit.Hid (IntsAt w'' v' ((ones s).map fun k : Nat => (k : Int))) ∧ Below w'.heap.size w' w'' from
        (reflist_any s hs w').mono fun e w'' he => by
          obtain ⟨v', rfl, ho, hb⟩ := he
          exact ⟨v', rfl, Lib.hid (nc_ints ho rfl), hb⟩))
      have HWo := Lib.hid (fun (w' : World) (ov : Value) (h : Below W.heap.size W w') (hi : IntsAt w' ov ((ones s).map fun k : Nat => (k : Int))) => (show Calls Tryd.prog 25 #[.agg #[.int .i64 k, .slice la L.length lc], ov] w' fun e w'' => ∃ v', e = .returned (.agg #[.int .i64 k, v']) ∧ RowKit.Hid (PairsAt w'' v' (L.filter (keepP ((ones s).map fun k : Nat => (k : Int))))) ∧ Below w'.heap.size w' w'' from
        (refwithout_any k _ ov L _ w' (pW.off h) hi Hl.out (by have := ones_len s; simp; omega)).mono fun e w'' he => by
          obtain ⟨v', rfl, ho, hb⟩ := he
          exact ⟨v', rfl, Lib.hid ho, hb⟩))
      have HS1 := Lib.hid (fun (w' : World) (v' : Value) (h : Below W.heap.size W w') (hp : PairsAt w' v' (L.filter (keepP ((ones s).map fun k : Nat => (k : Int))))) => same_any k _ _ v' G' R' w' (tW.below h tW.size) (g4.below h (Nat.le_refl _)) hp hM2 hl2 hk)
      have HS2 := Lib.hid (fun (w' : World) (h : Below W.heap.size W w') => same_any k _ L (.slice la L.length lc) G R w' (tW.below h tW.size) (gW.below h (Nat.le_refl _)) (pW.off h) hM Hl.out hk)
      have HWk := Lib.hid (fun (w' : World) (h : Below W.heap.size W w') => works_any w' (tW.below h tW.size))
      clear GV LV BV PV bW tW gW pW hM hM2 hl2 b4 g4 HV
      go_wp2_with fail
      go_region_held3 (fun w' => Below W.heap.size W w' ∧ w'.cell? ⟨w3.heap.size, 0, none⟩ = some (.int .i64 (k : Nat)) ∧ w'.cell? ⟨w3.heap.size, 1, none⟩ = some (.slice la L.length lc))
        ((first | exact HS.out _ (Below.refl _ _) | exact HS.out _ (Below.drew (Below.refl _ _)) | exact HS.out _ (Below.drew (by assumption)) | (obtain ⟨hB, _⟩ : Below W.heap.size W _ ∧ _ := (by assumption); exact HS.out _ (Below.trans hB (Below.mono b5 hB.size))) | (obtain ⟨hB, _⟩ : Below W.heap.size W _ ∧ _ := (by assumption); exact HS.out _ (Below.trans hB (Below.mono b6 hB.size))) | (obtain ⟨hB, _⟩ : Below W.heap.size W _ ∧ _ := (by assumption); exact HS.out _ (Below.trans hB (Below.mono b7 hB.size))) | (obtain ⟨hB, _⟩ : Below W.heap.size W _ ∧ _ := (by assumption); exact HS.out _ (Below.trans hB (Below.mono b8 hB.size))) | (obtain ⟨hB, _⟩ : Below W.heap.size W _ ∧ _ := (by assumption); exact HS.out _ (Below.trans hB (Below.mono b9 hB.size))) | (obtain ⟨hB, _⟩ : Below W.heap.size W _ ∧ _ := (by assumption); exact HS.out _ hB)))
        (first
          | (go_at_call 26; refine (HLs.out _).mono ?_; rintro e w5 ⟨v5, rfl, P5, b5⟩)
          | (go_at_call 25; obtain ⟨hB, _⟩ : Below W.heap.size W _ ∧ _ := (by assumption); refine (HWo.out _ _ hB P5.out).mono ?_; rintro e w6 ⟨v6, rfl, P6, b6⟩; clear hB)
          | (go_at_call 17; obtain ⟨hB, _⟩ : Below W.heap.size W _ ∧ _ := (by assumption); refine (HS1.out _ _ hB P6.out).mono ?_; rintro e w7 ⟨rfl, b7⟩; clear hB)
          | (go_at_call 17; obtain ⟨hB, _⟩ : Below W.heap.size W _ ∧ _ := (by assumption); refine (HS2.out _ hB).mono ?_; rintro e w8 ⟨rfl, b8⟩; clear hB)
          | (go_at_call 18; obtain ⟨hB, _⟩ : Below W.heap.size W _ ∧ _ := (by assumption); refine (HWk.out _ hB).mono ?_; rintro e w9 ⟨rfl, b9⟩; clear hB))
      have hB4 : Below W.heap.size W w9 := by obtain ⟨hB, _⟩ : Below W.heap.size W _ ∧ _ := (by assumption); exact hB
      go_wp2_with fail
      go_ret
      exact ⟨rfl, lW.out.trans (hB4.mono lW.out.size)⟩
    · exact absurd H0.out hc
  · have H0 := Lib.hid h0
    have P2 := Lib.hid (HP.out.off b2)
    clear h0
    go_wp2_with fail
    refine (refnew_any n v L w2 P2.out Hl.out).mono ?_
    rintro e w3 ⟨b3, ⟨hc, _⟩ | ⟨_, rfl⟩⟩
    · exact absurd hc H0.out
    · obtain ⟨c, hc⟩ : ∃ c, newR n L = c := ⟨_, rfl⟩
      have h0 := H0.out
      rw [hc] at h0 ⊢
      have h1 : (c != 0) = true := by simpa using h0
      clear hc H0 h0
      have s1 := b1.size
      have s2 := b2.size
      have s3 := b3.size
      have B3 := Lib.hid (b1.trans ((b2.mono s1).trans (b3.mono (Nat.le_trans s1 s2))))
      have bW := Lib.hid ((Below.refl w3.heap.size w3).alloc (Nat.le_refl _) (.cells #[.int .i64 0, .slice none 0 0] 29))
      unfold noGraph
      go_wp2_with fail
      refine (without_nil s _).mono ?_
      rintro e w' ⟨rfl, h⟩
      rw [h]
      clear h w'
      go_wp2_with fail
      refine (works_any _ (HT.out.below (B3.out.trans (bW.out.mono B3.out.size)) HT.out.size)).mono ?_
      rintro e w6 ⟨rfl, b6⟩
      go_wp2_with fail
      go_ret
      exact ⟨rfl, (B3.out.trans (bW.out.mono B3.out.size)).trans (b6.mono (Nat.le_trans B3.out.size bW.out.size))⟩
end Go.Proofs.YtcangalpccppbaaDoor.Graph
