/- The law of a graph made of a graph's links, walked. -/
import Derived.Test.YtcangalpccppbaaDoorGraphNewWalk
import Derived.Test.YtcangalpccppbaaDoorBackPure
namespace Go.Proofs.YtcangalpccppbaaDoor.Graph
open Go.RowKit
open Go.Proofs.YtcangalpccppbaaDoor.RF Go.Proofs.YtcangalpccppbaaDoor.Heap Go.Proofs.YtcangalpccppbaaDoor.Nodes Go.Proofs.YtcangalpccppbaaDoor.Seen
set_option linter.unusedVariables false
set_option linter.unusedSimpArgs false

theorem shr_bit {q i : Nat} (hq : q < 2 ^ 64) (h : q.testBit i = false) : (bits .and .u64 ((q : Int) / 2 ^ i) 1 == 1) = false := by
  have e1 : ((q : Int) / 2 ^ i) = ((q / 2 ^ i : Nat) : Int) := by simp
  have h2 : q / 2 ^ i < 2 ^ 64 := Nat.lt_of_le_of_lt (Nat.div_le_self _ _) hq
  have e2 := bits_and_u64_nat (q / 2 ^ i) 1 (by omega) (by omega)
  rw [e1, show (1 : Int) = ((1 : Nat) : Int) from rfl, e2, Nat.and_one_is_mod]
  rw [Nat.testBit_eq_decide_div_mod_eq, decide_eq_false_iff_not] at h
  simp only [beq_eq_false_iff_ne, ne_eq]
  omega
set_option maxRecDepth 100000 in
set_option maxHeartbeats 8000000 in
theorem graphback_walk (w : World) (hT : Tab w) (n : Int) (a : Option Addr) (len cap : Nat) (ls : List (Int × Int)) (hp : PairIn w a len cap ls) :
    Calls Tryd.prog 4 #[.int .i64 n, .slice a len cap] w fun e w' => e = .returned (.bool true) ∧ Below w.heap.size w w' := by
  have HT := Lib.hid hT
  clear hT
  go_enter Tryd.func4, Tryd.ntmps4
  go_wp2_with fail
  refine (cut_any w a len cap ls hp).mono ?_
  rintro e w1 ⟨v, rfl, _, hP, b1⟩
  obtain ⟨L, hL⟩ : ∃ L, ls.take 60 = L := ⟨_, rfl⟩
  have hl : L.length ≤ 65536 := by rw [← hL, List.length_take]; omega
  rw [hL] at hP
  obtain ⟨la, lc, hv, _⟩ := hP.1
  subst hv
  have HP := Lib.hid hP
  have Hl := Lib.hid hl
  clear hL hl hP hp
  go_wp2_with fail
  refine (newgo_any n _ L w1 HP.out Hl.out).mono ?_
  rintro e w2 ⟨b2, ⟨h0, k, G, R, rfl, hk1, hk, rfl, hg, hE⟩ | ⟨h0, rfl⟩⟩
  · clear h0
    have s1 := b1.size
    have s2 := b2.size
    have hM := match_new hE.out
    have hnl := hM.links hk
    have B2 := Lib.hid (b1.trans (b2.mono s1))
    go_wp2_with fail
    refine (links_any hg.out (HT.out.below B2.out HT.out.size)).mono ?_
    rintro e w3 ⟨⟨v3, rfl, o3⟩, b3⟩
    have P3 := links_pairs (by rw [hM.len]; exact hk) o3
    rw [hnl] at P3
    have s3 := b3.size
    obtain ⟨la3, lc3, hv3, _⟩ := P3.1
    subst hv3
    have HP3 := Lib.hid P3
    have hzl : (zp (refLinks k L)).length ≤ 65536 := by rw [zp_len, ← hnl]; have := linksOf_len (near := nearOf k (L.map lk)) (by rw [hM.len]; exact hk); omega
    have hg3 := Lib.hid (hg.out.below b3 (Nat.le_refl _))
    have B3 := Lib.hid (B2.out.trans (b3.mono (by omega)))
    clear o3 P3
    go_wp2_with fail
    refine (newgo_any k _ (zp (refLinks k L)) w3 HP3.out hzl).mono ?_
    rintro e W ⟨b4, ⟨_, k', G2, R2, hkk, _, _, rfl, hg2, _⟩ | ⟨hc, _⟩⟩
    · obtain rfl : k = k' := by omega
      have gW := hg3.out.below b4 (Nat.le_refl _)
      have hW := hg2.out
      rw [back_near hE.out] at hW
      have lW := Lib.hid (B3.out.trans (b4.mono (by omega)))
      have tW := HT.out.below lW.out HT.out.size
      have hlen2 : (zp (refLinks k L)).length = L.length := by rw [zp_len, back_len hE.out]
      have hlin : ∀ (G' R' : Nat), GraphAt W G' R' (nearOf k (L.map lk)) → ∀ w', Below W.heap.size W w' → Calls Tryd.prog 19 #[.pointer (some ⟨G', 0, none⟩)] w' fun e w'' => ∃ a' c', e = .returned (.slice a' L.length c') ∧ RowKit.Hid (PairsAt w'' (.slice a' L.length c') (zp (refLinks k L))) ∧ Below w'.heap.size w' w'' := fun G' R' hG w' h => by
        refine (links_any (hG.below h (Nat.le_refl _)) (tW.below h tW.size)).mono fun e w'' he => ?_
        obtain ⟨⟨v', rfl, ho⟩, hb⟩ := he
        have hp := links_pairs (by rw [hM.len]; exact hk) ho
        rw [hnl] at hp
        obtain ⟨a', c', hv, _⟩ := hp.1
        rw [hlen2] at hv
        subst hv
        exact ⟨a', c', rfl, Lib.hid hp, hb⟩
      have HLg := Lib.hid (hlin G R gW)
      have HLh := Lib.hid (hlin G2 R2 hW)
      have HE2 := Lib.hid (fun (w' : World) (v1 v2 : Value) (h1 : PairsAt w' v1 (zp (refLinks k L))) (h2 : PairsAt w' v2 (zp (refLinks k L))) => (show Calls Tryd.prog 20 #[v1, v2] w' fun e w'' => e = .returned (.bool true) ∧ Below w'.heap.size w' w'' from by
        have := linkseq_any w' v1 v2 _ _ h1 h2 hzl
        rwa [show decide (zp (refLinks k L) = zp (refLinks k L)) = true by simp] at this))
      have HAg := Lib.hid (fun (w' : World) (i : Int) (h : Below W.heap.size W w') => near_any (gW.below h (Nat.le_refl _)) i)
      have HAh := Lib.hid (fun (w' : World) (i : Int) (h : Below W.heap.size W w') => near_any (hW.below h (Nat.le_refl _)) i)
      have HWk := Lib.hid (fun (w' : World) (h : Below W.heap.size W w') => works_any w' (tW.below h tW.size))
      have HM := Lib.hid hM
      have hself := Lib.hid (fun i : Nat => refL_self hE.out (i : Int))
      clear gW hW tW hlin hlen2 b1 b2 b3 b4 hM hnl hE hg hg2 hg3 HP3 HP
      go_wp2_with fail
      refine (HLh.out _ (Below.refl _ _)).mono ?_
      rintro e w5 ⟨a5, c5, rfl, P5, b5⟩
      have B5 := Lib.hid b5
      clear b5
      go_wp2_with fail
      refine (HLg.out _ B5.out).mono ?_
      rintro e w6 ⟨a6, c6, rfl, P6, b6⟩
      have P5' := Lib.hid (P5.out.off b6)
      have B6 := Lib.hid (B5.out.trans (b6.mono B5.out.size))
      clear b6 P5
      go_wp2_with fail
      refine (HE2.out _ _ _ P5'.out P6.out).mono ?_
      rintro e w7 ⟨rfl, b7⟩
      have B7 := Lib.hid (B6.out.trans (b7.mono B6.out.size))
      clear b7 P5' P6
      go_wp2_with fail
      refine (HLg.out _ B7.out).mono ?_
      rintro e w8 ⟨a8, c8, rfl, P8, b8⟩
      have B8 := Lib.hid (B7.out.trans (b8.mono B7.out.size))
      clear b8 P8 B7 B6 B5 HLg HLh HE2
      have hB0 := B8.out
      go_wp2_with fail
      go_loopw [9] (fun v9 wr => ∃ i : Nat, v9 = .int .i64 i ∧ i ≤ k ∧ Below W.heap.size W wr) (fun v9 _ => match v9 with | .int _ i => k - i.toNat | _ => 0)
      case atStart => exact ⟨0, rfl, Nat.zero_le _, hB0⟩
      case round =>
        clear hB0
        obtain ⟨i, rfl, hi, hR⟩ := hrel
        by_cases hlt : i < k
        · have l3 : (0 : Int) ≤ (i : Int) := by omega
          have l4 : (i : Int) < (k : Int) := by omega
          have l5 : (i : Int) ≤ 64 := by omega
          obtain ⟨q, hq⟩ : ∃ q : Nat, nearR (nearOf k (L.map lk)) i = q := ⟨_, rfl⟩
          have h1 := HAg.out _ (i : Int) hR
          have h2 := HAh.out _ (i : Int) hR
          rw [hq] at h1 h2
          have hbit := shr_bit (q := q) (i := i) (by
            rw [← hq]
            unfold nearR
            split
            · have := HM.out.word (i := i) hlt
              rw [Int.toNat_natCast]
              exact Nat.lt_of_lt_of_le this (Nat.pow_le_pow_right (by omega) hk)
            · omega) (by
            rw [← hq]
            unfold nearR
            rw [HM.out.len, isN_nat, if_pos (by simpa using hlt), Int.toNat_natCast, HM.out.bits i i hlt]
            exact hself.out i)
          have H1 := Lib.hid h1
          have H2 := Lib.hid h2
          clear h1 h2
          go_wp2_with fail
          refine H1.out.mono ?_
          rintro e w' ⟨rfl, h⟩
          rw [h]
          clear h w'
          go_wp2_with fail
          refine H2.out.mono ?_
          rintro e w' ⟨rfl, h⟩
          rw [h]
          clear h w'
          go_wp2_with fail
          refine H1.out.mono ?_
          rintro e w' ⟨rfl, h⟩
          rw [h]
          clear h w'
          go_wp2_with fail
          go_round
          case rel => exact ⟨i + 1, rfl, hlt, hR⟩
          case measure => simp; omega
        · obtain rfl : i = k := by omega
          go_wp2_with fail
          refine (HWk.out _ hR).mono ?_
          rintro e w9 ⟨rfl, b9⟩
          go_wp2_with fail
          go_ret
          exact ⟨rfl, lW.out.trans ((hR.trans (b9.mono hR.size)).mono lW.out.size)⟩
    · exact absurd hc (by simp only [newR, Int.toNat_natCast]; rw [if_neg (by omega), back_ok]; simp)
  · have H0 := Lib.hid h0
    obtain ⟨c, hc⟩ : ∃ c, newR n L = c := ⟨_, rfl⟩
    have h0 := H0.out
    rw [hc] at h0 ⊢
    have h1 : (c != 0) = true := by simpa using h0
    clear hc H0 h0
    have s1 := b1.size
    have B2 := Lib.hid (b1.trans (b2.mono s1))
    clear b1 b2
    go_wp2_with fail
    refine (works_any _ (HT.out.below B2.out HT.out.size)).mono ?_
    rintro e w6 ⟨rfl, b6⟩
    go_wp2_with fail
    go_ret
    exact ⟨rfl, B2.out.trans (b6.mono B2.out.size)⟩
end Go.Proofs.YtcangalpccppbaaDoor.Graph
