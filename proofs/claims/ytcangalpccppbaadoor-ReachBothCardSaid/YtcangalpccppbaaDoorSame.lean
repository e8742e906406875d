/- The law's same: a graph is the document's. -/
import Derived.Test.YtcangalpccppbaaDoorLinksEq
import Derived.Test.YtcangalpccppbaaDoorRefLinks
import Derived.Test.YtcangalpccppbaaDoorRefNew
import Derived.Deep.RegionHeld3
namespace Go.Proofs.YtcangalpccppbaaDoor.Graph
open Go.RowKit
open Go.Proofs.YtcangalpccppbaaDoor.RF Go.Proofs.YtcangalpccppbaaDoor.Heap Go.Proofs.YtcangalpccppbaaDoor.Nodes Go.Proofs.YtcangalpccppbaaDoor.Seen
set_option linter.unusedVariables false
set_option linter.unusedSimpArgs false

theorem linksOf_len {near : List Nat} (h : near.length ≤ 64) : (linksOf near).length ≤ 4096 := by
  have := linksTo_len near near.length
  unfold linksOf; omega
theorem linksOf_lt {near : List Nat} (h : near.length ≤ 64) : ∀ p ∈ linksOf near, p.1 < 2 ^ 63 ∧ p.2 < 2 ^ 63 := by
  intro p hp
  simp only [linksOf, linksTo, up, List.mem_flatMap, List.mem_range, List.mem_map, List.mem_filter] at hp
  obtain ⟨a, ha, b, ⟨hb, _⟩, rfl⟩ := hp
  have := ones_lt hb
  exact ⟨by show a < 2 ^ 63; omega, by show b < 2 ^ 63; omega⟩
/-- What Links tells is a list of pairs. -/
theorem links_pairs {w : World} {base : Nat} {v : Value} {near : List Nat} (hf : near.length ≤ 64) (h : w.ownsRow base 41 2 v (linksOf near).length (pc (linksOf near))) : PairsAt w v (zp (linksOf near)) := by
  rw [pc_zp] at h
  exact own_pairs h (zp_len _) (zp_wf (linksOf_lt hf))
set_option maxRecDepth 100000 in
set_option maxHeartbeats 8000000 in
theorem same_any (n : Nat) (near : List Nat) (L : List (Int × Int)) (v : Value) (G R : Nat) (w : World) (hT : Tab w) (hg : GraphAt w G R near) (hp : PairsAt w v L) (hM : Match n near L) (hlen : L.length ≤ 65536) (hn : n ≤ 64) :
    Calls Tryd.prog 17 #[.pointer (some ⟨G, 0, none⟩), .agg #[.int .i64 n, v]] w fun e w' => e = .returned (.bool true) ∧ Below w.heap.size w w' := by
  obtain ⟨la, lcap, hv, _⟩ := hp.1
  have Hp := Lib.hid hp
  have Hg := Lib.hid hg
  have HM := Lib.hid hM
  have HT := Lib.hid hT
  subst hv
  have hnl := hM.len
  have Hlen := Lib.hid hlen
  clear hp hg hM hT hlen
  obtain ⟨W, hW⟩ : ∃ W, w.alloc (.cells #[.int .i64 (n : Nat), .slice la L.length lcap] 29) = W := ⟨_, rfl⟩
  have bW : Blk W w.heap.size 29 #[.int .i64 (n : Nat), .slice la L.length lcap] := by rw [← hW]; exact Blk.new w _ _
  have lW : Below w.heap.size w W := by rw [← hW]; exact (Below.refl _ w).alloc (Nat.le_refl _) _
  have zW := bW.lt
  have HS : ∀ w', Below W.heap.size W w' → (Below W.heap.size W w' ∧ w'.cell? ⟨w.heap.size, 0, none⟩ = some (.int .i64 (n : Nat)) ∧ w'.cell? ⟨w.heap.size, 1, none⟩ = some (.slice la L.length lcap)) := fun w' h => ⟨h, (bW.below h zW).cell 0, (bW.below h zW).cell 1⟩
  replace HS := Lib.hid HS
  have HF : ∀ w', Below W.heap.size W w' → Tab w' ∧ GraphAt w' G R near ∧ PairsAt w' (.slice la L.length lcap) L := fun w' h => by
    have l' := lW.trans (h.mono (by omega))
    exact ⟨HT.out.below l' HT.out.size, Hg.out.below l' (Nat.le_refl _), Hp.out.off l'⟩
  replace HF := Lib.hid HF
  have HN : ∀ w', Below W.heap.size W w' → Calls Tryd.prog 27 #[.pointer (some ⟨G, 0, none⟩)] w' fun e w'' => e = .returned (.int .i64 (n : Nat)) ∧ w'' = w' := fun w' h => by
    have := n_any (HF.out w' h).2.1
    rwa [hnl] at this
  replace HN := Lib.hid HN
  have HL : ∀ w', Below W.heap.size W w' → Calls Tryd.prog 19 #[.pointer (some ⟨G, 0, none⟩)] w' fun e w'' => ∃ v', e = .returned v' ∧ RowKit.Hid (PairsAt w'' v' (zp (refLinks n L))) ∧ Below w'.heap.size w' w'' := fun w' h => by
    refine (links_any (HF.out w' h).2.1 (HF.out w' h).1).mono fun e w'' he => ?_
    obtain ⟨⟨v', rfl, ho⟩, hb⟩ := he
    have := links_pairs (by omega) ho
    rw [HM.out.links hn] at this
    exact ⟨v', rfl, Lib.hid this, hb⟩
  replace HL := Lib.hid HL
  have HR : ∀ w', Below W.heap.size W w' → Calls Tryd.prog 48 #[.agg #[.int .i64 n, .slice la L.length lcap]] w' fun e w'' => ∃ v', e = .returned v' ∧ RowKit.Hid (PairsAt w'' v' (zp (refLinks n L))) ∧ Below w'.heap.size w' w'' := fun w' h => by
    refine (reflinks_any n _ L w' (HF.out w' h).2.2 Hlen.out hn).mono fun e w'' he => ?_
    obtain ⟨v', rfl, ho, hb⟩ := he
    have hl := HM.out.links hn
    rw [← hl] at ho ⊢
    exact ⟨v', rfl, Lib.hid (links_pairs (by omega) ho), hb⟩
  replace HR := Lib.hid HR
  have HE : ∀ (w' : World) (v1 v2 : Value), PairsAt w' v1 (zp (refLinks n L)) → PairsAt w' v2 (zp (refLinks n L)) → Calls Tryd.prog 20 #[v1, v2] w' fun e w'' => e = .returned (.bool true) ∧ Below w'.heap.size w' w'' := fun w' v1 v2 h1 h2 => by
    have := linkseq_any w' v1 v2 _ _ h1 h2 (by rw [zp_len, ← HM.out.links hn]; have := linksOf_len (near := near) (by omega); omega)
    rwa [show decide (zp (refLinks n L) = zp (refLinks n L)) = true by simp] at this
  replace HE := Lib.hid HE
  have HA : ∀ (w' : World) (i : Int), Below W.heap.size W w' → Calls Tryd.prog 21 #[.pointer (some ⟨G, 0, none⟩), .int .i64 i] w' fun e w'' => e = .returned (.int .u64 (nearR near i : Nat)) ∧ w'' = w' := fun w' i h => near_any (HF.out w' h).2.1 i
  replace HA := Lib.hid HA
  have HB : ∀ (w' : World) (i : Int), Below W.heap.size W w' → Calls Tryd.prog 50 #[.agg #[.int .i64 n, .slice la L.length lcap], .int .i64 i] w' fun e w'' => ∃ v', e = .returned v' ∧ RowKit.Hid (IntsAt w'' v' ((refNear n L i).map fun k : Nat => (k : Int))) ∧ Below w'.heap.size w' w'' := fun w' i h => by
    refine (refnear_any n _ L i w' (HF.out w' h).2.2 Hlen.out hn).mono fun e w'' he => ?_
    obtain ⟨v', rfl, ho, hb⟩ := he
    exact ⟨v', rfl, Lib.hid (nc_ints ho rfl), hb⟩
  replace HB := Lib.hid HB
  have HO : ∀ (w' : World) (v' : Value) (i : Int), IntsAt w' v' ((refNear n L i).map fun k : Nat => (k : Int)) → Calls Tryd.prog 49 #[v'] w' fun e w'' => e = .returned (.int .u64 (nearR near i : Nat)) ∧ w'' = w' := fun w' v' i h => by
    have := of_any w' v' _ h (by have := refNear_len n L i; omega)
    rwa [← HM.out.nearAt hn i] at this
  replace HO := Lib.hid HO
  clear Hp Hg HT bW HM HF hnl Hlen
  have HW := Lib.hid hW
  clear hW
  go_enter Tryd.func17, Tryd.ntmps17
  go_wp2_with fail
  rw [HW.out]
  clear HW
  go_region_held3 (fun w' => Below W.heap.size W w' ∧ w'.cell? ⟨w.heap.size, 0, none⟩ = some (.int .i64 (n : Nat)) ∧ w'.cell? ⟨w.heap.size, 1, none⟩ = some (.slice la L.length lcap))
    ((first | exact HS.out _ (Below.refl _ _) | exact HS.out _ (Below.drew (Below.refl _ _)) | exact HS.out _ (Below.drew (by assumption)) | (obtain ⟨hB, _⟩ : Below W.heap.size W _ ∧ _ := (by assumption); exact HS.out _ (Below.trans hB (Below.mono b2 hB.size))) | (obtain ⟨hB, _⟩ : Below W.heap.size W _ ∧ _ := (by assumption); exact HS.out _ (Below.trans hB (Below.mono b3 hB.size))) | (obtain ⟨hB, _⟩ : Below W.heap.size W _ ∧ _ := (by assumption); exact HS.out _ (Below.trans hB (Below.mono b4 hB.size))) | (obtain ⟨hB, _⟩ : Below W.heap.size W _ ∧ _ := (by assumption); exact HS.out _ hB)))
    (first
      | (go_at_call 27; obtain ⟨hB, _⟩ : Below W.heap.size W _ ∧ _ := (by assumption); refine (HN.out _ hB).mono ?_; rintro e w' ⟨rfl, h⟩; rw [h]; clear h w' hB)
      | (go_at_call 19; obtain ⟨hB, _⟩ : Below W.heap.size W _ ∧ _ := (by assumption); refine (HL.out _ hB).mono ?_; rintro e w2 ⟨v1, rfl, P1, b2⟩; clear hB)
      | (go_at_call 48; obtain ⟨hB, _⟩ : Below W.heap.size W _ ∧ _ := (by assumption); refine (HR.out _ hB).mono ?_; rintro e w3 ⟨v2, rfl, P2, b3⟩; have P3 := Lib.hid (P1.out.off b3); clear hB)
      | (go_at_call 20; refine (HE.out _ _ _ P3.out P2.out).mono ?_; rintro e w4 ⟨rfl, b4⟩))
  have hB4 : Below W.heap.size W w4 := by obtain ⟨hB, _⟩ : Below W.heap.size W _ ∧ _ := (by assumption); exact hB
  clear P1 P2 P3 b2 b3 b4 HN HL HR HE
  go_wp2_with fail
  go_loopw [5] (fun v5 wr => ∃ k : Nat, v5 = .int .i64 ((k : Int) - 1) ∧ k ≤ n + 2 ∧ Below W.heap.size W wr) (fun v5 _ => match v5 with | .int _ i => n + 2 - (i + 1).toNat | _ => 0)
  case atStart => exact ⟨0, rfl, by omega, hB4⟩
  case round =>
    clear hB4
    obtain ⟨k, rfl, hk, hR⟩ := hrel
    obtain ⟨_, c0, c1⟩ := HS.out _ hR
    by_cases hlt : k < n + 2
    · have l3 : (k : Int) - 1 ≤ (n : Int) := by omega
      have l4 : (k : Int) - 1 < 65 := by omega
      have l5 : (0 : Int) ≤ (k : Int) := by omega
      obtain ⟨i, hi⟩ : ∃ i, (k : Int) - 1 = i := ⟨_, rfl⟩
      rw [hi] at l3 l4 ⊢
      have l6 : (-1 : Int) ≤ i := by omega
      have hA := HA.out _ i hR
      obtain ⟨q, hq⟩ : ∃ q : Int, ((nearR near i : Nat) : Int) = q := ⟨_, rfl⟩
      have HO1 := HO.out
      have HA1 := Lib.hid (fun (w' : World) (h : Below W.heap.size W w') => (show Calls Tryd.prog 21 #[.pointer (some ⟨G, 0, none⟩), .int .i64 i] w' fun e w'' => e = .returned (.int .u64 q) ∧ w'' = w' from by rw [← hq]; exact HA.out w' i h))
      have HO1 := Lib.hid (fun (w' : World) (v' : Value) (h : IntsAt w' v' ((refNear n L i).map fun k : Nat => (k : Int))) => (show Calls Tryd.prog 49 #[v'] w' fun e w'' => e = .returned (.int .u64 q) ∧ w'' = w' from by rw [← hq]; exact HO.out w' v' i h))
      clear hA hq
      go_wp2_with fail
      go_region_held3 (fun w' => Below W.heap.size W w' ∧ w'.cell? ⟨w.heap.size, 0, none⟩ = some (.int .i64 (n : Nat)) ∧ w'.cell? ⟨w.heap.size, 1, none⟩ = some (.slice la L.length lcap))
        ((first | exact HS.out _ (Below.drew hR) | (obtain ⟨hB, _⟩ : Below W.heap.size W _ ∧ _ := (by assumption); exact HS.out _ (Below.trans hB (Below.mono b3 hB.size))) | (obtain ⟨hB, _⟩ : Below W.heap.size W _ ∧ _ := (by assumption); exact HS.out _ hB)))
        (first
          | (go_at_call 21; obtain ⟨hB, _⟩ : Below W.heap.size W _ ∧ _ := (by assumption); refine (HA1.out _ hB).mono ?_; rintro e w' ⟨rfl, h⟩; rw [h]; clear h w' hB)
          | (go_at_call 50; obtain ⟨hB, _⟩ : Below W.heap.size W _ ∧ _ := (by assumption); refine (HB.out _ _ hB).mono ?_; rintro e w3 ⟨v2, rfl, P2, b3⟩; clear hB)
          | (go_at_call 49; refine (HO1.out _ _ P2.out).mono ?_; rintro e w' ⟨rfl, h⟩; rw [h]; clear h w'))
      have hB4 : Below W.heap.size W w3 := by obtain ⟨hB, _⟩ : Below W.heap.size W _ ∧ _ := (by assumption); exact hB
      clear P2 b3 HA1 HO1
      go_wp2_with fail
      go_round
      case rel => exact ⟨k + 1, by rw [← hi]; congr 1; omega, hlt, hB4⟩
      case measure => subst hi; simp; omega
    · obtain rfl : k = n + 2 := by omega
      have l3 : ¬ (((n + 2 : Nat) : Int) - 1 ≤ (n : Int)) := by omega
      obtain ⟨i, hi⟩ : ∃ i, ((n + 2 : Nat) : Int) - 1 = i := ⟨_, rfl⟩
      rw [hi] at l3 ⊢
      go_wp2_with fail
      go_ret
      exact ⟨rfl, lW.trans (hR.mono (by omega))⟩
end Go.Proofs.YtcangalpccppbaaDoor.Graph
