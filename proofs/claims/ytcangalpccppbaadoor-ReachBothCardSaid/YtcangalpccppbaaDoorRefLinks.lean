/- The document's list of links, walked. -/
import Derived.Test.YtcangalpccppbaaDoorRefLists
namespace Go.Proofs.YtcangalpccppbaaDoor.Graph
open Go.RowKit
open Go.Proofs.YtcangalpccppbaaDoor.RF Go.Proofs.YtcangalpccppbaaDoor.Heap Go.Proofs.YtcangalpccppbaaDoor.Nodes Go.Proofs.YtcangalpccppbaaDoor.Seen
set_option linter.unusedVariables false
set_option linter.unusedSimpArgs false

/-- The links of node a with nodes above it, below m. -/
def refUpTo (m : Nat) (L : List (Int × Int)) (a : Nat) : List (Nat × Nat) := ((List.range m).filter fun b => decide (a < b) && refL L a b).map fun b => (a, b)
theorem refUpTo_start (L : List (Int × Int)) (a : Nat) : refUpTo (a + 1) L a = [] := by
  unfold refUpTo
  rw [List.map_eq_nil_iff, List.filter_eq_nil_iff]
  intro b hb
  rw [List.mem_range] at hb
  simp; omega
theorem refUpTo_succ {m a : Nat} (L : List (Int × Int)) (h : a < m) : refUpTo (m + 1) L a = refUpTo m L a ++ if refL L a m = true then [(a, m)] else [] := by
  unfold refUpTo
  rw [List.range_succ, List.filter_append, List.map_append]
  congr 1
  cases e : refL L a m <;> simp [h, e]
theorem refUpTo_len (m : Nat) (L : List (Int × Int)) (a : Nat) : (refUpTo m L a).length ≤ m := by
  have := List.length_filter_le (fun b : Nat => decide (a < b) && refL L a b) (List.range m)
  simpa [refUpTo] using this
theorem refTo_succ (n : Nat) (L : List (Int × Int)) (k : Nat) : refTo n L (k + 1) = refTo n L k ++ refUpTo n L k := by
  unfold refTo
  rw [List.range_succ, List.flatMap_append]
  simp [refUp, refUpTo]
theorem refTo_len (n : Nat) (L : List (Int × Int)) : ∀ k, (refTo n L k).length ≤ k * n
  | 0 => by simp [refTo]
  | k + 1 => by
    have h1 := refTo_len n L k
    have h2 := refUpTo_len n L k
    rw [refTo_succ, List.length_append, Nat.add_mul]; omega
set_option maxRecDepth 100000 in
set_option maxHeartbeats 4000000 in
theorem reflinks_any (n : Nat) (v : Value) (L : List (Int × Int)) (w : World) (hp : PairsAt w v L) (hlen : L.length ≤ 65536) (hn : n ≤ 64) :
    Calls Tryd.prog 48 #[.agg #[.int .i64 n, v]] w fun e w' => ∃ v', e = .returned v' ∧ w'.ownsRow w.heap.size 41 2 v' (refLinks n L).length (pc (refLinks n L)) ∧ Below w.heap.size w w' := by
  obtain ⟨i0, hi0, hz⟩ := Option.map_eq_some_iff.1 infoP
  simp only [Prod.mk.injEq] at hz
  obtain ⟨hz0, hz1, hz2⟩ := hz
  obtain ⟨la, lcap, hv, _⟩ := hp.1
  have Hp := Lib.hid hp
  subst hv
  clear hp
  obtain ⟨W, hW⟩ : ∃ W, w.alloc (.cells #[.int .i64 (n : Nat), .slice la L.length lcap] 29) = W := ⟨_, rfl⟩
  have bW : Blk W w.heap.size 29 #[.int .i64 (n : Nat), .slice la L.length lcap] := by rw [← hW]; exact Blk.new w _ _
  have lW : Below w.heap.size w W := by rw [← hW]; exact (Below.refl _ w).alloc (Nat.le_refl _) _
  obtain ⟨V, hV⟩ : ∃ V, W.alloc (.cells #[] 41) = V := ⟨_, rfl⟩
  have bV := (bW.alloc (.cells #[] 41))
  have lV := lW.alloc lW.size (.cells #[] 41)
  have oV : V.ownsRow w.heap.size 41 2 (.slice (some ⟨W.heap.size, 0, none⟩) 0 0) 0 [] := by
    have := row_of_blk (base := w.heap.size) (n := 0) (s := 2) (cap := 0) (Blk.new W 41 #[]) (by have := bW.lt; omega) (Nat.le_refl _) (by unfold maxLen; omega) rfl
    rw [hV] at this
    simpa using this
  rw [hV] at bV lV
  have Hi0 := Lib.hid hi0
  have Hz0 := Lib.hid hz0
  have Hz1 := Lib.hid hz1
  have Hz2 := Lib.hid hz2
  clear hi0 hz0 hz1 hz2
  go_enter Tryd.func48, Tryd.ntmps48
  go_wp2_with (first | (rw [hW]) | (rw [hV]))
  clear hW hV bW lW
  go_loopw [3, 4] (fun v3 v4 wr => ∃ k : Nat, v4 = .int .i64 k ∧ k ≤ n ∧ RowKit.Hid (wr.ownsRow w.heap.size 41 2 v3 (refTo n L k).length (pc (refTo n L k))) ∧ Blk wr w.heap.size 29 #[.int .i64 (n : Nat), .slice la L.length lcap] ∧ Below w.heap.size w wr) (fun _ v4 _ => match v4 with | .int _ k => n - k.toNat | _ => 0)
  case atStart => exact ⟨0, rfl, Nat.zero_le _, Lib.hid oV, bV, lV⟩
  case round =>
    obtain ⟨k, rfl, hk, own, bR, lR⟩ := hrel
    have c0 := bR.cell 0
    simp at c0
    by_cases hlt : k < n
    · have l3 : (0 : Int) ≤ (k : Int) := by omega
      have l4 : (k : Int) < (n : Int) := by omega
      have l5 : (k : Int) + 1 ≤ 64 := by omega
      have own0 := Lib.hid (show wr.ownsRow w.heap.size 41 2 u3 (refTo n L k ++ refUpTo (k + 1) L k).length (pc (refTo n L k ++ refUpTo (k + 1) L k)) from by rw [refUpTo_start, List.append_nil]; exact own.out)
      clear own
      go_wp2_with fail
      go_loopw [3, 5] (fun v3 v5 wq => ∃ b : Nat, v5 = .int .i64 b ∧ k < b ∧ b ≤ n ∧ RowKit.Hid (wq.ownsRow w.heap.size 41 2 v3 (refTo n L k ++ refUpTo b L k).length (pc (refTo n L k ++ refUpTo b L k))) ∧ Blk wq w.heap.size 29 #[.int .i64 (n : Nat), .slice la L.length lcap] ∧ Below w.heap.size w wq) (fun _ v5 _ => match v5 with | .int _ b => n - b.toNat | _ => 0)
      case atStart => exact ⟨k + 1, by simp, by omega, by omega, own0, bR, lR⟩
      case round =>
        clear own0 bR lR c0
        obtain ⟨b, rfl, hkb, hb, own, bR, lR⟩ := hrel
        have c0 := bR.cell 0
        have c1 := bR.cell 1
        simp at c0 c1
        by_cases hltb : b < n
        · have m3 : (0 : Int) ≤ (b : Int) := by omega
          have m4 : (b : Int) < (n : Int) := by omega
          have m5 : (b : Int) + 1 ≤ 64 := by omega
          have hz := bR.lt
          have hq := Lib.hid (Hp.out.off lR)
          have hs := refUpTo_succ (m := b) L hkb
          rcases e1 : refL L k b with _ | _
          · rw [e1, if_neg (by decide), List.append_nil] at hs
            go_wp2_with fail
            refine (reflinked_any n _ L k b _ hq.out hlen).mono ?_
            rintro e w2 ⟨rfl, o2⟩
            rw [e1]
            have own2 := Lib.hid (own_below own.out o2)
            have b2 := bR.below o2 hz
            have l2 := lR.trans (o2.mono (by omega))
            clear own bR lR c0 c1 o2
            go_wp2_with fail
            go_round
            case rel => exact ⟨b + 1, rfl, by omega, hltb, by rw [hs]; exact own2, b2, l2⟩
            case measure => simp; omega
          · rw [e1, if_pos rfl] at hs
            have hl := refUpTo_len b L k
            have hl2 := refTo_len n L k
            have hl3 : k * n ≤ 64 * 64 := Nat.mul_le_mul (by omega) hn
            have hl4 : (refTo n L k ++ refUpTo b L k).length ≤ 8192 := by rw [List.length_append]; omega
            go_wp2_with fail
            refine (reflinked_any n _ L k b _ hq.out hlen).mono ?_
            rintro e w2 ⟨rfl, o2⟩
            rw [e1]
            have own2 := Lib.hid (own_below own.out o2)
            have b2 := bR.below o2 hz
            have l2 := lR.trans (o2.mono (by omega))
            have z2 := b2.lt
            clear own bR lR c0 c1 o2 hl hl2 hl3
            go_wp2_with (at_builtin; refine wpList_append_own _ rfl _ _ 22 rfl w.heap.size 41 i0 _ 2 16 Tryd.underlying22 Hi0.out Hz0.out Hz1.out Hz2.out rfl (by decide) _ _ _ rfl (own2.out.alloc _) ⟨w2.heap.size, 0, none⟩ 1 1 [.int .i64 (k : Nat), .int .i64 (b : Nat)] rfl rfl (World.news_of_block (cs := #[.int .i64 (k : Nat), .int .i64 (b : Nat)]) (t := 41) (fr := (0, 0)) (heap_alloc_new w2 _)) (by simp [Value.oneCell']) (by unfold maxLen; omega) (by omega) (by simp; omega) ?_; intro v' w3 hown3 hgrow3 _)
            go_round
            case rel => exact ⟨b + 1, rfl, by omega, hltb, Lib.hid (by rw [hs, ← List.append_assoc, pc_snoc, List.length_append]; exact hown3), (b2.alloc _).grown hgrow3 (own_free own2.out b2 (by decide)), below_own (l2.alloc l2.size _) hgrow3 (own2.out.alloc _) (Nat.le_refl _) (Nat.le_refl _)⟩
            case measure => simp; omega
        · obtain rfl : b = n := by omega
          have hs := refTo_succ b L k
          go_wp2_with fail
          go_round
          case rel => exact ⟨k + 1, rfl, hlt, by rw [hs]; exact own, bR, lR⟩
          case measure => simp; omega
    · obtain rfl : k = n := by omega
      go_wp2_with fail
      go_ret
      exact ⟨_, rfl, own.out, lR⟩
end Go.Proofs.YtcangalpccppbaaDoor.Graph
