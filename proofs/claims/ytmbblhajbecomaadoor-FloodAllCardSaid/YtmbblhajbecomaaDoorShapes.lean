/- Rings and full graphs, walked. -/
import Derived.Test.YtmbblhajbecomaaDoorShapesPure
namespace Go.Proofs.YtmbblhajbecomaaDoor.Graph
set_option maxRecDepth 100000
open Go.RowKit
open Go.Proofs.YtmbblhajbecomaaDoor.RF Go.Proofs.YtmbblhajbecomaaDoor.Heap Go.Proofs.YtmbblhajbecomaaDoor.Nodes Go.Proofs.YtmbblhajbecomaaDoor.Seen
set_option linter.unusedVariables false
set_option linter.unusedSimpArgs false

theorem fin_ringN {w' : World} {base : Nat} {v : Value} {n : Int} {l : List (Nat × Nat)} (h : w'.ownsRow base 55 2 v l.length (pc l)) (e : ringN n = l) : RowKit.Hid (PairsAt w' v (zp (ringN n))) := by
  subst e
  rw [pc_zp] at h
  exact Lib.hid (own_pairs h (zp_len _) (zp_wf (ringN_lt n)))
theorem fin_fullN {w' : World} {base : Nat} {v : Value} {n : Int} {l : List (Nat × Nat)} (h : w'.ownsRow base 55 2 v l.length (pc l)) (e : fullN n = l) : RowKit.Hid (PairsAt w' v (zp (fullN n))) := by
  subst e
  rw [pc_zp] at h
  exact Lib.hid (own_pairs h (zp_len _) (zp_wf (fullN_lt n)))
set_option maxRecDepth 100000 in
set_option maxHeartbeats 4000000 in
theorem goring_any (n : Int) (w : World) :
    Calls Tryd.prog 42 #[.int .i64 n] w fun e w' => ∃ v, e = .returned v ∧ RowKit.Hid (PairsAt w' v (zp (ringN n))) ∧ Below w.heap.size w w' := by
  obtain ⟨i0, hi0, hz⟩ := Option.map_eq_some_iff.1 infoP
  simp only [Prod.mk.injEq] at hz
  obtain ⟨hz0, hz1, hz2⟩ := hz
  have Hi0 := Lib.hid hi0
  have Hz0 := Lib.hid hz0
  have Hz1 := Lib.hid hz1
  have Hz2 := Lib.hid hz2
  clear hi0 hz0 hz1 hz2
  by_cases hn : 64 < n
  · go_enter Tryd.func42, Tryd.ntmps42
    go_wp2
    go_ret
    exact ⟨_, rfl, fin_ringN (base := w.heap.size) (l := []) (World.ownsRow_nil _ _ _ _) (by unfold ringN; rw [if_pos hn]), Below.refl _ w⟩
  · have e0 : ringN n = ringL n.toNat := by unfold ringN; rw [if_neg hn]
    have hn2 : n ≤ 64 := by omega
    have He := Lib.hid e0
    clear e0 hn
    go_enter Tryd.func42, Tryd.ntmps42
    go_wp2
    go_loopw [3, 4] (fun v3 v4 wr => ∃ (k : Nat) (i : Int), v4 = .int .i64 i ∧ RowKit.Hid (i = k + 1) ∧ k ≤ n.toNat - 1 ∧ RowKit.Hid (wr.ownsRow w.heap.size 55 2 v3 (chain k).length (pc (chain k))) ∧ Below w.heap.size w wr) (fun _ v4 _ => match v4 with | .int _ i => 65 - i.toNat | _ => 0)
    case atStart => exact ⟨0, 1, rfl, Lib.hid rfl, Nat.zero_le _, Lib.hid (World.ownsRow_nil _ _ _ _), Below.refl _ w⟩
    case round =>
      obtain ⟨k, i, rfl, Hi, hk, own, lR⟩ := hrel
      have hi := Hi.out
      have l1 : 1 ≤ i := by omega
      by_cases hlt : i < n
      · have l3 : i ≤ 64 := by omega
        have k1 : k ≤ 64 := by omega
        clear hi
        have hcl := chain_len k
        have hw := lR.size
        go_wp2_with (at_builtin; refine wpList_append_own _ rfl _ _ 22 rfl w.heap.size 55 i0 _ 2 16 Tryd.underlying22 Hi0.out Hz0.out Hz1.out Hz2.out rfl (by decide) _ _ _ rfl (own.out.alloc _) ⟨wr.heap.size, 0, none⟩ 1 1 [.int .i64 (i - 1), .int .i64 i] rfl rfl (World.news_of_block (cs := #[.int .i64 (i - 1), .int .i64 i]) (t := 55) (fr := (0, 0)) (heap_alloc_new wr _)) (by simp [Value.oneCell']) (by unfold maxLen; omega) (by omega) (by simp; omega) ?_; intro v' w3 hown3 hgrow3 _)
        go_round
        case rel => exact ⟨k + 1, i + 1, rfl, Lib.hid (by have := Hi.out; omega), by have := Hi.out; omega, Lib.hid (by rw [chain_succ, pc_snoc, List.length_append, show ((k : Nat) : Int) = i - 1 by have := Hi.out; omega, show ((k + 1 : Nat) : Int) = i by have := Hi.out; omega]; exact hown3), below_own (lR.alloc lR.size _) hgrow3 (own.out.alloc _) (Nat.le_refl _) (Nat.le_refl _)⟩
        case measure => simp; omega
      · have Hkn := Lib.hid (show k = n.toNat - 1 by omega)
        have k1 : k ≤ 64 := by omega
        clear hi
        by_cases h2 : 2 < n
        · have hcl := chain_len k
          have hw := lR.size
          go_wp2_with (at_builtin; refine wpList_append_own _ rfl _ _ 22 rfl w.heap.size 55 i0 _ 2 16 Tryd.underlying22 Hi0.out Hz0.out Hz1.out Hz2.out rfl (by decide) _ _ _ rfl (own.out.alloc _) ⟨wr.heap.size, 0, none⟩ 1 1 [.int .i64 (n - 1), .int .i64 0] rfl rfl (World.news_of_block (cs := #[.int .i64 (n - 1), .int .i64 0]) (t := 55) (fr := (0, 0)) (heap_alloc_new wr _)) (by simp [Value.oneCell']) (by unfold maxLen; omega) (by omega) (by simp; omega) ?_; intro v' w3 hown3 hgrow3 _)
          go_ret
          refine ⟨_, rfl, fin_ringN (base := w.heap.size) (l := ringL n.toNat) ?_ He.out, below_own (lR.alloc lR.size _) hgrow3 (own.out.alloc _) (Nat.le_refl _) (Nat.le_refl _)⟩
          unfold ringL
          rw [if_pos (by omega), pc_snoc, List.length_append, ← Hkn.out, show ((k : Nat) : Int) = n - 1 by have := Hkn.out; omega]
          exact hown3
        · go_wp2_with fail
          go_ret
          refine ⟨_, rfl, fin_ringN (base := w.heap.size) (l := ringL n.toNat) ?_ He.out, lR⟩
          unfold ringL
          rw [if_neg (by omega), List.append_nil, ← Hkn.out]
          exact own.out
end Go.Proofs.YtmbblhajbecomaaDoor.Graph
