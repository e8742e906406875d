/- Rings and full graphs, walked. -/
import Derived.Test.YtcangalpccppbaaDoorShapesPure
namespace Go.Proofs.YtcangalpccppbaaDoor.Graph
open Go.RowKit
open Go.Proofs.YtcangalpccppbaaDoor.RF Go.Proofs.YtcangalpccppbaaDoor.Heap Go.Proofs.YtcangalpccppbaaDoor.Nodes Go.Proofs.YtcangalpccppbaaDoor.Seen
set_option linter.unusedVariables false
set_option linter.unusedSimpArgs false

theorem fin_ringN {w' : World} {base : Nat} {v : Value} {n : Int} {l : List (Nat × Nat)} (h : w'.ownsRow base 41 2 v l.length (pc l)) (e : ringN n = l) : RowKit.Hid (PairsAt w' v (zp (ringN n))) := by
  subst e
  rw [pc_zp] at h
  exact Lib.hid (own_pairs h (zp_len _) (zp_wf (ringN_lt n)))
theorem fin_fullN {w' : World} {base : Nat} {v : Value} {n : Int} {l : List (Nat × Nat)} (h : w'.ownsRow base 41 2 v l.length (pc l)) (e : fullN n = l) : RowKit.Hid (PairsAt w' v (zp (fullN n))) := by
  subst e
  rw [pc_zp] at h
  exact Lib.hid (own_pairs h (zp_len _) (zp_wf (fullN_lt n)))
set_option maxRecDepth 100000 in
set_option maxHeartbeats 4000000 in
theorem goring_any (n : Int) (w : World) :
    Calls Tryd.prog 28 #[.int .i64 n] w fun e w' => ∃ v, e = .returned v ∧ RowKit.Hid (PairsAt w' v (zp (ringN n))) ∧ Below w.heap.size w w' := by
  obtain ⟨i0, hi0, hz⟩ := Option.map_eq_some_iff.1 infoP
  simp only [Prod.mk.injEq] at hz
  obtain ⟨hz0, hz1, hz2⟩ := hz
  have Hi0 := Lib.hid hi0
  have Hz0 := Lib.hid hz0
  have Hz1 := Lib.hid hz1
  have Hz2 := Lib.hid hz2
  clear hi0 hz0 hz1 hz2
  by_cases hn : 64 < n
  · go_enter Tryd.func28, Tryd.ntmps28
    go_wp2
    go_ret
    exact ⟨_, rfl, fin_ringN (base := w.heap.size) (l := []) (World.ownsRow_nil _ _ _ _) (by unfold ringN; rw [if_pos hn]), Below.refl _ w⟩
  · have e0 : ringN n = ringL n.toNat := by unfold ringN; rw [if_neg hn]
    have hn2 : n ≤ 64 := by omega
    have He := Lib.hid e0
    clear e0 hn
    go_enter Tryd.func28, Tryd.ntmps28
    go_wp2
    go_loopw [3, 4] (fun v3 v4 wr => ∃ (k : Nat) (i : Int), v4 = .int .i64 i ∧ RowKit.Hid (i = k + 1) ∧ k ≤ n.toNat - 1 ∧ RowKit.Hid (wr.ownsRow w.heap.size 41 2 v3 (chain k).length (pc (chain k))) ∧ Below w.heap.size w wr) (fun _ v4 _ => match v4 with | .int _ i => 65 - i.toNat | _ => 0)
    case atStart => exact ⟨0, 1, rfl, Lib.hid rfl, Nat.zero_le _, Lib.hid (World.ownsRow_nil _ _ _ _), Below.refl _ w⟩
    case round =>
      obtain ⟨k, i, rfl, Hi, hk, own, lR⟩ := hrel
      have hi := Hi.out
      have l1 : 1 ≤ i := by omega
      by_cases hlt : i < n
      · have l3 : i ≤ 64 := by omega
        have k1 : k ≤ 64 := by omega
        clear hi
        have hcl := chain_len k
        have hw := lR.size
        go_wp2_with (at_builtin; refine wpList_append_own _ rfl _ _ 22 rfl w.heap.size 41 i0 _ 2 16 Tryd.underlying22 Hi0.out Hz0.out Hz1.out Hz2.out rfl (by decide) _ _ _ rfl (own.out.alloc _) ⟨wr.heap.size, 0, none⟩ 1 1 [.int .i64 (i - 1), .int .i64 i] rfl rfl (World.news_of_block (cs := #[.int .i64 (i - 1), .int .i64 i]) (t := 41) (fr := (0, 0)) (heap_alloc_new wr _)) (by simp [Value.oneCell']) (by unfold maxLen; omega) (by omega) (by simp; omega) ?_; intro v' w3 hown3 hgrow3 _)
        go_round
        case rel => exact ⟨k + 1, i + 1, rfl, Lib.hid (by have := Hi.out; omega), by have := Hi.out; omega, Lib.hid (by rw [chain_succ, pc_snoc, List.length_append, show ((k : Nat) : Int) = i - 1 by have := Hi.out; omega, show ((k + 1 : Nat) : Int) = i by have := Hi.out; omega]; exact hown3), below_own (lR.alloc lR.size _) hgrow3 (own.out.alloc _) (Nat.le_refl _) (Nat.le_refl _)⟩
        case measure => simp; omega
      · have Hkn := Lib.hid (show k = n.toNat - 1 by omega)
        have k1 : k ≤ 64 := by omega
        clear hi
        by_cases h2 : 2 < n
        · have hcl := chain_len k
          have hw := lR.size
          go_wp2_with (at_builtin; refine wpList_append_own _ rfl _ _ 22 rfl w.heap.size 41 i0 _ 2 16 Tryd.underlying22 Hi0.out Hz0.out Hz1.out Hz2.out rfl (by decide) _ _ _ rfl (own.out.alloc _) ⟨wr.heap.size, 0, none⟩ 1 1 [.int .i64 (n - 1), .int .i64 0] rfl rfl (World.news_of_block (cs := #[.int .i64 (n - 1), .int .i64 0]) (t := 41) (fr := (0, 0)) (heap_alloc_new wr _)) (by simp [Value.oneCell']) (by unfold maxLen; omega) (by omega) (by simp; omega) ?_; intro v' w3 hown3 hgrow3 _)
          go_ret
          refine ⟨_, rfl, fin_ringN (base := w.heap.size) (l := ringL n.toNat) ?_ He.out, below_own (lR.alloc lR.size _) hgrow3 (own.out.alloc _) (Nat.le_refl _) (Nat.le_refl _)⟩
          unfold ringL
          rw [if_pos (by omega), pc_snoc, List.length_append, ← Hkn.out, show ((k : Nat) : Int) = n - 1 by have := Hkn.out; omega]
          exact hown3
        · go_wp2_with fail
          go_ret
          refine ⟨_, rfl, fin_ringN (base := w.heap.size) (l := ringL n.toNat) ?_ He.out, lR⟩
          unfold ringL
          rw [if_neg (by omega), List.append_nil, ← Hkn.out]
          exact own.out
set_option maxRecDepth 100000 in
set_option maxHeartbeats 4000000 in
theorem refring_any (n : Int) (w : World) :
    Calls Tryd.prog 30 #[.int .i64 n] w fun e w' => ∃ v, e = .returned v ∧ RowKit.Hid (PairsAt w' v (zp (ringN n))) ∧ Below w.heap.size w w' := by
  obtain ⟨i0, hi0, hz⟩ := Option.map_eq_some_iff.1 infoP
  simp only [Prod.mk.injEq] at hz
  obtain ⟨hz0, hz1, hz2⟩ := hz
  have Hi0 := Lib.hid hi0
  have Hz0 := Lib.hid hz0
  have Hz1 := Lib.hid hz1
  have Hz2 := Lib.hid hz2
  clear hi0 hz0 hz1 hz2
  have oV : (w.alloc (.cells #[] 41)).ownsRow w.heap.size 41 2 (.slice (some ⟨w.heap.size, 0, none⟩) 0 0) 0 [] := by
    have := row_of_blk (base := w.heap.size) (n := 0) (s := 2) (cap := 0) (Blk.new w 41 #[]) (Nat.le_refl _) (Nat.le_refl _) (by unfold maxLen; omega) rfl
    simpa using this
  have lV : Below w.heap.size w (w.alloc (.cells #[] 41)) := (Below.refl _ w).alloc (Nat.le_refl _) _
  obtain ⟨V, hV⟩ : ∃ V, w.alloc (.cells #[] 41) = V := ⟨_, rfl⟩
  rw [hV] at oV lV
  have HV := Lib.hid hV
  have HoV := Lib.hid oV
  clear hV oV
  have HlV := Lib.hid lV
  clear lV
  by_cases hn : 64 < n
  · have l65 : ¬ n < 65 := by omega
    go_enter Tryd.func30, Tryd.ntmps30
    go_wp2_with fail
    rw [HV.out]
    refine wp_loop_rounds 1 ?_
    unfold Code.rounds
    go_wp2_with fail
    go_ret
    exact ⟨_, rfl, fin_ringN (l := []) HoV.out (by unfold ringN; rw [if_pos hn]), HlV.out⟩
  · have e0 : ringN n = ringL n.toNat := by unfold ringN; rw [if_neg hn]
    have l65 : n < 65 := by omega
    have He := Lib.hid e0
    clear e0 hn
    go_enter Tryd.func30, Tryd.ntmps30
    go_wp2_with fail
    rw [HV.out]
    go_loopw [3, 4] (fun v3 v4 wr => ∃ (k : Nat) (i : Int), v4 = .int .i64 i ∧ RowKit.Hid (i = k) ∧ k ≤ n.toNat ∧ RowKit.Hid (wr.ownsRow w.heap.size 41 2 v3 (if k < n.toNat then chain k else ringL n.toNat).length (pc (if k < n.toNat then chain k else ringL n.toNat))) ∧ Below w.heap.size w wr) (fun _ v4 _ => match v4 with | .int _ i => 65 - i.toNat | _ => 0)
    case atStart =>
      refine ⟨0, 0, rfl, Lib.hid rfl, Nat.zero_le _, ?_, HlV.out⟩
      have e : (if 0 < n.toNat then chain 0 else ringL n.toNat) = [] := by
        split
        · rfl
        · rename_i c
          unfold ringL
          rw [if_neg (by omega), show n.toNat - 1 = 0 by omega]; rfl
      rw [e]
      exact HoV
    case round =>
      obtain ⟨k, i, rfl, Hi, hk, own, lR⟩ := hrel
      have hi := Hi.out
      have l1 : 0 ≤ i := by omega
      by_cases hlt : i < n
      · have l3 : i ≤ 64 := by omega
        rw [if_pos (by omega : k < n.toNat)] at own
        have hcl := chain_len k
        have hw := lR.size
        have k1 : k ≤ 64 := by omega
        have k2 : k < n.toNat := by omega
        by_cases h2 : i + 1 < n
        · have k3 : k + 1 < n.toNat := by omega
          clear hi
          go_wp2_with (at_builtin; refine wpList_append_own _ rfl _ _ 22 rfl w.heap.size 41 i0 _ 2 16 Tryd.underlying22 Hi0.out Hz0.out Hz1.out Hz2.out rfl (by decide) _ _ _ rfl (own.out.alloc _) ⟨wr.heap.size, 0, none⟩ 1 1 [.int .i64 i, .int .i64 (i + 1)] rfl rfl (World.news_of_block (cs := #[.int .i64 i, .int .i64 (i + 1)]) (t := 41) (fr := (0, 0)) (heap_alloc_new wr _)) (by simp [Value.oneCell']) (by unfold maxLen; omega) (by omega) (by simp; omega) ?_; intro v' w3 hown3 hgrow3 _)
          go_round
          case rel => exact ⟨k + 1, i + 1, rfl, Lib.hid (by have := Hi.out; omega), by have := Hi.out; omega, Lib.hid (by rw [if_pos (by omega), chain_succ, pc_snoc, List.length_append, show ((k : Nat) : Int) = i by have := Hi.out; omega, show ((k + 1 : Nat) : Int) = i + 1 by have := Hi.out; omega]; exact hown3), below_own (lR.alloc lR.size _) hgrow3 (own.out.alloc _) (Nat.le_refl _) (Nat.le_refl _)⟩
          case measure => simp; omega
        · have Hkn := Lib.hid (show k = n.toNat - 1 by omega)
          clear hi
          by_cases h3 : 2 < n
          · go_wp2_with (at_builtin; refine wpList_append_own _ rfl _ _ 22 rfl w.heap.size 41 i0 _ 2 16 Tryd.underlying22 Hi0.out Hz0.out Hz1.out Hz2.out rfl (by decide) _ _ _ rfl (own.out.alloc _) ⟨wr.heap.size, 0, none⟩ 1 1 [.int .i64 i, .int .i64 0] rfl rfl (World.news_of_block (cs := #[.int .i64 i, .int .i64 0]) (t := 41) (fr := (0, 0)) (heap_alloc_new wr _)) (by simp [Value.oneCell']) (by unfold maxLen; omega) (by omega) (by simp; omega) ?_; intro v' w3 hown3 hgrow3 _)
            go_round
            case rel => exact ⟨k + 1, i + 1, rfl, Lib.hid (by have := Hi.out; omega), by have := Hi.out; omega, Lib.hid (by rw [if_neg (by have := Hkn.out; omega)]; unfold ringL; rw [if_pos (by omega), pc_snoc, List.length_append, ← Hkn.out, show ((k : Nat) : Int) = i by have := Hi.out; omega]; exact hown3), below_own (lR.alloc lR.size _) hgrow3 (own.out.alloc _) (Nat.le_refl _) (Nat.le_refl _)⟩
            case measure => simp; omega
          · go_wp2_with fail
            go_round
            case rel => exact ⟨k + 1, i + 1, rfl, Lib.hid (by have := Hi.out; omega), by have := Hi.out; omega, Lib.hid (by rw [if_neg (by have := Hkn.out; omega)]; unfold ringL; rw [if_neg (by omega), List.append_nil, ← Hkn.out]; exact own.out), lR⟩
            case measure => simp; omega
      · rw [if_neg (by omega : ¬ k < n.toNat)] at own
        clear hi
        go_wp2_with fail
        go_ret
        exact ⟨_, rfl, fin_ringN own.out He.out, lR⟩
set_option maxRecDepth 100000 in
set_option maxHeartbeats 4000000 in
theorem gofull_any (n : Int) (w : World) :
    Calls Tryd.prog 29 #[.int .i64 n] w fun e w' => ∃ v, e = .returned v ∧ RowKit.Hid (PairsAt w' v (zp (fullN n))) ∧ Below w.heap.size w w' := by
  obtain ⟨i0, hi0, hz⟩ := Option.map_eq_some_iff.1 infoP
  simp only [Prod.mk.injEq] at hz
  obtain ⟨hz0, hz1, hz2⟩ := hz
  have Hi0 := Lib.hid hi0
  have Hz0 := Lib.hid hz0
  have Hz1 := Lib.hid hz1
  have Hz2 := Lib.hid hz2
  clear hi0 hz0 hz1 hz2
  by_cases hn : 64 < n
  · go_enter Tryd.func29, Tryd.ntmps29
    go_wp2
    go_ret
    exact ⟨_, rfl, fin_fullN (base := w.heap.size) (l := []) (World.ownsRow_nil _ _ _ _) (by unfold fullN; rw [if_pos hn]), Below.refl _ w⟩
  · have e0 : fullN n = fullL n.toNat := by unfold fullN; rw [if_neg hn]
    have hn2 : n ≤ 64 := by omega
    by_cases hneg : n < 0
    · have hmax : max n 0 = 0 := by omega
      have He := Lib.hid (e0.trans (by rw [show n.toNat = 0 by omega] : fullL n.toNat = fullL 0))
      clear e0 hn
      go_enter Tryd.func29, Tryd.ntmps29
      go_wp2_with fail
      refine wp_loop_rounds 1 ?_
      unfold Code.rounds
      go_wp2_with fail
      go_ret
      exact ⟨_, rfl, fin_fullN (base := w.heap.size) (l := []) (World.ownsRow_nil _ _ _ _) He.out, Below.refl _ w⟩
    obtain ⟨m, rfl⟩ : ∃ m : Nat, n = m := ⟨n.toNat, by omega⟩
    have hm : m ≤ 64 := by omega
    have hmax : max (m : Int) 0 = (m : Int) := by omega
    rw [Int.toNat_natCast] at e0
    have He := Lib.hid e0
    clear e0 hn hneg
    go_enter Tryd.func29, Tryd.ntmps29
    go_wp2_with fail
    go_loopw [3, 10] (fun v3 v4 wr => ∃ k : Nat, v4 = .int .i64 k ∧ k ≤ m ∧ RowKit.Hid (wr.ownsRow w.heap.size 41 2 v3 (fullTo m k).length (pc (fullTo m k))) ∧ Below w.heap.size w wr) (fun _ v4 _ => match v4 with | .int _ i => m - i.toNat | _ => 0)
    case atStart => exact ⟨0, rfl, Nat.zero_le _, Lib.hid (World.ownsRow_nil _ _ _ _), Below.refl _ w⟩
    case round =>
      obtain ⟨k, rfl, hk, own, lR⟩ := hrel
      by_cases hlt : k < m
      · have l3 : (0 : Int) ≤ (k : Int) := by omega
        have l4 : (k : Int) < (m : Int) := by omega
        have l5 : (k : Int) ≤ 64 := by omega
        have own0 := Lib.hid (show wr.ownsRow w.heap.size 41 2 u3 (fullTo m k ++ over (k + 1) k).length (pc (fullTo m k ++ over (k + 1) k)) from by rw [over_start, List.append_nil]; exact own.out)
        clear own
        go_wp2_with fail
        go_loopw [3, 5] (fun v3 v5 wq => ∃ b : Nat, v5 = .int .i64 b ∧ k < b ∧ b ≤ m ∧ RowKit.Hid (wq.ownsRow w.heap.size 41 2 v3 (fullTo m k ++ over b k).length (pc (fullTo m k ++ over b k))) ∧ Below w.heap.size w wq) (fun _ v5 _ => match v5 with | .int _ b => m - b.toNat | _ => 0)
        case atStart => exact ⟨k + 1, by simp, by omega, by omega, own0, lR⟩
        case round =>
          clear own0 lR
          obtain ⟨b, rfl, hkb, hb, own, lR⟩ := hrel
          by_cases hltb : b < m
          · have m3 : (0 : Int) ≤ (b : Int) := by omega
            have m4 : (b : Int) < (m : Int) := by omega
            have m5 : (b : Int) ≤ 64 := by omega
            have hs := over_succ (m := b) hkb
            have hl := over_len b k
            have hl2 := fullTo_len m k
            have hl3 : k * m ≤ 64 * 64 := Nat.mul_le_mul (by omega) hm
            have hl4 : (fullTo m k ++ over b k).length ≤ 8192 := by rw [List.length_append]; omega
            have hw := lR.size
            clear hl hl2 hl3
            go_wp2_with (at_builtin; refine wpList_append_own _ rfl _ _ 22 rfl w.heap.size 41 i0 _ 2 16 Tryd.underlying22 Hi0.out Hz0.out Hz1.out Hz2.out rfl (by decide) _ _ _ rfl (own.out.alloc _) ⟨wr.heap.size, 0, none⟩ 1 1 [.int .i64 (k : Nat), .int .i64 (b : Nat)] rfl rfl (World.news_of_block (cs := #[.int .i64 (k : Nat), .int .i64 (b : Nat)]) (t := 41) (fr := (0, 0)) (heap_alloc_new wr _)) (by simp [Value.oneCell']) (by unfold maxLen; omega) (by omega) (by simp; omega) ?_; intro v' w3 hown3 hgrow3 _)
            go_round
            case rel => exact ⟨b + 1, rfl, by omega, hltb, Lib.hid (by rw [hs, ← List.append_assoc, pc_snoc, List.length_append]; exact hown3), below_own (lR.alloc lR.size _) hgrow3 (own.out.alloc _) (Nat.le_refl _) (Nat.le_refl _)⟩
            case measure => simp; omega
          · obtain rfl : b = m := by omega
            have hs := fullTo_succ b k
            go_wp2_with fail
            go_round
            case rel => exact ⟨k + 1, rfl, hlt, by rw [hs]; exact own, lR⟩
            case measure => simp; omega
      · obtain rfl : k = m := by omega
        go_wp2_with fail
        go_ret
        exact ⟨_, rfl, fin_fullN own.out (He.out.trans (by simp [fullL])), lR⟩
set_option maxRecDepth 100000 in
set_option maxHeartbeats 4000000 in
theorem reffull_any (n : Int) (w : World) :
    Calls Tryd.prog 31 #[.int .i64 n] w fun e w' => ∃ v, e = .returned v ∧ RowKit.Hid (PairsAt w' v (zp (fullN n))) ∧ Below w.heap.size w w' := by
  obtain ⟨i0, hi0, hz⟩ := Option.map_eq_some_iff.1 infoP
  simp only [Prod.mk.injEq] at hz
  obtain ⟨hz0, hz1, hz2⟩ := hz
  have Hi0 := Lib.hid hi0
  have Hz0 := Lib.hid hz0
  have Hz1 := Lib.hid hz1
  have Hz2 := Lib.hid hz2
  clear hi0 hz0 hz1 hz2
  have oV : (w.alloc (.cells #[] 41)).ownsRow w.heap.size 41 2 (.slice (some ⟨w.heap.size, 0, none⟩) 0 0) 0 [] := by
    have := row_of_blk (base := w.heap.size) (n := 0) (s := 2) (cap := 0) (Blk.new w 41 #[]) (Nat.le_refl _) (Nat.le_refl _) (by unfold maxLen; omega) rfl
    simpa using this
  have lV : Below w.heap.size w (w.alloc (.cells #[] 41)) := (Below.refl _ w).alloc (Nat.le_refl _) _
  obtain ⟨V, hV⟩ : ∃ V, w.alloc (.cells #[] 41) = V := ⟨_, rfl⟩
  rw [hV] at oV lV
  have HV := Lib.hid hV
  have HoV := Lib.hid oV
  clear hV oV
  have HlV := Lib.hid lV
  clear lV
  by_cases hn : 64 < n
  · have l65 : ¬ n < 65 := by omega
    go_enter Tryd.func31, Tryd.ntmps31
    go_wp2_with fail
    rw [HV.out]
    refine wp_loop_rounds 1 ?_
    unfold Code.rounds
    go_wp2_with fail
    go_ret
    exact ⟨_, rfl, fin_fullN (l := []) HoV.out (by unfold fullN; rw [if_pos hn]), HlV.out⟩
  · have e0 : fullN n = fullL n.toNat := by unfold fullN; rw [if_neg hn]
    have l65 : n < 65 := by omega
    by_cases hneg : n < 0
    · have h0 : ¬ (0 : Int) < n := by omega
      have He := Lib.hid (e0.trans (by rw [show n.toNat = 0 by omega] : fullL n.toNat = fullL 0))
      clear e0 hn
      go_enter Tryd.func31, Tryd.ntmps31
      go_wp2_with fail
      rw [HV.out]
      refine wp_loop_rounds 1 ?_
      unfold Code.rounds
      go_wp2_with fail
      go_ret
      exact ⟨_, rfl, fin_fullN (l := []) HoV.out He.out, HlV.out⟩
    obtain ⟨m, rfl⟩ : ∃ m : Nat, n = m := ⟨n.toNat, by omega⟩
    have hm : m ≤ 64 := by omega
    rw [Int.toNat_natCast] at e0
    have He := Lib.hid e0
    clear e0 hn hneg
    go_enter Tryd.func31, Tryd.ntmps31
    go_wp2_with fail
    rw [HV.out]
    go_loopw [3, 4] (fun v3 v4 wr => ∃ k : Nat, v4 = .int .i64 k ∧ k ≤ m ∧ RowKit.Hid (wr.ownsRow w.heap.size 41 2 v3 (fullTo m k).length (pc (fullTo m k))) ∧ Below w.heap.size w wr) (fun _ v4 _ => match v4 with | .int _ i => m - i.toNat | _ => 0)
    case atStart => exact ⟨0, rfl, Nat.zero_le _, HoV, HlV.out⟩
    case round =>
      obtain ⟨k, rfl, hk, own, lR⟩ := hrel
      by_cases hlt : k < m
      · have l3 : (0 : Int) ≤ (k : Int) := by omega
        have l4 : (k : Int) < (m : Int) := by omega
        have l5 : (k : Int) ≤ 64 := by omega
        have own0 := Lib.hid (show wr.ownsRow w.heap.size 41 2 u3 (fullTo m k ++ over (k + 1) k).length (pc (fullTo m k ++ over (k + 1) k)) from by rw [over_start, List.append_nil]; exact own.out)
        clear own
        go_wp2_with fail
        go_loopw [3, 5] (fun v3 v5 wq => ∃ b : Nat, v5 = .int .i64 b ∧ k < b ∧ b ≤ m ∧ RowKit.Hid (wq.ownsRow w.heap.size 41 2 v3 (fullTo m k ++ over b k).length (pc (fullTo m k ++ over b k))) ∧ Below w.heap.size w wq) (fun _ v5 _ => match v5 with | .int _ b => m - b.toNat | _ => 0)
        case atStart => exact ⟨k + 1, by simp, by omega, by omega, own0, lR⟩
        case round =>
          clear own0 lR
          obtain ⟨b, rfl, hkb, hb, own, lR⟩ := hrel
          by_cases hltb : b < m
          · have m3 : (0 : Int) ≤ (b : Int) := by omega
            have m4 : (b : Int) < (m : Int) := by omega
            have m5 : (b : Int) ≤ 64 := by omega
            have hs := over_succ (m := b) hkb
            have hl := over_len b k
            have hl2 := fullTo_len m k
            have hl3 : k * m ≤ 64 * 64 := Nat.mul_le_mul (by omega) hm
            have hl4 : (fullTo m k ++ over b k).length ≤ 8192 := by rw [List.length_append]; omega
            have hw := lR.size
            clear hl hl2 hl3
            go_wp2_with (at_builtin; refine wpList_append_own _ rfl _ _ 22 rfl w.heap.size 41 i0 _ 2 16 Tryd.underlying22 Hi0.out Hz0.out Hz1.out Hz2.out rfl (by decide) _ _ _ rfl (own.out.alloc _) ⟨wr.heap.size, 0, none⟩ 1 1 [.int .i64 (k : Nat), .int .i64 (b : Nat)] rfl rfl (World.news_of_block (cs := #[.int .i64 (k : Nat), .int .i64 (b : Nat)]) (t := 41) (fr := (0, 0)) (heap_alloc_new wr _)) (by simp [Value.oneCell']) (by unfold maxLen; omega) (by omega) (by simp; omega) ?_; intro v' w3 hown3 hgrow3 _)
            go_round
            case rel => exact ⟨b + 1, rfl, by omega, hltb, Lib.hid (by rw [hs, ← List.append_assoc, pc_snoc, List.length_append]; exact hown3), below_own (lR.alloc lR.size _) hgrow3 (own.out.alloc _) (Nat.le_refl _) (Nat.le_refl _)⟩
            case measure => simp; omega
          · obtain rfl : b = m := by omega
            have hs := fullTo_succ b k
            go_wp2_with fail
            go_round
            case rel => exact ⟨k + 1, rfl, hlt, by rw [hs]; exact own, lR⟩
            case measure => simp; omega
      · obtain rfl : k = m := by omega
        go_wp2_with fail
        go_ret
        exact ⟨_, rfl, fin_fullN own.out (He.out.trans (by simp [fullL])), lR⟩
end Go.Proofs.YtcangalpccppbaaDoor.Graph
