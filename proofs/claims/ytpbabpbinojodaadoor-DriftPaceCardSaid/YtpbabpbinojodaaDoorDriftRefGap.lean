/- The document's Gap, walked. -/
import Derived.Test.YtpbabpbinojodaaDoorDriftRef
namespace Go.Proofs.YtpbabpbinojodaaDoor.Drift
open Go.RowKit
open Go.Proofs.YtpbabpbinojodaaDoor.Arith Go.Proofs.YtpbabpbinojodaaDoor.Nodes Go.Proofs.YtpbabpbinojodaaDoor.Heap Go.Proofs.YtpbabpbinojodaaDoor.RF
set_option linter.unusedVariables false
set_option linter.unusedSimpArgs false
/-- What Gap tells. -/
def Gapped (n : Nt) (w : World) (e : Ending) (w' : World) : Prop := ∃ g, e = .returned (.int .i64 g) ∧ GapOf n g ∧ Below w.heap.size w w'
theorem nt_live {tick : Int} {zs : List Int} {s k : Nat} (h : Nt.live ⟨tick, zs, s⟩ k = true) : k < zs.length := by
  unfold Nt.live at h
  simp at h
  exact h.1
theorem nt_at (tick : Int) (zs : List Int) (s k : Nat) : Nt.at ⟨tick, zs, s⟩ k = tm (zs.getD k 0) := rfl
set_option maxRecDepth 100000 in
set_option maxHeartbeats 4000000 in
theorem refgap_any (tick : Int) (ad : Option Addr) (cap : Nat) (zs : List Int) (s : Nat) (hs : s < 2 ^ 64) (hl : zs.length ≤ 9223372036854775807) (w : World) (hz : Row64 w ad zs) :
    Calls Tryd.prog 7 #[.agg #[.int .i64 tick, .slice ad zs.length cap, .int .u64 (s : Nat)]] w fun e w' => Gapped ⟨tick, zs, s⟩ w e w' := by
  obtain ⟨W, hW⟩ : ∃ W, w.alloc (.cells #[.int .i64 tick, .slice ad zs.length cap, .int .u64 (s : Nat)] 29) = W := ⟨_, rfl⟩
  have bW : Blk W w.heap.size 29 #[.int .i64 tick, .slice ad zs.length cap, .int .u64 (s : Nat)] := by rw [← hW]; exact Blk.new w _ _
  have l0 : Below w.heap.size w W := by rw [← hW]; exact (Below.refl _ w).alloc (Nat.le_refl _) _
  have hzW := Lib.hid (hz.below l0 (Nat.le_refl _))
  have zW : W.heap.size = w.heap.size + 1 := by rw [← hW]; simp
  have HW := Lib.hid hW
  have HbW := Lib.hid bW
  have HL0 := Lib.hid l0
  clear hW bW l0 hz
  go_enter Tryd.func7, Tryd.ntmps7
  go_wp2_with (rw [HW.out])
  go_loopw [3, 4] (fun v3 v4 wr => ∃ (g : Int) (i : Nat), v3 = .int .i64 g ∧ v4 = .int .i64 i ∧ i ≤ 64 ∧ RowKit.Hid (GapP ⟨tick, zs, s⟩ (fore i 0) g) ∧ Below W.heap.size W wr) (fun _ v4 _ => match v4 with | .int _ i => 64 - i.toNat | _ => 0)
  case atStart => exact ⟨0, 0, rfl, rfl, Nat.zero_le _, Lib.hid (GapP.start _), Below.refl _ _⟩
  case round =>
    obtain ⟨g0, i, rfl, rfl, hi, HG, lR⟩ := hrel
    by_cases hlt : i < 64
    · have q1 : (0 : Int) ≤ (i : Int) := by omega
      have q2 : (i : Int) < 64 := by omega
      go_wp2_with fail
      go_loopw [3, 5] (fun v3 v5 wr => ∃ (g : Int) (k : Nat), v3 = .int .i64 g ∧ v5 = .int .i64 k ∧ k ≤ 64 ∧ RowKit.Hid (GapP ⟨tick, zs, s⟩ (fore i k) g) ∧ Below W.heap.size W wr) (fun _ v5 _ => match v5 with | .int _ k => 64 - k.toNat | _ => 0)
      case atStart => exact ⟨g0, 0, rfl, rfl, Nat.zero_le _, HG, lR⟩
      case round =>
        clear HG lR
        obtain ⟨g, k, rfl, rfl, hk, HG, lR⟩ := hrel
        by_cases hkt : k < 64
        · have q3 : (0 : Int) ≤ (k : Int) := by omega
          have q4 : (k : Int) < 64 := by omega
          have bR := HbW.out.below lR HbW.out.lt
          have lW := bR.lt
          have c0 := bR.cell 0
          have c1 := bR.cell 1
          have c2 := bR.cell 2
          simp at c0 c1 c2
          have HI := Lib.hid (fun (V : World) => nhas_any tick ad cap zs s hs i hlt V)
          have HK := Lib.hid (fun (V : World) => nhas_any tick ad cap zs s hs k hkt V)
          have zR := hzW.out.below lR (Nat.le_refl _)
          obtain ⟨li, hli⟩ : ∃ li, Nt.live ⟨tick, zs, s⟩ i = li := ⟨_, rfl⟩
          obtain ⟨lk, hlk⟩ : ∃ lk, Nt.live ⟨tick, zs, s⟩ k = lk := ⟨_, rfl⟩
          have hrg := HG.out.nn
          have hrm := HG.out.most
          have HR := Lib.hid lR
          simp only [hli] at HI
          simp only [hlk] at HK
          go_wp2_with fail
          cases li
          · have hsk := Lib.hid (HG.out.skip (fun h => by rw [hli] at h; cases h))
            clear hli hlk zR hrg hrm lR bR
            go_cut [38] (fun s38 V => s38 = .bool false ∧ RowKit.Hid (Below wr.heap.size wr V))
            case first =>
              have HS := Lib.hid (fun (v : World) (hv : Below wr.heap.size wr v) => (show Below wr.heap.size wr v ∧ v.cell? ⟨w.heap.size, 0, none⟩ = some (.int .i64 tick) ∧ v.cell? ⟨w.heap.size, 1, none⟩ = some (.slice ad zs.length cap) ∧ v.cell? ⟨w.heap.size, 2, none⟩ = some (.int .u64 (s : Nat)) from ⟨hv, (hv.cell (p := ⟨w.heap.size, 0, none⟩) lW).trans c0, (hv.cell (p := ⟨w.heap.size, 1, none⟩) lW).trans c1, (hv.cell (p := ⟨w.heap.size, 2, none⟩) lW).trans c2⟩))
              refine wp_region_noPanic ?_
              refine wp_region_held_drew (S := fun w' => Below wr.heap.size wr w' ∧ w'.cell? ⟨w.heap.size, 0, none⟩ = some (.int .i64 tick) ∧ w'.cell? ⟨w.heap.size, 1, none⟩ = some (.slice ad zs.length cap) ∧ w'.cell? ⟨w.heap.size, 2, none⟩ = some (.int .u64 (s : Nat))) (by kernel_rfl) (HS.out _ (Below.refl _ _).drew) (fun hHeld => ?_)
              refine Take.take (i := 0) (oi := _) (t := 14) (v := ?v1) rfl (by kernel_rfl) (by kernel_rfl) (by kernel_rfl) (by kernel_rfl) (fun _ _ _ h => h) (by kernel_rfl) ?hy1 (by assumption) ?_
              case hy1 => (intro w hSw; (try dsimp only at hSw); go_simp; try with_reducible rfl)
              try simp only [Act.put, List.setIfInBounds_toArray, List.set_cons_zero, List.set_cons_succ]
              refine Take.take (i := 1) (oi := _) (t := 15) (v := ?v2) rfl (by kernel_rfl) (by kernel_rfl) (by kernel_rfl) (by kernel_rfl) (fun _ _ _ h => h) (by kernel_rfl) ?hy2 (by assumption) ?_
              case hy2 => (intro w hSw; (try dsimp only at hSw); go_simp; try with_reducible rfl)
              try simp only [Act.put, List.setIfInBounds_toArray, List.set_cons_zero, List.set_cons_succ]
              refine wpAnyH_ready (rs := [2]) (by kernel_rfl) (by simp) ?_
              refine AllReadyH.cons (o := _) rfl (fun K hK => ?_) AllReadyH.nil
              obtain ⟨hB, _⟩ : Below wr.heap.size wr _ ∧ _ := (by assumption)
              go_simp
              go_at_call 15
              refine (HI.out _).mono ?_
              rintro e w4 ⟨rfl, b4⟩
              try dsimp only
              refine hK.out _ _ ?hS3 (fun hHeld => ?_)
              case hS3 => (first | exact HS.out _ (by assumption) | (obtain ⟨hB, _⟩ : Below wr.heap.size wr _ ∧ _ := (by assumption); exact HS.out _ (Below.trans hB (Below.mono (by assumption) hB.size))) | (obtain ⟨hB, _⟩ : Below wr.heap.size wr _ ∧ _ := (by assumption); exact HS.out _ hB))
              clear hB hK K
              try simp only [Act.put, List.setIfInBounds_toArray, List.set_cons_zero, List.set_cons_succ]
              refine Take.take (i := 3) (oi := _) (t := 17) (v := ?v4) rfl (by kernel_rfl) (by kernel_rfl) (by kernel_rfl) (by kernel_rfl) (fun _ _ _ h => h) (by kernel_rfl) ?hy4 (by assumption) ?_
              case hy4 => (intro w hSw; (try dsimp only at hSw); go_simp; try with_reducible rfl)
              try simp only [Act.put, List.setIfInBounds_toArray, List.set_cons_zero, List.set_cons_succ]
              refine Take.skip (i := 4) (t := 18) (g := 3) (b := true) (by kernel_rfl) (by kernel_rfl) (by kernel_rfl) (by kernel_rfl) (fun _ _ _ h => h) (by kernel_rfl) (by assumption) ?_
              try simp only [Act.put, List.setIfInBounds_toArray, List.set_cons_zero, List.set_cons_succ]
              refine Take.skip (i := 5) (t := 19) (g := 3) (b := true) (by kernel_rfl) (by kernel_rfl) (by kernel_rfl) (by kernel_rfl) (fun _ _ _ h => h) (by kernel_rfl) (by assumption) ?_
              try simp only [Act.put, List.setIfInBounds_toArray, List.set_cons_zero, List.set_cons_succ]
              refine Take.skip (i := 6) (t := 20) (g := 3) (b := true) (by kernel_rfl) (by kernel_rfl) (by kernel_rfl) (by kernel_rfl) (fun _ _ _ h => h) (by kernel_rfl) (by assumption) ?_
              try simp only [Act.put, List.setIfInBounds_toArray, List.set_cons_zero, List.set_cons_succ]
              refine Take.take (i := 7) (oi := _) (t := 21) (v := ?v5) rfl (by kernel_rfl) (by kernel_rfl) (by kernel_rfl) (by kernel_rfl) (fun _ _ _ h => h) (by kernel_rfl) ?hy5 (by assumption) ?_
              case hy5 => (intro w hSw; (try dsimp only at hSw); go_simp; try with_reducible rfl)
              try simp only [Act.put, List.setIfInBounds_toArray, List.set_cons_zero, List.set_cons_succ]
              refine Take.take (i := 8) (oi := _) (t := 22) (v := ?v6) rfl (by kernel_rfl) (by kernel_rfl) (by kernel_rfl) (by kernel_rfl) (fun _ _ _ h => h) (by kernel_rfl) ?hy6 (by assumption) ?_
              case hy6 => (intro w hSw; (try dsimp only at hSw); go_simp; try with_reducible rfl)
              try simp only [Act.put, List.setIfInBounds_toArray, List.set_cons_zero, List.set_cons_succ]
              refine Take.skip (i := 9) (t := 23) (g := 8) (b := true) (by kernel_rfl) (by kernel_rfl) (by kernel_rfl) (by kernel_rfl) (fun _ _ _ h => h) (by kernel_rfl) (by assumption) ?_
              try simp only [Act.put, List.setIfInBounds_toArray, List.set_cons_zero, List.set_cons_succ]
              refine Take.skip (i := 10) (t := 24) (g := 8) (b := true) (by kernel_rfl) (by kernel_rfl) (by kernel_rfl) (by kernel_rfl) (fun _ _ _ h => h) (by kernel_rfl) (by assumption) ?_
              try simp only [Act.put, List.setIfInBounds_toArray, List.set_cons_zero, List.set_cons_succ]
              refine Take.skip (i := 11) (t := 25) (g := 8) (b := true) (by kernel_rfl) (by kernel_rfl) (by kernel_rfl) (by kernel_rfl) (fun _ _ _ h => h) (by kernel_rfl) (by assumption) ?_
              try simp only [Act.put, List.setIfInBounds_toArray, List.set_cons_zero, List.set_cons_succ]
              refine Take.skip (i := 12) (t := 26) (g := 8) (b := true) (by kernel_rfl) (by kernel_rfl) (by kernel_rfl) (by kernel_rfl) (fun _ _ _ h => h) (by kernel_rfl) (by assumption) ?_
              try simp only [Act.put, List.setIfInBounds_toArray, List.set_cons_zero, List.set_cons_succ]
              refine Take.skip (i := 13) (t := 27) (g := 8) (b := true) (by kernel_rfl) (by kernel_rfl) (by kernel_rfl) (by kernel_rfl) (fun _ _ _ h => h) (by kernel_rfl) (by assumption) ?_
              try simp only [Act.put, List.setIfInBounds_toArray, List.set_cons_zero, List.set_cons_succ]
              refine Take.skip (i := 14) (t := 28) (g := 8) (b := true) (by kernel_rfl) (by kernel_rfl) (by kernel_rfl) (by kernel_rfl) (fun _ _ _ h => h) (by kernel_rfl) (by assumption) ?_
              try simp only [Act.put, List.setIfInBounds_toArray, List.set_cons_zero, List.set_cons_succ]
              refine Take.skip (i := 15) (t := 29) (g := 8) (b := true) (by kernel_rfl) (by kernel_rfl) (by kernel_rfl) (by kernel_rfl) (fun _ _ _ h => h) (by kernel_rfl) (by assumption) ?_
              try simp only [Act.put, List.setIfInBounds_toArray, List.set_cons_zero, List.set_cons_succ]
              refine Take.skip (i := 16) (t := 30) (g := 8) (b := true) (by kernel_rfl) (by kernel_rfl) (by kernel_rfl) (by kernel_rfl) (fun _ _ _ h => h) (by kernel_rfl) (by assumption) ?_
              try simp only [Act.put, List.setIfInBounds_toArray, List.set_cons_zero, List.set_cons_succ]
              refine Take.skip (i := 17) (t := 31) (g := 8) (b := true) (by kernel_rfl) (by kernel_rfl) (by kernel_rfl) (by kernel_rfl) (fun _ _ _ h => h) (by kernel_rfl) (by assumption) ?_
              try simp only [Act.put, List.setIfInBounds_toArray, List.set_cons_zero, List.set_cons_succ]
              refine Take.skip (i := 18) (t := 32) (g := 8) (b := true) (by kernel_rfl) (by kernel_rfl) (by kernel_rfl) (by kernel_rfl) (fun _ _ _ h => h) (by kernel_rfl) (by assumption) ?_
              try simp only [Act.put, List.setIfInBounds_toArray, List.set_cons_zero, List.set_cons_succ]
              refine Take.skip (i := 19) (t := 33) (g := 8) (b := true) (by kernel_rfl) (by kernel_rfl) (by kernel_rfl) (by kernel_rfl) (fun _ _ _ h => h) (by kernel_rfl) (by assumption) ?_
              try simp only [Act.put, List.setIfInBounds_toArray, List.set_cons_zero, List.set_cons_succ]
              refine Take.skip (i := 20) (t := 34) (g := 8) (b := true) (by kernel_rfl) (by kernel_rfl) (by kernel_rfl) (by kernel_rfl) (fun _ _ _ h => h) (by kernel_rfl) (by assumption) ?_
              try simp only [Act.put, List.setIfInBounds_toArray, List.set_cons_zero, List.set_cons_succ]
              refine Take.skip (i := 21) (t := 35) (g := 8) (b := true) (by kernel_rfl) (by kernel_rfl) (by kernel_rfl) (by kernel_rfl) (fun _ _ _ h => h) (by kernel_rfl) (by assumption) ?_
              try simp only [Act.put, List.setIfInBounds_toArray, List.set_cons_zero, List.set_cons_succ]
              refine Take.skip (i := 22) (t := 36) (g := 8) (b := true) (by kernel_rfl) (by kernel_rfl) (by kernel_rfl) (by kernel_rfl) (fun _ _ _ h => h) (by kernel_rfl) (by assumption) ?_
              try simp only [Act.put, List.setIfInBounds_toArray, List.set_cons_zero, List.set_cons_succ]
              refine Take.skip (i := 23) (t := 37) (g := 8) (b := true) (by kernel_rfl) (by kernel_rfl) (by kernel_rfl) (by kernel_rfl) (fun _ _ _ h => h) (by kernel_rfl) (by assumption) ?_
              try simp only [Act.put, List.setIfInBounds_toArray, List.set_cons_zero, List.set_cons_succ]
              refine Take.take (i := 24) (oi := _) (t := 38) (v := ?v7) rfl (by kernel_rfl) (by kernel_rfl) (by kernel_rfl) (by kernel_rfl) (fun _ _ _ h => h) (by kernel_rfl) ?hy7 (by assumption) ?_
              case hy7 => (intro w hSw; (try dsimp only at hSw); go_simp; try with_reducible rfl)
              try simp only [Act.put, List.setIfInBounds_toArray, List.set_cons_zero, List.set_cons_succ]
              refine wpAnyH_done (by kernel_rfl) ?_ _
              refine NoPanic.normal ?_
              go_wp2_with fail
              go_meet
              obtain ⟨hB, _⟩ : Below wr.heap.size wr _ ∧ _ := (by assumption)
              exact ⟨rfl, Lib.hid hB⟩
            case rest =>
              obtain ⟨rfl, hB⟩ := hcut
              go_wp2_with fail
              go_round
              case rel => exact ⟨g, k + 1, rfl, rfl, hkt, hsk, HR.out.trans (hB.out.mono HR.out.size)⟩
              case measure => simp; omega
          · cases lk
            · have hsk := Lib.hid (HG.out.skip (fun _ h => by rw [hlk] at h; cases h))
              clear hli hlk zR hrg hrm lR bR
              go_cut [38] (fun s38 V => s38 = .bool false ∧ RowKit.Hid (Below wr.heap.size wr V))
              case first =>
                have HS := Lib.hid (fun (v : World) (hv : Below wr.heap.size wr v) => (show Below wr.heap.size wr v ∧ v.cell? ⟨w.heap.size, 0, none⟩ = some (.int .i64 tick) ∧ v.cell? ⟨w.heap.size, 1, none⟩ = some (.slice ad zs.length cap) ∧ v.cell? ⟨w.heap.size, 2, none⟩ = some (.int .u64 (s : Nat)) from ⟨hv, (hv.cell (p := ⟨w.heap.size, 0, none⟩) lW).trans c0, (hv.cell (p := ⟨w.heap.size, 1, none⟩) lW).trans c1, (hv.cell (p := ⟨w.heap.size, 2, none⟩) lW).trans c2⟩))
                refine wp_region_noPanic ?_
                refine wp_region_held_drew (S := fun w' => Below wr.heap.size wr w' ∧ w'.cell? ⟨w.heap.size, 0, none⟩ = some (.int .i64 tick) ∧ w'.cell? ⟨w.heap.size, 1, none⟩ = some (.slice ad zs.length cap) ∧ w'.cell? ⟨w.heap.size, 2, none⟩ = some (.int .u64 (s : Nat))) (by kernel_rfl) (HS.out _ (Below.refl _ _).drew) (fun hHeld => ?_)
                refine Take.take (i := 0) (oi := _) (t := 14) (v := ?v8) rfl (by kernel_rfl) (by kernel_rfl) (by kernel_rfl) (by kernel_rfl) (fun _ _ _ h => h) (by kernel_rfl) ?hy8 (by assumption) ?_
                case hy8 => (intro w hSw; (try dsimp only at hSw); go_simp; try with_reducible rfl)
                try simp only [Act.put, List.setIfInBounds_toArray, List.set_cons_zero, List.set_cons_succ]
                refine Take.take (i := 1) (oi := _) (t := 15) (v := ?v9) rfl (by kernel_rfl) (by kernel_rfl) (by kernel_rfl) (by kernel_rfl) (fun _ _ _ h => h) (by kernel_rfl) ?hy9 (by assumption) ?_
                case hy9 => (intro w hSw; (try dsimp only at hSw); go_simp; try with_reducible rfl)
                try simp only [Act.put, List.setIfInBounds_toArray, List.set_cons_zero, List.set_cons_succ]
                refine wpAnyH_ready (rs := [2]) (by kernel_rfl) (by simp) ?_
                refine AllReadyH.cons (o := _) rfl (fun K hK => ?_) AllReadyH.nil
                obtain ⟨hB, _⟩ : Below wr.heap.size wr _ ∧ _ := (by assumption)
                go_simp
                go_at_call 15
                refine (HI.out _).mono ?_
                rintro e w4 ⟨rfl, b4⟩
                try dsimp only
                refine hK.out _ _ ?hS10 (fun hHeld => ?_)
                case hS10 => (first | exact HS.out _ (by assumption) | (obtain ⟨hB, _⟩ : Below wr.heap.size wr _ ∧ _ := (by assumption); exact HS.out _ (Below.trans hB (Below.mono (by assumption) hB.size))) | (obtain ⟨hB, _⟩ : Below wr.heap.size wr _ ∧ _ := (by assumption); exact HS.out _ hB))
                clear hB hK K
                try simp only [Act.put, List.setIfInBounds_toArray, List.set_cons_zero, List.set_cons_succ]
                refine Take.take (i := 3) (oi := _) (t := 17) (v := ?v11) rfl (by kernel_rfl) (by kernel_rfl) (by kernel_rfl) (by kernel_rfl) (fun _ _ _ h => h) (by kernel_rfl) ?hy11 (by assumption) ?_
                case hy11 => (intro w hSw; (try dsimp only at hSw); go_simp; try with_reducible rfl)
                try simp only [Act.put, List.setIfInBounds_toArray, List.set_cons_zero, List.set_cons_succ]
                refine Take.take (i := 4) (oi := _) (t := 18) (v := ?v12) rfl (by kernel_rfl) (by kernel_rfl) (by kernel_rfl) (by kernel_rfl) (fun _ _ _ h => h) (by kernel_rfl) ?hy12 (by assumption) ?_
                case hy12 => (intro w hSw; (try dsimp only at hSw); go_simp; try with_reducible rfl)
                try simp only [Act.put, List.setIfInBounds_toArray, List.set_cons_zero, List.set_cons_succ]
                refine Take.take (i := 5) (oi := _) (t := 19) (v := ?v13) rfl (by kernel_rfl) (by kernel_rfl) (by kernel_rfl) (by kernel_rfl) (fun _ _ _ h => h) (by kernel_rfl) ?hy13 (by assumption) ?_
                case hy13 => (intro w hSw; (try dsimp only at hSw); go_simp; try with_reducible rfl)
                try simp only [Act.put, List.setIfInBounds_toArray, List.set_cons_zero, List.set_cons_succ]
                refine wpAnyH_ready (rs := [6]) (by kernel_rfl) (by simp) ?_
                refine AllReadyH.cons (o := _) rfl (fun K hK => ?_) AllReadyH.nil
                obtain ⟨hB, _⟩ : Below wr.heap.size wr _ ∧ _ := (by assumption)
                go_simp
                go_at_call 15
                refine (HK.out _).mono ?_
                rintro e w4 ⟨rfl, b4⟩
                try dsimp only
                refine hK.out _ _ ?hS14 (fun hHeld => ?_)
                case hS14 => (first | exact HS.out _ (by assumption) | (obtain ⟨hB, _⟩ : Below wr.heap.size wr _ ∧ _ := (by assumption); exact HS.out _ (Below.trans hB (Below.mono (by assumption) hB.size))) | (obtain ⟨hB, _⟩ : Below wr.heap.size wr _ ∧ _ := (by assumption); exact HS.out _ hB))
                clear hB hK K
                try simp only [Act.put, List.setIfInBounds_toArray, List.set_cons_zero, List.set_cons_succ]
                refine Take.take (i := 7) (oi := _) (t := 21) (v := ?v15) rfl (by kernel_rfl) (by kernel_rfl) (by kernel_rfl) (by kernel_rfl) (fun _ _ _ h => h) (by kernel_rfl) ?hy15 (by assumption) ?_
                case hy15 => (intro w hSw; (try dsimp only at hSw); go_simp; try with_reducible rfl)
                try simp only [Act.put, List.setIfInBounds_toArray, List.set_cons_zero, List.set_cons_succ]
                refine Take.take (i := 8) (oi := _) (t := 22) (v := ?v16) rfl (by kernel_rfl) (by kernel_rfl) (by kernel_rfl) (by kernel_rfl) (fun _ _ _ h => h) (by kernel_rfl) ?hy16 (by assumption) ?_
                case hy16 => (intro w hSw; (try dsimp only at hSw); go_simp; try with_reducible rfl)
                try simp only [Act.put, List.setIfInBounds_toArray, List.set_cons_zero, List.set_cons_succ]
                refine Take.skip (i := 9) (t := 23) (g := 8) (b := true) (by kernel_rfl) (by kernel_rfl) (by kernel_rfl) (by kernel_rfl) (fun _ _ _ h => h) (by kernel_rfl) (by assumption) ?_
                try simp only [Act.put, List.setIfInBounds_toArray, List.set_cons_zero, List.set_cons_succ]
                refine Take.skip (i := 10) (t := 24) (g := 8) (b := true) (by kernel_rfl) (by kernel_rfl) (by kernel_rfl) (by kernel_rfl) (fun _ _ _ h => h) (by kernel_rfl) (by assumption) ?_
                try simp only [Act.put, List.setIfInBounds_toArray, List.set_cons_zero, List.set_cons_succ]
                refine Take.skip (i := 11) (t := 25) (g := 8) (b := true) (by kernel_rfl) (by kernel_rfl) (by kernel_rfl) (by kernel_rfl) (fun _ _ _ h => h) (by kernel_rfl) (by assumption) ?_
                try simp only [Act.put, List.setIfInBounds_toArray, List.set_cons_zero, List.set_cons_succ]
                refine Take.skip (i := 12) (t := 26) (g := 8) (b := true) (by kernel_rfl) (by kernel_rfl) (by kernel_rfl) (by kernel_rfl) (fun _ _ _ h => h) (by kernel_rfl) (by assumption) ?_
                try simp only [Act.put, List.setIfInBounds_toArray, List.set_cons_zero, List.set_cons_succ]
                refine Take.skip (i := 13) (t := 27) (g := 8) (b := true) (by kernel_rfl) (by kernel_rfl) (by kernel_rfl) (by kernel_rfl) (fun _ _ _ h => h) (by kernel_rfl) (by assumption) ?_
                try simp only [Act.put, List.setIfInBounds_toArray, List.set_cons_zero, List.set_cons_succ]
                refine Take.skip (i := 14) (t := 28) (g := 8) (b := true) (by kernel_rfl) (by kernel_rfl) (by kernel_rfl) (by kernel_rfl) (fun _ _ _ h => h) (by kernel_rfl) (by assumption) ?_
                try simp only [Act.put, List.setIfInBounds_toArray, List.set_cons_zero, List.set_cons_succ]
                refine Take.skip (i := 15) (t := 29) (g := 8) (b := true) (by kernel_rfl) (by kernel_rfl) (by kernel_rfl) (by kernel_rfl) (fun _ _ _ h => h) (by kernel_rfl) (by assumption) ?_
                try simp only [Act.put, List.setIfInBounds_toArray, List.set_cons_zero, List.set_cons_succ]
                refine Take.skip (i := 16) (t := 30) (g := 8) (b := true) (by kernel_rfl) (by kernel_rfl) (by kernel_rfl) (by kernel_rfl) (fun _ _ _ h => h) (by kernel_rfl) (by assumption) ?_
                try simp only [Act.put, List.setIfInBounds_toArray, List.set_cons_zero, List.set_cons_succ]
                refine Take.skip (i := 17) (t := 31) (g := 8) (b := true) (by kernel_rfl) (by kernel_rfl) (by kernel_rfl) (by kernel_rfl) (fun _ _ _ h => h) (by kernel_rfl) (by assumption) ?_
                try simp only [Act.put, List.setIfInBounds_toArray, List.set_cons_zero, List.set_cons_succ]
                refine Take.skip (i := 18) (t := 32) (g := 8) (b := true) (by kernel_rfl) (by kernel_rfl) (by kernel_rfl) (by kernel_rfl) (fun _ _ _ h => h) (by kernel_rfl) (by assumption) ?_
                try simp only [Act.put, List.setIfInBounds_toArray, List.set_cons_zero, List.set_cons_succ]
                refine Take.skip (i := 19) (t := 33) (g := 8) (b := true) (by kernel_rfl) (by kernel_rfl) (by kernel_rfl) (by kernel_rfl) (fun _ _ _ h => h) (by kernel_rfl) (by assumption) ?_
                try simp only [Act.put, List.setIfInBounds_toArray, List.set_cons_zero, List.set_cons_succ]
                refine Take.skip (i := 20) (t := 34) (g := 8) (b := true) (by kernel_rfl) (by kernel_rfl) (by kernel_rfl) (by kernel_rfl) (fun _ _ _ h => h) (by kernel_rfl) (by assumption) ?_
                try simp only [Act.put, List.setIfInBounds_toArray, List.set_cons_zero, List.set_cons_succ]
                refine Take.skip (i := 21) (t := 35) (g := 8) (b := true) (by kernel_rfl) (by kernel_rfl) (by kernel_rfl) (by kernel_rfl) (fun _ _ _ h => h) (by kernel_rfl) (by assumption) ?_
                try simp only [Act.put, List.setIfInBounds_toArray, List.set_cons_zero, List.set_cons_succ]
                refine Take.skip (i := 22) (t := 36) (g := 8) (b := true) (by kernel_rfl) (by kernel_rfl) (by kernel_rfl) (by kernel_rfl) (fun _ _ _ h => h) (by kernel_rfl) (by assumption) ?_
                try simp only [Act.put, List.setIfInBounds_toArray, List.set_cons_zero, List.set_cons_succ]
                refine Take.skip (i := 23) (t := 37) (g := 8) (b := true) (by kernel_rfl) (by kernel_rfl) (by kernel_rfl) (by kernel_rfl) (fun _ _ _ h => h) (by kernel_rfl) (by assumption) ?_
                try simp only [Act.put, List.setIfInBounds_toArray, List.set_cons_zero, List.set_cons_succ]
                refine Take.take (i := 24) (oi := _) (t := 38) (v := ?v17) rfl (by kernel_rfl) (by kernel_rfl) (by kernel_rfl) (by kernel_rfl) (fun _ _ _ h => h) (by kernel_rfl) ?hy17 (by assumption) ?_
                case hy17 => (intro w hSw; (try dsimp only at hSw); go_simp; try with_reducible rfl)
                try simp only [Act.put, List.setIfInBounds_toArray, List.set_cons_zero, List.set_cons_succ]
                refine wpAnyH_done (by kernel_rfl) ?_ _
                refine NoPanic.normal ?_
                go_wp2_with fail
                go_meet
                obtain ⟨hB, _⟩ : Below wr.heap.size wr _ ∧ _ := (by assumption)
                exact ⟨rfl, Lib.hid hB⟩
              case rest =>
                obtain ⟨rfl, hB⟩ := hcut
                go_wp2_with fail
                go_round
                case rel => exact ⟨g, k + 1, rfl, rfl, hkt, hsk, HR.out.trans (hB.out.mono HR.out.size)⟩
                case measure => simp; omega
            · have hil := nt_live hli
              have hkl := nt_live hlk
              obtain ⟨b, off, rfl, lb, cx⟩ := zR i hil
              obtain ⟨b', off', e', _, cy⟩ := zR k hkl
              cases e'
              have rx := tm_in (zs.getD i 0)
              have ry := tm_in (zs.getD k 0)
              have hsk := fun h => HG.out.skip (i := i) (k := k) (fun _ _ => h)
              have htk := HG.out.take hlt hkt hli hlk
              rw [nt_at, nt_at] at hsk htk
              obtain ⟨x, hx⟩ : ∃ x, zs.getD i 0 = x := ⟨_, rfl⟩
              obtain ⟨y, hy⟩ : ∃ y, zs.getD k 0 = y := ⟨_, rfl⟩
              rw [hx] at cx rx hsk htk
              rw [hy] at cy ry hsk htk
              have q5 : (i : Int) < (zs.length : Int) := by omega
              have q6 : (k : Int) < (zs.length : Int) := by omega
              obtain ⟨tx, htx⟩ : ∃ t, tm x = t := ⟨_, rfl⟩
              obtain ⟨ty, hty⟩ : ∃ t, tm y = t := ⟨_, rfl⟩
              rw [htx] at rx hsk htk
              rw [hty] at ry hsk htk
              have TX := Lib.hid (fun V => reftime_any x V)
              have TY := Lib.hid (fun V => reftime_any y V)
              simp only [htx] at TX
              simp only [hty] at TY
              have Hsk := Lib.hid hsk
              have Htk := Lib.hid htk
              have wr1 : IntKind.i64.wrap (tx - ty) = tx - ty := wrap64_in' (by unfold I64; omega)
              clear hli hlk zR bR lR hsk htk hx hy htx hty
              go_cut [38] (fun s38 V => s38 = .bool (decide (g < tx - ty)) ∧ RowKit.Hid (Below wr.heap.size wr V))
              case first =>
                have HS := Lib.hid (fun (v : World) (hv : Below wr.heap.size wr v) => (show Below wr.heap.size wr v ∧ v.cell? ⟨w.heap.size, 0, none⟩ = some (.int .i64 tick) ∧ v.cell? ⟨w.heap.size, 1, none⟩ = some (.slice (some ⟨b, off, none⟩) zs.length cap) ∧ v.cell? ⟨w.heap.size, 2, none⟩ = some (.int .u64 (s : Nat)) ∧ v.cell? ⟨b, off + i, none⟩ = some (.int .i64 x) ∧ v.cell? ⟨b, off + k, none⟩ = some (.int .i64 y) from ⟨hv, (hv.cell (p := ⟨w.heap.size, 0, none⟩) lW).trans c0, (hv.cell (p := ⟨w.heap.size, 1, none⟩) lW).trans c1, (hv.cell (p := ⟨w.heap.size, 2, none⟩) lW).trans c2, (hv.cell (p := ⟨b, _, none⟩) lb).trans cx, (hv.cell (p := ⟨b, _, none⟩) lb).trans cy⟩))
                refine wp_region_noPanic ?_
                refine wp_region_held_drew (S := fun w' => Below wr.heap.size wr w' ∧ w'.cell? ⟨w.heap.size, 0, none⟩ = some (.int .i64 tick) ∧ w'.cell? ⟨w.heap.size, 1, none⟩ = some (.slice (some ⟨b, off, none⟩) zs.length cap) ∧ w'.cell? ⟨w.heap.size, 2, none⟩ = some (.int .u64 (s : Nat)) ∧ w'.cell? ⟨b, off + i, none⟩ = some (.int .i64 x) ∧ w'.cell? ⟨b, off + k, none⟩ = some (.int .i64 y)) (by kernel_rfl) (HS.out _ (Below.refl _ _).drew) (fun hHeld => ?_)
                refine Take.take (i := 0) (oi := _) (t := 14) (v := ?v18) rfl (by kernel_rfl) (by kernel_rfl) (by kernel_rfl) (by kernel_rfl) (fun _ _ _ h => h) (by kernel_rfl) ?hy18 (by assumption) ?_
                case hy18 => (intro w hSw; (try dsimp only at hSw); go_simp; try with_reducible rfl)
                try simp only [Act.put, List.setIfInBounds_toArray, List.set_cons_zero, List.set_cons_succ]
                refine Take.take (i := 1) (oi := _) (t := 15) (v := ?v19) rfl (by kernel_rfl) (by kernel_rfl) (by kernel_rfl) (by kernel_rfl) (fun _ _ _ h => h) (by kernel_rfl) ?hy19 (by assumption) ?_
                case hy19 => (intro w hSw; (try dsimp only at hSw); go_simp; try with_reducible rfl)
                try simp only [Act.put, List.setIfInBounds_toArray, List.set_cons_zero, List.set_cons_succ]
                refine wpAnyH_ready (rs := [2]) (by kernel_rfl) (by simp) ?_
                refine AllReadyH.cons (o := _) rfl (fun K hK => ?_) AllReadyH.nil
                obtain ⟨hB, _⟩ : Below wr.heap.size wr _ ∧ _ := (by assumption)
                go_simp
                go_at_call 15
                refine (HI.out _).mono ?_
                rintro e w4 ⟨rfl, b4⟩
                try dsimp only
                refine hK.out _ _ ?hS20 (fun hHeld => ?_)
                case hS20 => (first | exact HS.out _ (by assumption) | (obtain ⟨hB, _⟩ : Below wr.heap.size wr _ ∧ _ := (by assumption); exact HS.out _ (Below.trans hB (Below.mono (by assumption) hB.size))) | (obtain ⟨hB, _⟩ : Below wr.heap.size wr _ ∧ _ := (by assumption); exact HS.out _ hB))
                clear hB hK K
                try simp only [Act.put, List.setIfInBounds_toArray, List.set_cons_zero, List.set_cons_succ]
                refine Take.take (i := 3) (oi := _) (t := 17) (v := ?v21) rfl (by kernel_rfl) (by kernel_rfl) (by kernel_rfl) (by kernel_rfl) (fun _ _ _ h => h) (by kernel_rfl) ?hy21 (by assumption) ?_
                case hy21 => (intro w hSw; (try dsimp only at hSw); go_simp; try with_reducible rfl)
                try simp only [Act.put, List.setIfInBounds_toArray, List.set_cons_zero, List.set_cons_succ]
                refine Take.take (i := 4) (oi := _) (t := 18) (v := ?v22) rfl (by kernel_rfl) (by kernel_rfl) (by kernel_rfl) (by kernel_rfl) (fun _ _ _ h => h) (by kernel_rfl) ?hy22 (by assumption) ?_
                case hy22 => (intro w hSw; (try dsimp only at hSw); go_simp; try with_reducible rfl)
                try simp only [Act.put, List.setIfInBounds_toArray, List.set_cons_zero, List.set_cons_succ]
                refine Take.take (i := 5) (oi := _) (t := 19) (v := ?v23) rfl (by kernel_rfl) (by kernel_rfl) (by kernel_rfl) (by kernel_rfl) (fun _ _ _ h => h) (by kernel_rfl) ?hy23 (by assumption) ?_
                case hy23 => (intro w hSw; (try dsimp only at hSw); go_simp; try with_reducible rfl)
                try simp only [Act.put, List.setIfInBounds_toArray, List.set_cons_zero, List.set_cons_succ]
                refine wpAnyH_ready (rs := [6]) (by kernel_rfl) (by simp) ?_
                refine AllReadyH.cons (o := _) rfl (fun K hK => ?_) AllReadyH.nil
                obtain ⟨hB, _⟩ : Below wr.heap.size wr _ ∧ _ := (by assumption)
                go_simp
                go_at_call 15
                refine (HK.out _).mono ?_
                rintro e w4 ⟨rfl, b4⟩
                try dsimp only
                refine hK.out _ _ ?hS24 (fun hHeld => ?_)
                case hS24 => (first | exact HS.out _ (by assumption) | (obtain ⟨hB, _⟩ : Below wr.heap.size wr _ ∧ _ := (by assumption); exact HS.out _ (Below.trans hB (Below.mono (by assumption) hB.size))) | (obtain ⟨hB, _⟩ : Below wr.heap.size wr _ ∧ _ := (by assumption); exact HS.out _ hB))
                clear hB hK K
                try simp only [Act.put, List.setIfInBounds_toArray, List.set_cons_zero, List.set_cons_succ]
                refine Take.take (i := 7) (oi := _) (t := 21) (v := ?v25) rfl (by kernel_rfl) (by kernel_rfl) (by kernel_rfl) (by kernel_rfl) (fun _ _ _ h => h) (by kernel_rfl) ?hy25 (by assumption) ?_
                case hy25 => (intro w hSw; (try dsimp only at hSw); go_simp; try with_reducible rfl)
                try simp only [Act.put, List.setIfInBounds_toArray, List.set_cons_zero, List.set_cons_succ]
                refine Take.take (i := 8) (oi := _) (t := 22) (v := ?v26) rfl (by kernel_rfl) (by kernel_rfl) (by kernel_rfl) (by kernel_rfl) (fun _ _ _ h => h) (by kernel_rfl) ?hy26 (by assumption) ?_
                case hy26 => (intro w hSw; (try dsimp only at hSw); go_simp; try with_reducible rfl)
                try simp only [Act.put, List.setIfInBounds_toArray, List.set_cons_zero, List.set_cons_succ]
                refine Take.take (i := 9) (oi := _) (t := 23) (v := ?v27) rfl (by kernel_rfl) (by kernel_rfl) (by kernel_rfl) (by kernel_rfl) (fun _ _ _ h => h) (by kernel_rfl) ?hy27 (by assumption) ?_
                case hy27 => (intro w hSw; (try dsimp only at hSw); go_simp; try with_reducible rfl)
                try simp only [Act.put, List.setIfInBounds_toArray, List.set_cons_zero, List.set_cons_succ]
                refine Take.take (i := 10) (oi := _) (t := 24) (v := ?v28) rfl (by kernel_rfl) (by kernel_rfl) (by kernel_rfl) (by kernel_rfl) (fun _ _ _ h => h) (by kernel_rfl) ?hy28 (by assumption) ?_
                case hy28 => (intro w hSw; (try dsimp only at hSw); go_simp; try with_reducible rfl)
                try simp only [Act.put, List.setIfInBounds_toArray, List.set_cons_zero, List.set_cons_succ]
                refine Take.take (i := 11) (oi := _) (t := 25) (v := ?v29) rfl (by kernel_rfl) (by kernel_rfl) (by kernel_rfl) (by kernel_rfl) (fun _ _ _ h => h) (by kernel_rfl) ?hy29 (by assumption) ?_
                case hy29 => (intro w hSw; (try dsimp only at hSw); go_simp; try with_reducible rfl)
                try simp only [Act.put, List.setIfInBounds_toArray, List.set_cons_zero, List.set_cons_succ]
                refine Take.take (i := 12) (oi := _) (t := 26) (v := ?v30) rfl (by kernel_rfl) (by kernel_rfl) (by kernel_rfl) (by kernel_rfl) (fun _ _ _ h => h) (by kernel_rfl) ?hy30 (by assumption) ?_
                case hy30 => (intro w hSw; (try dsimp only at hSw); go_simp; try with_reducible rfl)
                try simp only [Act.put, List.setIfInBounds_toArray, List.set_cons_zero, List.set_cons_succ]
                refine Take.take (i := 13) (oi := _) (t := 27) (v := ?v31) rfl (by kernel_rfl) (by kernel_rfl) (by kernel_rfl) (by kernel_rfl) (fun _ _ _ h => h) (by kernel_rfl) ?hy31 (by assumption) ?_
                case hy31 => (intro w hSw; (try dsimp only at hSw); go_simp; try with_reducible rfl)
                try simp only [Act.put, List.setIfInBounds_toArray, List.set_cons_zero, List.set_cons_succ]
                refine Take.take (i := 15) (oi := _) (t := 29) (v := ?v32) rfl (by kernel_rfl) (by kernel_rfl) (by kernel_rfl) (by kernel_rfl) (fun _ _ _ h => h) (by kernel_rfl) ?hy32 (by assumption) ?_
                case hy32 => (intro w hSw; (try dsimp only at hSw); go_simp; try with_reducible rfl)
                try simp only [Act.put, List.setIfInBounds_toArray, List.set_cons_zero, List.set_cons_succ]
                refine Take.take (i := 16) (oi := _) (t := 30) (v := ?v33) rfl (by kernel_rfl) (by kernel_rfl) (by kernel_rfl) (by kernel_rfl) (fun _ _ _ h => h) (by kernel_rfl) ?hy33 (by assumption) ?_
                case hy33 => (intro w hSw; (try dsimp only at hSw); go_simp; try with_reducible rfl)
                try simp only [Act.put, List.setIfInBounds_toArray, List.set_cons_zero, List.set_cons_succ]
                refine Take.take (i := 17) (oi := _) (t := 31) (v := ?v34) rfl (by kernel_rfl) (by kernel_rfl) (by kernel_rfl) (by kernel_rfl) (fun _ _ _ h => h) (by kernel_rfl) ?hy34 (by assumption) ?_
                case hy34 => (intro w hSw; (try dsimp only at hSw); go_simp; try with_reducible rfl)
                try simp only [Act.put, List.setIfInBounds_toArray, List.set_cons_zero, List.set_cons_succ]
                refine Take.take (i := 18) (oi := _) (t := 32) (v := ?v35) rfl (by kernel_rfl) (by kernel_rfl) (by kernel_rfl) (by kernel_rfl) (fun _ _ _ h => h) (by kernel_rfl) ?hy35 (by assumption) ?_
                case hy35 => (intro w hSw; (try dsimp only at hSw); go_simp; try with_reducible rfl)
                try simp only [Act.put, List.setIfInBounds_toArray, List.set_cons_zero, List.set_cons_succ]
                refine Take.take (i := 19) (oi := _) (t := 33) (v := ?v36) rfl (by kernel_rfl) (by kernel_rfl) (by kernel_rfl) (by kernel_rfl) (fun _ _ _ h => h) (by kernel_rfl) ?hy36 (by assumption) ?_
                case hy36 => (intro w hSw; (try dsimp only at hSw); go_simp; try with_reducible rfl)
                try simp only [Act.put, List.setIfInBounds_toArray, List.set_cons_zero, List.set_cons_succ]
                refine Take.take (i := 22) (oi := _) (t := 36) (v := ?v37) rfl (by kernel_rfl) (by kernel_rfl) (by kernel_rfl) (by kernel_rfl) (fun _ _ _ h => h) (by kernel_rfl) ?hy37 (by assumption) ?_
                case hy37 => (intro w hSw; (try dsimp only at hSw); go_simp; try with_reducible rfl)
                try simp only [Act.put, List.setIfInBounds_toArray, List.set_cons_zero, List.set_cons_succ]
                refine wpAnyH_ready (rs := [14]) (by kernel_rfl) (by simp) ?_
                refine AllReadyH.cons (o := _) rfl (fun K hK => ?_) AllReadyH.nil
                obtain ⟨hB, _⟩ : Below wr.heap.size wr _ ∧ _ := (by assumption)
                go_simp
                go_at_call 16
                refine (TX.out _).mono ?_
                rintro e w4 ⟨rfl, hw⟩
                rw [hw]
                clear hw w4
                try dsimp only
                refine hK.out _ _ ?hS38 (fun hHeld => ?_)
                case hS38 => (first | exact HS.out _ (by assumption) | (obtain ⟨hB, _⟩ : Below wr.heap.size wr _ ∧ _ := (by assumption); exact HS.out _ (Below.trans hB (Below.mono (by assumption) hB.size))) | (obtain ⟨hB, _⟩ : Below wr.heap.size wr _ ∧ _ := (by assumption); exact HS.out _ hB))
                clear hB hK K
                try simp only [Act.put, List.setIfInBounds_toArray, List.set_cons_zero, List.set_cons_succ]
                refine wpAnyH_ready (rs := [20]) (by kernel_rfl) (by simp) ?_
                refine AllReadyH.cons (o := _) rfl (fun K hK => ?_) AllReadyH.nil
                obtain ⟨hB, _⟩ : Below wr.heap.size wr _ ∧ _ := (by assumption)
                go_simp
                go_at_call 16
                refine (TY.out _).mono ?_
                rintro e w4 ⟨rfl, hw⟩
                rw [hw]
                clear hw w4
                try dsimp only
                refine hK.out _ _ ?hS39 (fun hHeld => ?_)
                case hS39 => (first | exact HS.out _ (by assumption) | (obtain ⟨hB, _⟩ : Below wr.heap.size wr _ ∧ _ := (by assumption); exact HS.out _ (Below.trans hB (Below.mono (by assumption) hB.size))) | (obtain ⟨hB, _⟩ : Below wr.heap.size wr _ ∧ _ := (by assumption); exact HS.out _ hB))
                clear hB hK K
                try simp only [Act.put, List.setIfInBounds_toArray, List.set_cons_zero, List.set_cons_succ]
                refine Take.take (i := 21) (oi := _) (t := 35) (v := ?v40) rfl (by kernel_rfl) (by kernel_rfl) (by kernel_rfl) (by kernel_rfl) (fun _ _ _ h => h) (by kernel_rfl) ?hy40 (by assumption) ?_
                case hy40 => (intro w hSw; (try dsimp only at hSw); go_simp; try with_reducible rfl)
                try simp only [Act.put, List.setIfInBounds_toArray, List.set_cons_zero, List.set_cons_succ]
                refine Take.take (i := 23) (oi := _) (t := 37) (v := ?v41) rfl (by kernel_rfl) (by kernel_rfl) (by kernel_rfl) (by kernel_rfl) (fun _ _ _ h => h) (by kernel_rfl) ?hy41 (by assumption) ?_
                case hy41 => (intro w hSw; (try dsimp only at hSw); go_simp; try with_reducible rfl)
                try simp only [Act.put, List.setIfInBounds_toArray, List.set_cons_zero, List.set_cons_succ]
                refine Take.take (i := 24) (oi := _) (t := 38) (v := ?v42) rfl (by kernel_rfl) (by kernel_rfl) (by kernel_rfl) (by kernel_rfl) (fun _ _ _ h => h) (by kernel_rfl) ?hy42 (by assumption) ?_
                case hy42 => (intro w hSw; (try dsimp only at hSw); go_simp; try with_reducible rfl)
                try simp only [Act.put, List.setIfInBounds_toArray, List.set_cons_zero, List.set_cons_succ]
                refine wpAnyH_done (by kernel_rfl) ?_ _
                refine NoPanic.normal ?_
                go_wp2_with fail
                go_meet
                obtain ⟨hB, _⟩ : Below wr.heap.size wr _ ∧ _ := (by assumption)
                exact ⟨rfl, Lib.hid hB⟩
              case rest =>
                obtain ⟨rfl, hB⟩ := hcut
                by_cases hgt : g < tx - ty
                · have hd : decide (g < tx - ty) = true := decide_eq_true hgt
                  have e0 : wc.cell? ⟨w.heap.size, 1, none⟩ = some (.slice (some ⟨b, off, none⟩) zs.length cap) := (hB.out.cell (p := ⟨w.heap.size, 1, none⟩) lW).trans c1
                  have ex : wc.cell? ⟨b, off + i, none⟩ = some (.int .i64 x) := (hB.out.cell (p := ⟨b, _, none⟩) lb).trans cx
                  have ey : wc.cell? ⟨b, off + k, none⟩ = some (.int .i64 y) := (hB.out.cell (p := ⟨b, _, none⟩) lb).trans cy
                  clear c0 c1 c2 cx cy
                  go_wp2_with fail
                  go_region_held3 (fun v => v.cell? ⟨w.heap.size, 1, none⟩ = some (.slice (some ⟨b, off, none⟩) zs.length cap) ∧ v.cell? ⟨b, off + i, none⟩ = some (.int .i64 x) ∧ v.cell? ⟨b, off + k, none⟩ = some (.int .i64 y)) ((go_keep; done)) (first
                    | (go_at_call 16; refine (TX.out _).mono ?_; rintro e w' ⟨rfl, h⟩; rw [h]; clear h w')
                    | (go_at_call 16; refine (TY.out _).mono ?_; rintro e w' ⟨rfl, h⟩; rw [h]; clear h w'))
                  go_wp2_with fail
                  go_round
                  case rel => exact ⟨tx - ty, k + 1, rfl, rfl, hkt, Lib.hid (Htk.out hgt), (HR.out.trans (hB.out.mono HR.out.size)).drew⟩
                  case measure => simp; omega
                · have hd : decide (g < tx - ty) = false := decide_eq_false hgt
                  go_wp2_with fail
                  go_round
                  case rel => exact ⟨g, k + 1, rfl, rfl, hkt, Lib.hid (Hsk.out (by omega)), HR.out.trans (hB.out.mono HR.out.size)⟩
                  case measure => simp; omega
        · obtain rfl : k = 64 := by omega
          go_wp2_with fail
          go_round
          case rel => exact ⟨g, i + 1, rfl, rfl, hlt, Lib.hid HG.out.line, lR⟩
          case measure => simp; omega
    · obtain rfl : i = 64 := by omega
      have hfin := Lib.hid (HG.out.gap)
      have HR := Lib.hid lR
      go_wp2_with fail
      go_ret
      exact ⟨g0, rfl, hfin.out, HL0.out.trans (HR.out.mono (by omega))⟩
end Go.Proofs.YtpbabpbinojodaaDoor.Drift
