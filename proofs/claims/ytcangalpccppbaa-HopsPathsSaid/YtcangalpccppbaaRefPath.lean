/- The document's Path; hops.Limit; Path and Limit of no graph: walked. -/
import Derived.Test.YtcangalpccppbaaHopsPath
import Derived.Test.YtcangalpccppbaaTake
import Derived.Deep.RegionHeld3
namespace Go.Proofs.Ytcangalpccppbaa.Graph
open Go.RowKit Go.Maps
open Go.Proofs.Ytcangalpccppbaa.RF Go.Proofs.Ytcangalpccppbaa.Heap Go.Proofs.Ytcangalpccppbaa.Nodes Go.Proofs.Ytcangalpccppbaa.Seen
set_option linter.unusedVariables false
set_option linter.unusedSimpArgs false

theorem ret_i {a b : Int} (h : a = b) : Ending.returned (.int .i64 a) = Ending.returned (.int .i64 b) := by rw [h]
theorem limit_any {w : World} {G R : Nat} {near : List Nat} (hg : GraphAt w G R near) (h1 : 1 ≤ near.length) :
    Calls Try.prog 7 #[.pointer (some ⟨G, 0, none⟩)] w fun e w' => e = .returned (.int .i64 ((near.length : Int) - 1)) ∧ w' = w := by
  have hN := Lib.hid (n_any hg)
  have hf := hg.few
  have l1 : (1 : Int) ≤ (near.length : Int) := by omega
  have l2 : (near.length : Int) ≤ 64 := by omega
  have l3 : max ((near.length : Int) - 1) 0 = (near.length : Int) - 1 := by omega
  clear hg
  go_enter Try.func7, Try.ntmps7
  go_wp2_with (go_at_call 12; refine hN.out.mono ?_; rintro e w' ⟨rfl, h⟩; rw [h]; clear h w')
  go_ret
  refine ⟨?_, rfl⟩
  first | rfl | exact ret_i (by omega)
theorem limit_nil (w : World) : Calls Try.prog 7 #[.pointer none] w fun e w' => e = .returned (.int .i64 0) ∧ w' = w := by
  have hN := Lib.hid (fun w => n_nil w)
  go_enter Try.func7, Try.ntmps7
  go_wp2_with (go_at_call 12; refine (hN.out _).mono ?_; rintro e w' ⟨rfl, h⟩; rw [h]; clear h w')
  go_ret
  exact ⟨rfl, rfl⟩
set_option maxHeartbeats 2000000 in
theorem path_nil (w : World) (v : Value) (xs : List Int) (hi : IntsAt w v xs) (hlen : xs.length ≤ 65535) :
    Calls Try.prog 6 #[.pointer none, v] w fun e w' => e = .returned (.bool false) ∧ Below w.heap.size w w' := by
  obtain ⟨a, cap, rfl, hc⟩ := hi
  have hmm := @run_makeMap Try.prog
  have hN := Lib.hid (fun w => n_nil w)
  rcases Nat.eq_zero_or_pos xs.length with h0 | h0
  · rw [h0]
    clear hc hlen
    go_enter Try.func6, Try.ntmps6
    go_wp2
    refine wp_loop_rounds 1 ?_
    unfold Code.rounds
    go_wp2_with fail
    go_ret
    exact ⟨rfl, (Below.refl _ _).alloc (Nat.le_refl _) _⟩
  · obtain ⟨x, hx⟩ : ∃ x, xs[0]? = some x := ⟨_, List.getElem?_eq_getElem h0⟩
    obtain ⟨b, rfl, c0⟩ := hc 0 x hx
    have hbw := World.block_lt_of_cell? w ⟨b, 0, none⟩ c0
    have l1 : (0 : Int) < (xs.length : Int) := by omega
    clear hc hlen hx
    by_cases hneg : x < 0
    · go_enter Try.func6, Try.ntmps6
      go_wp2
      refine wp_loop_rounds 1 ?_
      unfold Code.rounds
      go_wp2_with fail
      go_ret
      exact ⟨rfl, (Below.refl _ _).alloc (Nat.le_refl _) _⟩
    · have hge : (0 : Int) ≤ x := by omega
      go_enter Try.func6, Try.ntmps6
      go_wp2
      refine wp_loop_rounds 1 ?_
      unfold Code.rounds
      go_wp2_with (go_at_call 12; refine (hN.out _).mono ?_; rintro e w' ⟨rfl, h⟩; rw [h]; clear h w')
      go_ret
      exact ⟨rfl, (Below.refl _ _).alloc (Nat.le_refl _) _⟩
set_option maxRecDepth 100000 in
set_option maxHeartbeats 8000000 in
theorem refpath_any (w : World) (n : Nat) (v : Value) (L : List (Int × Int)) (hp : PairsAt w v L) (hll : L.length ≤ 65536) (v2 : Value) (xs : List Int) (hi : IntsAt w v2 xs) (hlen : xs.length ≤ 65535) (hn : n ≤ 64) :
    Calls Try.prog 5 #[.agg #[.int .i64 n, v], v2] w fun e w' => e = .returned (.bool (pathB n L xs)) ∧ Below w.heap.size w w' := by
  obtain ⟨la, lcap, hv, _⟩ := hp.1
  subst hv
  obtain ⟨W, hW⟩ : ∃ W, w.alloc (.cells #[.int .i64 (n : Nat), .slice la L.length lcap] 27) = W := ⟨_, rfl⟩
  have bW : Blk W w.heap.size 27 #[.int .i64 (n : Nat), .slice la L.length lcap] := by rw [← hW]; exact Blk.new w _ _
  have lW0 : Below w.heap.size w W := by rw [← hW]; exact (Below.refl _ w).alloc (Nat.le_refl _) _
  have iW := IntsAt.below hi lW0
  have pW := hp.off lW0
  have zW := bW.lt
  obtain ⟨a, cap, rfl, hcW⟩ := iW
  have HcW := Lib.hid hcW
  have HS := Lib.hid (fun (w' : World) (h : Below W.heap.size W w') => (show w'.cell? ⟨w.heap.size, 0, none⟩ = some (.int .i64 (n : Nat)) ∧ w'.cell? ⟨w.heap.size, 1, none⟩ = some (.slice la L.length lcap) from ⟨(bW.below h zW).cell 0, (bW.below h zW).cell 1⟩))
  have HLk := Lib.hid (fun (w' : World) (i j : Int) (h : Below W.heap.size W w') => reflinked_any n _ L i j w' (pW.off h) hll)
  have HW := Lib.hid hW
  have lW := Lib.hid lW0
  clear hW lW0 hp hi hcW bW pW
  go_enter Try.func5, Try.ntmps5
  go_wp2_with fail
  rw [HW.out]
  clear HW
  go_loopw [5] (fun v5 wr => ∃ k : Nat, v5 = .int .i64 k ∧ k ≤ xs.length ∧ RowKit.Hid (∀ i : Nat, i < k → okAt n L xs i = true) ∧ RowKit.Hid (Below W.heap.size W wr)) (fun v5 _ => match v5 with | .int _ k => xs.length - k.toNat | _ => 0)
  case atStart => exact ⟨0, rfl, Nat.zero_le _, Lib.hid (fun i h => by omega), Lib.hid (Below.refl _ _)⟩
  case round =>
    obtain ⟨k, rfl, hk, hok, hR0⟩ := hrel
    by_cases hlt : k < xs.length
    · obtain ⟨x, hx⟩ : ∃ x, xs[k]? = some x := ⟨_, List.getElem?_eq_getElem hlt⟩
      obtain ⟨b, rfl, cX⟩ := HcW.out k x hx
      have hbW := World.block_lt_of_cell? W ⟨b, k, none⟩ cX
      have l3 : (0 : Int) ≤ (k : Int) := by omega
      have l4 : (k : Int) < (xs.length : Int) := by omega
      have l5 : (k : Int) ≤ 65534 := by omega
      have Hat := Lib.hid (okAt_at (n := n) (L := L) hx)
      clear hx
      by_cases h1 : 0 ≤ x
      · by_cases h2 : x < (n : Int)
        · have hisN : isN n x = true := by simp [isN, h1, h2]
          rcases Nat.eq_zero_or_pos k with hz | hpos
          · have hz0 : ¬ (0 : Int) < (k : Int) := by omega
            have Hz := Lib.hid hz
            clear hz
            go_wp2_with fail
            have HS1 := Lib.hid (fun (w' : World) (h : Below W.heap.size W w') => (show Below W.heap.size W w' ∧ w'.cell? ⟨w.heap.size, 0, none⟩ = some (.int .i64 (n : Nat)) ∧ w'.cell? ⟨w.heap.size, 1, none⟩ = some (.slice la L.length lcap) ∧ w'.cell? ⟨b, k, none⟩ = some (.int .i64 x) from ⟨h, (HS.out w' h).1, (HS.out w' h).2, (h.cell (p := ⟨b, k, none⟩) hbW).trans cX⟩))
            have e1 : decide (x < 0) = false := by first | (simp; omega) | simp [*] | (simp [Hz.out])
            have e2 : decide ((n : Int) ≤ x) = false := by first | (simp; omega) | simp [*] | (simp [Hz.out])
            have e3 : decide ((0 : Int) < (k : Int)) = false := by first | (simp; omega) | simp [*] | (simp [Hz.out])
            have e4 : decide (0 < k) = false := by first | (simp; omega) | simp [*] | (simp [Hz.out])
            refine wp_region_held_drew (S := fun w' => Below W.heap.size W w' ∧ w'.cell? ⟨w.heap.size, 0, none⟩ = some (.int .i64 (n : Nat)) ∧ w'.cell? ⟨w.heap.size, 1, none⟩ = some (.slice la L.length lcap) ∧ w'.cell? ⟨b, k, none⟩ = some (.int .i64 x)) (by kernel_rfl) (HS1.out _ hR0.out.drew) (fun hHeld => ?_)
            refine Take.take (i := 0) (oi := _) (t := 13) (v := ?v1) rfl (by kernel_rfl) (by kernel_rfl) (by kernel_rfl) (by kernel_rfl) (fun _ _ _ h => h) (by kernel_rfl) ?hy1 (by assumption) ?_
            case hy1 => (intro w hSw; (try dsimp only at hSw); go_simp; try with_reducible rfl)
            try simp only [Act.put, List.setIfInBounds_toArray, List.set_cons_zero, List.set_cons_succ]
            refine Take.take (i := 1) (oi := _) (t := 14) (v := ?v2) rfl (by kernel_rfl) (by kernel_rfl) (by kernel_rfl) (by kernel_rfl) (fun _ _ _ h => h) (by kernel_rfl) ?hy2 (by assumption) ?_
            case hy2 => (intro w hSw; (try dsimp only at hSw); go_simp; try with_reducible rfl)
            try simp only [Act.put, List.setIfInBounds_toArray, List.set_cons_zero, List.set_cons_succ]
            refine Take.take (i := 2) (oi := _) (t := 15) (v := ?v3) rfl (by kernel_rfl) (by kernel_rfl) (by kernel_rfl) (by kernel_rfl) (fun _ _ _ h => h) (by kernel_rfl) ?hy3 (by assumption) ?_
            case hy3 => (intro w hSw; (try dsimp only at hSw); go_simp; try with_reducible rfl)
            try simp only [Act.put, List.setIfInBounds_toArray, List.set_cons_zero, List.set_cons_succ]
            refine Take.take (i := 3) (oi := _) (t := 16) (v := ?v4) rfl (by kernel_rfl) (by kernel_rfl) (by kernel_rfl) (by kernel_rfl) (fun _ _ _ h => h) (by kernel_rfl) ?hy4 (by assumption) ?_
            case hy4 => (intro w hSw; (try dsimp only at hSw); go_simp; try with_reducible rfl)
            try simp only [Act.put, List.setIfInBounds_toArray, List.set_cons_zero, List.set_cons_succ]
            refine Take.take (i := 4) (oi := _) (t := 17) (v := ?v5) rfl (by kernel_rfl) (by kernel_rfl) (by kernel_rfl) (by kernel_rfl) (fun _ _ _ h => h) (by kernel_rfl) ?hy5 (by assumption) ?_
            case hy5 => (intro w hSw; (try dsimp only at hSw); go_simp; try with_reducible rfl)
            try simp only [Act.put, List.setIfInBounds_toArray, List.set_cons_zero, List.set_cons_succ]
            refine Take.take (i := 5) (oi := _) (t := 18) (v := ?v6) rfl (by kernel_rfl) (by kernel_rfl) (by kernel_rfl) (by kernel_rfl) (fun _ _ _ h => h) (by kernel_rfl) ?hy6 (by assumption) ?_
            case hy6 => (intro w hSw; (try dsimp only at hSw); go_simp; try with_reducible rfl)
            try simp only [Act.put, List.setIfInBounds_toArray, List.set_cons_zero, List.set_cons_succ]
            refine Take.take (i := 6) (oi := _) (t := 19) (v := ?v7) rfl (by kernel_rfl) (by kernel_rfl) (by kernel_rfl) (by kernel_rfl) (fun _ _ _ h => h) (by kernel_rfl) ?hy7 (by assumption) ?_
            case hy7 => (intro w hSw; (try dsimp only at hSw); go_simp; try with_reducible rfl)
            try simp only [Act.put, List.setIfInBounds_toArray, List.set_cons_zero, List.set_cons_succ]
            refine Take.take (i := 7) (oi := _) (t := 20) (v := ?v8) rfl (by kernel_rfl) (by kernel_rfl) (by kernel_rfl) (by kernel_rfl) (fun _ _ _ h => h) (by kernel_rfl) ?hy8 (by assumption) ?_
            case hy8 => (intro w hSw; (try dsimp only at hSw); go_simp; try with_reducible rfl)
            try simp only [Act.put, List.setIfInBounds_toArray, List.set_cons_zero, List.set_cons_succ]
            refine Take.take (i := 8) (oi := _) (t := 21) (v := ?v9) rfl (by kernel_rfl) (by kernel_rfl) (by kernel_rfl) (by kernel_rfl) (fun _ _ _ h => h) (by kernel_rfl) ?hy9 (by assumption) ?_
            case hy9 => (intro w hSw; (try dsimp only at hSw); go_simp; try with_reducible rfl)
            try simp only [Act.put, List.setIfInBounds_toArray, List.set_cons_zero, List.set_cons_succ]
            refine Take.take (i := 9) (oi := _) (t := 22) (v := ?v10) rfl (by kernel_rfl) (by kernel_rfl) (by kernel_rfl) (by kernel_rfl) (fun _ _ _ h => h) (by kernel_rfl) ?hy10 (by assumption) ?_
            case hy10 => (intro w hSw; (try dsimp only at hSw); go_simp; try with_reducible rfl)
            try simp only [Act.put, List.setIfInBounds_toArray, List.set_cons_zero, List.set_cons_succ]
            refine Take.take (i := 10) (oi := _) (t := 23) (v := ?v11) rfl (by kernel_rfl) (by kernel_rfl) (by kernel_rfl) (by kernel_rfl) (fun _ _ _ h => h) (by kernel_rfl) ?hy11 (by assumption) ?_
            case hy11 => (intro w hSw; (try dsimp only at hSw); go_simp; try with_reducible rfl)
            try simp only [Act.put, List.setIfInBounds_toArray, List.set_cons_zero, List.set_cons_succ]
            refine Take.take (i := 11) (oi := _) (t := 24) (v := ?v12) rfl (by kernel_rfl) (by kernel_rfl) (by kernel_rfl) (by kernel_rfl) (fun _ _ _ h => h) (by kernel_rfl) ?hy12 (by assumption) ?_
            case hy12 => (intro w hSw; (try dsimp only at hSw); go_simp; try with_reducible rfl)
            try simp only [Act.put, List.setIfInBounds_toArray, List.set_cons_zero, List.set_cons_succ]
            refine Take.take (i := 12) (oi := _) (t := 25) (v := ?v13) rfl (by kernel_rfl) (by kernel_rfl) (by kernel_rfl) (by kernel_rfl) (fun _ _ _ h => h) (by kernel_rfl) ?hy13 (by assumption) ?_
            case hy13 => (intro w hSw; (try dsimp only at hSw); go_simp; try with_reducible rfl)
            try simp only [Act.put, List.setIfInBounds_toArray, List.set_cons_zero, List.set_cons_succ]
            refine Take.take (i := 13) (oi := _) (t := 26) (v := ?v14) rfl (by kernel_rfl) (by kernel_rfl) (by kernel_rfl) (by kernel_rfl) (fun _ _ _ h => h) (by kernel_rfl) ?hy14 (by assumption) ?_
            case hy14 => (intro w hSw; (try dsimp only at hSw); go_simp; try with_reducible rfl)
            try simp only [Act.put, List.setIfInBounds_toArray, List.set_cons_zero, List.set_cons_succ]
            refine Take.take (i := 14) (oi := _) (t := 27) (v := ?v15) rfl (by kernel_rfl) (by kernel_rfl) (by kernel_rfl) (by kernel_rfl) (fun _ _ _ h => h) (by kernel_rfl) ?hy15 (by assumption) ?_
            case hy15 => (intro w hSw; (try dsimp only at hSw); go_simp; try with_reducible rfl)
            try simp only [Act.put, List.setIfInBounds_toArray, List.set_cons_zero, List.set_cons_succ]
            refine Take.take (i := 15) (oi := _) (t := 28) (v := ?v16) rfl (by kernel_rfl) (by kernel_rfl) (by kernel_rfl) (by kernel_rfl) (fun _ _ _ h => h) (by kernel_rfl) ?hy16 (by assumption) ?_
            case hy16 => (intro w hSw; (try dsimp only at hSw); go_simp; try with_reducible rfl)
            try simp only [Act.put, List.setIfInBounds_toArray, List.set_cons_zero, List.set_cons_succ]
            refine Take.take (i := 16) (oi := _) (t := 29) (v := ?v17) rfl (by kernel_rfl) (by kernel_rfl) (by kernel_rfl) (by kernel_rfl) (fun _ _ _ h => h) (by kernel_rfl) ?hy17 (by assumption) ?_
            case hy17 => (intro w hSw; (try dsimp only at hSw); go_simp; try with_reducible rfl)
            try simp only [Act.put, List.setIfInBounds_toArray, List.set_cons_zero, List.set_cons_succ]
            refine Take.take (i := 17) (oi := _) (t := 30) (v := ?v18) rfl (by kernel_rfl) (by kernel_rfl) (by kernel_rfl) (by kernel_rfl) (fun _ _ _ h => h) (by kernel_rfl) ?hy18 (by assumption) ?_
            case hy18 => (intro w hSw; (try dsimp only at hSw); go_simp; try with_reducible rfl)
            try simp only [Act.put, List.setIfInBounds_toArray, List.set_cons_zero, List.set_cons_succ]
            refine Take.skip (i := 18) (t := 31) (g := 17) (b := true) (by kernel_rfl) (by kernel_rfl) (by kernel_rfl) (by kernel_rfl) (fun _ _ _ h => h) (by kernel_rfl) (by assumption) ?_
            try simp only [Act.put, List.setIfInBounds_toArray, List.set_cons_zero, List.set_cons_succ]
            refine Take.skip (i := 19) (t := 32) (g := 17) (b := true) (by kernel_rfl) (by kernel_rfl) (by kernel_rfl) (by kernel_rfl) (fun _ _ _ h => h) (by kernel_rfl) (by assumption) ?_
            try simp only [Act.put, List.setIfInBounds_toArray, List.set_cons_zero, List.set_cons_succ]
            refine Take.skip (i := 20) (t := 33) (g := 17) (b := true) (by kernel_rfl) (by kernel_rfl) (by kernel_rfl) (by kernel_rfl) (fun _ _ _ h => h) (by kernel_rfl) (by assumption) ?_
            try simp only [Act.put, List.setIfInBounds_toArray, List.set_cons_zero, List.set_cons_succ]
            refine Take.skip (i := 21) (t := 34) (g := 17) (b := true) (by kernel_rfl) (by kernel_rfl) (by kernel_rfl) (by kernel_rfl) (fun _ _ _ h => h) (by kernel_rfl) (by assumption) ?_
            try simp only [Act.put, List.setIfInBounds_toArray, List.set_cons_zero, List.set_cons_succ]
            refine Take.skip (i := 22) (t := 35) (g := 17) (b := true) (by kernel_rfl) (by kernel_rfl) (by kernel_rfl) (by kernel_rfl) (fun _ _ _ h => h) (by kernel_rfl) (by assumption) ?_
            try simp only [Act.put, List.setIfInBounds_toArray, List.set_cons_zero, List.set_cons_succ]
            refine Take.skip (i := 23) (t := 36) (g := 17) (b := true) (by kernel_rfl) (by kernel_rfl) (by kernel_rfl) (by kernel_rfl) (fun _ _ _ h => h) (by kernel_rfl) (by assumption) ?_
            try simp only [Act.put, List.setIfInBounds_toArray, List.set_cons_zero, List.set_cons_succ]
            refine Take.skip (i := 24) (t := 37) (g := 17) (b := true) (by kernel_rfl) (by kernel_rfl) (by kernel_rfl) (by kernel_rfl) (fun _ _ _ h => h) (by kernel_rfl) (by assumption) ?_
            try simp only [Act.put, List.setIfInBounds_toArray, List.set_cons_zero, List.set_cons_succ]
            refine Take.skip (i := 25) (t := 38) (g := 17) (b := true) (by kernel_rfl) (by kernel_rfl) (by kernel_rfl) (by kernel_rfl) (fun _ _ _ h => h) (by kernel_rfl) (by assumption) ?_
            try simp only [Act.put, List.setIfInBounds_toArray, List.set_cons_zero, List.set_cons_succ]
            refine Take.skip (i := 26) (t := 39) (g := 17) (b := true) (by kernel_rfl) (by kernel_rfl) (by kernel_rfl) (by kernel_rfl) (fun _ _ _ h => h) (by kernel_rfl) (by assumption) ?_
            try simp only [Act.put, List.setIfInBounds_toArray, List.set_cons_zero, List.set_cons_succ]
            refine Take.skip (i := 27) (t := 40) (g := 17) (b := true) (by kernel_rfl) (by kernel_rfl) (by kernel_rfl) (by kernel_rfl) (fun _ _ _ h => h) (by kernel_rfl) (by assumption) ?_
            try simp only [Act.put, List.setIfInBounds_toArray, List.set_cons_zero, List.set_cons_succ]
            refine Take.skip (i := 28) (t := 41) (g := 17) (b := true) (by kernel_rfl) (by kernel_rfl) (by kernel_rfl) (by kernel_rfl) (fun _ _ _ h => h) (by kernel_rfl) (by assumption) ?_
            try simp only [Act.put, List.setIfInBounds_toArray, List.set_cons_zero, List.set_cons_succ]
            refine Take.skip (i := 29) (t := 42) (g := 17) (b := true) (by kernel_rfl) (by kernel_rfl) (by kernel_rfl) (by kernel_rfl) (fun _ _ _ h => h) (by kernel_rfl) (by assumption) ?_
            try simp only [Act.put, List.setIfInBounds_toArray, List.set_cons_zero, List.set_cons_succ]
            refine Take.take (i := 30) (oi := _) (t := 43) (v := ?v31) rfl (by kernel_rfl) (by kernel_rfl) (by kernel_rfl) (by kernel_rfl) (fun _ _ _ h => h) (by kernel_rfl) ?hy31 (by assumption) ?_
            case hy31 => (intro w hSw; (try dsimp only at hSw); go_simp; try with_reducible rfl)
            try simp only [Act.put, List.setIfInBounds_toArray, List.set_cons_zero, List.set_cons_succ]
            refine Take.take (i := 31) (oi := _) (t := 44) (v := ?v32) rfl (by kernel_rfl) (by kernel_rfl) (by kernel_rfl) (by kernel_rfl) (fun _ _ _ h => h) (by kernel_rfl) ?hy32 (by assumption) ?_
            case hy32 => (intro w hSw; (try dsimp only at hSw); go_simp; try with_reducible rfl)
            try simp only [Act.put, List.setIfInBounds_toArray, List.set_cons_zero, List.set_cons_succ]
            refine wpAnyH_done (by kernel_rfl) ?_ _
            go_wp2_with fail
            have hR4 := Lib.hid (⟨hR0.out.os, hR0.out.tape, hR0.out.output, hR0.out.size, hR0.out.block⟩ : Below W.heap.size W wr.drew)
            go_loopw [6] (fun v6 wq => ∃ j : Nat, v6 = .int .i64 j ∧ j ≤ k ∧ RowKit.Hid (x ∉ xs.take j) ∧ RowKit.Hid (Below W.heap.size W wq)) (fun v6 _ => match v6 with | .int _ j => k - j.toNat | _ => 0)
            case atStart => exact ⟨0, rfl, Nat.zero_le _, Lib.hid (by simp), hR4⟩
            case round =>
              obtain ⟨j, rfl, hj, hnot, hRq⟩ := hrel
              have cXq := (hRq.out.cell (p := ⟨b, k, none⟩) hbW).trans cX
              by_cases hlj : j < k
              · obtain ⟨z, hz⟩ : ∃ z, xs[j]? = some z := ⟨_, List.getElem?_eq_getElem (by omega)⟩
                obtain ⟨b', hbb, e0⟩ := HcW.out j z hz
                cases hbb
                have e1 := (hRq.out.cell (p := ⟨b, j, none⟩) (World.block_lt_of_cell? W ⟨b, j, none⟩ e0)).trans e0
                have m3 : (0 : Int) ≤ (j : Int) := by omega
                have m4 : (j : Int) < (k : Int) := by omega
                have m5 : (j : Int) < (xs.length : Int) := by omega
                have m6 : (j : Int) ≤ 65534 := by omega
                rcases hzx : z == x with _ | _
                · have hn2 := Lib.hid (show x ∉ xs.take (j + 1) from fun c => by
                    rw [List.take_add_one, hz] at c
                    rcases List.mem_append.1 c with c | c
                    · exact hnot.out c
                    · simp at c; subst c; simp at hzx)
                  clear hz e0 hnot
                  go_wp2_with fail
                  go_quiet (fail)
                  go_wp2_with fail
                  go_round
                  case rel => exact ⟨j + 1, rfl, hlj, hn2, Lib.hid ⟨hRq.out.os, hRq.out.tape, hRq.out.output, hRq.out.size, hRq.out.block⟩⟩
                  case measure => simp; omega
                · have hin : x ∈ xs.take k := by
                    rw [beq_iff_eq] at hzx
                    subst hzx
                    rw [List.mem_take_iff_getElem]
                    have hj2 := (List.getElem?_eq_some_iff.1 hz)
                    exact ⟨j, by omega, hj2.2⟩
                  have hf := Lib.hid (pathB_bad (n := n) (L := L) hlt (by rw [Hat.out]; simp [hin]))
                  clear hz e0 hnot hin
                  go_wp2_with fail
                  go_quiet (fail)
                  go_wp2_with fail
                  go_ret
                  exact ⟨ret_b hf.out.symm, lW.out.trans (Below.mono (B := W.heap.size) ⟨hRq.out.os, hRq.out.tape, hRq.out.output, hRq.out.size, hRq.out.block⟩ lW.out.size)⟩
              · obtain rfl : j = k := by omega
                have hokk := Lib.hid (show okAt n L xs j = true from by rw [Hat.out, hisN, show decide (x ∈ xs.take j) = false from by rw [decide_eq_false_iff_not]; exact hnot.out]; simp [Hz.out])
                clear hnot
                go_wp2_with fail
                go_round
                case rel => exact ⟨j + 1, rfl, hlt, Lib.hid (fun i hi => by
                  rcases Nat.lt_succ_iff_lt_or_eq.1 hi with c | c
                  · exact hok.out i c
                  · subst c; exact hokk.out), hRq⟩
                case measure => simp; omega
          · have hpos2 : (0 : Int) < (k : Int) := by omega
            obtain ⟨y, hy⟩ : ∃ y, xs[k - 1]? = some y := ⟨_, List.getElem?_eq_getElem (by omega)⟩
            obtain ⟨b', hbb, d0⟩ := HcW.out (k - 1) y hy
            cases hbb
            have hgy : xs.getD (k - 1) 0 = y := by rw [List.getD_eq_getElem?_getD, hy]; rfl
            rw [hgy] at Hat
            have m3 : (0 : Int) ≤ (k : Int) - 1 := by omega
            have m4 : (k : Int) - 1 < (xs.length : Int) := by omega
            have m5 : ((k : Int) - 1).toNat = k - 1 := by omega
            have m6 : IntKind.i64.wrap ((k : Int) - 1) = (k : Int) - 1 := IntWalk.i64_in _ (by omega)
            have m7 : (1 : Int) ≤ (k : Int) := by omega
            clear hy hgy
            have HS1 := Lib.hid (fun (w' : World) (h : Below W.heap.size W w') => (show Below W.heap.size W w' ∧ w'.cell? ⟨w.heap.size, 0, none⟩ = some (.int .i64 (n : Nat)) ∧ w'.cell? ⟨w.heap.size, 1, none⟩ = some (.slice la L.length lcap) ∧ w'.cell? ⟨b, k, none⟩ = some (.int .i64 x) ∧ w'.cell? ⟨b, k - 1, none⟩ = some (.int .i64 y) from ⟨h, (HS.out w' h).1, (HS.out w' h).2, (h.cell (p := ⟨b, k, none⟩) hbW).trans cX, (h.cell (p := ⟨b, k - 1, none⟩) hbW).trans d0⟩))
            rcases hrl : refL L y x with _ | _
            · have hf := Lib.hid (pathB_bad (n := n) (L := L) hlt (by rw [Hat.out, hrl]; simp; omega))
              go_wp2_with fail
              have e1 : decide (x < 0) = false := by first | (simp; omega) | simp [*] | (simp [Hz.out])
              have e2 : decide ((n : Int) ≤ x) = false := by first | (simp; omega) | simp [*] | (simp [Hz.out])
              have e3 : decide ((0 : Int) < (k : Int)) = true := by first | (simp; omega) | simp [*] | (simp [Hz.out])
              have e4 : decide (0 < k) = true := by first | (simp; omega) | simp [*] | (simp [Hz.out])
              go_region_held3 (fun w' => Below W.heap.size W w' ∧ w'.cell? ⟨w.heap.size, 0, none⟩ = some (.int .i64 (n : Nat)) ∧ w'.cell? ⟨w.heap.size, 1, none⟩ = some (.slice la L.length lcap) ∧ w'.cell? ⟨b, k, none⟩ = some (.int .i64 x) ∧ w'.cell? ⟨b, k - 1, none⟩ = some (.int .i64 y))
                ((first | exact HS1.out _ hR0.out.drew | exact HS1.out _ (Below.drew (by assumption)) | (obtain ⟨hB, _⟩ : Below W.heap.size W _ ∧ _ := (by assumption); exact HS1.out _ (Below.trans hB (Below.mono b4 hB.size))) | (obtain ⟨hB, _⟩ : Below W.heap.size W _ ∧ _ := (by assumption); exact HS1.out _ hB)))
                (first
                  | (go_at_call 10; obtain ⟨hB, _⟩ : Below W.heap.size W _ ∧ _ := (by assumption); refine (HLk.out _ _ _ hB).mono ?_; rintro e w4 ⟨rfl, b4⟩; rw [hrl]; clear hB))
              go_wp2_with fail
              go_ret
              exact ⟨ret_b hf.out.symm, lW.out.trans (Below.mono (B := W.heap.size) (by obtain ⟨hB, _⟩ : Below W.heap.size W _ ∧ _ := (by assumption); exact hB) lW.out.size)⟩
            · go_wp2_with fail
              have e1 : decide (x < 0) = false := by first | (simp; omega) | simp [*] | (simp [Hz.out])
              have e2 : decide ((n : Int) ≤ x) = false := by first | (simp; omega) | simp [*] | (simp [Hz.out])
              have e3 : decide ((0 : Int) < (k : Int)) = true := by first | (simp; omega) | simp [*] | (simp [Hz.out])
              have e4 : decide (0 < k) = true := by first | (simp; omega) | simp [*] | (simp [Hz.out])
              go_region_held3 (fun w' => Below W.heap.size W w' ∧ w'.cell? ⟨w.heap.size, 0, none⟩ = some (.int .i64 (n : Nat)) ∧ w'.cell? ⟨w.heap.size, 1, none⟩ = some (.slice la L.length lcap) ∧ w'.cell? ⟨b, k, none⟩ = some (.int .i64 x) ∧ w'.cell? ⟨b, k - 1, none⟩ = some (.int .i64 y))
                ((first | exact HS1.out _ hR0.out.drew | exact HS1.out _ (Below.drew (by assumption)) | (obtain ⟨hB, _⟩ : Below W.heap.size W _ ∧ _ := (by assumption); exact HS1.out _ (Below.trans hB (Below.mono b4 hB.size))) | (obtain ⟨hB, _⟩ : Below W.heap.size W _ ∧ _ := (by assumption); exact HS1.out _ hB)))
                (first
                  | (go_at_call 10; obtain ⟨hB, _⟩ : Below W.heap.size W _ ∧ _ := (by assumption); refine (HLk.out _ _ _ hB).mono ?_; rintro e w4 ⟨rfl, b4⟩; rw [hrl]; clear hB))
              go_wp2_with fail
              have hR4 := Lib.hid (show Below W.heap.size W w4 from by obtain ⟨hB, _⟩ : Below W.heap.size W _ ∧ _ := (by assumption); exact hB)
              go_loopw [6] (fun v6 wq => ∃ j : Nat, v6 = .int .i64 j ∧ j ≤ k ∧ RowKit.Hid (x ∉ xs.take j) ∧ RowKit.Hid (Below W.heap.size W wq)) (fun v6 _ => match v6 with | .int _ j => k - j.toNat | _ => 0)
              case atStart => exact ⟨0, rfl, Nat.zero_le _, Lib.hid (by simp), hR4⟩
              case round =>
                obtain ⟨j, rfl, hj, hnot, hRq⟩ := hrel
                have cXq := (hRq.out.cell (p := ⟨b, k, none⟩) hbW).trans cX
                by_cases hlj : j < k
                · obtain ⟨z, hz⟩ : ∃ z, xs[j]? = some z := ⟨_, List.getElem?_eq_getElem (by omega)⟩
                  obtain ⟨b', hbb, e0⟩ := HcW.out j z hz
                  cases hbb
                  have e1 := (hRq.out.cell (p := ⟨b, j, none⟩) (World.block_lt_of_cell? W ⟨b, j, none⟩ e0)).trans e0
                  have m3 : (0 : Int) ≤ (j : Int) := by omega
                  have m4 : (j : Int) < (k : Int) := by omega
                  have m5 : (j : Int) < (xs.length : Int) := by omega
                  have m6 : (j : Int) ≤ 65534 := by omega
                  rcases hzx : z == x with _ | _
                  · have hn2 := Lib.hid (show x ∉ xs.take (j + 1) from fun c => by
                      rw [List.take_add_one, hz] at c
                      rcases List.mem_append.1 c with c | c
                      · exact hnot.out c
                      · simp at c; subst c; simp at hzx)
                    clear hz e0 hnot
                    go_wp2_with fail
                    go_quiet (fail)
                    go_wp2_with fail
                    go_round
                    case rel => exact ⟨j + 1, rfl, hlj, hn2, Lib.hid ⟨hRq.out.os, hRq.out.tape, hRq.out.output, hRq.out.size, hRq.out.block⟩⟩
                    case measure => simp; omega
                  · have hin : x ∈ xs.take k := by
                      rw [beq_iff_eq] at hzx
                      subst hzx
                      rw [List.mem_take_iff_getElem]
                      have hj2 := (List.getElem?_eq_some_iff.1 hz)
                      exact ⟨j, by omega, hj2.2⟩
                    have hf := Lib.hid (pathB_bad (n := n) (L := L) hlt (by rw [Hat.out]; simp [hin]))
                    clear hz e0 hnot hin
                    go_wp2_with fail
                    go_quiet (fail)
                    go_wp2_with fail
                    go_ret
                    exact ⟨ret_b hf.out.symm, lW.out.trans (Below.mono (B := W.heap.size) ⟨hRq.out.os, hRq.out.tape, hRq.out.output, hRq.out.size, hRq.out.block⟩ lW.out.size)⟩
                · obtain rfl : j = k := by omega
                  have hokk := Lib.hid (show okAt n L xs j = true from by rw [Hat.out, hisN, show decide (x ∈ xs.take j) = false from by rw [decide_eq_false_iff_not]; exact hnot.out]; simp [hrl])
                  clear hnot
                  go_wp2_with fail
                  go_round
                  case rel => exact ⟨j + 1, rfl, hlt, Lib.hid (fun i hi => by
                    rcases Nat.lt_succ_iff_lt_or_eq.1 hi with c | c
                    · exact hok.out i c
                    · subst c; exact hokk.out), hRq⟩
                  case measure => simp; omega
        · have hf := Lib.hid (pathB_bad (n := n) (L := L) hlt (by rw [Hat.out, show isN n x = false by simp [isN]; omega]; rfl))
          go_wp2_with fail
          have HS1 := Lib.hid (fun (w' : World) (h : Below W.heap.size W w') => (show Below W.heap.size W w' ∧ w'.cell? ⟨w.heap.size, 0, none⟩ = some (.int .i64 (n : Nat)) ∧ w'.cell? ⟨w.heap.size, 1, none⟩ = some (.slice la L.length lcap) ∧ w'.cell? ⟨b, k, none⟩ = some (.int .i64 x) from ⟨h, (HS.out w' h).1, (HS.out w' h).2, (h.cell (p := ⟨b, k, none⟩) hbW).trans cX⟩))
          have e1 : decide (x < 0) = false := by first | (simp; omega) | simp [*] | (simp [Hz.out])
          have e2 : decide ((n : Int) ≤ x) = true := by first | (simp; omega) | simp [*] | (simp [Hz.out])
          refine wp_region_held_drew (S := fun w' => Below W.heap.size W w' ∧ w'.cell? ⟨w.heap.size, 0, none⟩ = some (.int .i64 (n : Nat)) ∧ w'.cell? ⟨w.heap.size, 1, none⟩ = some (.slice la L.length lcap) ∧ w'.cell? ⟨b, k, none⟩ = some (.int .i64 x)) (by kernel_rfl) (HS1.out _ hR0.out.drew) (fun hHeld => ?_)
          refine Take.take (i := 0) (oi := _) (t := 13) (v := ?v33) rfl (by kernel_rfl) (by kernel_rfl) (by kernel_rfl) (by kernel_rfl) (fun _ _ _ h => h) (by kernel_rfl) ?hy33 (by assumption) ?_
          case hy33 => (intro w hSw; (try dsimp only at hSw); go_simp; try with_reducible rfl)
          try simp only [Act.put, List.setIfInBounds_toArray, List.set_cons_zero, List.set_cons_succ]
          refine Take.take (i := 1) (oi := _) (t := 14) (v := ?v34) rfl (by kernel_rfl) (by kernel_rfl) (by kernel_rfl) (by kernel_rfl) (fun _ _ _ h => h) (by kernel_rfl) ?hy34 (by assumption) ?_
          case hy34 => (intro w hSw; (try dsimp only at hSw); go_simp; try with_reducible rfl)
          try simp only [Act.put, List.setIfInBounds_toArray, List.set_cons_zero, List.set_cons_succ]
          refine Take.take (i := 2) (oi := _) (t := 15) (v := ?v35) rfl (by kernel_rfl) (by kernel_rfl) (by kernel_rfl) (by kernel_rfl) (fun _ _ _ h => h) (by kernel_rfl) ?hy35 (by assumption) ?_
          case hy35 => (intro w hSw; (try dsimp only at hSw); go_simp; try with_reducible rfl)
          try simp only [Act.put, List.setIfInBounds_toArray, List.set_cons_zero, List.set_cons_succ]
          refine Take.take (i := 3) (oi := _) (t := 16) (v := ?v36) rfl (by kernel_rfl) (by kernel_rfl) (by kernel_rfl) (by kernel_rfl) (fun _ _ _ h => h) (by kernel_rfl) ?hy36 (by assumption) ?_
          case hy36 => (intro w hSw; (try dsimp only at hSw); go_simp; try with_reducible rfl)
          try simp only [Act.put, List.setIfInBounds_toArray, List.set_cons_zero, List.set_cons_succ]
          refine Take.take (i := 4) (oi := _) (t := 17) (v := ?v37) rfl (by kernel_rfl) (by kernel_rfl) (by kernel_rfl) (by kernel_rfl) (fun _ _ _ h => h) (by kernel_rfl) ?hy37 (by assumption) ?_
          case hy37 => (intro w hSw; (try dsimp only at hSw); go_simp; try with_reducible rfl)
          try simp only [Act.put, List.setIfInBounds_toArray, List.set_cons_zero, List.set_cons_succ]
          refine Take.take (i := 5) (oi := _) (t := 18) (v := ?v38) rfl (by kernel_rfl) (by kernel_rfl) (by kernel_rfl) (by kernel_rfl) (fun _ _ _ h => h) (by kernel_rfl) ?hy38 (by assumption) ?_
          case hy38 => (intro w hSw; (try dsimp only at hSw); go_simp; try with_reducible rfl)
          try simp only [Act.put, List.setIfInBounds_toArray, List.set_cons_zero, List.set_cons_succ]
          refine Take.take (i := 6) (oi := _) (t := 19) (v := ?v39) rfl (by kernel_rfl) (by kernel_rfl) (by kernel_rfl) (by kernel_rfl) (fun _ _ _ h => h) (by kernel_rfl) ?hy39 (by assumption) ?_
          case hy39 => (intro w hSw; (try dsimp only at hSw); go_simp; try with_reducible rfl)
          try simp only [Act.put, List.setIfInBounds_toArray, List.set_cons_zero, List.set_cons_succ]
          refine Take.take (i := 7) (oi := _) (t := 20) (v := ?v40) rfl (by kernel_rfl) (by kernel_rfl) (by kernel_rfl) (by kernel_rfl) (fun _ _ _ h => h) (by kernel_rfl) ?hy40 (by assumption) ?_
          case hy40 => (intro w hSw; (try dsimp only at hSw); go_simp; try with_reducible rfl)
          try simp only [Act.put, List.setIfInBounds_toArray, List.set_cons_zero, List.set_cons_succ]
          refine Take.take (i := 8) (oi := _) (t := 21) (v := ?v41) rfl (by kernel_rfl) (by kernel_rfl) (by kernel_rfl) (by kernel_rfl) (fun _ _ _ h => h) (by kernel_rfl) ?hy41 (by assumption) ?_
          case hy41 => (intro w hSw; (try dsimp only at hSw); go_simp; try with_reducible rfl)
          try simp only [Act.put, List.setIfInBounds_toArray, List.set_cons_zero, List.set_cons_succ]
          refine Take.take (i := 9) (oi := _) (t := 22) (v := ?v42) rfl (by kernel_rfl) (by kernel_rfl) (by kernel_rfl) (by kernel_rfl) (fun _ _ _ h => h) (by kernel_rfl) ?hy42 (by assumption) ?_
          case hy42 => (intro w hSw; (try dsimp only at hSw); go_simp; try with_reducible rfl)
          try simp only [Act.put, List.setIfInBounds_toArray, List.set_cons_zero, List.set_cons_succ]
          refine Take.take (i := 10) (oi := _) (t := 23) (v := ?v43) rfl (by kernel_rfl) (by kernel_rfl) (by kernel_rfl) (by kernel_rfl) (fun _ _ _ h => h) (by kernel_rfl) ?hy43 (by assumption) ?_
          case hy43 => (intro w hSw; (try dsimp only at hSw); go_simp; try with_reducible rfl)
          try simp only [Act.put, List.setIfInBounds_toArray, List.set_cons_zero, List.set_cons_succ]
          refine Take.take (i := 11) (oi := _) (t := 24) (v := ?v44) rfl (by kernel_rfl) (by kernel_rfl) (by kernel_rfl) (by kernel_rfl) (fun _ _ _ h => h) (by kernel_rfl) ?hy44 (by assumption) ?_
          case hy44 => (intro w hSw; (try dsimp only at hSw); go_simp; try with_reducible rfl)
          try simp only [Act.put, List.setIfInBounds_toArray, List.set_cons_zero, List.set_cons_succ]
          refine Take.take (i := 12) (oi := _) (t := 25) (v := ?v45) rfl (by kernel_rfl) (by kernel_rfl) (by kernel_rfl) (by kernel_rfl) (fun _ _ _ h => h) (by kernel_rfl) ?hy45 (by assumption) ?_
          case hy45 => (intro w hSw; (try dsimp only at hSw); go_simp; try with_reducible rfl)
          try simp only [Act.put, List.setIfInBounds_toArray, List.set_cons_zero, List.set_cons_succ]
          refine Take.take (i := 13) (oi := _) (t := 26) (v := ?v46) rfl (by kernel_rfl) (by kernel_rfl) (by kernel_rfl) (by kernel_rfl) (fun _ _ _ h => h) (by kernel_rfl) ?hy46 (by assumption) ?_
          case hy46 => (intro w hSw; (try dsimp only at hSw); go_simp; try with_reducible rfl)
          try simp only [Act.put, List.setIfInBounds_toArray, List.set_cons_zero, List.set_cons_succ]
          refine Take.take (i := 14) (oi := _) (t := 27) (v := ?v47) rfl (by kernel_rfl) (by kernel_rfl) (by kernel_rfl) (by kernel_rfl) (fun _ _ _ h => h) (by kernel_rfl) ?hy47 (by assumption) ?_
          case hy47 => (intro w hSw; (try dsimp only at hSw); go_simp; try with_reducible rfl)
          try simp only [Act.put, List.setIfInBounds_toArray, List.set_cons_zero, List.set_cons_succ]
          refine Take.skip (i := 15) (t := 28) (g := 14) (b := false) (by kernel_rfl) (by kernel_rfl) (by kernel_rfl) (by kernel_rfl) (fun _ _ _ h => h) (by kernel_rfl) (by assumption) ?_
          try simp only [Act.put, List.setIfInBounds_toArray, List.set_cons_zero, List.set_cons_succ]
          refine Take.skip (i := 16) (t := 29) (g := 14) (b := false) (by kernel_rfl) (by kernel_rfl) (by kernel_rfl) (by kernel_rfl) (fun _ _ _ h => h) (by kernel_rfl) (by assumption) ?_
          try simp only [Act.put, List.setIfInBounds_toArray, List.set_cons_zero, List.set_cons_succ]
          refine Take.skip (i := 17) (t := 30) (g := 14) (b := false) (by kernel_rfl) (by kernel_rfl) (by kernel_rfl) (by kernel_rfl) (fun _ _ _ h => h) (by kernel_rfl) (by assumption) ?_
          try simp only [Act.put, List.setIfInBounds_toArray, List.set_cons_zero, List.set_cons_succ]
          refine Take.skip (i := 18) (t := 31) (g := 17) (b := true) (by kernel_rfl) (by kernel_rfl) (by kernel_rfl) (by kernel_rfl) (fun _ _ _ h => h) (by kernel_rfl) (by assumption) ?_
          try simp only [Act.put, List.setIfInBounds_toArray, List.set_cons_zero, List.set_cons_succ]
          refine Take.skip (i := 19) (t := 32) (g := 17) (b := true) (by kernel_rfl) (by kernel_rfl) (by kernel_rfl) (by kernel_rfl) (fun _ _ _ h => h) (by kernel_rfl) (by assumption) ?_
          try simp only [Act.put, List.setIfInBounds_toArray, List.set_cons_zero, List.set_cons_succ]
          refine Take.skip (i := 20) (t := 33) (g := 17) (b := true) (by kernel_rfl) (by kernel_rfl) (by kernel_rfl) (by kernel_rfl) (fun _ _ _ h => h) (by kernel_rfl) (by assumption) ?_
          try simp only [Act.put, List.setIfInBounds_toArray, List.set_cons_zero, List.set_cons_succ]
          refine Take.skip (i := 21) (t := 34) (g := 17) (b := true) (by kernel_rfl) (by kernel_rfl) (by kernel_rfl) (by kernel_rfl) (fun _ _ _ h => h) (by kernel_rfl) (by assumption) ?_
          try simp only [Act.put, List.setIfInBounds_toArray, List.set_cons_zero, List.set_cons_succ]
          refine Take.skip (i := 22) (t := 35) (g := 17) (b := true) (by kernel_rfl) (by kernel_rfl) (by kernel_rfl) (by kernel_rfl) (fun _ _ _ h => h) (by kernel_rfl) (by assumption) ?_
          try simp only [Act.put, List.setIfInBounds_toArray, List.set_cons_zero, List.set_cons_succ]
          refine Take.skip (i := 23) (t := 36) (g := 17) (b := true) (by kernel_rfl) (by kernel_rfl) (by kernel_rfl) (by kernel_rfl) (fun _ _ _ h => h) (by kernel_rfl) (by assumption) ?_
          try simp only [Act.put, List.setIfInBounds_toArray, List.set_cons_zero, List.set_cons_succ]
          refine Take.skip (i := 24) (t := 37) (g := 17) (b := true) (by kernel_rfl) (by kernel_rfl) (by kernel_rfl) (by kernel_rfl) (fun _ _ _ h => h) (by kernel_rfl) (by assumption) ?_
          try simp only [Act.put, List.setIfInBounds_toArray, List.set_cons_zero, List.set_cons_succ]
          refine Take.skip (i := 25) (t := 38) (g := 17) (b := true) (by kernel_rfl) (by kernel_rfl) (by kernel_rfl) (by kernel_rfl) (fun _ _ _ h => h) (by kernel_rfl) (by assumption) ?_
          try simp only [Act.put, List.setIfInBounds_toArray, List.set_cons_zero, List.set_cons_succ]
          refine Take.skip (i := 26) (t := 39) (g := 17) (b := true) (by kernel_rfl) (by kernel_rfl) (by kernel_rfl) (by kernel_rfl) (fun _ _ _ h => h) (by kernel_rfl) (by assumption) ?_
          try simp only [Act.put, List.setIfInBounds_toArray, List.set_cons_zero, List.set_cons_succ]
          refine Take.skip (i := 27) (t := 40) (g := 17) (b := true) (by kernel_rfl) (by kernel_rfl) (by kernel_rfl) (by kernel_rfl) (fun _ _ _ h => h) (by kernel_rfl) (by assumption) ?_
          try simp only [Act.put, List.setIfInBounds_toArray, List.set_cons_zero, List.set_cons_succ]
          refine Take.skip (i := 28) (t := 41) (g := 17) (b := true) (by kernel_rfl) (by kernel_rfl) (by kernel_rfl) (by kernel_rfl) (fun _ _ _ h => h) (by kernel_rfl) (by assumption) ?_
          try simp only [Act.put, List.setIfInBounds_toArray, List.set_cons_zero, List.set_cons_succ]
          refine Take.skip (i := 29) (t := 42) (g := 17) (b := true) (by kernel_rfl) (by kernel_rfl) (by kernel_rfl) (by kernel_rfl) (fun _ _ _ h => h) (by kernel_rfl) (by assumption) ?_
          try simp only [Act.put, List.setIfInBounds_toArray, List.set_cons_zero, List.set_cons_succ]
          refine Take.skip (i := 30) (t := 43) (g := 14) (b := false) (by kernel_rfl) (by kernel_rfl) (by kernel_rfl) (by kernel_rfl) (fun _ _ _ h => h) (by kernel_rfl) (by assumption) ?_
          try simp only [Act.put, List.setIfInBounds_toArray, List.set_cons_zero, List.set_cons_succ]
          refine Take.take (i := 31) (oi := _) (t := 44) (v := ?v64) rfl (by kernel_rfl) (by kernel_rfl) (by kernel_rfl) (by kernel_rfl) (fun _ _ _ h => h) (by kernel_rfl) ?hy64 (by assumption) ?_
          case hy64 => (intro w hSw; (try dsimp only at hSw); go_simp; try with_reducible rfl)
          try simp only [Act.put, List.setIfInBounds_toArray, List.set_cons_zero, List.set_cons_succ]
          refine wpAnyH_done (by kernel_rfl) ?_ _
          go_wp2_with fail
          go_ret
          exact ⟨ret_b hf.out.symm, lW.out.trans (Below.mono (B := W.heap.size) (⟨hR0.out.os, hR0.out.tape, hR0.out.output, hR0.out.size, hR0.out.block⟩ : Below W.heap.size W wr.drew) lW.out.size)⟩
      · have hf := Lib.hid (pathB_bad (n := n) (L := L) hlt (by rw [Hat.out, show isN n x = false by simp [isN]; omega]; rfl))
        go_wp2_with fail
        have HS1 := Lib.hid (fun (w' : World) (h : Below W.heap.size W w') => (show Below W.heap.size W w' ∧ w'.cell? ⟨w.heap.size, 0, none⟩ = some (.int .i64 (n : Nat)) ∧ w'.cell? ⟨w.heap.size, 1, none⟩ = some (.slice la L.length lcap) ∧ w'.cell? ⟨b, k, none⟩ = some (.int .i64 x) from ⟨h, (HS.out w' h).1, (HS.out w' h).2, (h.cell (p := ⟨b, k, none⟩) hbW).trans cX⟩))
        have e1 : decide (x < 0) = true := by first | (simp; omega) | simp [*] | (simp [Hz.out])
        refine wp_region_held_drew (S := fun w' => Below W.heap.size W w' ∧ w'.cell? ⟨w.heap.size, 0, none⟩ = some (.int .i64 (n : Nat)) ∧ w'.cell? ⟨w.heap.size, 1, none⟩ = some (.slice la L.length lcap) ∧ w'.cell? ⟨b, k, none⟩ = some (.int .i64 x)) (by kernel_rfl) (HS1.out _ hR0.out.drew) (fun hHeld => ?_)
        refine Take.take (i := 0) (oi := _) (t := 13) (v := ?v65) rfl (by kernel_rfl) (by kernel_rfl) (by kernel_rfl) (by kernel_rfl) (fun _ _ _ h => h) (by kernel_rfl) ?hy65 (by assumption) ?_
        case hy65 => (intro w hSw; (try dsimp only at hSw); go_simp; try with_reducible rfl)
        try simp only [Act.put, List.setIfInBounds_toArray, List.set_cons_zero, List.set_cons_succ]
        refine Take.take (i := 1) (oi := _) (t := 14) (v := ?v66) rfl (by kernel_rfl) (by kernel_rfl) (by kernel_rfl) (by kernel_rfl) (fun _ _ _ h => h) (by kernel_rfl) ?hy66 (by assumption) ?_
        case hy66 => (intro w hSw; (try dsimp only at hSw); go_simp; try with_reducible rfl)
        try simp only [Act.put, List.setIfInBounds_toArray, List.set_cons_zero, List.set_cons_succ]
        refine Take.take (i := 2) (oi := _) (t := 15) (v := ?v67) rfl (by kernel_rfl) (by kernel_rfl) (by kernel_rfl) (by kernel_rfl) (fun _ _ _ h => h) (by kernel_rfl) ?hy67 (by assumption) ?_
        case hy67 => (intro w hSw; (try dsimp only at hSw); go_simp; try with_reducible rfl)
        try simp only [Act.put, List.setIfInBounds_toArray, List.set_cons_zero, List.set_cons_succ]
        refine Take.take (i := 3) (oi := _) (t := 16) (v := ?v68) rfl (by kernel_rfl) (by kernel_rfl) (by kernel_rfl) (by kernel_rfl) (fun _ _ _ h => h) (by kernel_rfl) ?hy68 (by assumption) ?_
        case hy68 => (intro w hSw; (try dsimp only at hSw); go_simp; try with_reducible rfl)
        try simp only [Act.put, List.setIfInBounds_toArray, List.set_cons_zero, List.set_cons_succ]
        refine Take.take (i := 4) (oi := _) (t := 17) (v := ?v69) rfl (by kernel_rfl) (by kernel_rfl) (by kernel_rfl) (by kernel_rfl) (fun _ _ _ h => h) (by kernel_rfl) ?hy69 (by assumption) ?_
        case hy69 => (intro w hSw; (try dsimp only at hSw); go_simp; try with_reducible rfl)
        try simp only [Act.put, List.setIfInBounds_toArray, List.set_cons_zero, List.set_cons_succ]
        refine Take.take (i := 5) (oi := _) (t := 18) (v := ?v70) rfl (by kernel_rfl) (by kernel_rfl) (by kernel_rfl) (by kernel_rfl) (fun _ _ _ h => h) (by kernel_rfl) ?hy70 (by assumption) ?_
        case hy70 => (intro w hSw; (try dsimp only at hSw); go_simp; try with_reducible rfl)
        try simp only [Act.put, List.setIfInBounds_toArray, List.set_cons_zero, List.set_cons_succ]
        refine Take.skip (i := 6) (t := 19) (g := 5) (b := false) (by kernel_rfl) (by kernel_rfl) (by kernel_rfl) (by kernel_rfl) (fun _ _ _ h => h) (by kernel_rfl) (by assumption) ?_
        try simp only [Act.put, List.setIfInBounds_toArray, List.set_cons_zero, List.set_cons_succ]
        refine Take.skip (i := 7) (t := 20) (g := 5) (b := false) (by kernel_rfl) (by kernel_rfl) (by kernel_rfl) (by kernel_rfl) (fun _ _ _ h => h) (by kernel_rfl) (by assumption) ?_
        try simp only [Act.put, List.setIfInBounds_toArray, List.set_cons_zero, List.set_cons_succ]
        refine Take.skip (i := 8) (t := 21) (g := 5) (b := false) (by kernel_rfl) (by kernel_rfl) (by kernel_rfl) (by kernel_rfl) (fun _ _ _ h => h) (by kernel_rfl) (by assumption) ?_
        try simp only [Act.put, List.setIfInBounds_toArray, List.set_cons_zero, List.set_cons_succ]
        refine Take.skip (i := 9) (t := 22) (g := 5) (b := false) (by kernel_rfl) (by kernel_rfl) (by kernel_rfl) (by kernel_rfl) (fun _ _ _ h => h) (by kernel_rfl) (by assumption) ?_
        try simp only [Act.put, List.setIfInBounds_toArray, List.set_cons_zero, List.set_cons_succ]
        refine Take.skip (i := 10) (t := 23) (g := 5) (b := false) (by kernel_rfl) (by kernel_rfl) (by kernel_rfl) (by kernel_rfl) (fun _ _ _ h => h) (by kernel_rfl) (by assumption) ?_
        try simp only [Act.put, List.setIfInBounds_toArray, List.set_cons_zero, List.set_cons_succ]
        refine Take.skip (i := 11) (t := 24) (g := 5) (b := false) (by kernel_rfl) (by kernel_rfl) (by kernel_rfl) (by kernel_rfl) (fun _ _ _ h => h) (by kernel_rfl) (by assumption) ?_
        try simp only [Act.put, List.setIfInBounds_toArray, List.set_cons_zero, List.set_cons_succ]
        refine Take.skip (i := 12) (t := 25) (g := 5) (b := false) (by kernel_rfl) (by kernel_rfl) (by kernel_rfl) (by kernel_rfl) (fun _ _ _ h => h) (by kernel_rfl) (by assumption) ?_
        try simp only [Act.put, List.setIfInBounds_toArray, List.set_cons_zero, List.set_cons_succ]
        refine Take.take (i := 13) (oi := _) (t := 26) (v := ?v78) rfl (by kernel_rfl) (by kernel_rfl) (by kernel_rfl) (by kernel_rfl) (fun _ _ _ h => h) (by kernel_rfl) ?hy78 (by assumption) ?_
        case hy78 => (intro w hSw; (try dsimp only at hSw); go_simp; try with_reducible rfl)
        try simp only [Act.put, List.setIfInBounds_toArray, List.set_cons_zero, List.set_cons_succ]
        refine Take.take (i := 14) (oi := _) (t := 27) (v := ?v79) rfl (by kernel_rfl) (by kernel_rfl) (by kernel_rfl) (by kernel_rfl) (fun _ _ _ h => h) (by kernel_rfl) ?hy79 (by assumption) ?_
        case hy79 => (intro w hSw; (try dsimp only at hSw); go_simp; try with_reducible rfl)
        try simp only [Act.put, List.setIfInBounds_toArray, List.set_cons_zero, List.set_cons_succ]
        refine Take.skip (i := 15) (t := 28) (g := 14) (b := false) (by kernel_rfl) (by kernel_rfl) (by kernel_rfl) (by kernel_rfl) (fun _ _ _ h => h) (by kernel_rfl) (by assumption) ?_
        try simp only [Act.put, List.setIfInBounds_toArray, List.set_cons_zero, List.set_cons_succ]
        refine Take.skip (i := 16) (t := 29) (g := 14) (b := false) (by kernel_rfl) (by kernel_rfl) (by kernel_rfl) (by kernel_rfl) (fun _ _ _ h => h) (by kernel_rfl) (by assumption) ?_
        try simp only [Act.put, List.setIfInBounds_toArray, List.set_cons_zero, List.set_cons_succ]
        refine Take.skip (i := 17) (t := 30) (g := 14) (b := false) (by kernel_rfl) (by kernel_rfl) (by kernel_rfl) (by kernel_rfl) (fun _ _ _ h => h) (by kernel_rfl) (by assumption) ?_
        try simp only [Act.put, List.setIfInBounds_toArray, List.set_cons_zero, List.set_cons_succ]
        refine Take.skip (i := 18) (t := 31) (g := 17) (b := true) (by kernel_rfl) (by kernel_rfl) (by kernel_rfl) (by kernel_rfl) (fun _ _ _ h => h) (by kernel_rfl) (by assumption) ?_
        try simp only [Act.put, List.setIfInBounds_toArray, List.set_cons_zero, List.set_cons_succ]
        refine Take.skip (i := 19) (t := 32) (g := 17) (b := true) (by kernel_rfl) (by kernel_rfl) (by kernel_rfl) (by kernel_rfl) (fun _ _ _ h => h) (by kernel_rfl) (by assumption) ?_
        try simp only [Act.put, List.setIfInBounds_toArray, List.set_cons_zero, List.set_cons_succ]
        refine Take.skip (i := 20) (t := 33) (g := 17) (b := true) (by kernel_rfl) (by kernel_rfl) (by kernel_rfl) (by kernel_rfl) (fun _ _ _ h => h) (by kernel_rfl) (by assumption) ?_
        try simp only [Act.put, List.setIfInBounds_toArray, List.set_cons_zero, List.set_cons_succ]
        refine Take.skip (i := 21) (t := 34) (g := 17) (b := true) (by kernel_rfl) (by kernel_rfl) (by kernel_rfl) (by kernel_rfl) (fun _ _ _ h => h) (by kernel_rfl) (by assumption) ?_
        try simp only [Act.put, List.setIfInBounds_toArray, List.set_cons_zero, List.set_cons_succ]
        refine Take.skip (i := 22) (t := 35) (g := 17) (b := true) (by kernel_rfl) (by kernel_rfl) (by kernel_rfl) (by kernel_rfl) (fun _ _ _ h => h) (by kernel_rfl) (by assumption) ?_
        try simp only [Act.put, List.setIfInBounds_toArray, List.set_cons_zero, List.set_cons_succ]
        refine Take.skip (i := 23) (t := 36) (g := 17) (b := true) (by kernel_rfl) (by kernel_rfl) (by kernel_rfl) (by kernel_rfl) (fun _ _ _ h => h) (by kernel_rfl) (by assumption) ?_
        try simp only [Act.put, List.setIfInBounds_toArray, List.set_cons_zero, List.set_cons_succ]
        refine Take.skip (i := 24) (t := 37) (g := 17) (b := true) (by kernel_rfl) (by kernel_rfl) (by kernel_rfl) (by kernel_rfl) (fun _ _ _ h => h) (by kernel_rfl) (by assumption) ?_
        try simp only [Act.put, List.setIfInBounds_toArray, List.set_cons_zero, List.set_cons_succ]
        refine Take.skip (i := 25) (t := 38) (g := 17) (b := true) (by kernel_rfl) (by kernel_rfl) (by kernel_rfl) (by kernel_rfl) (fun _ _ _ h => h) (by kernel_rfl) (by assumption) ?_
        try simp only [Act.put, List.setIfInBounds_toArray, List.set_cons_zero, List.set_cons_succ]
        refine Take.skip (i := 26) (t := 39) (g := 17) (b := true) (by kernel_rfl) (by kernel_rfl) (by kernel_rfl) (by kernel_rfl) (fun _ _ _ h => h) (by kernel_rfl) (by assumption) ?_
        try simp only [Act.put, List.setIfInBounds_toArray, List.set_cons_zero, List.set_cons_succ]
        refine Take.skip (i := 27) (t := 40) (g := 17) (b := true) (by kernel_rfl) (by kernel_rfl) (by kernel_rfl) (by kernel_rfl) (fun _ _ _ h => h) (by kernel_rfl) (by assumption) ?_
        try simp only [Act.put, List.setIfInBounds_toArray, List.set_cons_zero, List.set_cons_succ]
        refine Take.skip (i := 28) (t := 41) (g := 17) (b := true) (by kernel_rfl) (by kernel_rfl) (by kernel_rfl) (by kernel_rfl) (fun _ _ _ h => h) (by kernel_rfl) (by assumption) ?_
        try simp only [Act.put, List.setIfInBounds_toArray, List.set_cons_zero, List.set_cons_succ]
        refine Take.skip (i := 29) (t := 42) (g := 17) (b := true) (by kernel_rfl) (by kernel_rfl) (by kernel_rfl) (by kernel_rfl) (fun _ _ _ h => h) (by kernel_rfl) (by assumption) ?_
        try simp only [Act.put, List.setIfInBounds_toArray, List.set_cons_zero, List.set_cons_succ]
        refine Take.skip (i := 30) (t := 43) (g := 14) (b := false) (by kernel_rfl) (by kernel_rfl) (by kernel_rfl) (by kernel_rfl) (fun _ _ _ h => h) (by kernel_rfl) (by assumption) ?_
        try simp only [Act.put, List.setIfInBounds_toArray, List.set_cons_zero, List.set_cons_succ]
        refine Take.take (i := 31) (oi := _) (t := 44) (v := ?v96) rfl (by kernel_rfl) (by kernel_rfl) (by kernel_rfl) (by kernel_rfl) (fun _ _ _ h => h) (by kernel_rfl) ?hy96 (by assumption) ?_
        case hy96 => (intro w hSw; (try dsimp only at hSw); go_simp; try with_reducible rfl)
        try simp only [Act.put, List.setIfInBounds_toArray, List.set_cons_zero, List.set_cons_succ]
        refine wpAnyH_done (by kernel_rfl) ?_ _
        go_wp2_with fail
        go_ret
        exact ⟨ret_b hf.out.symm, lW.out.trans (Below.mono (B := W.heap.size) (⟨hR0.out.os, hR0.out.tape, hR0.out.output, hR0.out.size, hR0.out.block⟩ : Below W.heap.size W wr.drew) lW.out.size)⟩
    · obtain rfl : k = xs.length := by omega
      have hf := Lib.hid (pathB_good (n := n) (L := L) (fun i hi => hok.out i hi))
      go_wp2_with fail
      go_ret
      refine ⟨ret_b ?_, lW.out.trans (hR0.out.mono lW.out.size)⟩
      rw [hf.out]
end Go.Proofs.Ytcangalpccppbaa.Graph
