/- graph.Graph's join. -/
import Derived.Test.YtmbblhajbecomaaDoorNodes
import Derived.Deep.RegionHeld3
import Derived.Deep.DeepCutAuto
namespace Go.Proofs.YtmbblhajbecomaaDoor.Graph
set_option maxRecDepth 100000
open Go.RowKit
open Go.Proofs.YtmbblhajbecomaaDoor.RF Go.Proofs.YtmbblhajbecomaaDoor.Heap Go.Proofs.YtmbblhajbecomaaDoor.Nodes
set_option linter.unusedVariables false
set_option linter.unusedSimpArgs false

theorem GraphAt.put {w : World} {G R : Nat} {near : List Nat} (h : GraphAt w G R near) (a x : Nat) (hx : x < 2 ^ 64) : GraphAt (w.setCell ⟨R, a, none⟩ (.int .u64 x)) G R (near.set a x) := by
  have hne := h.box.ne h.row (by decide)
  refine ⟨by rw [List.length_set]; exact h.box.far hne _, ?_, fun s hs => ?_, by rw [List.length_set]; exact h.few⟩
  · have := h.row.put a (.int .u64 x)
    rw [List.map_set, ← List.setIfInBounds_toArray]
    exact this
  · rcases List.mem_or_eq_of_mem_set hs with c | c
    · exact h.word s c
    · subst c; exact hx
theorem GraphAt.off {w w' : World} {K : Nat → Prop} {G R : Nat} {near : List Nat} (h : GraphAt w G R near) (k : Off K w w') (hG : ¬ K G) (hR : ¬ K R) : GraphAt w' G R near := ⟨h.box.off k hG, h.row.off k hR, h.word, h.few⟩
theorem off_put {A B : World} {R : Nat} (h : Off (fun k => k = R) A B) (i : Nat) (u : Value) : Off (fun k => k = R) A (B.setCell ⟨R, i, none⟩ u) := Off.setCell (p := ⟨R, i, none⟩) h (.inl rfl) u
theorem or_lt {a b : Nat} (ha : a < 2 ^ 64) (hb : b < 64) : a ||| 2 ^ b < 2 ^ 64 := Nat.or_lt_two_pow ha (Nat.pow_lt_pow_right (by omega) hb)
set_option maxRecDepth 100000 in
set_option maxHeartbeats 8000000 in
theorem join_any {w : World} {G R : Nat} {near : List Nat} (hg : GraphAt w G R near) (a b : Nat) (ha : a < near.length) (hb : b < near.length) (hab : a ≠ b) :
    Calls Tryd.prog 48 #[.pointer (some ⟨G, 0, none⟩), .agg #[.int .i64 a, .int .i64 b]] w fun e w' => e = .returned (.tuple #[]) ∧ GraphAt w' G R ((near.set a (near.getD a 0 ||| 2 ^ b)).set b (near.getD b 0 ||| 2 ^ a)) ∧ Off (fun k => k = R) w w' := by
  have cG := hg.box.cell 0
  have fR := hg.row.frozen a
  have cA := hg.at ha
  have gl := hg.box.lt
  have rl := hg.row.lt
  have b1 : (a : Int) < (near.length : Int) := by omega
  have b2 : (b : Int) < (near.length : Int) := by omega
  have b3 : (0 : Int) ≤ (a : Int) := by omega
  have b4 : (0 : Int) ≤ (b : Int) := by omega
  have hfew := hg.few
  obtain ⟨s, hs⟩ : ∃ s, near.getD a 0 = s := ⟨_, rfl⟩
  obtain ⟨t, ht⟩ : ∃ t, near.getD b 0 = t := ⟨_, rfl⟩
  have hs64 := hg.lt a
  have ht64 := hg.lt b
  rw [hs] at cA hs64
  rw [ht] at ht64
  simp at cG
  rw [hs, ht]
  have Hg := Lib.hid hg
  clear hg
  go_enter Tryd.func48, Tryd.ntmps48
  go_wp2_with fail
  obtain ⟨V, hV⟩ : ∃ V, w.alloc (.cells #[.int .i64 (a : Nat), .int .i64 (b : Nat)] 55) = V := ⟨_, rfl⟩
  have ofV : Off (fun _ => False) w V := by rw [← hV]; exact (Off.refl _ w).alloc _
  have bP : Blk V w.heap.size 55 #[.int .i64 (a : Nat), .int .i64 (b : Nat)] := by rw [← hV]; exact Blk.new w _ _
  have szV : w.heap.size < V.heap.size := bP.lt
  have HgV := Lib.hid (Hg.out.off ofV id id)
  rw [hV]
  clear hV cG cA fR
  have hne := HgV.out.box.ne HgV.out.row (by decide)
  have hpe := bP.ne HgV.out.row (by decide)
  have HS : ∀ v, Off (fun k => k = R) V v → Off (fun k => k = R) V v ∧ v.cell? ⟨G, 0, none⟩ = some (.slice (some ⟨R, 0, none⟩) near.length near.length) ∧ v.cell? ⟨w.heap.size, 0, none⟩ = some (.int .i64 (a : Nat)) ∧ v.cell? ⟨w.heap.size, 1, none⟩ = some (.int .i64 (b : Nat)) := fun v hv => ⟨hv, (HgV.out.box.off hv hne).cell 0, (bP.off hv hpe).cell 0, (bP.off hv hpe).cell 1⟩
  replace HS := Lib.hid HS
  obtain ⟨_, c1, c2, c3⟩ := HS.out V (Off.refl _ V)
  have c4 : V.cell? ⟨R, a, none⟩ = some (.int .u64 (s : Nat)) := by rw [HgV.out.at ha, hs]
  have c5 : V.frozen? ⟨R, a, none⟩ = false := HgV.out.row.frozen a
  have gV : G < V.heap.size := by omega
  have rV : R < V.heap.size := by omega
  have Hp := Lib.hid (And.intro hne hpe)
  clear hne hpe
  refine wp_region_held_drew (S := (fun v => Off (fun k => k = R) V v ∧ v.cell? ⟨G, 0, none⟩ = some (.slice (some ⟨R, 0, none⟩) near.length near.length) ∧ v.cell? ⟨w.heap.size, 0, none⟩ = some (.int .i64 (a : Nat)) ∧ v.cell? ⟨w.heap.size, 1, none⟩ = some (.int .i64 (b : Nat)))) (by kernel_rfl) ?hS1 (fun hHeld => ?_)
  case hS1 => (refine HS.out _ ?_; repeat (first | exact Off.refl _ _ | assumption | refine Off.drew ?_ | refine Off.alloc ?_ _ | refine off_put ?_ _ _))
  refine wpAnyH_take (i := 0) (oi := _) (v := ?v2) rfl (by kernel_rfl) (by kernel_rfl) (by kernel_rfl) (fun _ _ _ h => h) (Or.inl ⟨by rfl, ?hy2⟩) (by assumption) ?_
  case hy2 => (intro w hSw; (try dsimp only at hSw); go_simp; try with_reducible rfl)
  try simp only [Act.put, List.setIfInBounds_toArray, List.set_cons_zero, List.set_cons_succ]
  refine wpAnyH_take (i := 1) (oi := _) (v := ?v3) rfl (by kernel_rfl) (by kernel_rfl) (by kernel_rfl) (fun _ _ _ h => h) (Or.inl ⟨by rfl, ?hy3⟩) (by assumption) ?_
  case hy3 => (intro w hSw; (try dsimp only at hSw); go_simp; try with_reducible rfl)
  try simp only [Act.put, List.setIfInBounds_toArray, List.set_cons_zero, List.set_cons_succ]
  refine wpAnyH_take (i := 2) (oi := _) (v := ?v4) rfl (by kernel_rfl) (by kernel_rfl) (by kernel_rfl) (fun _ _ _ h => h) (Or.inl ⟨by rfl, ?hy4⟩) (by assumption) ?_
  case hy4 => (intro w hSw; (try dsimp only at hSw); go_simp; try with_reducible rfl)
  try simp only [Act.put, List.setIfInBounds_toArray, List.set_cons_zero, List.set_cons_succ]
  refine wpAnyH_take (i := 3) (oi := _) (v := ?v5) rfl (by kernel_rfl) (by kernel_rfl) (by kernel_rfl) (fun _ _ _ h => h) (Or.inl ⟨by rfl, ?hy5⟩) (by assumption) ?_
  case hy5 => (intro w hSw; (try dsimp only at hSw); go_simp; try with_reducible rfl)
  try simp only [Act.put, List.setIfInBounds_toArray, List.set_cons_zero, List.set_cons_succ]
  refine wpAnyH_take (i := 4) (oi := _) (v := ?v6) rfl (by kernel_rfl) (by kernel_rfl) (by kernel_rfl) (fun _ _ _ h => h) (Or.inl ⟨by rfl, ?hy6⟩) (by assumption) ?_
  case hy6 => (intro w hSw; (try dsimp only at hSw); go_simp; try with_reducible rfl)
  try simp only [Act.put, List.setIfInBounds_toArray, List.set_cons_zero, List.set_cons_succ]
  refine wpAnyH_take (i := 5) (oi := _) (v := ?v7) rfl (by kernel_rfl) (by kernel_rfl) (by kernel_rfl) (fun _ _ _ h => h) (Or.inl ⟨by rfl, ?hy7⟩) (by assumption) ?_
  case hy7 => (intro w hSw; (try dsimp only at hSw); go_simp; try with_reducible rfl)
  try simp only [Act.put, List.setIfInBounds_toArray, List.set_cons_zero, List.set_cons_succ]
  refine wpAnyH_take (i := 6) (oi := _) (v := ?v8) rfl (by kernel_rfl) (by kernel_rfl) (by kernel_rfl) (fun _ _ _ h => h) (Or.inl ⟨by rfl, ?hy8⟩) (by assumption) ?_
  case hy8 => (intro w hSw; (try dsimp only at hSw); go_simp; try with_reducible rfl)
  try simp only [Act.put, List.setIfInBounds_toArray, List.set_cons_zero, List.set_cons_succ]
  refine wpAnyH_take (i := 7) (oi := _) (v := ?v9) rfl (by kernel_rfl) (by kernel_rfl) (by kernel_rfl) (fun _ _ _ h => h) (Or.inl ⟨by rfl, ?hy9⟩) (by assumption) ?_
  case hy9 => (intro w hSw; (try dsimp only at hSw); go_simp; try with_reducible rfl)
  try simp only [Act.put, List.setIfInBounds_toArray, List.set_cons_zero, List.set_cons_succ]
  refine wpAnyH_take (i := 8) (oi := _) (v := ?v10) rfl (by kernel_rfl) (by kernel_rfl) (by kernel_rfl) (fun _ _ _ h => h) (Or.inl ⟨by rfl, ?hy10⟩) (by assumption) ?_
  case hy10 => (intro w hSw; (try dsimp only at hSw); go_simp; try with_reducible rfl)
  try simp only [Act.put, List.setIfInBounds_toArray, List.set_cons_zero, List.set_cons_succ]
  refine wpAnyH_take (i := 9) (oi := _) (v := ?v11) rfl (by kernel_rfl) (by kernel_rfl) (by kernel_rfl) (fun _ _ _ h => h) (Or.inl ⟨by rfl, ?hy11⟩) (by assumption) ?_
  case hy11 => (intro w hSw; (try dsimp only at hSw); go_simp; try with_reducible rfl)
  try simp only [Act.put, List.setIfInBounds_toArray, List.set_cons_zero, List.set_cons_succ]
  refine wpAnyH_take (i := 10) (oi := _) (v := ?v12) rfl (by kernel_rfl) (by kernel_rfl) (by kernel_rfl) (fun _ _ _ h => h) (Or.inl ⟨by rfl, ?hy12⟩) (by assumption) ?_
  case hy12 => (intro w hSw; (try dsimp only at hSw); go_simp; try with_reducible rfl)
  try simp only [Act.put, List.setIfInBounds_toArray, List.set_cons_zero, List.set_cons_succ]
  refine wpAnyH_take (i := 11) (oi := _) (v := ?v13) rfl (by kernel_rfl) (by kernel_rfl) (by kernel_rfl) (fun _ _ _ h => h) (Or.inl ⟨by rfl, ?hy13⟩) (by assumption) ?_
  case hy13 => (intro w hSw; (try dsimp only at hSw); go_simp; try with_reducible rfl)
  try simp only [Act.put, List.setIfInBounds_toArray, List.set_cons_zero, List.set_cons_succ]
  refine wpAnyH_take (i := 12) (oi := _) (v := ?v14) rfl (by kernel_rfl) (by kernel_rfl) (by kernel_rfl) (fun _ _ _ h => h) (Or.inl ⟨by rfl, ?hy14⟩) (by assumption) ?_
  case hy14 => (intro w hSw; (try dsimp only at hSw); go_simp; try with_reducible rfl)
  try simp only [Act.put, List.setIfInBounds_toArray, List.set_cons_zero, List.set_cons_succ]
  refine wpAnyH_take (i := 14) (oi := _) (v := ?v15) rfl (by kernel_rfl) (by kernel_rfl) (by kernel_rfl) (fun _ _ _ h => h) (Or.inl ⟨by rfl, ?hy15⟩) (by assumption) ?_
  case hy15 => (intro w hSw; (try dsimp only at hSw); go_simp; try with_reducible rfl)
  try simp only [Act.put, List.setIfInBounds_toArray, List.set_cons_zero, List.set_cons_succ]
  refine wpAnyH_take (i := 15) (oi := _) (v := ?v16) rfl (by kernel_rfl) (by kernel_rfl) (by kernel_rfl) (fun _ _ _ h => h) (Or.inl ⟨by rfl, ?hy16⟩) (by assumption) ?_
  case hy16 => (intro w hSw; (try dsimp only at hSw); go_simp; try with_reducible rfl)
  try simp only [Act.put, List.setIfInBounds_toArray, List.set_cons_zero, List.set_cons_succ]
  refine wpAnyH_ready (rs := [13, 16]) (by kernel_rfl) (by simp) ?_
  refine AllReadyH.cons (o := _) rfl (fun K hK => ?_) (AllReadyH.cons (o := _) rfl (fun K hK => ?_) AllReadyH.nil)
  go_simp
  refine hK.out _ _ ?hS17 (fun hHeld => ?_)
  case hS17 => (refine HS.out _ ?_; repeat (first | exact Off.refl _ _ | assumption | refine Off.drew ?_ | refine Off.alloc ?_ _ | refine off_put ?_ _ _))
  clear hK K
  try simp only [Act.put, List.setIfInBounds_toArray, List.set_cons_zero, List.set_cons_succ]
  refine wpAnyH_ready (rs := [16]) (by kernel_rfl) (by simp) ?_
  refine AllReadyH.cons (o := _) rfl (fun K hK => ?_) AllReadyH.nil
  go_simp
  refine hK.out _ _ ?hS18 (fun hHeld => ?_)
  case hS18 => (refine HS.out _ ?_; repeat (first | exact Off.refl _ _ | assumption | refine Off.drew ?_ | refine Off.alloc ?_ _ | refine off_put ?_ _ _))
  clear hK K
  try simp only [Act.put, List.setIfInBounds_toArray, List.set_cons_zero, List.set_cons_succ]
  refine wpAnyH_ready (rs := [17]) (by kernel_rfl) (by simp) ?_
  refine AllReadyH.cons (o := _) rfl (fun K hK => ?_) AllReadyH.nil
  go_simp
  go_at_call 54
  refine (with_one s b _ hs64 (by omega) _ ?hc19).mono ?_
  case hc19 => go_simp
  rintro e w' ⟨rfl, h⟩
  rw [h]
  clear h w'
  try dsimp only
  refine hK.out _ _ ?hS20 (fun hHeld => ?_)
  case hS20 => (refine HS.out _ ?_; repeat (first | exact Off.refl _ _ | assumption | refine Off.drew ?_ | refine Off.alloc ?_ _ | refine off_put ?_ _ _))
  clear hK K
  try simp only [Act.put, List.setIfInBounds_toArray, List.set_cons_zero, List.set_cons_succ]
  refine wpAnyH_take (i := 18) (oi := _) (v := ?v21) rfl (by kernel_rfl) (by kernel_rfl) (by kernel_rfl) (fun _ _ _ h => h) (Or.inl ⟨by rfl, ?hy21⟩) (by assumption) ?_
  case hy21 => (intro w hSw; (try dsimp only at hSw); go_simp; try with_reducible rfl)
  try simp only [Act.put, List.setIfInBounds_toArray, List.set_cons_zero, List.set_cons_succ]
  refine wpAnyH_ready (rs := [19]) (by kernel_rfl) (by simp) ?_
  refine AllReadyH.cons (o := _) rfl (fun K hK => ?_) AllReadyH.nil
  go_simp
  refine hK.out _ _ ?hS22 (fun hHeld => ?_)
  case hS22 => (refine HS.out _ ?_; repeat (first | exact Off.refl _ _ | assumption | refine Off.drew ?_ | refine Off.alloc ?_ _ | refine off_put ?_ _ _))
  clear hK K
  try simp only [Act.put, List.setIfInBounds_toArray, List.set_cons_zero, List.set_cons_succ]
  refine wpAnyH_done (by kernel_rfl) ?_ _
  rotate_left
  go_simp
  refine hK.out _ _ ?hS23 (fun hHeld => ?_)
  case hS23 => (refine HS.out _ ?_; repeat (first | exact Off.refl _ _ | assumption | refine Off.drew ?_ | refine Off.alloc ?_ _ | refine off_put ?_ _ _))
  clear hK K
  try simp only [Act.put, List.setIfInBounds_toArray, List.set_cons_zero, List.set_cons_succ]
  refine wpAnyH_ready (rs := [13]) (by kernel_rfl) (by simp) ?_
  refine AllReadyH.cons (o := _) rfl (fun K hK => ?_) AllReadyH.nil
  go_simp
  refine hK.out _ _ ?hS24 (fun hHeld => ?_)
  case hS24 => (refine HS.out _ ?_; repeat (first | exact Off.refl _ _ | assumption | refine Off.drew ?_ | refine Off.alloc ?_ _ | refine off_put ?_ _ _))
  clear hK K
  try simp only [Act.put, List.setIfInBounds_toArray, List.set_cons_zero, List.set_cons_succ]
  refine wpAnyH_ready (rs := [17]) (by kernel_rfl) (by simp) ?_
  refine AllReadyH.cons (o := _) rfl (fun K hK => ?_) AllReadyH.nil
  go_simp
  go_at_call 54
  refine (with_one s b _ hs64 (by omega) _ ?hc25).mono ?_
  case hc25 => go_simp
  rintro e w' ⟨rfl, h⟩
  rw [h]
  clear h w'
  try dsimp only
  refine hK.out _ _ ?hS26 (fun hHeld => ?_)
  case hS26 => (refine HS.out _ ?_; repeat (first | exact Off.refl _ _ | assumption | refine Off.drew ?_ | refine Off.alloc ?_ _ | refine off_put ?_ _ _))
  clear hK K
  try simp only [Act.put, List.setIfInBounds_toArray, List.set_cons_zero, List.set_cons_succ]
  refine wpAnyH_take (i := 18) (oi := _) (v := ?v27) rfl (by kernel_rfl) (by kernel_rfl) (by kernel_rfl) (fun _ _ _ h => h) (Or.inl ⟨by rfl, ?hy27⟩) (by assumption) ?_
  case hy27 => (intro w hSw; (try dsimp only at hSw); go_simp; try with_reducible rfl)
  try simp only [Act.put, List.setIfInBounds_toArray, List.set_cons_zero, List.set_cons_succ]
  refine wpAnyH_ready (rs := [19]) (by kernel_rfl) (by simp) ?_
  refine AllReadyH.cons (o := _) rfl (fun K hK => ?_) AllReadyH.nil
  go_simp
  refine hK.out _ _ ?hS28 (fun hHeld => ?_)
  case hS28 => (refine HS.out _ ?_; repeat (first | exact Off.refl _ _ | assumption | refine Off.drew ?_ | refine Off.alloc ?_ _ | refine off_put ?_ _ _))
  clear hK K
  try simp only [Act.put, List.setIfInBounds_toArray, List.set_cons_zero, List.set_cons_succ]
  refine wpAnyH_done (by kernel_rfl) ?_ _
  all_goals
    generalize hV2 : World.drew _ = V2
    have o2 : Off (fun k => k = R) V V2 := by rw [← hV2]; exact Off.drew (Off.alloc (off_put (Off.refl _ _) _ _) _)
    have g2 : GraphAt V2 G R (near.set a (s ||| 2 ^ b)) := by rw [← hV2]; exact (HgV.out.put a _ (or_lt hs64 (by omega))).off (Off.drew (Off.alloc (Off.refl (fun _ => False) _) _)) id id
    have bP2 := bP.off o2 Hp.out.2
    have h2 := HS.out V2 o2
    clear hV2 c1 c2 c3 c4 c5
    obtain ⟨_, c1, c2, c3⟩ := h2
    have c4 : V2.cell? ⟨R, b, none⟩ = some (.int .u64 (t : Nat)) := by
      have := g2.at (k := b) (by simpa using hb)
      rw [this]
      congr 3
      rw [← ht]
      simp [List.getD, hab]
    have c5 : V2.frozen? ⟨R, b, none⟩ = false := g2.row.frozen b
    have sz2 := o2.size
    have gV2 : G < V2.heap.size := by omega
    have rV2 : R < V2.heap.size := by omega
    have szP2 : w.heap.size < V2.heap.size := by omega
    have hne := Hp.out.1
    have hpe := Hp.out.2
    replace HS : ∀ v, Off (fun k => k = R) V2 v → Off (fun k => k = R) V2 v ∧ v.cell? ⟨G, 0, none⟩ = some (.slice (some ⟨R, 0, none⟩) near.length near.length) ∧ v.cell? ⟨w.heap.size, 0, none⟩ = some (.int .i64 (a : Nat)) ∧ v.cell? ⟨w.heap.size, 1, none⟩ = some (.int .i64 (b : Nat)) := fun v hv => ⟨hv, by have := (g2.box.off hv hne).cell 0; simpa using this, (bP2.off hv hpe).cell 0, (bP2.off hv hpe).cell 1⟩
    clear hne hpe
    replace HS := Lib.hid HS
    have Hg2 := Lib.hid g2
    have Ho2 := Lib.hid o2
    clear g2 o2
    go_wp2_with fail
    refine wp_region_held_drew (S := (fun v => Off (fun k => k = R) V2 v ∧ v.cell? ⟨G, 0, none⟩ = some (.slice (some ⟨R, 0, none⟩) near.length near.length) ∧ v.cell? ⟨w.heap.size, 0, none⟩ = some (.int .i64 (a : Nat)) ∧ v.cell? ⟨w.heap.size, 1, none⟩ = some (.int .i64 (b : Nat)))) (by kernel_rfl) ?hS29 (fun hHeld => ?_)
    case hS29 => (refine HS.out _ ?_; repeat (first | exact Off.refl _ _ | assumption | refine Off.drew ?_ | refine Off.alloc ?_ _ | refine off_put ?_ _ _))
    refine wpAnyH_take (i := 0) (oi := _) (v := ?v30) rfl (by kernel_rfl) (by kernel_rfl) (by kernel_rfl) (fun _ _ _ h => h) (Or.inl ⟨by rfl, ?hy30⟩) (by assumption) ?_
    case hy30 => (intro w hSw; (try dsimp only at hSw); go_simp; try with_reducible rfl)
    try simp only [Act.put, List.setIfInBounds_toArray, List.set_cons_zero, List.set_cons_succ]
    refine wpAnyH_take (i := 1) (oi := _) (v := ?v31) rfl (by kernel_rfl) (by kernel_rfl) (by kernel_rfl) (fun _ _ _ h => h) (Or.inl ⟨by rfl, ?hy31⟩) (by assumption) ?_
    case hy31 => (intro w hSw; (try dsimp only at hSw); go_simp; try with_reducible rfl)
    try simp only [Act.put, List.setIfInBounds_toArray, List.set_cons_zero, List.set_cons_succ]
    refine wpAnyH_take (i := 2) (oi := _) (v := ?v32) rfl (by kernel_rfl) (by kernel_rfl) (by kernel_rfl) (fun _ _ _ h => h) (Or.inl ⟨by rfl, ?hy32⟩) (by assumption) ?_
    case hy32 => (intro w hSw; (try dsimp only at hSw); go_simp; try with_reducible rfl)
    try simp only [Act.put, List.setIfInBounds_toArray, List.set_cons_zero, List.set_cons_succ]
    refine wpAnyH_take (i := 3) (oi := _) (v := ?v33) rfl (by kernel_rfl) (by kernel_rfl) (by kernel_rfl) (fun _ _ _ h => h) (Or.inl ⟨by rfl, ?hy33⟩) (by assumption) ?_
    case hy33 => (intro w hSw; (try dsimp only at hSw); go_simp; try with_reducible rfl)
    try simp only [Act.put, List.setIfInBounds_toArray, List.set_cons_zero, List.set_cons_succ]
    refine wpAnyH_take (i := 4) (oi := _) (v := ?v34) rfl (by kernel_rfl) (by kernel_rfl) (by kernel_rfl) (fun _ _ _ h => h) (Or.inl ⟨by rfl, ?hy34⟩) (by assumption) ?_
    case hy34 => (intro w hSw; (try dsimp only at hSw); go_simp; try with_reducible rfl)
    try simp only [Act.put, List.setIfInBounds_toArray, List.set_cons_zero, List.set_cons_succ]
    refine wpAnyH_take (i := 5) (oi := _) (v := ?v35) rfl (by kernel_rfl) (by kernel_rfl) (by kernel_rfl) (fun _ _ _ h => h) (Or.inl ⟨by rfl, ?hy35⟩) (by assumption) ?_
    case hy35 => (intro w hSw; (try dsimp only at hSw); go_simp; try with_reducible rfl)
    try simp only [Act.put, List.setIfInBounds_toArray, List.set_cons_zero, List.set_cons_succ]
    refine wpAnyH_take (i := 6) (oi := _) (v := ?v36) rfl (by kernel_rfl) (by kernel_rfl) (by kernel_rfl) (fun _ _ _ h => h) (Or.inl ⟨by rfl, ?hy36⟩) (by assumption) ?_
    case hy36 => (intro w hSw; (try dsimp only at hSw); go_simp; try with_reducible rfl)
    try simp only [Act.put, List.setIfInBounds_toArray, List.set_cons_zero, List.set_cons_succ]
    refine wpAnyH_take (i := 7) (oi := _) (v := ?v37) rfl (by kernel_rfl) (by kernel_rfl) (by kernel_rfl) (fun _ _ _ h => h) (Or.inl ⟨by rfl, ?hy37⟩) (by assumption) ?_
    case hy37 => (intro w hSw; (try dsimp only at hSw); go_simp; try with_reducible rfl)
    try simp only [Act.put, List.setIfInBounds_toArray, List.set_cons_zero, List.set_cons_succ]
    refine wpAnyH_take (i := 8) (oi := _) (v := ?v38) rfl (by kernel_rfl) (by kernel_rfl) (by kernel_rfl) (fun _ _ _ h => h) (Or.inl ⟨by rfl, ?hy38⟩) (by assumption) ?_
    case hy38 => (intro w hSw; (try dsimp only at hSw); go_simp; try with_reducible rfl)
    try simp only [Act.put, List.setIfInBounds_toArray, List.set_cons_zero, List.set_cons_succ]
    refine wpAnyH_take (i := 9) (oi := _) (v := ?v39) rfl (by kernel_rfl) (by kernel_rfl) (by kernel_rfl) (fun _ _ _ h => h) (Or.inl ⟨by rfl, ?hy39⟩) (by assumption) ?_
    case hy39 => (intro w hSw; (try dsimp only at hSw); go_simp; try with_reducible rfl)
    try simp only [Act.put, List.setIfInBounds_toArray, List.set_cons_zero, List.set_cons_succ]
    refine wpAnyH_take (i := 10) (oi := _) (v := ?v40) rfl (by kernel_rfl) (by kernel_rfl) (by kernel_rfl) (fun _ _ _ h => h) (Or.inl ⟨by rfl, ?hy40⟩) (by assumption) ?_
    case hy40 => (intro w hSw; (try dsimp only at hSw); go_simp; try with_reducible rfl)
    try simp only [Act.put, List.setIfInBounds_toArray, List.set_cons_zero, List.set_cons_succ]
    refine wpAnyH_take (i := 11) (oi := _) (v := ?v41) rfl (by kernel_rfl) (by kernel_rfl) (by kernel_rfl) (fun _ _ _ h => h) (Or.inl ⟨by rfl, ?hy41⟩) (by assumption) ?_
    case hy41 => (intro w hSw; (try dsimp only at hSw); go_simp; try with_reducible rfl)
    try simp only [Act.put, List.setIfInBounds_toArray, List.set_cons_zero, List.set_cons_succ]
    refine wpAnyH_take (i := 12) (oi := _) (v := ?v42) rfl (by kernel_rfl) (by kernel_rfl) (by kernel_rfl) (fun _ _ _ h => h) (Or.inl ⟨by rfl, ?hy42⟩) (by assumption) ?_
    case hy42 => (intro w hSw; (try dsimp only at hSw); go_simp; try with_reducible rfl)
    try simp only [Act.put, List.setIfInBounds_toArray, List.set_cons_zero, List.set_cons_succ]
    refine wpAnyH_take (i := 14) (oi := _) (v := ?v43) rfl (by kernel_rfl) (by kernel_rfl) (by kernel_rfl) (fun _ _ _ h => h) (Or.inl ⟨by rfl, ?hy43⟩) (by assumption) ?_
    case hy43 => (intro w hSw; (try dsimp only at hSw); go_simp; try with_reducible rfl)
    try simp only [Act.put, List.setIfInBounds_toArray, List.set_cons_zero, List.set_cons_succ]
    refine wpAnyH_take (i := 15) (oi := _) (v := ?v44) rfl (by kernel_rfl) (by kernel_rfl) (by kernel_rfl) (fun _ _ _ h => h) (Or.inl ⟨by rfl, ?hy44⟩) (by assumption) ?_
    case hy44 => (intro w hSw; (try dsimp only at hSw); go_simp; try with_reducible rfl)
    try simp only [Act.put, List.setIfInBounds_toArray, List.set_cons_zero, List.set_cons_succ]
    refine wpAnyH_ready (rs := [13, 16]) (by kernel_rfl) (by simp) ?_
    refine AllReadyH.cons (o := _) rfl (fun K hK => ?_) (AllReadyH.cons (o := _) rfl (fun K hK => ?_) AllReadyH.nil)
    go_simp
    refine hK.out _ _ ?hS45 (fun hHeld => ?_)
    case hS45 => (refine HS.out _ ?_; repeat (first | exact Off.refl _ _ | assumption | refine Off.drew ?_ | refine Off.alloc ?_ _ | refine off_put ?_ _ _))
    clear hK K
    try simp only [Act.put, List.setIfInBounds_toArray, List.set_cons_zero, List.set_cons_succ]
    refine wpAnyH_ready (rs := [16]) (by kernel_rfl) (by simp) ?_
    refine AllReadyH.cons (o := _) rfl (fun K hK => ?_) AllReadyH.nil
    go_simp
    refine hK.out _ _ ?hS46 (fun hHeld => ?_)
    case hS46 => (refine HS.out _ ?_; repeat (first | exact Off.refl _ _ | assumption | refine Off.drew ?_ | refine Off.alloc ?_ _ | refine off_put ?_ _ _))
    clear hK K
    try simp only [Act.put, List.setIfInBounds_toArray, List.set_cons_zero, List.set_cons_succ]
    refine wpAnyH_ready (rs := [17]) (by kernel_rfl) (by simp) ?_
    refine AllReadyH.cons (o := _) rfl (fun K hK => ?_) AllReadyH.nil
    go_simp
    go_at_call 54
    refine (with_one t a _ ht64 (by omega) _ ?hc47).mono ?_
    case hc47 => go_simp
    rintro e w' ⟨rfl, h⟩
    rw [h]
    clear h w'
    try dsimp only
    refine hK.out _ _ ?hS48 (fun hHeld => ?_)
    case hS48 => (refine HS.out _ ?_; repeat (first | exact Off.refl _ _ | assumption | refine Off.drew ?_ | refine Off.alloc ?_ _ | refine off_put ?_ _ _))
    clear hK K
    try simp only [Act.put, List.setIfInBounds_toArray, List.set_cons_zero, List.set_cons_succ]
    refine wpAnyH_take (i := 18) (oi := _) (v := ?v49) rfl (by kernel_rfl) (by kernel_rfl) (by kernel_rfl) (fun _ _ _ h => h) (Or.inl ⟨by rfl, ?hy49⟩) (by assumption) ?_
    case hy49 => (intro w hSw; (try dsimp only at hSw); go_simp; try with_reducible rfl)
    try simp only [Act.put, List.setIfInBounds_toArray, List.set_cons_zero, List.set_cons_succ]
    refine wpAnyH_ready (rs := [19]) (by kernel_rfl) (by simp) ?_
    refine AllReadyH.cons (o := _) rfl (fun K hK => ?_) AllReadyH.nil
    go_simp
    refine hK.out _ _ ?hS50 (fun hHeld => ?_)
    case hS50 => (refine HS.out _ ?_; repeat (first | exact Off.refl _ _ | assumption | refine Off.drew ?_ | refine Off.alloc ?_ _ | refine off_put ?_ _ _))
    clear hK K
    try simp only [Act.put, List.setIfInBounds_toArray, List.set_cons_zero, List.set_cons_succ]
    refine wpAnyH_done (by kernel_rfl) ?_ _
    rotate_left
    go_simp
    refine hK.out _ _ ?hS51 (fun hHeld => ?_)
    case hS51 => (refine HS.out _ ?_; repeat (first | exact Off.refl _ _ | assumption | refine Off.drew ?_ | refine Off.alloc ?_ _ | refine off_put ?_ _ _))
    clear hK K
    try simp only [Act.put, List.setIfInBounds_toArray, List.set_cons_zero, List.set_cons_succ]
    refine wpAnyH_ready (rs := [13]) (by kernel_rfl) (by simp) ?_
    refine AllReadyH.cons (o := _) rfl (fun K hK => ?_) AllReadyH.nil
    go_simp
    refine hK.out _ _ ?hS52 (fun hHeld => ?_)
    case hS52 => (refine HS.out _ ?_; repeat (first | exact Off.refl _ _ | assumption | refine Off.drew ?_ | refine Off.alloc ?_ _ | refine off_put ?_ _ _))
    clear hK K
    try simp only [Act.put, List.setIfInBounds_toArray, List.set_cons_zero, List.set_cons_succ]
    refine wpAnyH_ready (rs := [17]) (by kernel_rfl) (by simp) ?_
    refine AllReadyH.cons (o := _) rfl (fun K hK => ?_) AllReadyH.nil
    go_simp
    go_at_call 54
    refine (with_one t a _ ht64 (by omega) _ ?hc53).mono ?_
    case hc53 => go_simp
    rintro e w' ⟨rfl, h⟩
    rw [h]
    clear h w'
    try dsimp only
    refine hK.out _ _ ?hS54 (fun hHeld => ?_)
    case hS54 => (refine HS.out _ ?_; repeat (first | exact Off.refl _ _ | assumption | refine Off.drew ?_ | refine Off.alloc ?_ _ | refine off_put ?_ _ _))
    clear hK K
    try simp only [Act.put, List.setIfInBounds_toArray, List.set_cons_zero, List.set_cons_succ]
    refine wpAnyH_take (i := 18) (oi := _) (v := ?v55) rfl (by kernel_rfl) (by kernel_rfl) (by kernel_rfl) (fun _ _ _ h => h) (Or.inl ⟨by rfl, ?hy55⟩) (by assumption) ?_
    case hy55 => (intro w hSw; (try dsimp only at hSw); go_simp; try with_reducible rfl)
    try simp only [Act.put, List.setIfInBounds_toArray, List.set_cons_zero, List.set_cons_succ]
    refine wpAnyH_ready (rs := [19]) (by kernel_rfl) (by simp) ?_
    refine AllReadyH.cons (o := _) rfl (fun K hK => ?_) AllReadyH.nil
    go_simp
    refine hK.out _ _ ?hS56 (fun hHeld => ?_)
    case hS56 => (refine HS.out _ ?_; repeat (first | exact Off.refl _ _ | assumption | refine Off.drew ?_ | refine Off.alloc ?_ _ | refine off_put ?_ _ _))
    clear hK K
    try simp only [Act.put, List.setIfInBounds_toArray, List.set_cons_zero, List.set_cons_succ]
    refine wpAnyH_done (by kernel_rfl) ?_ _
    all_goals
      generalize hV3 : World.drew _ = V3
      have o3 : Off (fun k => k = R) V2 V3 := by rw [← hV3]; exact Off.drew (Off.alloc (off_put (Off.refl _ _) _ _) _)
      have g3 : GraphAt V3 G R ((near.set a (s ||| 2 ^ b)).set b (t ||| 2 ^ a)) := by rw [← hV3]; exact (Hg2.out.put b _ (or_lt ht64 (by omega))).off (Off.drew (Off.alloc (Off.refl (fun _ => False) _) _)) id id
      clear hV3
      go_wp2_with fail
      go_end0
      exact ⟨rfl, g3, ofV.none.trans (Ho2.out.trans o3)⟩
end Go.Proofs.YtmbblhajbecomaaDoor.Graph
