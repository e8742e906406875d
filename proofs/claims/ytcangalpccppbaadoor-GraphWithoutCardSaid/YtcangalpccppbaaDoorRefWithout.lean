/- The document's graph without the links of some nodes, walked. -/
import Derived.Test.YtcangalpccppbaaDoorHasList
import Derived.Test.YtcangalpccppbaaDoorRefNew
namespace Go.Proofs.YtcangalpccppbaaDoor.Graph
open Go.RowKit
open Go.Proofs.YtcangalpccppbaaDoor.RF Go.Proofs.YtcangalpccppbaaDoor.Heap Go.Proofs.YtcangalpccppbaaDoor.Nodes Go.Proofs.YtcangalpccppbaaDoor.Seen
set_option linter.unusedVariables false
set_option linter.unusedSimpArgs false

theorem own_ge {w : World} {base : Nat} {e : TypeId} {s n : Nat} {v : Value} {xs : List Value} (h : w.ownsRow base e s v n xs) {b : Nat} (hb : some b = v.ownBlock) : base ≤ b := by
  rcases h.2 with ⟨rfl, _⟩ | ⟨g, cap, cur, rfl, hbg, _⟩
  · simp [Value.ownBlock] at hb
  · simp only [Value.ownBlock, Option.some.injEq] at hb; omega
theorem IntsAt.below {w w' : World} {v : Value} {xs : List Int} (h : IntsAt w v xs) (k : Below w.heap.size w w') : IntsAt w' v xs := by
  obtain ⟨a, c, h1, h2⟩ := h
  refine ⟨a, c, h1, fun j x hx => ?_⟩
  obtain ⟨b, e1, e2⟩ := h2 j x hx
  exact ⟨b, e1, (k.cell (p := ⟨b, j, none⟩) (World.block_lt_of_cell? w ⟨b, j, none⟩ e2)).trans e2⟩
set_option maxRecDepth 100000 in
set_option maxHeartbeats 8000000 in
theorem refwithout_any (n : Nat) (v ov : Value) (L : List (Int × Int)) (xs : List Int) (w : World) (hp : PairsAt w v L) (ho : IntsAt w ov xs) (hlen : L.length ≤ 65536) (hxl : xs.length ≤ 65536) :
    Calls Tryd.prog 25 #[.agg #[.int .i64 n, v], ov] w fun e w' => ∃ v', e = .returned (.agg #[.int .i64 n, v']) ∧ PairsAt w' v' (L.filter (keepP xs)) ∧ Below w.heap.size w w' := by
  obtain ⟨i0, hi0, hz⟩ := Option.map_eq_some_iff.1 infoP
  simp only [Prod.mk.injEq] at hz
  obtain ⟨hz0, hz1, hz2⟩ := hz
  obtain ⟨la, lcap, rfl, hcell⟩ := hp.1
  have hwf := hp.2
  obtain ⟨oa, oc, rfl, hoc⟩ := ho
  have Hi0 := Lib.hid hi0
  have Hz0 := Lib.hid hz0
  have Hz1 := Lib.hid hz1
  have Hz2 := Lib.hid hz2
  clear hi0 hz0 hz1 hz2 hp
  obtain ⟨V, hV⟩ : ∃ V, ((w.alloc (.cells #[.int .i64 (n : Nat), .slice la L.length lcap] 29)).alloc (.cells #[.int .i64 0, .slice none 0 0] 29)).alloc (.cells #[.int .i64 (n : Nat), .slice none 0 0] 29) = V := ⟨_, rfl⟩
  have z1 : (w.alloc (.cells #[.int .i64 (n : Nat), .slice la L.length lcap] 29)).heap.size = w.heap.size + 1 := by simp
  have z2 : ((w.alloc (.cells #[.int .i64 (n : Nat), .slice la L.length lcap] 29)).alloc (.cells #[.int .i64 0, .slice none 0 0] 29)).heap.size = w.heap.size + 2 := by simp
  have bA0 : Blk V w.heap.size 29 #[.int .i64 (n : Nat), .slice la L.length lcap] := by rw [← hV]; exact ((Blk.new w _ _).alloc _).alloc _
  have bA1 : Blk V (w.heap.size + 1) 29 #[.int .i64 0, .slice none 0 0] := by
    rw [← hV]
    have := Blk.new (w.alloc (.cells #[.int .i64 (n : Nat), .slice la L.length lcap] 29)) 29 #[.int .i64 0, .slice none 0 0]
    rw [z1] at this
    exact this.alloc _
  have bA2 : Blk V (w.heap.size + 2) 29 #[.int .i64 (n : Nat), .slice none 0 0] := by
    rw [← hV]
    have := Blk.new ((w.alloc (.cells #[.int .i64 (n : Nat), .slice la L.length lcap] 29)).alloc (.cells #[.int .i64 0, .slice none 0 0] 29)) 29 #[.int .i64 (n : Nat), .slice none 0 0]
    rwa [z2] at this
  have lV : Below w.heap.size w V := by rw [← hV]; exact (((Below.refl _ w).alloc (Nat.le_refl _) _).alloc (by simp) _).alloc (by simp; omega) _
  have HV := Lib.hid hV
  clear hV z1 z2
  go_enter Tryd.func25, Tryd.ntmps25
  go_wp2_with fail
  rw [HV.out]
  clear HV
  go_loopw [6] (fun v6 wr => ∃ (k : Nat) (vl : Value), v6 = .int .i64 k ∧ k ≤ L.length ∧ Blk wr w.heap.size 29 #[.int .i64 (n : Nat), .slice la L.length lcap] ∧ Blk wr (w.heap.size + 1) 29 #[.int .i64 0, .slice none 0 0] ∧ Blk wr (w.heap.size + 2) 29 #[.int .i64 (n : Nat), vl] ∧ RowKit.Hid (wr.ownsRow w.heap.size 41 2 vl ((L.take k).filter (keepP xs)).length (pcI ((L.take k).filter (keepP xs)))) ∧ Below w.heap.size w wr) (fun v6 _ => match v6 with | .int _ k => L.length - k.toNat | _ => 0)
  case atStart => exact ⟨0, _, rfl, Nat.zero_le _, bA0, bA1, bA2, Lib.hid (World.ownsRow_nil _ _ _ _), lV⟩
  case round =>
    clear bA0 bA1 bA2 lV
    obtain ⟨k, vl, rfl, hk, bA0, bA1, bA2, own, lR⟩ := hrel
    obtain ⟨m, hm⟩ : ∃ m, ((L.take k).filter (keepP xs)).length = m := ⟨_, rfl⟩
    have hmk : m ≤ k := by
      have := List.length_filter_le (keepP xs) (L.take k)
      rw [hm, List.length_take] at this; omega
    rw [hm] at own
    obtain ⟨sa, sc, hvl⟩ : ∃ a c, vl = .slice a m c := by
      rcases own.out.2 with ⟨h1, h2⟩ | ⟨g, c, cur, h1, _⟩
      · exact ⟨none, 0, by rw [h1, h2]⟩
      · exact ⟨_, c, h1⟩
    have c01 := bA0.cell 1
    simp at c01
    by_cases hlt : k < L.length
    · obtain ⟨p, hpk⟩ : ∃ p, L[k]? = some p := ⟨_, List.getElem?_eq_getElem hlt⟩
      obtain ⟨g, rfl, hb, c0, c1⟩ := hcell k p hpk
      have d0 := (lR.cell (p := ⟨g, k * 2, none⟩) hb).trans c0
      have d1 := (lR.cell (p := ⟨g, k * 2 + 1, none⟩) hb).trans c1
      have l3 : (0 : Int) ≤ (k : Int) := by omega
      have l4 : (k : Int) < (L.length : Int) := by omega
      have l5 : (k : Int) ≤ 65535 := by omega
      have htk : (L.take (k + 1)).filter (keepP xs) = (L.take k).filter (keepP xs) ++ if keepP xs p = true then [p] else [] := by
        rw [List.take_add_one, hpk, List.filter_append]
        congr 1
        cases h : keepP xs p <;> simp [h]
      obtain ⟨x, y⟩ := p
      simp only at d0 d1
      have Htk := Lib.hid htk
      have hoR : ∀ (j : Nat) (z : Int), xs[j]? = some z → ∃ b, oa = some ⟨b, 0, none⟩ ∧ wr.cell? ⟨b, j, none⟩ = some (.int .i64 z) := fun j z hz => by
        obtain ⟨b, e1, e2⟩ := hoc j z hz
        exact ⟨b, e1, (lR.cell (p := ⟨b, j, none⟩) (World.block_lt_of_cell? w ⟨b, j, none⟩ e2)).trans e2⟩
      have HoR := Lib.hid hoR
      have Hm := Lib.hid hm
      clear c0 c1 hcell hpk htk hoR hm
      go_wp2_with fail
      obtain ⟨Wo, hWo⟩ : ∃ Wo, Wo = wr := ⟨_, rfl⟩
      subst hWo
      go_loopw [7, 8] (fun v7 v8 wq => ∃ (j : Nat) (b : Bool), v7 = .bool b ∧ v8 = .int .i64 j ∧ j ≤ xs.length ∧ RowKit.Hid (b = keepP (xs.take j) (x, y)) ∧ RowKit.Hid (Off (fun _ => False) Wo wq)) (fun _ v8 _ => match v8 with | .int _ j => xs.length - j.toNat | _ => 0)
      case atStart => exact ⟨0, true, rfl, rfl, Nat.zero_le _, Lib.hid (by simp [keepP]), Lib.hid (Off.refl _ _)⟩
      case round =>
        obtain ⟨j, b, rfl, rfl, hj, hbk, Hof⟩ := hrel
        have bX0 := bA0.off Hof.out id
        have cX := bX0.cell 1
        simp at cX
        have zo := bA2.lt
        have dX0 := (Hof.out.cell (p := ⟨g, k * 2, none⟩) (by have := lR.size; show g < Wo.heap.size; omega) id).trans d0
        have dX1 := (Hof.out.cell (p := ⟨g, k * 2 + 1, none⟩) (by have := lR.size; show g < Wo.heap.size; omega) id).trans d1
        by_cases hlj : j < xs.length
        · obtain ⟨z, hz⟩ : ∃ z, xs[j]? = some z := ⟨_, List.getElem?_eq_getElem hlj⟩
          obtain ⟨ob, rfl, oz⟩ := HoR.out j z hz
          have dz := (Hof.out.cell (p := ⟨ob, j, none⟩) (World.block_lt_of_cell? Wo ⟨ob, j, none⟩ oz) id).trans oz
          have m3 : (0 : Int) ≤ (j : Int) := by omega
          have m4 : (j : Int) < (xs.length : Int) := by omega
          have m5 : (j : Int) ≤ 65535 := by omega
          have hk1 : keepP (xs.take (j + 1)) (x, y) = (b && (x != z && y != z)) := by
            rw [List.take_add_one, hz, hbk.out]
            exact keepP_snoc _ _ _
          have Hk1 := Lib.hid hk1
          clear hz oz hk1 c01 d0 d1
          rcases hbv : b with _ | _ <;> rcases e1 : x != z with _ | _ <;> rcases e2 : y != z with _ | _
          all_goals
            have Hk2 := Lib.hid (show _ = keepP (xs.take (j + 1)) (x, y) from by rw [Hk1.out, hbv, e1, e2])
            subst hbv
            clear Hk1
            go_wp2_with fail
            go_quiet (fail)
            go_wp2_with fail
            go_round
            case rel => exact ⟨j + 1, _, rfl, rfl, hlj, Hk2, Lib.hid (Off.drewN Hof.out _)⟩
            case measure => simp; omega
        · obtain rfl : j = xs.length := by omega
          rw [List.take_length] at hbk
          have bX1 := bA1.off Hof.out id
          have bX2 := bA2.off Hof.out id
          have ownX := Lib.hid (own_off own.out Hof.out (fun _ _ => id))
          have lX := lR.trans (⟨Hof.out.os, Hof.out.tape, Hof.out.output, Hof.out.size, fun i hi => Hof.out.block i (by have := lR.size; omega) id⟩ : Below w.heap.size Wo wr)
          rcases hbv : b with _ | _
          · subst hbv
            have hm2 := Htk.out
            rw [← hbk.out, if_neg (by decide), List.append_nil] at hm2
            have Hm2 := Lib.hid hm2
            clear hm2
            go_wp2_with fail
            go_round
            case rel => exact ⟨k + 1, vl, rfl, hlt, bX0, bX1, bX2, by rw [Hm2.out, Hm.out]; exact ownX, lX⟩
            case measure => simp; omega
          · subst hbv
            have hm2 := Htk.out
            rw [← hbk.out, if_pos rfl] at hm2
            have Hm2 := Lib.hid hm2
            clear hm2
            obtain ⟨X, hX⟩ : ∃ X, X = wr := ⟨_, rfl⟩
            subst hX
            subst hvl
            obtain ⟨vl, hvl⟩ : ∃ vl, Value.slice sa m sc = vl := ⟨_, rfl⟩
            have bA2X := bX2
            have cB1 := bX2.cell 1
            have zX := bX2.lt
            simp at cB1
            rw [hvl] at bA2X ownX
            have hne0 : ¬ (w.heap.size = w.heap.size + 2 ∨ some w.heap.size = vl.ownBlock) := fun c => by
              rcases c with c | c
              · omega
              · exact own_free ownX.out bX0 (by decide) c
            have hne1 : ¬ (w.heap.size + 1 = w.heap.size + 2 ∨ some (w.heap.size + 1) = vl.ownBlock) := fun c => by
              rcases c with c | c
              · omega
              · exact own_free ownX.out bX1 (by decide) c
            have hneg : ¬ (g = w.heap.size + 2 ∨ some g = vl.ownBlock) := fun c => by
              rcases c with c | c
              · omega
              · have := own_ge ownX.out c; omega
            have gX : g < X.heap.size := by omega
            have HS : ∀ v, Off (fun j => j = w.heap.size + 2 ∨ some j = vl.ownBlock) X v → (Off (fun j => j = w.heap.size + 2 ∨ some j = vl.ownBlock) X v ∧ v.cell? ⟨w.heap.size, 1, none⟩ = some (.slice (some ⟨g, 0, none⟩) L.length lcap) ∧ v.cell? ⟨g, k * 2, none⟩ = some (.int .i64 x) ∧ v.cell? ⟨g, k * 2 + 1, none⟩ = some (.int .i64 y)) := fun v hv => by
              refine ⟨hv, ?_, (hv.cell (p := ⟨g, k * 2, none⟩) gX hneg).trans dX0, (hv.cell (p := ⟨g, k * 2 + 1, none⟩) gX hneg).trans dX1⟩
              have := (bX0.off hv hne0).cell 1
              simpa using this
            replace HS := Lib.hid HS
            have hl := lX.size
            clear c01 d0 d1
            go_wp2_with fail
            refine wp_region_held_drew (S := (fun v => Off (fun j => j = w.heap.size + 2 ∨ some j = vl.ownBlock) X v ∧ v.cell? ⟨w.heap.size, 1, none⟩ = some (.slice (some ⟨g, 0, none⟩) L.length lcap) ∧ v.cell? ⟨g, k * 2, none⟩ = some (.int .i64 x) ∧ v.cell? ⟨g, k * 2 + 1, none⟩ = some (.int .i64 y))) (by kernel_rfl) ?hS0 (fun hHeld => ?_)
            case hS0 => (refine HS.out _ ?_; exact Off.drew (Off.refl _ _))
            refine wpAnyH_take (i := 0) (oi := _) (v := ?v1) rfl (by kernel_rfl) (by kernel_rfl) (by kernel_rfl) (fun _ _ _ h => h) (Or.inl ⟨by rfl, ?hy1⟩) (by assumption) ?_
            case hy1 => (intro w hSw; (try dsimp only at hSw); go_simp; try with_reducible rfl)
            try simp only [Act.put, List.setIfInBounds_toArray, List.set_cons_zero, List.set_cons_succ]
            refine wpAnyH_take (i := 2) (oi := _) (v := ?v2) rfl (by kernel_rfl) (by kernel_rfl) (by kernel_rfl) (fun _ _ _ h => h) (Or.inl ⟨by rfl, ?hy2⟩) (by assumption) ?_
            case hy2 => (intro w hSw; (try dsimp only at hSw); go_simp; try with_reducible rfl)
            try simp only [Act.put, List.setIfInBounds_toArray, List.set_cons_zero, List.set_cons_succ]
            refine wpAnyH_take (i := 3) (oi := _) (v := ?v3) rfl (by kernel_rfl) (by kernel_rfl) (by kernel_rfl) (fun _ _ _ h => h) (Or.inl ⟨by rfl, ?hy3⟩) (by assumption) ?_
            case hy3 => (intro w hSw; (try dsimp only at hSw); go_simp; try with_reducible rfl)
            try simp only [Act.put, List.setIfInBounds_toArray, List.set_cons_zero, List.set_cons_succ]
            refine wpAnyH_take (i := 4) (oi := _) (v := ?v4) rfl (by kernel_rfl) (by kernel_rfl) (by kernel_rfl) (fun _ _ _ h => h) (Or.inl ⟨by rfl, ?hy4⟩) (by assumption) ?_
            case hy4 => (intro w hSw; (try dsimp only at hSw); go_simp; try with_reducible rfl)
            try simp only [Act.put, List.setIfInBounds_toArray, List.set_cons_zero, List.set_cons_succ]
            refine wpAnyH_take (i := 5) (oi := _) (v := ?v5) rfl (by kernel_rfl) (by kernel_rfl) (by kernel_rfl) (fun _ _ _ h => h) (Or.inl ⟨by rfl, ?hy5⟩) (by assumption) ?_
            case hy5 => (intro w hSw; (try dsimp only at hSw); go_simp; try with_reducible rfl)
            try simp only [Act.put, List.setIfInBounds_toArray, List.set_cons_zero, List.set_cons_succ]
            refine wpAnyH_take (i := 6) (oi := _) (v := ?v6) rfl (by kernel_rfl) (by kernel_rfl) (by kernel_rfl) (fun _ _ _ h => h) (Or.inl ⟨by rfl, ?hy6⟩) (by assumption) ?_
            case hy6 => (intro w hSw; (try dsimp only at hSw); go_simp; try with_reducible rfl)
            try simp only [Act.put, List.setIfInBounds_toArray, List.set_cons_zero, List.set_cons_succ]
            refine wpAnyH_ready (rs := [1, 7]) (by kernel_rfl) (by simp) ?_
            refine AllReadyH.cons (o := _) rfl (fun K hK => ?_) (AllReadyH.cons (o := _) rfl (fun K hK => ?_) AllReadyH.nil)
            go_simp
            refine hK.out _ _ ?hS7 (fun hHeld => ?_)
            case hS7 => (refine HS.out _ ?_; repeat (first | exact Off.refl _ _ | assumption | exact HO5 | refine Off.drew ?_ | refine Off.alloc ?_ _ | refine Off.setCell (p := ⟨w.heap.size + 2, 1, none⟩) ?_ (.inl (.inl rfl)) _))
            clear hK K
            try simp only [Act.put, List.setIfInBounds_toArray, List.set_cons_zero, List.set_cons_succ]
            refine wpAnyH_ready (rs := [7]) (by kernel_rfl) (by simp) ?_
            refine AllReadyH.cons (o := _) rfl (fun K hK => ?_) AllReadyH.nil
            go_simp
            refine hK.out _ _ ?hS8 (fun hHeld => ?_)
            case hS8 => (refine HS.out _ ?_; repeat (first | exact Off.refl _ _ | assumption | exact HO5 | refine Off.drew ?_ | refine Off.alloc ?_ _ | refine Off.setCell (p := ⟨w.heap.size + 2, 1, none⟩) ?_ (.inl (.inl rfl)) _))
            clear hK K
            try simp only [Act.put, List.setIfInBounds_toArray, List.set_cons_zero, List.set_cons_succ]
            refine wpAnyH_ready (rs := [8]) (by kernel_rfl) (by simp) ?_
            refine AllReadyH.cons (o := _) rfl (fun K hK => ?_) AllReadyH.nil
            rw [if_pos (by rfl)]
            refine wp_append_own _ _ _ 22 rfl w.heap.size 41 i0 _ 2 16 Tryd.underlying22 Hi0.out Hz0.out Hz1.out Hz2.out rfl (by decide) _ _ _ rfl (own_drew (ownX.out.alloc _)) ⟨X.heap.size, 0, none⟩ 1 1 [.int .i64 x, .int .i64 y] rfl rfl (World.news_of_block (cs := #[.int .i64 x, .int .i64 y]) (t := 41) (fr := (0, 0)) (show ((X.alloc (.cells #[.int .i64 x, .int .i64 y] 41)).drew).heap[X.heap.size]? = _ from heap_alloc_new X _)) (by simp [Value.oneCell']) (by unfold maxLen; omega) (by omega) (by simp; omega) ?_
            intro v5 w5 own5 g5 _
            have HO5 : Off (fun j => j = w.heap.size + 2 ∨ some j = vl.ownBlock) X w5 := Off.grown (Off.drew (Off.alloc (Off.refl _ _) _)) g5 (fun j hj => .inl (.inr hj.symm))
            obtain ⟨gg, cap2, rfl⟩ := own_some own5 (by omega)
            have A5 := (blk_drew (bA2X.alloc _)).grown g5 (own_free ownX.out bA2X (by decide))
            have k5 := A5.cell 1
            have f5 := A5.frozen 1
            simp at k5
            refine hK.out _ _ ?hS9 (fun hHeld => ?_)
            case hS9 => (refine HS.out _ ?_; repeat (first | exact Off.refl _ _ | assumption | exact HO5 | refine Off.drew ?_ | refine Off.alloc ?_ _ | refine Off.setCell (p := ⟨w.heap.size + 2, 1, none⟩) ?_ (.inl (.inl rfl)) _))
            clear hK K
            try simp only [Act.put, List.setIfInBounds_toArray, List.set_cons_zero, List.set_cons_succ]
            refine wpAnyH_take (i := 9) (oi := _) (v := ?v10) rfl (by kernel_rfl) (by kernel_rfl) (by kernel_rfl) (fun _ _ _ h => h) (Or.inl ⟨by rfl, ?hy10⟩) (by assumption) ?_
            case hy10 => (intro w hSw; (try dsimp only at hSw); go_simp; try with_reducible rfl)
            try simp only [Act.put, List.setIfInBounds_toArray, List.set_cons_zero, List.set_cons_succ]
            refine wpAnyH_ready (rs := [10]) (by kernel_rfl) (by simp) ?_
            refine AllReadyH.cons (o := _) rfl (fun K hK => ?_) AllReadyH.nil
            go_simp
            refine hK.out _ _ ?hS11 (fun hHeld => ?_)
            case hS11 => (refine HS.out _ ?_; repeat (first | exact Off.refl _ _ | assumption | exact HO5 | refine Off.drew ?_ | refine Off.alloc ?_ _ | refine Off.setCell (p := ⟨w.heap.size + 2, 1, none⟩) ?_ (.inl (.inl rfl)) _))
            clear hK K
            try simp only [Act.put, List.setIfInBounds_toArray, List.set_cons_zero, List.set_cons_succ]
            refine wpAnyH_done (by kernel_rfl) ?_ _
            rotate_left
            go_simp
            refine hK.out _ _ ?hS12 (fun hHeld => ?_)
            case hS12 => (refine HS.out _ ?_; repeat (first | exact Off.refl _ _ | assumption | exact HO5 | refine Off.drew ?_ | refine Off.alloc ?_ _ | refine Off.setCell (p := ⟨w.heap.size + 2, 1, none⟩) ?_ (.inl (.inl rfl)) _))
            clear hK K
            try simp only [Act.put, List.setIfInBounds_toArray, List.set_cons_zero, List.set_cons_succ]
            refine wpAnyH_ready (rs := [1]) (by kernel_rfl) (by simp) ?_
            refine AllReadyH.cons (o := _) rfl (fun K hK => ?_) AllReadyH.nil
            go_simp
            refine hK.out _ _ ?hS13 (fun hHeld => ?_)
            case hS13 => (refine HS.out _ ?_; repeat (first | exact Off.refl _ _ | assumption | exact HO5 | refine Off.drew ?_ | refine Off.alloc ?_ _ | refine Off.setCell (p := ⟨w.heap.size + 2, 1, none⟩) ?_ (.inl (.inl rfl)) _))
            clear hK K
            try simp only [Act.put, List.setIfInBounds_toArray, List.set_cons_zero, List.set_cons_succ]
            refine wpAnyH_ready (rs := [8]) (by kernel_rfl) (by simp) ?_
            refine AllReadyH.cons (o := _) rfl (fun K hK => ?_) AllReadyH.nil
            rw [if_pos (by rfl)]
            refine wp_append_own _ _ _ 22 rfl w.heap.size 41 i0 _ 2 16 Tryd.underlying22 Hi0.out Hz0.out Hz1.out Hz2.out rfl (by decide) _ _ _ rfl (own_drew (ownX.out.alloc _)) ⟨X.heap.size, 0, none⟩ 1 1 [.int .i64 x, .int .i64 y] rfl rfl (World.news_of_block (cs := #[.int .i64 x, .int .i64 y]) (t := 41) (fr := (0, 0)) (show ((X.alloc (.cells #[.int .i64 x, .int .i64 y] 41)).drew).heap[X.heap.size]? = _ from heap_alloc_new X _)) (by simp [Value.oneCell']) (by unfold maxLen; omega) (by omega) (by simp; omega) ?_
            intro v5 w5 own5 g5 _
            have HO5 : Off (fun j => j = w.heap.size + 2 ∨ some j = vl.ownBlock) X w5 := Off.grown (Off.drew (Off.alloc (Off.refl _ _) _)) g5 (fun j hj => .inl (.inr hj.symm))
            obtain ⟨gg, cap2, rfl⟩ := own_some own5 (by omega)
            have A5 := (blk_drew (bA2X.alloc _)).grown g5 (own_free ownX.out bA2X (by decide))
            have k5 := A5.cell 1
            have f5 := A5.frozen 1
            simp at k5
            refine hK.out _ _ ?hS14 (fun hHeld => ?_)
            case hS14 => (refine HS.out _ ?_; repeat (first | exact Off.refl _ _ | assumption | exact HO5 | refine Off.drew ?_ | refine Off.alloc ?_ _ | refine Off.setCell (p := ⟨w.heap.size + 2, 1, none⟩) ?_ (.inl (.inl rfl)) _))
            clear hK K
            try simp only [Act.put, List.setIfInBounds_toArray, List.set_cons_zero, List.set_cons_succ]
            refine wpAnyH_take (i := 9) (oi := _) (v := ?v15) rfl (by kernel_rfl) (by kernel_rfl) (by kernel_rfl) (fun _ _ _ h => h) (Or.inl ⟨by rfl, ?hy15⟩) (by assumption) ?_
            case hy15 => (intro w hSw; (try dsimp only at hSw); go_simp; try with_reducible rfl)
            try simp only [Act.put, List.setIfInBounds_toArray, List.set_cons_zero, List.set_cons_succ]
            refine wpAnyH_ready (rs := [10]) (by kernel_rfl) (by simp) ?_
            refine AllReadyH.cons (o := _) rfl (fun K hK => ?_) AllReadyH.nil
            go_simp
            refine hK.out _ _ ?hS16 (fun hHeld => ?_)
            case hS16 => (refine HS.out _ ?_; repeat (first | exact Off.refl _ _ | assumption | exact HO5 | refine Off.drew ?_ | refine Off.alloc ?_ _ | refine Off.setCell (p := ⟨w.heap.size + 2, 1, none⟩) ?_ (.inl (.inl rfl)) _))
            clear hK K
            try simp only [Act.put, List.setIfInBounds_toArray, List.set_cons_zero, List.set_cons_succ]
            refine wpAnyH_done (by kernel_rfl) ?_ _
            all_goals
              have B6 := A5.put 1 (.slice (some ⟨gg, 0, none⟩) (m + 1) cap2)
              simp at B6
              go_wp2_with fail
              go_round
              case rel => exact ⟨k + 1, _, rfl, hlt, ((blk_drew (bX0.alloc _)).grown g5 (own_free ownX.out bX0 (by decide))).far (by show w.heap.size ≠ w.heap.size + 2; omega) _, ((blk_drew (bX1.alloc _)).grown g5 (own_free ownX.out bX1 (by decide))).far (by show w.heap.size + 1 ≠ w.heap.size + 2; omega) _, B6, Lib.hid (by rw [Hm2.out, pcI_snoc, List.length_append, Hm.out]; exact own_off own5 (Off.setCell (p := ⟨w.heap.size + 2, 1, none⟩) (Off.refl (fun j => j = w.heap.size + 2) w5) (.inl rfl) _) (fun g hg c => own_free own5 A5 (by decide) (by rw [c] at hg; exact hg.symm))), (below_own (lX.alloc lX.size _).drew g5 (own_drew (ownX.out.alloc _)) (Nat.le_refl _) (Nat.le_refl _)).setCell (p := ⟨w.heap.size + 2, 1, none⟩) (by show w.heap.size ≤ w.heap.size + 2; omega) _⟩
              case measure => simp; omega
    · obtain rfl : k = L.length := by omega
      rw [List.take_length] at own hm
      subst hvl
      have cB0 := bA2.cell 0
      have cB1 := bA2.cell 1
      have cA0 := bA1.cell 0
      have cA1 := bA1.cell 1
      have fA0 := bA1.frozen 0
      have fA1 := bA1.frozen 1
      simp at cB0 cB1 cA0 cA1
      have hz := bA1.lt
      have Hm := Lib.hid hm
      clear hcell hoc hm
      go_wp2_with fail
      refine bodyPost_ret (results_cell (b := w.heap.size + 1) Tryd.results25 rfl (d := _) rfl (by kernel_rfl) (by kernel_rfl) (range2 (c0 := .int .i64 (n : Nat)) (c1 := .slice sa m sc) ?_ ?_)) rfl ?_
      · go_simp
      · go_simp
      · refine ⟨_, rfl, ?_, ?_⟩
        · refine own_pairs (own_off own.out (Off.setCell (p := ⟨w.heap.size + 1, 1, none⟩) (Off.setCell (p := ⟨w.heap.size + 1, 0, none⟩) (Off.refl (fun j => j = w.heap.size + 1) wr) (.inl rfl) _) (.inl rfl) _) (fun g hg c => own_free own.out bA1 (by decide) (by rw [c] at hg; exact hg.symm))) Hm.out (fun p hp => hwf p (List.mem_filter.1 hp).1)
        · exact (lR.setCell (p := ⟨w.heap.size + 1, 0, none⟩) (by show w.heap.size ≤ w.heap.size + 1; omega) _).setCell (p := ⟨w.heap.size + 1, 1, none⟩) (by show w.heap.size ≤ w.heap.size + 1; omega) _
end Go.Proofs.YtcangalpccppbaaDoor.Graph
