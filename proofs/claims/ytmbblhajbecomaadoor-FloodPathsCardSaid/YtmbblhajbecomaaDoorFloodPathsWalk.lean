/- FloodPaths: walked. -/
import Derived.Test.YtmbblhajbecomaaDoorFloodMap
namespace Go.Proofs.YtmbblhajbecomaaDoor.Flood
set_option maxRecDepth 100000
open Go.RowKit
open Go.Proofs.YtmbblhajbecomaaDoor.RF Go.Proofs.YtmbblhajbecomaaDoor.Heap Go.Proofs.YtmbblhajbecomaaDoor.Nodes Go.Proofs.YtmbblhajbecomaaDoor.Graph Go.Proofs.YtmbblhajbecomaaDoor.Reach
set_option linter.unusedVariables false
set_option linter.unusedSimpArgs false

/-- Does x come from y? -/
def fromB (dl : List (List Int)) (y x : Arr) : Bool := (y.node == x.frm) && ((x.hops == y.hops + 1) && (x.time == y.time + takesF dl y.node x.node))
def okTo (dl : List (List Int)) (r : List Arr) (x : Arr) (j : Nat) : Bool := (r.take j).any (fun y => fromB dl y x)
theorem okTo_succ {dl : List (List Int)} {r : List Arr} {x y : Arr} {j : Nat} (h : r[j]? = some y) : okTo dl r x (j + 1) = (okTo dl r x j || fromB dl y x) := by
  unfold okTo
  rw [List.take_add_one, h, List.any_append]
  simp
theorem okTo_yes {near mu : List Nat} {dl : List (List Int)} {src : Int} {r : List Arr} (hE : EI near mu dl src [] r) {x : Arr} {k : Nat} (hk : 1 ≤ k) (hx : r[k]? = some x) : okTo dl r x k = true := by
  obtain ⟨j, y, hj, hy, hf⟩ := hE.tail k x hk hx
  refine List.any_eq_true.2 ⟨y, ?_, ?_⟩
  · exact List.mem_of_getElem? (by rw [List.getElem?_take, if_pos hj]; exact hy)
  · simp [fromB, hf.node, hf.hops, hf.time]
theorem linkR_from {near mu : List Nat} {dl : List (List Int)} {src : Int} {n : Nat} {r : List Arr} (ok : Ok near) (hl : near.length = n) (hE : EI near mu dl src [] r) (hF : FInv n [] r) {x : Arr} {k : Nat} (hk : 1 ≤ k) (hx : r[k]? = some x) : linkR near x.frm x.node = true := by
  obtain ⟨j, y, hj, hy, hf⟩ := hE.tail k x hk hx
  have hyN := hF.outN y (mem_of_get hy)
  obtain ⟨b1, b2⟩ := hearsF_lt ok y _ hf.bit
  have hfew := ok.few
  obtain ⟨a, ha⟩ : ∃ a : Nat, y.node = a := ⟨y.node.toNat, by omega⟩
  have hp := hf.pos
  rw [ha, nearR_nat] at b2
  unfold linkR
  rw [← hf.node, ha, isN_nat, Int.toNat_natCast]
  have h1 : decide (a < near.length) = true := by simp; omega
  have h2 : hasR (near.getD a 0) x.node = true := by
    simp only [hasR, b2, Bool.and_true, Bool.and_eq_true, decide_eq_true_eq]
    omega
  rw [h1, h2]; rfl
set_option maxHeartbeats 8000000 in
theorem floodpaths_walk (w : World) (hT : Tab w) (n0 : Int) (la : Option Addr) (ln lc : Nat) (ls : List (Int × Int)) (hp : PairIn w la ln lc ls) (src : Int) (dl : List (List Int)) (mu : List Nat) (da ma : Option Addr) (dc mc : Nat) (hd : DelayAt w.heap.size w da dl) (hm : MuteAt w.heap.size w ma mu) (hmu : mu.length * 8 ≤ 140737488351232) :
    Calls Tryd.prog 10 #[.agg #[.int .i64 n0, .slice la ln lc, .int .i64 src, .slice da dl.length dc, .slice ma mu.length mc]] w fun e w' => e = .returned (.bool true) ∧ Below w.heap.size w w' := by
  obtain ⟨W, hW⟩ : ∃ W, w.alloc (.cells #[.int .i64 n0, .slice la ln lc, .int .i64 src, .slice da dl.length dc, .slice ma mu.length mc] 64) = W := ⟨_, rfl⟩
  have b0 : Blk W w.heap.size 64 #[.int .i64 n0, .slice la ln lc, .int .i64 src, .slice da dl.length dc, .slice ma mu.length mc] := by rw [← hW]; exact Blk.new w _ _
  have low : Below w.heap.size w W := by rw [← hW]; exact (Below.refl _ w).alloc (Nat.le_refl _) _
  have c0 := b0.cell 0
  have c1 := b0.cell 1
  have c2 := b0.cell 2
  have c3 := b0.cell 3
  have c4 := b0.cell 4
  simp at c0 c1 c2 c3 c4
  have hT1 := hT.below low hT.size
  have HRn := Lib.hid (lawrun_any W hT1 n0 la ln lc ls (hp.below low) src dl mu da ma dc mc ((hd.keep fun i hi => low.block i hi).mono low.size) ((hm.keep fun i hi => low.block i hi).mono low.size) hmu)
  have HW := Lib.hid hW
  have Low := Lib.hid low
  have Hd := Lib.hid hd
  have B0 := Lib.hid b0
  clear hW low hd hm hp
  go_enter Tryd.func10, Tryd.ntmps10
  go_upto_region 1 with (fail)
  rw [HW.out]
  clear HW
  go_upto_region 2 with (go_at_call 29; refine HRn.out.mono ?_; rintro e w2 ⟨m, G, R, near, L, ha, hc, v1, v2, r, rfl, m1, m2, hnl, hL, HMa, HG, HP, O1, O2, HF, HR, HL⟩)
  obtain ⟨a1, q1, rfl⟩ := own_form O1.out
  obtain ⟨a2, q2, rfl⟩ := own_form O2.out
  have hrl := HF.out.few
  have HE := Lib.hid HR.out.ei
  have lb0 := b0.lt
  clear c0 c1 c2 c3 c4 b0 HRn
  obtain ⟨W3, hW3⟩ : ∃ W3, w2.alloc (.cells #[.int .i64 (m : Nat), .slice ha L.length hc] 27) = W3 := ⟨_, rfl⟩
  have l3 : Below w2.heap.size w2 W3 := by rw [← hW3]; exact (Below.refl _ _).alloc (Nat.le_refl _) _
  have bM : Blk W3 w2.heap.size 27 #[.int .i64 (m : Nat), .slice ha L.length hc] := by rw [← hW3]; exact Blk.new w2 _ _
  have z3 := l3.size
  have z4 := bM.lt
  rw [hW3]
  have lw := HL.out.size
  have lW := Low.out.size
  have hT3 : Tab W3 := (hT1.below HL.out hT1.size).below l3 (by have := hT1.size; omega)
  have LW3 : RowKit.Hid (Below W.heap.size W W3) := Lib.hid (HL.out.trans (l3.mono lw))
  have L3 : RowKit.Hid (Below w.heap.size w W3) := Lib.hid (Low.out.trans (LW3.out.mono lW))
  have P1 := Lib.hid (own_below O1.out l3)
  have HT3 := Lib.hid hT3
  have BM := Lib.hid bM
  have HG3 := Lib.hid (HG.out.below l3 (Nat.le_refl _))
  have BS3 := Lib.hid (B0.out.below LW3.out lb0)
  have ok := HMa.out.ok (by omega : m ≤ 64)
  have Hd3 := Lib.hid ((Hd.out.keep fun i hi => L3.out.block i hi : DelayAt w.heap.size W3 da dl))
  clear hW3 l3 hT3 O1 O2 hT hT1 bM
  go_wp2_with fail
  go_loopg [21] r.length (fun q v21 V => ∃ k : Nat, q = r.length - k ∧ v21 = .int .i64 k ∧ k ≤ r.length ∧ RowKit.Hid (Below W3.heap.size W3 V))
  case atStart => exact ⟨0, rfl, rfl, Nat.zero_le _, Lib.hid (Below.refl _ _)⟩
  case round =>
    obtain ⟨k, hgk, rfl, hk, LR⟩ := hrel
    have Hgk := Lib.hid hgk
    clear hgk
    have lR := LR.out.size
    by_cases hlt : k < r.length
    · obtain ⟨x, hx⟩ : ∃ x, r[k]? = some x := ⟨_, List.getElem?_eq_getElem hlt⟩
      obtain ⟨g1, cp1, he1, _, hg1s⟩ := P1.out.form (by omega)
      simp only [Value.slice.injEq] at he1
      obtain ⟨rfl, _, rfl⟩ := he1
      obtain ⟨_, _, _, hcap, hcm, _⟩ := row_blk P1.out
      have hcmax : q1 ≤ 9223372036854775807 := hcm
      have hcel : ∀ U, Below W3.heap.size W3 U → ∀ (j : Nat) (y : Arr), r[j]? = some y → U.cell? ⟨g1, j * 4, none⟩ = some (.int .i64 y.node) ∧ U.cell? ⟨g1, j * 4 + 1, none⟩ = some (.int .i64 y.time) ∧ U.cell? ⟨g1, j * 4 + 2, none⟩ = some (.int .i64 y.hops) ∧ U.cell? ⟨g1, j * 4 + 3, none⟩ = some (.int .i64 y.frm) := fun U kU j y hy => by
        obtain ⟨_, _, e1, h1⟩ := own_arr (own_below P1.out kU)
        simp only [Value.slice.injEq] at e1
        obtain ⟨b1, hb1, _, _, y0, y1, y2, y3⟩ := h1 j y hy
        rw [← e1.1] at hb1
        simp only [Option.some.injEq, Addr.mk.injEq, and_true] at hb1
        subst hb1
        exact ⟨y0, y1, y2, y3⟩
      have Hcel := Lib.hid hcel
      obtain ⟨y0, y1, y2, y3⟩ := hcel wr LR.out k x hx
      have j1 : (0 : Int) ≤ (k : Int) := by omega
      have j2 : (k : Int) < (r.length : Int) := by omega
      have j3 : (k : Int) ≤ 65535 := by omega
      have j4 : (k : Int) ≤ (q1 : Int) := by omega
      have Hx := Lib.hid hx
      clear hcel hx hcm
      go_upto_region 5 with (fail)
      obtain ⟨X, hX⟩ : ∃ X, wr.heap.size = X := ⟨_, rfl⟩
      obtain ⟨V, hV⟩ : ∃ V, wr.alloc (.cells #[.int .i64 x.node, .int .i64 x.time, .int .i64 x.hops, .int .i64 x.frm] 71) = V := ⟨_, rfl⟩
      have bV : Blk V X 71 #[.int .i64 x.node, .int .i64 x.time, .int .i64 x.hops, .int .i64 x.frm] := by rw [← hV, ← hX]; exact Blk.new wr _ _
      have lV : Below wr.heap.size wr V := by rw [← hV]; exact (Below.refl _ _).alloc (Nat.le_refl _) _
      have zV : V.heap.size = X + 1 := by rw [← hV, ← hX]; simp
      have LV := Lib.hid (LR.out.trans (lV.mono lR))
      have BV := Lib.hid bV
      rw [hV, hX]
      have hXW : W3.heap.size ≤ X := by omega
      clear hV lV bV y0 y1 y2 y3
      by_cases hk0 : k = 0
      · have e1 : ((k : Int) == 0) = true := by subst hk0; rfl
        have hx0 : x = x0F src := HE.out.head x (by rw [← hk0]; exact Hx.out)
        have d1 : V.cell? ⟨X, 1, none⟩ = some (.int .i64 0) := by rw [BV.out.cell 1, hx0]; rfl
        have d2 : V.cell? ⟨X, 2, none⟩ = some (.int .i64 0) := by rw [BV.out.cell 2, hx0]; rfl
        have d3 : V.cell? ⟨X, 3, none⟩ = some (.int .i64 (-1)) := by rw [BV.out.cell 3, hx0]; rfl
        clear hk0 hx0 HR HE
        go_wp2_with fail
        go_roundg (r.length - (k + 1))
        case measure => have := Hgk.out; omega
        case rel => exact ⟨k + 1, rfl, by go_num, hlt, LV⟩
      · have e1 : ((k : Int) == 0) = false := by simp; omega
        have hk1 : 1 ≤ k := by omega
        have Hok := Lib.hid (okTo_yes HE.out hk1 Hx.out)
        have Hlk := Lib.hid (linkR_from ok hnl HE.out HF.out hk1 Hx.out)
        have hxN := HF.out.outN x (mem_of_get Hx.out)
        have hxH := HF.out.outH x (mem_of_get Hx.out)
        have hxT := HF.out.outT x (mem_of_get Hx.out)
        obtain ⟨kx, hkx⟩ : ∃ kx : Nat, x.node = kx := ⟨x.node.toNat, by omega⟩
        have Hkx := Lib.hid hkx
        clear hk0 hkx
        go_wp2_with fail
        go_loopg [9, 45] k (fun q v9 v45 U => ∃ j : Nat, q = k - j ∧ v9 = .bool (okTo dl r x j) ∧ v45 = .int .i64 j ∧ j ≤ k ∧ RowKit.Hid (Below V.heap.size V U))
        case atStart => exact ⟨0, rfl, rfl, rfl, Nat.zero_le _, Lib.hid (Below.refl _ _)⟩
        case round =>
          obtain ⟨j, hgj, rfl, rfl, hj, LI⟩ := hrel
          have Hgj := Lib.hid hgj
          clear hgj
          have lI := LI.out.size
          have LW : RowKit.Hid (Below W3.heap.size W3 wr) := Lib.hid (LV.out.trans (LI.out.mono (by omega)))
          by_cases hjk : j < k
          · obtain ⟨y, hy⟩ : ∃ y, r[j]? = some y := ⟨_, List.getElem?_eq_getElem (by omega)⟩
            obtain ⟨y0, y1, y2, y3⟩ := Hcel.out wr LW.out j y hy
            have hyN := HF.out.outN y (mem_of_get hy)
            have hyH := HF.out.outH y (mem_of_get hy)
            have hyT := HF.out.outT y (mem_of_get hy)
            obtain ⟨ky, hky⟩ : ∃ ky : Nat, y.node = ky := ⟨y.node.toNat, by omega⟩
            have Hky := Lib.hid hky
            have i1 : (0 : Int) ≤ (j : Int) := by omega
            have i2 : (j : Int) < (k : Int) := by omega
            have i3 : (j : Int) ≤ 65535 := by omega
            have Hnx := Lib.hid (okTo_succ (dl := dl) (x := x) hy)
            obtain ⟨okj, hok⟩ : ∃ b, okTo dl r x j = b := ⟨_, rfl⟩
            rw [hok] at Hnx
            rw [hok]
            clear hky hy hok
            go_upto_region 12 with (fail)
            obtain ⟨Y, hY⟩ : ∃ Y, wr.heap.size = Y := ⟨_, rfl⟩
            obtain ⟨wu, hU⟩ : ∃ U, wr.alloc (.cells #[.int .i64 y.node, .int .i64 y.time, .int .i64 y.hops, .int .i64 y.frm] 71) = U := ⟨_, rfl⟩
            have bU : Blk wu Y 71 #[.int .i64 y.node, .int .i64 y.time, .int .i64 y.hops, .int .i64 y.frm] := by rw [← hU, ← hY]; exact Blk.new wr _ _
            have lU : Below wr.heap.size wr wu := by rw [← hU]; exact (Below.refl _ _).alloc (Nat.le_refl _) _
            have LU : RowKit.Hid (Below V.heap.size V wu) := Lib.hid (LI.out.trans (lU.mono lI))
            have LWu : Below W3.heap.size W3 wu := LV.out.trans (LU.out.mono (by omega))
            have bXu := BV.out.below LU.out (by omega)
            have p0 : wu.cell? ⟨Y, 0, none⟩ = some (.int .i64 y.node) := bU.cell 0
            have p1 : wu.cell? ⟨Y, 1, none⟩ = some (.int .i64 y.time) := bU.cell 1
            have p2 : wu.cell? ⟨Y, 2, none⟩ = some (.int .i64 y.hops) := bU.cell 2
            have c0 : wu.cell? ⟨X, 0, none⟩ = some (.int .i64 x.node) := bXu.cell 0
            have c1 : wu.cell? ⟨X, 1, none⟩ = some (.int .i64 x.time) := bXu.cell 1
            have c2 : wu.cell? ⟨X, 2, none⟩ = some (.int .i64 x.hops) := bXu.cell 2
            have c3 : wu.cell? ⟨X, 3, none⟩ = some (.int .i64 x.frm) := bXu.cell 3
            have cs : wu.cell? ⟨w.heap.size, 3, none⟩ = some (.slice da dl.length dc) := (BS3.out.below LWu (by have := BS3.out.lt; omega)).cell 3
            have hdu : DelayAt w.heap.size wu da dl := Hd3.out.keep fun i hi => LWu.block i (by have := L3.out.size; omega)
            obtain ⟨t, hte⟩ : ∃ t, takesF dl y.node x.node = t := ⟨_, rfl⟩
            have htb := takesF_bd dl y.node x.node
            rw [hte] at htb
            have HDl : RowKit.Hid (∀ U : World, U.heap = wu.heap → Calls Tryd.prog 34 #[.slice da dl.length dc, .int .i64 y.node, .int .i64 x.node] U fun e w' => e = .returned (.int .i64 t) ∧ w' = U) := Lib.hid fun U hUh => by
              rw [← hte, Hky.out, Hkx.out]
              exact delay_any w.heap.size U da dl dc (hdu.keep fun i hi => by rw [hUh]) ky kx
            have w1 : IntKind.i64.wrap (y.hops + 1) = y.hops + 1 := IntWalk.i64_in _ (by omega)
            have w2' : IntKind.i64.wrap (y.time + t) = y.time + t := IntWalk.i64_in _ (by omega)
            have hfb : fromB dl y x = ((y.node == x.frm) && ((x.hops == y.hops + 1) && (x.time == y.time + t))) := by rw [fromB, hte]
            have Hfb := Lib.hid hfb
            rw [hU, hY]
            clear hU lU bU bXu LWu hdu hte hfb y0 y1 y2 y3
            rcases okj with _ | _
            · rcases f1 : (y.node == x.frm) with _ | _
              · skip
                have Hn2 := Lib.hid (show okTo dl r x (j + 1) = false from by rw [Hnx.out, Hfb.out, f1]; rfl)
                refine wp_region_held_drew (S := fun w' => w'.cell? ⟨Y, 0, none⟩ = some (.int .i64 y.node) ∧ w'.cell? ⟨Y, 1, none⟩ = some (.int .i64 y.time) ∧ w'.cell? ⟨Y, 2, none⟩ = some (.int .i64 y.hops) ∧ w'.cell? ⟨X, 0, none⟩ = some (.int .i64 x.node) ∧ w'.cell? ⟨X, 1, none⟩ = some (.int .i64 x.time) ∧ w'.cell? ⟨X, 2, none⟩ = some (.int .i64 x.hops) ∧ w'.cell? ⟨X, 3, none⟩ = some (.int .i64 x.frm) ∧ w'.cell? ⟨w.heap.size, 3, none⟩ = some (.slice da dl.length dc)) (by kernel_rfl) ⟨p0, p1, p2, c0, c1, c2, c3, cs⟩ (fun hHeld => ?_)
                refine Take.take (i := 0) (oi := _) (t := 49) (v := ?v5) rfl (by kernel_rfl) (by kernel_rfl) (by kernel_rfl) (by kernel_rfl) (fun _ _ _ h => h) (by kernel_rfl) ?hy5 (by assumption) ?_
                case hy5 => (intro w hSw; (try dsimp only at hSw); go_simp; try with_reducible rfl)
                try simp only [Act.put, List.setIfInBounds_toArray, List.set_cons_zero, List.set_cons_succ]
                refine Take.take (i := 1) (oi := _) (t := 50) (v := ?v6) rfl (by kernel_rfl) (by kernel_rfl) (by kernel_rfl) (by kernel_rfl) (fun _ _ _ h => h) (by kernel_rfl) ?hy6 (by assumption) ?_
                case hy6 => (intro w hSw; (try dsimp only at hSw); go_simp; try with_reducible rfl)
                try simp only [Act.put, List.setIfInBounds_toArray, List.set_cons_zero, List.set_cons_succ]
                refine Take.take (i := 2) (oi := _) (t := 51) (v := ?v7) rfl (by kernel_rfl) (by kernel_rfl) (by kernel_rfl) (by kernel_rfl) (fun _ _ _ h => h) (by kernel_rfl) ?hy7 (by assumption) ?_
                case hy7 => (intro w hSw; (try dsimp only at hSw); go_simp; try with_reducible rfl)
                try simp only [Act.put, List.setIfInBounds_toArray, List.set_cons_zero, List.set_cons_succ]
                refine Take.take (i := 3) (oi := _) (t := 52) (v := ?v8) rfl (by kernel_rfl) (by kernel_rfl) (by kernel_rfl) (by kernel_rfl) (fun _ _ _ h => h) (by kernel_rfl) ?hy8 (by assumption) ?_
                case hy8 => (intro w hSw; (try dsimp only at hSw); go_simp; try with_reducible rfl)
                try simp only [Act.put, List.setIfInBounds_toArray, List.set_cons_zero, List.set_cons_succ]
                refine Take.take (i := 4) (oi := _) (t := 53) (v := ?v9) rfl (by kernel_rfl) (by kernel_rfl) (by kernel_rfl) (by kernel_rfl) (fun _ _ _ h => h) (by kernel_rfl) ?hy9 (by assumption) ?_
                case hy9 => (intro w hSw; (try dsimp only at hSw); go_simp; try with_reducible rfl)
                try simp only [Act.put, List.setIfInBounds_toArray, List.set_cons_zero, List.set_cons_succ]
                refine Take.take (i := 5) (oi := _) (t := 54) (v := ?v10) rfl (by kernel_rfl) (by kernel_rfl) (by kernel_rfl) (by kernel_rfl) (fun _ _ _ h => h) (by kernel_rfl) ?hy10 (by assumption) ?_
                case hy10 => (intro w hSw; (try dsimp only at hSw); go_simp; try with_reducible rfl)
                try simp only [Act.put, List.setIfInBounds_toArray, List.set_cons_zero, List.set_cons_succ]
                refine Take.take (i := 6) (oi := _) (t := 55) (v := ?v11) rfl (by kernel_rfl) (by kernel_rfl) (by kernel_rfl) (by kernel_rfl) (fun _ _ _ h => h) (by kernel_rfl) ?hy11 (by assumption) ?_
                case hy11 => (intro w hSw; (try dsimp only at hSw); go_simp; try with_reducible rfl)
                try simp only [Act.put, List.setIfInBounds_toArray, List.set_cons_zero, List.set_cons_succ]
                refine Take.take (i := 7) (oi := _) (t := 56) (v := ?v12) rfl (by kernel_rfl) (by kernel_rfl) (by kernel_rfl) (by kernel_rfl) (fun _ _ _ h => h) (by kernel_rfl) ?hy12 (by assumption) ?_
                case hy12 => (intro w hSw; (try dsimp only at hSw); go_simp; try with_reducible rfl)
                try simp only [Act.put, List.setIfInBounds_toArray, List.set_cons_zero, List.set_cons_succ]
                refine Take.skip (i := 8) (t := 57) (g := 7) (b := true) (by kernel_rfl) (by kernel_rfl) (by kernel_rfl) (by kernel_rfl) (fun _ _ _ h => h) (by kernel_rfl) (by assumption) ?_
                try simp only [Act.put, List.setIfInBounds_toArray, List.set_cons_zero, List.set_cons_succ]
                refine Take.skip (i := 9) (t := 58) (g := 7) (b := true) (by kernel_rfl) (by kernel_rfl) (by kernel_rfl) (by kernel_rfl) (fun _ _ _ h => h) (by kernel_rfl) (by assumption) ?_
                try simp only [Act.put, List.setIfInBounds_toArray, List.set_cons_zero, List.set_cons_succ]
                refine Take.skip (i := 10) (t := 59) (g := 7) (b := true) (by kernel_rfl) (by kernel_rfl) (by kernel_rfl) (by kernel_rfl) (fun _ _ _ h => h) (by kernel_rfl) (by assumption) ?_
                try simp only [Act.put, List.setIfInBounds_toArray, List.set_cons_zero, List.set_cons_succ]
                refine Take.skip (i := 11) (t := 60) (g := 7) (b := true) (by kernel_rfl) (by kernel_rfl) (by kernel_rfl) (by kernel_rfl) (fun _ _ _ h => h) (by kernel_rfl) (by assumption) ?_
                try simp only [Act.put, List.setIfInBounds_toArray, List.set_cons_zero, List.set_cons_succ]
                refine Take.skip (i := 12) (t := 61) (g := 7) (b := true) (by kernel_rfl) (by kernel_rfl) (by kernel_rfl) (by kernel_rfl) (fun _ _ _ h => h) (by kernel_rfl) (by assumption) ?_
                try simp only [Act.put, List.setIfInBounds_toArray, List.set_cons_zero, List.set_cons_succ]
                refine Take.skip (i := 13) (t := 62) (g := 7) (b := true) (by kernel_rfl) (by kernel_rfl) (by kernel_rfl) (by kernel_rfl) (fun _ _ _ h => h) (by kernel_rfl) (by assumption) ?_
                try simp only [Act.put, List.setIfInBounds_toArray, List.set_cons_zero, List.set_cons_succ]
                refine Take.take (i := 14) (oi := _) (t := 63) (v := ?v13) rfl (by kernel_rfl) (by kernel_rfl) (by kernel_rfl) (by kernel_rfl) (fun _ _ _ h => h) (by kernel_rfl) ?hy13 (by assumption) ?_
                case hy13 => (intro w hSw; (try dsimp only at hSw); go_simp; try with_reducible rfl)
                try simp only [Act.put, List.setIfInBounds_toArray, List.set_cons_zero, List.set_cons_succ]
                refine Take.take (i := 15) (oi := _) (t := 64) (v := ?v14) rfl (by kernel_rfl) (by kernel_rfl) (by kernel_rfl) (by kernel_rfl) (fun _ _ _ h => h) (by kernel_rfl) ?hy14 (by assumption) ?_
                case hy14 => (intro w hSw; (try dsimp only at hSw); go_simp; try with_reducible rfl)
                try simp only [Act.put, List.setIfInBounds_toArray, List.set_cons_zero, List.set_cons_succ]
                refine Take.skip (i := 16) (t := 65) (g := 15) (b := true) (by kernel_rfl) (by kernel_rfl) (by kernel_rfl) (by kernel_rfl) (fun _ _ _ h => h) (by kernel_rfl) (by assumption) ?_
                try simp only [Act.put, List.setIfInBounds_toArray, List.set_cons_zero, List.set_cons_succ]
                refine Take.skip (i := 17) (t := 66) (g := 15) (b := true) (by kernel_rfl) (by kernel_rfl) (by kernel_rfl) (by kernel_rfl) (fun _ _ _ h => h) (by kernel_rfl) (by assumption) ?_
                try simp only [Act.put, List.setIfInBounds_toArray, List.set_cons_zero, List.set_cons_succ]
                refine Take.skip (i := 18) (t := 67) (g := 15) (b := true) (by kernel_rfl) (by kernel_rfl) (by kernel_rfl) (by kernel_rfl) (fun _ _ _ h => h) (by kernel_rfl) (by assumption) ?_
                try simp only [Act.put, List.setIfInBounds_toArray, List.set_cons_zero, List.set_cons_succ]
                refine Take.skip (i := 19) (t := 68) (g := 15) (b := true) (by kernel_rfl) (by kernel_rfl) (by kernel_rfl) (by kernel_rfl) (fun _ _ _ h => h) (by kernel_rfl) (by assumption) ?_
                try simp only [Act.put, List.setIfInBounds_toArray, List.set_cons_zero, List.set_cons_succ]
                refine Take.skip (i := 20) (t := 69) (g := 15) (b := true) (by kernel_rfl) (by kernel_rfl) (by kernel_rfl) (by kernel_rfl) (fun _ _ _ h => h) (by kernel_rfl) (by assumption) ?_
                try simp only [Act.put, List.setIfInBounds_toArray, List.set_cons_zero, List.set_cons_succ]
                refine Take.skip (i := 21) (t := 70) (g := 15) (b := true) (by kernel_rfl) (by kernel_rfl) (by kernel_rfl) (by kernel_rfl) (fun _ _ _ h => h) (by kernel_rfl) (by assumption) ?_
                try simp only [Act.put, List.setIfInBounds_toArray, List.set_cons_zero, List.set_cons_succ]
                refine Take.skip (i := 22) (t := 71) (g := 15) (b := true) (by kernel_rfl) (by kernel_rfl) (by kernel_rfl) (by kernel_rfl) (fun _ _ _ h => h) (by kernel_rfl) (by assumption) ?_
                try simp only [Act.put, List.setIfInBounds_toArray, List.set_cons_zero, List.set_cons_succ]
                refine Take.skip (i := 23) (t := 72) (g := 15) (b := true) (by kernel_rfl) (by kernel_rfl) (by kernel_rfl) (by kernel_rfl) (fun _ _ _ h => h) (by kernel_rfl) (by assumption) ?_
                try simp only [Act.put, List.setIfInBounds_toArray, List.set_cons_zero, List.set_cons_succ]
                refine Take.skip (i := 24) (t := 73) (g := 15) (b := true) (by kernel_rfl) (by kernel_rfl) (by kernel_rfl) (by kernel_rfl) (fun _ _ _ h => h) (by kernel_rfl) (by assumption) ?_
                try simp only [Act.put, List.setIfInBounds_toArray, List.set_cons_zero, List.set_cons_succ]
                refine Take.skip (i := 25) (t := 74) (g := 15) (b := true) (by kernel_rfl) (by kernel_rfl) (by kernel_rfl) (by kernel_rfl) (fun _ _ _ h => h) (by kernel_rfl) (by assumption) ?_
                try simp only [Act.put, List.setIfInBounds_toArray, List.set_cons_zero, List.set_cons_succ]
                refine Take.skip (i := 26) (t := 75) (g := 15) (b := true) (by kernel_rfl) (by kernel_rfl) (by kernel_rfl) (by kernel_rfl) (fun _ _ _ h => h) (by kernel_rfl) (by assumption) ?_
                try simp only [Act.put, List.setIfInBounds_toArray, List.set_cons_zero, List.set_cons_succ]
                refine Take.skip (i := 27) (t := 76) (g := 15) (b := true) (by kernel_rfl) (by kernel_rfl) (by kernel_rfl) (by kernel_rfl) (fun _ _ _ h => h) (by kernel_rfl) (by assumption) ?_
                try simp only [Act.put, List.setIfInBounds_toArray, List.set_cons_zero, List.set_cons_succ]
                refine Take.skip (i := 28) (t := 77) (g := 15) (b := true) (by kernel_rfl) (by kernel_rfl) (by kernel_rfl) (by kernel_rfl) (fun _ _ _ h => h) (by kernel_rfl) (by assumption) ?_
                try simp only [Act.put, List.setIfInBounds_toArray, List.set_cons_zero, List.set_cons_succ]
                refine Take.take (i := 29) (oi := _) (t := 78) (v := ?v15) rfl (by kernel_rfl) (by kernel_rfl) (by kernel_rfl) (by kernel_rfl) (fun _ _ _ h => h) (by kernel_rfl) ?hy15 (by assumption) ?_
                case hy15 => (intro w hSw; (try dsimp only at hSw); go_simp; try with_reducible rfl)
                try simp only [Act.put, List.setIfInBounds_toArray, List.set_cons_zero, List.set_cons_succ]
                refine Take.take (i := 30) (oi := _) (t := 79) (v := ?v16) rfl (by kernel_rfl) (by kernel_rfl) (by kernel_rfl) (by kernel_rfl) (fun _ _ _ h => h) (by kernel_rfl) ?hy16 (by assumption) ?_
                case hy16 => (intro w hSw; (try dsimp only at hSw); go_simp; try with_reducible rfl)
                try simp only [Act.put, List.setIfInBounds_toArray, List.set_cons_zero, List.set_cons_succ]
                refine Take.take (i := 31) (oi := _) (t := 9) (v := ?v17) rfl (by kernel_rfl) (by kernel_rfl) (by kernel_rfl) (by kernel_rfl) (fun _ _ _ h => h) (by kernel_rfl) ?hy17 (by assumption) ?_
                case hy17 => (intro w hSw; (try dsimp only at hSw); go_simp; try with_reducible rfl)
                try simp only [Act.put, List.setIfInBounds_toArray, List.set_cons_zero, List.set_cons_succ]
                refine wpAnyH_done (by kernel_rfl) ?_ _
                go_wp2_with fail
                go_roundg (k - (j + 1))
                case measure => have := Hgj.out; omega
                case rel => exact ⟨j + 1, rfl, by rw [Hn2.out], by go_num, hjk, Lib.hid LU.out.drew⟩
              · rcases f2 : (x.hops == y.hops + 1) with _ | _
                · skip
                  have Hn2 := Lib.hid (show okTo dl r x (j + 1) = false from by rw [Hnx.out, Hfb.out, f1, f2]; rfl)
                  refine wp_region_held_drew (S := fun w' => w'.cell? ⟨Y, 0, none⟩ = some (.int .i64 y.node) ∧ w'.cell? ⟨Y, 1, none⟩ = some (.int .i64 y.time) ∧ w'.cell? ⟨Y, 2, none⟩ = some (.int .i64 y.hops) ∧ w'.cell? ⟨X, 0, none⟩ = some (.int .i64 x.node) ∧ w'.cell? ⟨X, 1, none⟩ = some (.int .i64 x.time) ∧ w'.cell? ⟨X, 2, none⟩ = some (.int .i64 x.hops) ∧ w'.cell? ⟨X, 3, none⟩ = some (.int .i64 x.frm) ∧ w'.cell? ⟨w.heap.size, 3, none⟩ = some (.slice da dl.length dc)) (by kernel_rfl) ⟨p0, p1, p2, c0, c1, c2, c3, cs⟩ (fun hHeld => ?_)
                  refine Take.take (i := 0) (oi := _) (t := 49) (v := ?v18) rfl (by kernel_rfl) (by kernel_rfl) (by kernel_rfl) (by kernel_rfl) (fun _ _ _ h => h) (by kernel_rfl) ?hy18 (by assumption) ?_
                  case hy18 => (intro w hSw; (try dsimp only at hSw); go_simp; try with_reducible rfl)
                  try simp only [Act.put, List.setIfInBounds_toArray, List.set_cons_zero, List.set_cons_succ]
                  refine Take.take (i := 1) (oi := _) (t := 50) (v := ?v19) rfl (by kernel_rfl) (by kernel_rfl) (by kernel_rfl) (by kernel_rfl) (fun _ _ _ h => h) (by kernel_rfl) ?hy19 (by assumption) ?_
                  case hy19 => (intro w hSw; (try dsimp only at hSw); go_simp; try with_reducible rfl)
                  try simp only [Act.put, List.setIfInBounds_toArray, List.set_cons_zero, List.set_cons_succ]
                  refine Take.take (i := 2) (oi := _) (t := 51) (v := ?v20) rfl (by kernel_rfl) (by kernel_rfl) (by kernel_rfl) (by kernel_rfl) (fun _ _ _ h => h) (by kernel_rfl) ?hy20 (by assumption) ?_
                  case hy20 => (intro w hSw; (try dsimp only at hSw); go_simp; try with_reducible rfl)
                  try simp only [Act.put, List.setIfInBounds_toArray, List.set_cons_zero, List.set_cons_succ]
                  refine Take.take (i := 3) (oi := _) (t := 52) (v := ?v21) rfl (by kernel_rfl) (by kernel_rfl) (by kernel_rfl) (by kernel_rfl) (fun _ _ _ h => h) (by kernel_rfl) ?hy21 (by assumption) ?_
                  case hy21 => (intro w hSw; (try dsimp only at hSw); go_simp; try with_reducible rfl)
                  try simp only [Act.put, List.setIfInBounds_toArray, List.set_cons_zero, List.set_cons_succ]
                  refine Take.take (i := 4) (oi := _) (t := 53) (v := ?v22) rfl (by kernel_rfl) (by kernel_rfl) (by kernel_rfl) (by kernel_rfl) (fun _ _ _ h => h) (by kernel_rfl) ?hy22 (by assumption) ?_
                  case hy22 => (intro w hSw; (try dsimp only at hSw); go_simp; try with_reducible rfl)
                  try simp only [Act.put, List.setIfInBounds_toArray, List.set_cons_zero, List.set_cons_succ]
                  refine Take.take (i := 5) (oi := _) (t := 54) (v := ?v23) rfl (by kernel_rfl) (by kernel_rfl) (by kernel_rfl) (by kernel_rfl) (fun _ _ _ h => h) (by kernel_rfl) ?hy23 (by assumption) ?_
                  case hy23 => (intro w hSw; (try dsimp only at hSw); go_simp; try with_reducible rfl)
                  try simp only [Act.put, List.setIfInBounds_toArray, List.set_cons_zero, List.set_cons_succ]
                  refine Take.take (i := 6) (oi := _) (t := 55) (v := ?v24) rfl (by kernel_rfl) (by kernel_rfl) (by kernel_rfl) (by kernel_rfl) (fun _ _ _ h => h) (by kernel_rfl) ?hy24 (by assumption) ?_
                  case hy24 => (intro w hSw; (try dsimp only at hSw); go_simp; try with_reducible rfl)
                  try simp only [Act.put, List.setIfInBounds_toArray, List.set_cons_zero, List.set_cons_succ]
                  refine Take.take (i := 7) (oi := _) (t := 56) (v := ?v25) rfl (by kernel_rfl) (by kernel_rfl) (by kernel_rfl) (by kernel_rfl) (fun _ _ _ h => h) (by kernel_rfl) ?hy25 (by assumption) ?_
                  case hy25 => (intro w hSw; (try dsimp only at hSw); go_simp; try with_reducible rfl)
                  try simp only [Act.put, List.setIfInBounds_toArray, List.set_cons_zero, List.set_cons_succ]
                  refine Take.take (i := 8) (oi := _) (t := 57) (v := ?v26) rfl (by kernel_rfl) (by kernel_rfl) (by kernel_rfl) (by kernel_rfl) (fun _ _ _ h => h) (by kernel_rfl) ?hy26 (by assumption) ?_
                  case hy26 => (intro w hSw; (try dsimp only at hSw); go_simp; try with_reducible rfl)
                  try simp only [Act.put, List.setIfInBounds_toArray, List.set_cons_zero, List.set_cons_succ]
                  refine Take.take (i := 9) (oi := _) (t := 58) (v := ?v27) rfl (by kernel_rfl) (by kernel_rfl) (by kernel_rfl) (by kernel_rfl) (fun _ _ _ h => h) (by kernel_rfl) ?hy27 (by assumption) ?_
                  case hy27 => (intro w hSw; (try dsimp only at hSw); go_simp; try with_reducible rfl)
                  try simp only [Act.put, List.setIfInBounds_toArray, List.set_cons_zero, List.set_cons_succ]
                  refine Take.take (i := 10) (oi := _) (t := 59) (v := ?v28) rfl (by kernel_rfl) (by kernel_rfl) (by kernel_rfl) (by kernel_rfl) (fun _ _ _ h => h) (by kernel_rfl) ?hy28 (by assumption) ?_
                  case hy28 => (intro w hSw; (try dsimp only at hSw); go_simp; try with_reducible rfl)
                  try simp only [Act.put, List.setIfInBounds_toArray, List.set_cons_zero, List.set_cons_succ]
                  refine Take.take (i := 11) (oi := _) (t := 60) (v := ?v29) rfl (by kernel_rfl) (by kernel_rfl) (by kernel_rfl) (by kernel_rfl) (fun _ _ _ h => h) (by kernel_rfl) ?hy29 (by assumption) ?_
                  case hy29 => (intro w hSw; (try dsimp only at hSw); go_simp; try with_reducible rfl)
                  try simp only [Act.put, List.setIfInBounds_toArray, List.set_cons_zero, List.set_cons_succ]
                  refine Take.take (i := 12) (oi := _) (t := 61) (v := ?v30) rfl (by kernel_rfl) (by kernel_rfl) (by kernel_rfl) (by kernel_rfl) (fun _ _ _ h => h) (by kernel_rfl) ?hy30 (by assumption) ?_
                  case hy30 => (intro w hSw; (try dsimp only at hSw); go_simp; try with_reducible rfl)
                  try simp only [Act.put, List.setIfInBounds_toArray, List.set_cons_zero, List.set_cons_succ]
                  refine Take.take (i := 13) (oi := _) (t := 62) (v := ?v31) rfl (by kernel_rfl) (by kernel_rfl) (by kernel_rfl) (by kernel_rfl) (fun _ _ _ h => h) (by kernel_rfl) ?hy31 (by assumption) ?_
                  case hy31 => (intro w hSw; (try dsimp only at hSw); go_simp; try with_reducible rfl)
                  try simp only [Act.put, List.setIfInBounds_toArray, List.set_cons_zero, List.set_cons_succ]
                  refine Take.take (i := 14) (oi := _) (t := 63) (v := ?v32) rfl (by kernel_rfl) (by kernel_rfl) (by kernel_rfl) (by kernel_rfl) (fun _ _ _ h => h) (by kernel_rfl) ?hy32 (by assumption) ?_
                  case hy32 => (intro w hSw; (try dsimp only at hSw); go_simp; try with_reducible rfl)
                  try simp only [Act.put, List.setIfInBounds_toArray, List.set_cons_zero, List.set_cons_succ]
                  refine Take.take (i := 15) (oi := _) (t := 64) (v := ?v33) rfl (by kernel_rfl) (by kernel_rfl) (by kernel_rfl) (by kernel_rfl) (fun _ _ _ h => h) (by kernel_rfl) ?hy33 (by assumption) ?_
                  case hy33 => (intro w hSw; (try dsimp only at hSw); go_simp; try with_reducible rfl)
                  try simp only [Act.put, List.setIfInBounds_toArray, List.set_cons_zero, List.set_cons_succ]
                  refine Take.skip (i := 16) (t := 65) (g := 15) (b := true) (by kernel_rfl) (by kernel_rfl) (by kernel_rfl) (by kernel_rfl) (fun _ _ _ h => h) (by kernel_rfl) (by assumption) ?_
                  try simp only [Act.put, List.setIfInBounds_toArray, List.set_cons_zero, List.set_cons_succ]
                  refine Take.skip (i := 17) (t := 66) (g := 15) (b := true) (by kernel_rfl) (by kernel_rfl) (by kernel_rfl) (by kernel_rfl) (fun _ _ _ h => h) (by kernel_rfl) (by assumption) ?_
                  try simp only [Act.put, List.setIfInBounds_toArray, List.set_cons_zero, List.set_cons_succ]
                  refine Take.skip (i := 18) (t := 67) (g := 15) (b := true) (by kernel_rfl) (by kernel_rfl) (by kernel_rfl) (by kernel_rfl) (fun _ _ _ h => h) (by kernel_rfl) (by assumption) ?_
                  try simp only [Act.put, List.setIfInBounds_toArray, List.set_cons_zero, List.set_cons_succ]
                  refine Take.skip (i := 19) (t := 68) (g := 15) (b := true) (by kernel_rfl) (by kernel_rfl) (by kernel_rfl) (by kernel_rfl) (fun _ _ _ h => h) (by kernel_rfl) (by assumption) ?_
                  try simp only [Act.put, List.setIfInBounds_toArray, List.set_cons_zero, List.set_cons_succ]
                  refine Take.skip (i := 20) (t := 69) (g := 15) (b := true) (by kernel_rfl) (by kernel_rfl) (by kernel_rfl) (by kernel_rfl) (fun _ _ _ h => h) (by kernel_rfl) (by assumption) ?_
                  try simp only [Act.put, List.setIfInBounds_toArray, List.set_cons_zero, List.set_cons_succ]
                  refine Take.skip (i := 21) (t := 70) (g := 15) (b := true) (by kernel_rfl) (by kernel_rfl) (by kernel_rfl) (by kernel_rfl) (fun _ _ _ h => h) (by kernel_rfl) (by assumption) ?_
                  try simp only [Act.put, List.setIfInBounds_toArray, List.set_cons_zero, List.set_cons_succ]
                  refine Take.skip (i := 22) (t := 71) (g := 15) (b := true) (by kernel_rfl) (by kernel_rfl) (by kernel_rfl) (by kernel_rfl) (fun _ _ _ h => h) (by kernel_rfl) (by assumption) ?_
                  try simp only [Act.put, List.setIfInBounds_toArray, List.set_cons_zero, List.set_cons_succ]
                  refine Take.skip (i := 23) (t := 72) (g := 15) (b := true) (by kernel_rfl) (by kernel_rfl) (by kernel_rfl) (by kernel_rfl) (fun _ _ _ h => h) (by kernel_rfl) (by assumption) ?_
                  try simp only [Act.put, List.setIfInBounds_toArray, List.set_cons_zero, List.set_cons_succ]
                  refine Take.skip (i := 24) (t := 73) (g := 15) (b := true) (by kernel_rfl) (by kernel_rfl) (by kernel_rfl) (by kernel_rfl) (fun _ _ _ h => h) (by kernel_rfl) (by assumption) ?_
                  try simp only [Act.put, List.setIfInBounds_toArray, List.set_cons_zero, List.set_cons_succ]
                  refine Take.skip (i := 25) (t := 74) (g := 15) (b := true) (by kernel_rfl) (by kernel_rfl) (by kernel_rfl) (by kernel_rfl) (fun _ _ _ h => h) (by kernel_rfl) (by assumption) ?_
                  try simp only [Act.put, List.setIfInBounds_toArray, List.set_cons_zero, List.set_cons_succ]
                  refine Take.skip (i := 26) (t := 75) (g := 15) (b := true) (by kernel_rfl) (by kernel_rfl) (by kernel_rfl) (by kernel_rfl) (fun _ _ _ h => h) (by kernel_rfl) (by assumption) ?_
                  try simp only [Act.put, List.setIfInBounds_toArray, List.set_cons_zero, List.set_cons_succ]
                  refine Take.skip (i := 27) (t := 76) (g := 15) (b := true) (by kernel_rfl) (by kernel_rfl) (by kernel_rfl) (by kernel_rfl) (fun _ _ _ h => h) (by kernel_rfl) (by assumption) ?_
                  try simp only [Act.put, List.setIfInBounds_toArray, List.set_cons_zero, List.set_cons_succ]
                  refine Take.skip (i := 28) (t := 77) (g := 15) (b := true) (by kernel_rfl) (by kernel_rfl) (by kernel_rfl) (by kernel_rfl) (fun _ _ _ h => h) (by kernel_rfl) (by assumption) ?_
                  try simp only [Act.put, List.setIfInBounds_toArray, List.set_cons_zero, List.set_cons_succ]
                  refine Take.take (i := 29) (oi := _) (t := 78) (v := ?v34) rfl (by kernel_rfl) (by kernel_rfl) (by kernel_rfl) (by kernel_rfl) (fun _ _ _ h => h) (by kernel_rfl) ?hy34 (by assumption) ?_
                  case hy34 => (intro w hSw; (try dsimp only at hSw); go_simp; try with_reducible rfl)
                  try simp only [Act.put, List.setIfInBounds_toArray, List.set_cons_zero, List.set_cons_succ]
                  refine Take.take (i := 30) (oi := _) (t := 79) (v := ?v35) rfl (by kernel_rfl) (by kernel_rfl) (by kernel_rfl) (by kernel_rfl) (fun _ _ _ h => h) (by kernel_rfl) ?hy35 (by assumption) ?_
                  case hy35 => (intro w hSw; (try dsimp only at hSw); go_simp; try with_reducible rfl)
                  try simp only [Act.put, List.setIfInBounds_toArray, List.set_cons_zero, List.set_cons_succ]
                  refine Take.take (i := 31) (oi := _) (t := 9) (v := ?v36) rfl (by kernel_rfl) (by kernel_rfl) (by kernel_rfl) (by kernel_rfl) (fun _ _ _ h => h) (by kernel_rfl) ?hy36 (by assumption) ?_
                  case hy36 => (intro w hSw; (try dsimp only at hSw); go_simp; try with_reducible rfl)
                  try simp only [Act.put, List.setIfInBounds_toArray, List.set_cons_zero, List.set_cons_succ]
                  refine wpAnyH_done (by kernel_rfl) ?_ _
                  go_wp2_with fail
                  go_roundg (k - (j + 1))
                  case measure => have := Hgj.out; omega
                  case rel => exact ⟨j + 1, rfl, by rw [Hn2.out], by go_num, hjk, Lib.hid LU.out.drew⟩
                · rcases f3 : (x.time == y.time + t) with _ | _
                  · skip
                    have Hn2 := Lib.hid (show okTo dl r x (j + 1) = false from by rw [Hnx.out, Hfb.out, f1, f2, f3]; rfl)
                    refine wp_region_held_drew (S := fun w' => w'.cell? ⟨Y, 0, none⟩ = some (.int .i64 y.node) ∧ w'.cell? ⟨Y, 1, none⟩ = some (.int .i64 y.time) ∧ w'.cell? ⟨Y, 2, none⟩ = some (.int .i64 y.hops) ∧ w'.cell? ⟨X, 0, none⟩ = some (.int .i64 x.node) ∧ w'.cell? ⟨X, 1, none⟩ = some (.int .i64 x.time) ∧ w'.cell? ⟨X, 2, none⟩ = some (.int .i64 x.hops) ∧ w'.cell? ⟨X, 3, none⟩ = some (.int .i64 x.frm) ∧ w'.cell? ⟨w.heap.size, 3, none⟩ = some (.slice da dl.length dc)) (by kernel_rfl) ⟨p0, p1, p2, c0, c1, c2, c3, cs⟩ (fun hHeld => ?_)
                    refine Take.take (i := 0) (oi := _) (t := 49) (v := ?v37) rfl (by kernel_rfl) (by kernel_rfl) (by kernel_rfl) (by kernel_rfl) (fun _ _ _ h => h) (by kernel_rfl) ?hy37 (by assumption) ?_
                    case hy37 => (intro w hSw; (try dsimp only at hSw); go_simp; try with_reducible rfl)
                    try simp only [Act.put, List.setIfInBounds_toArray, List.set_cons_zero, List.set_cons_succ]
                    refine Take.take (i := 1) (oi := _) (t := 50) (v := ?v38) rfl (by kernel_rfl) (by kernel_rfl) (by kernel_rfl) (by kernel_rfl) (fun _ _ _ h => h) (by kernel_rfl) ?hy38 (by assumption) ?_
                    case hy38 => (intro w hSw; (try dsimp only at hSw); go_simp; try with_reducible rfl)
                    try simp only [Act.put, List.setIfInBounds_toArray, List.set_cons_zero, List.set_cons_succ]
                    refine Take.take (i := 2) (oi := _) (t := 51) (v := ?v39) rfl (by kernel_rfl) (by kernel_rfl) (by kernel_rfl) (by kernel_rfl) (fun _ _ _ h => h) (by kernel_rfl) ?hy39 (by assumption) ?_
                    case hy39 => (intro w hSw; (try dsimp only at hSw); go_simp; try with_reducible rfl)
                    try simp only [Act.put, List.setIfInBounds_toArray, List.set_cons_zero, List.set_cons_succ]
                    refine Take.take (i := 3) (oi := _) (t := 52) (v := ?v40) rfl (by kernel_rfl) (by kernel_rfl) (by kernel_rfl) (by kernel_rfl) (fun _ _ _ h => h) (by kernel_rfl) ?hy40 (by assumption) ?_
                    case hy40 => (intro w hSw; (try dsimp only at hSw); go_simp; try with_reducible rfl)
                    try simp only [Act.put, List.setIfInBounds_toArray, List.set_cons_zero, List.set_cons_succ]
                    refine Take.take (i := 4) (oi := _) (t := 53) (v := ?v41) rfl (by kernel_rfl) (by kernel_rfl) (by kernel_rfl) (by kernel_rfl) (fun _ _ _ h => h) (by kernel_rfl) ?hy41 (by assumption) ?_
                    case hy41 => (intro w hSw; (try dsimp only at hSw); go_simp; try with_reducible rfl)
                    try simp only [Act.put, List.setIfInBounds_toArray, List.set_cons_zero, List.set_cons_succ]
                    refine Take.take (i := 5) (oi := _) (t := 54) (v := ?v42) rfl (by kernel_rfl) (by kernel_rfl) (by kernel_rfl) (by kernel_rfl) (fun _ _ _ h => h) (by kernel_rfl) ?hy42 (by assumption) ?_
                    case hy42 => (intro w hSw; (try dsimp only at hSw); go_simp; try with_reducible rfl)
                    try simp only [Act.put, List.setIfInBounds_toArray, List.set_cons_zero, List.set_cons_succ]
                    refine Take.take (i := 6) (oi := _) (t := 55) (v := ?v43) rfl (by kernel_rfl) (by kernel_rfl) (by kernel_rfl) (by kernel_rfl) (fun _ _ _ h => h) (by kernel_rfl) ?hy43 (by assumption) ?_
                    case hy43 => (intro w hSw; (try dsimp only at hSw); go_simp; try with_reducible rfl)
                    try simp only [Act.put, List.setIfInBounds_toArray, List.set_cons_zero, List.set_cons_succ]
                    refine Take.take (i := 7) (oi := _) (t := 56) (v := ?v44) rfl (by kernel_rfl) (by kernel_rfl) (by kernel_rfl) (by kernel_rfl) (fun _ _ _ h => h) (by kernel_rfl) ?hy44 (by assumption) ?_
                    case hy44 => (intro w hSw; (try dsimp only at hSw); go_simp; try with_reducible rfl)
                    try simp only [Act.put, List.setIfInBounds_toArray, List.set_cons_zero, List.set_cons_succ]
                    refine Take.take (i := 8) (oi := _) (t := 57) (v := ?v45) rfl (by kernel_rfl) (by kernel_rfl) (by kernel_rfl) (by kernel_rfl) (fun _ _ _ h => h) (by kernel_rfl) ?hy45 (by assumption) ?_
                    case hy45 => (intro w hSw; (try dsimp only at hSw); go_simp; try with_reducible rfl)
                    try simp only [Act.put, List.setIfInBounds_toArray, List.set_cons_zero, List.set_cons_succ]
                    refine Take.take (i := 9) (oi := _) (t := 58) (v := ?v46) rfl (by kernel_rfl) (by kernel_rfl) (by kernel_rfl) (by kernel_rfl) (fun _ _ _ h => h) (by kernel_rfl) ?hy46 (by assumption) ?_
                    case hy46 => (intro w hSw; (try dsimp only at hSw); go_simp; try with_reducible rfl)
                    try simp only [Act.put, List.setIfInBounds_toArray, List.set_cons_zero, List.set_cons_succ]
                    refine Take.take (i := 10) (oi := _) (t := 59) (v := ?v47) rfl (by kernel_rfl) (by kernel_rfl) (by kernel_rfl) (by kernel_rfl) (fun _ _ _ h => h) (by kernel_rfl) ?hy47 (by assumption) ?_
                    case hy47 => (intro w hSw; (try dsimp only at hSw); go_simp; try with_reducible rfl)
                    try simp only [Act.put, List.setIfInBounds_toArray, List.set_cons_zero, List.set_cons_succ]
                    refine Take.take (i := 11) (oi := _) (t := 60) (v := ?v48) rfl (by kernel_rfl) (by kernel_rfl) (by kernel_rfl) (by kernel_rfl) (fun _ _ _ h => h) (by kernel_rfl) ?hy48 (by assumption) ?_
                    case hy48 => (intro w hSw; (try dsimp only at hSw); go_simp; try with_reducible rfl)
                    try simp only [Act.put, List.setIfInBounds_toArray, List.set_cons_zero, List.set_cons_succ]
                    refine Take.take (i := 12) (oi := _) (t := 61) (v := ?v49) rfl (by kernel_rfl) (by kernel_rfl) (by kernel_rfl) (by kernel_rfl) (fun _ _ _ h => h) (by kernel_rfl) ?hy49 (by assumption) ?_
                    case hy49 => (intro w hSw; (try dsimp only at hSw); go_simp; try with_reducible rfl)
                    try simp only [Act.put, List.setIfInBounds_toArray, List.set_cons_zero, List.set_cons_succ]
                    refine Take.take (i := 13) (oi := _) (t := 62) (v := ?v50) rfl (by kernel_rfl) (by kernel_rfl) (by kernel_rfl) (by kernel_rfl) (fun _ _ _ h => h) (by kernel_rfl) ?hy50 (by assumption) ?_
                    case hy50 => (intro w hSw; (try dsimp only at hSw); go_simp; try with_reducible rfl)
                    try simp only [Act.put, List.setIfInBounds_toArray, List.set_cons_zero, List.set_cons_succ]
                    refine Take.take (i := 14) (oi := _) (t := 63) (v := ?v51) rfl (by kernel_rfl) (by kernel_rfl) (by kernel_rfl) (by kernel_rfl) (fun _ _ _ h => h) (by kernel_rfl) ?hy51 (by assumption) ?_
                    case hy51 => (intro w hSw; (try dsimp only at hSw); go_simp; try with_reducible rfl)
                    try simp only [Act.put, List.setIfInBounds_toArray, List.set_cons_zero, List.set_cons_succ]
                    refine Take.take (i := 15) (oi := _) (t := 64) (v := ?v52) rfl (by kernel_rfl) (by kernel_rfl) (by kernel_rfl) (by kernel_rfl) (fun _ _ _ h => h) (by kernel_rfl) ?hy52 (by assumption) ?_
                    case hy52 => (intro w hSw; (try dsimp only at hSw); go_simp; try with_reducible rfl)
                    try simp only [Act.put, List.setIfInBounds_toArray, List.set_cons_zero, List.set_cons_succ]
                    refine Take.take (i := 16) (oi := _) (t := 65) (v := ?v53) rfl (by kernel_rfl) (by kernel_rfl) (by kernel_rfl) (by kernel_rfl) (fun _ _ _ h => h) (by kernel_rfl) ?hy53 (by assumption) ?_
                    case hy53 => (intro w hSw; (try dsimp only at hSw); go_simp; try with_reducible rfl)
                    try simp only [Act.put, List.setIfInBounds_toArray, List.set_cons_zero, List.set_cons_succ]
                    refine Take.take (i := 17) (oi := _) (t := 66) (v := ?v54) rfl (by kernel_rfl) (by kernel_rfl) (by kernel_rfl) (by kernel_rfl) (fun _ _ _ h => h) (by kernel_rfl) ?hy54 (by assumption) ?_
                    case hy54 => (intro w hSw; (try dsimp only at hSw); go_simp; try with_reducible rfl)
                    try simp only [Act.put, List.setIfInBounds_toArray, List.set_cons_zero, List.set_cons_succ]
                    refine Take.take (i := 18) (oi := _) (t := 67) (v := ?v55) rfl (by kernel_rfl) (by kernel_rfl) (by kernel_rfl) (by kernel_rfl) (fun _ _ _ h => h) (by kernel_rfl) ?hy55 (by assumption) ?_
                    case hy55 => (intro w hSw; (try dsimp only at hSw); go_simp; try with_reducible rfl)
                    try simp only [Act.put, List.setIfInBounds_toArray, List.set_cons_zero, List.set_cons_succ]
                    refine Take.take (i := 19) (oi := _) (t := 68) (v := ?v56) rfl (by kernel_rfl) (by kernel_rfl) (by kernel_rfl) (by kernel_rfl) (fun _ _ _ h => h) (by kernel_rfl) ?hy56 (by assumption) ?_
                    case hy56 => (intro w hSw; (try dsimp only at hSw); go_simp; try with_reducible rfl)
                    try simp only [Act.put, List.setIfInBounds_toArray, List.set_cons_zero, List.set_cons_succ]
                    refine Take.take (i := 20) (oi := _) (t := 69) (v := ?v57) rfl (by kernel_rfl) (by kernel_rfl) (by kernel_rfl) (by kernel_rfl) (fun _ _ _ h => h) (by kernel_rfl) ?hy57 (by assumption) ?_
                    case hy57 => (intro w hSw; (try dsimp only at hSw); go_simp; try with_reducible rfl)
                    try simp only [Act.put, List.setIfInBounds_toArray, List.set_cons_zero, List.set_cons_succ]
                    refine Take.take (i := 21) (oi := _) (t := 70) (v := ?v58) rfl (by kernel_rfl) (by kernel_rfl) (by kernel_rfl) (by kernel_rfl) (fun _ _ _ h => h) (by kernel_rfl) ?hy58 (by assumption) ?_
                    case hy58 => (intro w hSw; (try dsimp only at hSw); go_simp; try with_reducible rfl)
                    try simp only [Act.put, List.setIfInBounds_toArray, List.set_cons_zero, List.set_cons_succ]
                    refine Take.take (i := 22) (oi := _) (t := 71) (v := ?v59) rfl (by kernel_rfl) (by kernel_rfl) (by kernel_rfl) (by kernel_rfl) (fun _ _ _ h => h) (by kernel_rfl) ?hy59 (by assumption) ?_
                    case hy59 => (intro w hSw; (try dsimp only at hSw); go_simp; try with_reducible rfl)
                    try simp only [Act.put, List.setIfInBounds_toArray, List.set_cons_zero, List.set_cons_succ]
                    refine Take.take (i := 23) (oi := _) (t := 72) (v := ?v60) rfl (by kernel_rfl) (by kernel_rfl) (by kernel_rfl) (by kernel_rfl) (fun _ _ _ h => h) (by kernel_rfl) ?hy60 (by assumption) ?_
                    case hy60 => (intro w hSw; (try dsimp only at hSw); go_simp; try with_reducible rfl)
                    try simp only [Act.put, List.setIfInBounds_toArray, List.set_cons_zero, List.set_cons_succ]
                    refine Take.take (i := 24) (oi := _) (t := 73) (v := ?v61) rfl (by kernel_rfl) (by kernel_rfl) (by kernel_rfl) (by kernel_rfl) (fun _ _ _ h => h) (by kernel_rfl) ?hy61 (by assumption) ?_
                    case hy61 => (intro w hSw; (try dsimp only at hSw); go_simp; try with_reducible rfl)
                    try simp only [Act.put, List.setIfInBounds_toArray, List.set_cons_zero, List.set_cons_succ]
                    refine Take.take (i := 25) (oi := _) (t := 74) (v := ?v62) rfl (by kernel_rfl) (by kernel_rfl) (by kernel_rfl) (by kernel_rfl) (fun _ _ _ h => h) (by kernel_rfl) ?hy62 (by assumption) ?_
                    case hy62 => (intro w hSw; (try dsimp only at hSw); go_simp; try with_reducible rfl)
                    try simp only [Act.put, List.setIfInBounds_toArray, List.set_cons_zero, List.set_cons_succ]
                    refine wpAnyH_ready (rs := [26]) (by kernel_rfl) (by simp) ?_
                    refine AllReadyH.cons (o := _) rfl (fun K hK => ?_) AllReadyH.nil
                    go_simp
                    go_at_call 34
                    refine (HDl.out wu.drew rfl).mono ?_
                    rintro e w' ⟨rfl, h⟩
                    rw [h]
                    clear h w'
                    try dsimp only
                    refine hK.out _ _ ?hS63 (fun hHeld => ?_)
                    case hS63 => (exact hHeld)
                    clear hK K
                    try simp only [Act.put, List.setIfInBounds_toArray, List.set_cons_zero, List.set_cons_succ]
                    refine Take.take (i := 27) (oi := _) (t := 76) (v := ?v64) rfl (by kernel_rfl) (by kernel_rfl) (by kernel_rfl) (by kernel_rfl) (fun _ _ _ h => h) (by kernel_rfl) ?hy64 (by assumption) ?_
                    case hy64 => (intro w hSw; (try dsimp only at hSw); go_simp; try with_reducible rfl)
                    try simp only [Act.put, List.setIfInBounds_toArray, List.set_cons_zero, List.set_cons_succ]
                    refine Take.take (i := 28) (oi := _) (t := 77) (v := ?v65) rfl (by kernel_rfl) (by kernel_rfl) (by kernel_rfl) (by kernel_rfl) (fun _ _ _ h => h) (by kernel_rfl) ?hy65 (by assumption) ?_
                    case hy65 => (intro w hSw; (try dsimp only at hSw); go_simp; try with_reducible rfl)
                    try simp only [Act.put, List.setIfInBounds_toArray, List.set_cons_zero, List.set_cons_succ]
                    refine Take.take (i := 29) (oi := _) (t := 78) (v := ?v66) rfl (by kernel_rfl) (by kernel_rfl) (by kernel_rfl) (by kernel_rfl) (fun _ _ _ h => h) (by kernel_rfl) ?hy66 (by assumption) ?_
                    case hy66 => (intro w hSw; (try dsimp only at hSw); go_simp; try with_reducible rfl)
                    try simp only [Act.put, List.setIfInBounds_toArray, List.set_cons_zero, List.set_cons_succ]
                    refine Take.take (i := 30) (oi := _) (t := 79) (v := ?v67) rfl (by kernel_rfl) (by kernel_rfl) (by kernel_rfl) (by kernel_rfl) (fun _ _ _ h => h) (by kernel_rfl) ?hy67 (by assumption) ?_
                    case hy67 => (intro w hSw; (try dsimp only at hSw); go_simp; try with_reducible rfl)
                    try simp only [Act.put, List.setIfInBounds_toArray, List.set_cons_zero, List.set_cons_succ]
                    refine Take.take (i := 31) (oi := _) (t := 9) (v := ?v68) rfl (by kernel_rfl) (by kernel_rfl) (by kernel_rfl) (by kernel_rfl) (fun _ _ _ h => h) (by kernel_rfl) ?hy68 (by assumption) ?_
                    case hy68 => (intro w hSw; (try dsimp only at hSw); go_simp; try with_reducible rfl)
                    try simp only [Act.put, List.setIfInBounds_toArray, List.set_cons_zero, List.set_cons_succ]
                    refine wpAnyH_done (by kernel_rfl) ?_ _
                    go_wp2_with fail
                    go_roundg (k - (j + 1))
                    case measure => have := Hgj.out; omega
                    case rel => exact ⟨j + 1, rfl, by rw [Hn2.out], by go_num, hjk, Lib.hid LU.out.drew⟩
                  · skip
                    have Hn2 := Lib.hid (show okTo dl r x (j + 1) = true from by rw [Hnx.out, Hfb.out, f1, f2, f3]; rfl)
                    refine wp_region_held_drew (S := fun w' => w'.cell? ⟨Y, 0, none⟩ = some (.int .i64 y.node) ∧ w'.cell? ⟨Y, 1, none⟩ = some (.int .i64 y.time) ∧ w'.cell? ⟨Y, 2, none⟩ = some (.int .i64 y.hops) ∧ w'.cell? ⟨X, 0, none⟩ = some (.int .i64 x.node) ∧ w'.cell? ⟨X, 1, none⟩ = some (.int .i64 x.time) ∧ w'.cell? ⟨X, 2, none⟩ = some (.int .i64 x.hops) ∧ w'.cell? ⟨X, 3, none⟩ = some (.int .i64 x.frm) ∧ w'.cell? ⟨w.heap.size, 3, none⟩ = some (.slice da dl.length dc)) (by kernel_rfl) ⟨p0, p1, p2, c0, c1, c2, c3, cs⟩ (fun hHeld => ?_)
                    refine Take.take (i := 0) (oi := _) (t := 49) (v := ?v69) rfl (by kernel_rfl) (by kernel_rfl) (by kernel_rfl) (by kernel_rfl) (fun _ _ _ h => h) (by kernel_rfl) ?hy69 (by assumption) ?_
                    case hy69 => (intro w hSw; (try dsimp only at hSw); go_simp; try with_reducible rfl)
                    try simp only [Act.put, List.setIfInBounds_toArray, List.set_cons_zero, List.set_cons_succ]
                    refine Take.take (i := 1) (oi := _) (t := 50) (v := ?v70) rfl (by kernel_rfl) (by kernel_rfl) (by kernel_rfl) (by kernel_rfl) (fun _ _ _ h => h) (by kernel_rfl) ?hy70 (by assumption) ?_
                    case hy70 => (intro w hSw; (try dsimp only at hSw); go_simp; try with_reducible rfl)
                    try simp only [Act.put, List.setIfInBounds_toArray, List.set_cons_zero, List.set_cons_succ]
                    refine Take.take (i := 2) (oi := _) (t := 51) (v := ?v71) rfl (by kernel_rfl) (by kernel_rfl) (by kernel_rfl) (by kernel_rfl) (fun _ _ _ h => h) (by kernel_rfl) ?hy71 (by assumption) ?_
                    case hy71 => (intro w hSw; (try dsimp only at hSw); go_simp; try with_reducible rfl)
                    try simp only [Act.put, List.setIfInBounds_toArray, List.set_cons_zero, List.set_cons_succ]
                    refine Take.take (i := 3) (oi := _) (t := 52) (v := ?v72) rfl (by kernel_rfl) (by kernel_rfl) (by kernel_rfl) (by kernel_rfl) (fun _ _ _ h => h) (by kernel_rfl) ?hy72 (by assumption) ?_
                    case hy72 => (intro w hSw; (try dsimp only at hSw); go_simp; try with_reducible rfl)
                    try simp only [Act.put, List.setIfInBounds_toArray, List.set_cons_zero, List.set_cons_succ]
                    refine Take.take (i := 4) (oi := _) (t := 53) (v := ?v73) rfl (by kernel_rfl) (by kernel_rfl) (by kernel_rfl) (by kernel_rfl) (fun _ _ _ h => h) (by kernel_rfl) ?hy73 (by assumption) ?_
                    case hy73 => (intro w hSw; (try dsimp only at hSw); go_simp; try with_reducible rfl)
                    try simp only [Act.put, List.setIfInBounds_toArray, List.set_cons_zero, List.set_cons_succ]
                    refine Take.take (i := 5) (oi := _) (t := 54) (v := ?v74) rfl (by kernel_rfl) (by kernel_rfl) (by kernel_rfl) (by kernel_rfl) (fun _ _ _ h => h) (by kernel_rfl) ?hy74 (by assumption) ?_
                    case hy74 => (intro w hSw; (try dsimp only at hSw); go_simp; try with_reducible rfl)
                    try simp only [Act.put, List.setIfInBounds_toArray, List.set_cons_zero, List.set_cons_succ]
                    refine Take.take (i := 6) (oi := _) (t := 55) (v := ?v75) rfl (by kernel_rfl) (by kernel_rfl) (by kernel_rfl) (by kernel_rfl) (fun _ _ _ h => h) (by kernel_rfl) ?hy75 (by assumption) ?_
                    case hy75 => (intro w hSw; (try dsimp only at hSw); go_simp; try with_reducible rfl)
                    try simp only [Act.put, List.setIfInBounds_toArray, List.set_cons_zero, List.set_cons_succ]
                    refine Take.take (i := 7) (oi := _) (t := 56) (v := ?v76) rfl (by kernel_rfl) (by kernel_rfl) (by kernel_rfl) (by kernel_rfl) (fun _ _ _ h => h) (by kernel_rfl) ?hy76 (by assumption) ?_
                    case hy76 => (intro w hSw; (try dsimp only at hSw); go_simp; try with_reducible rfl)
                    try simp only [Act.put, List.setIfInBounds_toArray, List.set_cons_zero, List.set_cons_succ]
                    refine Take.take (i := 8) (oi := _) (t := 57) (v := ?v77) rfl (by kernel_rfl) (by kernel_rfl) (by kernel_rfl) (by kernel_rfl) (fun _ _ _ h => h) (by kernel_rfl) ?hy77 (by assumption) ?_
                    case hy77 => (intro w hSw; (try dsimp only at hSw); go_simp; try with_reducible rfl)
                    try simp only [Act.put, List.setIfInBounds_toArray, List.set_cons_zero, List.set_cons_succ]
                    refine Take.take (i := 9) (oi := _) (t := 58) (v := ?v78) rfl (by kernel_rfl) (by kernel_rfl) (by kernel_rfl) (by kernel_rfl) (fun _ _ _ h => h) (by kernel_rfl) ?hy78 (by assumption) ?_
                    case hy78 => (intro w hSw; (try dsimp only at hSw); go_simp; try with_reducible rfl)
                    try simp only [Act.put, List.setIfInBounds_toArray, List.set_cons_zero, List.set_cons_succ]
                    refine Take.take (i := 10) (oi := _) (t := 59) (v := ?v79) rfl (by kernel_rfl) (by kernel_rfl) (by kernel_rfl) (by kernel_rfl) (fun _ _ _ h => h) (by kernel_rfl) ?hy79 (by assumption) ?_
                    case hy79 => (intro w hSw; (try dsimp only at hSw); go_simp; try with_reducible rfl)
                    try simp only [Act.put, List.setIfInBounds_toArray, List.set_cons_zero, List.set_cons_succ]
                    refine Take.take (i := 11) (oi := _) (t := 60) (v := ?v80) rfl (by kernel_rfl) (by kernel_rfl) (by kernel_rfl) (by kernel_rfl) (fun _ _ _ h => h) (by kernel_rfl) ?hy80 (by assumption) ?_
                    case hy80 => (intro w hSw; (try dsimp only at hSw); go_simp; try with_reducible rfl)
                    try simp only [Act.put, List.setIfInBounds_toArray, List.set_cons_zero, List.set_cons_succ]
                    refine Take.take (i := 12) (oi := _) (t := 61) (v := ?v81) rfl (by kernel_rfl) (by kernel_rfl) (by kernel_rfl) (by kernel_rfl) (fun _ _ _ h => h) (by kernel_rfl) ?hy81 (by assumption) ?_
                    case hy81 => (intro w hSw; (try dsimp only at hSw); go_simp; try with_reducible rfl)
                    try simp only [Act.put, List.setIfInBounds_toArray, List.set_cons_zero, List.set_cons_succ]
                    refine Take.take (i := 13) (oi := _) (t := 62) (v := ?v82) rfl (by kernel_rfl) (by kernel_rfl) (by kernel_rfl) (by kernel_rfl) (fun _ _ _ h => h) (by kernel_rfl) ?hy82 (by assumption) ?_
                    case hy82 => (intro w hSw; (try dsimp only at hSw); go_simp; try with_reducible rfl)
                    try simp only [Act.put, List.setIfInBounds_toArray, List.set_cons_zero, List.set_cons_succ]
                    refine Take.take (i := 14) (oi := _) (t := 63) (v := ?v83) rfl (by kernel_rfl) (by kernel_rfl) (by kernel_rfl) (by kernel_rfl) (fun _ _ _ h => h) (by kernel_rfl) ?hy83 (by assumption) ?_
                    case hy83 => (intro w hSw; (try dsimp only at hSw); go_simp; try with_reducible rfl)
                    try simp only [Act.put, List.setIfInBounds_toArray, List.set_cons_zero, List.set_cons_succ]
                    refine Take.take (i := 15) (oi := _) (t := 64) (v := ?v84) rfl (by kernel_rfl) (by kernel_rfl) (by kernel_rfl) (by kernel_rfl) (fun _ _ _ h => h) (by kernel_rfl) ?hy84 (by assumption) ?_
                    case hy84 => (intro w hSw; (try dsimp only at hSw); go_simp; try with_reducible rfl)
                    try simp only [Act.put, List.setIfInBounds_toArray, List.set_cons_zero, List.set_cons_succ]
                    refine Take.take (i := 16) (oi := _) (t := 65) (v := ?v85) rfl (by kernel_rfl) (by kernel_rfl) (by kernel_rfl) (by kernel_rfl) (fun _ _ _ h => h) (by kernel_rfl) ?hy85 (by assumption) ?_
                    case hy85 => (intro w hSw; (try dsimp only at hSw); go_simp; try with_reducible rfl)
                    try simp only [Act.put, List.setIfInBounds_toArray, List.set_cons_zero, List.set_cons_succ]
                    refine Take.take (i := 17) (oi := _) (t := 66) (v := ?v86) rfl (by kernel_rfl) (by kernel_rfl) (by kernel_rfl) (by kernel_rfl) (fun _ _ _ h => h) (by kernel_rfl) ?hy86 (by assumption) ?_
                    case hy86 => (intro w hSw; (try dsimp only at hSw); go_simp; try with_reducible rfl)
                    try simp only [Act.put, List.setIfInBounds_toArray, List.set_cons_zero, List.set_cons_succ]
                    refine Take.take (i := 18) (oi := _) (t := 67) (v := ?v87) rfl (by kernel_rfl) (by kernel_rfl) (by kernel_rfl) (by kernel_rfl) (fun _ _ _ h => h) (by kernel_rfl) ?hy87 (by assumption) ?_
                    case hy87 => (intro w hSw; (try dsimp only at hSw); go_simp; try with_reducible rfl)
                    try simp only [Act.put, List.setIfInBounds_toArray, List.set_cons_zero, List.set_cons_succ]
                    refine Take.take (i := 19) (oi := _) (t := 68) (v := ?v88) rfl (by kernel_rfl) (by kernel_rfl) (by kernel_rfl) (by kernel_rfl) (fun _ _ _ h => h) (by kernel_rfl) ?hy88 (by assumption) ?_
                    case hy88 => (intro w hSw; (try dsimp only at hSw); go_simp; try with_reducible rfl)
                    try simp only [Act.put, List.setIfInBounds_toArray, List.set_cons_zero, List.set_cons_succ]
                    refine Take.take (i := 20) (oi := _) (t := 69) (v := ?v89) rfl (by kernel_rfl) (by kernel_rfl) (by kernel_rfl) (by kernel_rfl) (fun _ _ _ h => h) (by kernel_rfl) ?hy89 (by assumption) ?_
                    case hy89 => (intro w hSw; (try dsimp only at hSw); go_simp; try with_reducible rfl)
                    try simp only [Act.put, List.setIfInBounds_toArray, List.set_cons_zero, List.set_cons_succ]
                    refine Take.take (i := 21) (oi := _) (t := 70) (v := ?v90) rfl (by kernel_rfl) (by kernel_rfl) (by kernel_rfl) (by kernel_rfl) (fun _ _ _ h => h) (by kernel_rfl) ?hy90 (by assumption) ?_
                    case hy90 => (intro w hSw; (try dsimp only at hSw); go_simp; try with_reducible rfl)
                    try simp only [Act.put, List.setIfInBounds_toArray, List.set_cons_zero, List.set_cons_succ]
                    refine Take.take (i := 22) (oi := _) (t := 71) (v := ?v91) rfl (by kernel_rfl) (by kernel_rfl) (by kernel_rfl) (by kernel_rfl) (fun _ _ _ h => h) (by kernel_rfl) ?hy91 (by assumption) ?_
                    case hy91 => (intro w hSw; (try dsimp only at hSw); go_simp; try with_reducible rfl)
                    try simp only [Act.put, List.setIfInBounds_toArray, List.set_cons_zero, List.set_cons_succ]
                    refine Take.take (i := 23) (oi := _) (t := 72) (v := ?v92) rfl (by kernel_rfl) (by kernel_rfl) (by kernel_rfl) (by kernel_rfl) (fun _ _ _ h => h) (by kernel_rfl) ?hy92 (by assumption) ?_
                    case hy92 => (intro w hSw; (try dsimp only at hSw); go_simp; try with_reducible rfl)
                    try simp only [Act.put, List.setIfInBounds_toArray, List.set_cons_zero, List.set_cons_succ]
                    refine Take.take (i := 24) (oi := _) (t := 73) (v := ?v93) rfl (by kernel_rfl) (by kernel_rfl) (by kernel_rfl) (by kernel_rfl) (fun _ _ _ h => h) (by kernel_rfl) ?hy93 (by assumption) ?_
                    case hy93 => (intro w hSw; (try dsimp only at hSw); go_simp; try with_reducible rfl)
                    try simp only [Act.put, List.setIfInBounds_toArray, List.set_cons_zero, List.set_cons_succ]
                    refine Take.take (i := 25) (oi := _) (t := 74) (v := ?v94) rfl (by kernel_rfl) (by kernel_rfl) (by kernel_rfl) (by kernel_rfl) (fun _ _ _ h => h) (by kernel_rfl) ?hy94 (by assumption) ?_
                    case hy94 => (intro w hSw; (try dsimp only at hSw); go_simp; try with_reducible rfl)
                    try simp only [Act.put, List.setIfInBounds_toArray, List.set_cons_zero, List.set_cons_succ]
                    refine wpAnyH_ready (rs := [26]) (by kernel_rfl) (by simp) ?_
                    refine AllReadyH.cons (o := _) rfl (fun K hK => ?_) AllReadyH.nil
                    go_simp
                    go_at_call 34
                    refine (HDl.out wu.drew rfl).mono ?_
                    rintro e w' ⟨rfl, h⟩
                    rw [h]
                    clear h w'
                    try dsimp only
                    refine hK.out _ _ ?hS95 (fun hHeld => ?_)
                    case hS95 => (exact hHeld)
                    clear hK K
                    try simp only [Act.put, List.setIfInBounds_toArray, List.set_cons_zero, List.set_cons_succ]
                    refine Take.take (i := 27) (oi := _) (t := 76) (v := ?v96) rfl (by kernel_rfl) (by kernel_rfl) (by kernel_rfl) (by kernel_rfl) (fun _ _ _ h => h) (by kernel_rfl) ?hy96 (by assumption) ?_
                    case hy96 => (intro w hSw; (try dsimp only at hSw); go_simp; try with_reducible rfl)
                    try simp only [Act.put, List.setIfInBounds_toArray, List.set_cons_zero, List.set_cons_succ]
                    refine Take.take (i := 28) (oi := _) (t := 77) (v := ?v97) rfl (by kernel_rfl) (by kernel_rfl) (by kernel_rfl) (by kernel_rfl) (fun _ _ _ h => h) (by kernel_rfl) ?hy97 (by assumption) ?_
                    case hy97 => (intro w hSw; (try dsimp only at hSw); go_simp; try with_reducible rfl)
                    try simp only [Act.put, List.setIfInBounds_toArray, List.set_cons_zero, List.set_cons_succ]
                    refine Take.take (i := 29) (oi := _) (t := 78) (v := ?v98) rfl (by kernel_rfl) (by kernel_rfl) (by kernel_rfl) (by kernel_rfl) (fun _ _ _ h => h) (by kernel_rfl) ?hy98 (by assumption) ?_
                    case hy98 => (intro w hSw; (try dsimp only at hSw); go_simp; try with_reducible rfl)
                    try simp only [Act.put, List.setIfInBounds_toArray, List.set_cons_zero, List.set_cons_succ]
                    refine Take.take (i := 30) (oi := _) (t := 79) (v := ?v99) rfl (by kernel_rfl) (by kernel_rfl) (by kernel_rfl) (by kernel_rfl) (fun _ _ _ h => h) (by kernel_rfl) ?hy99 (by assumption) ?_
                    case hy99 => (intro w hSw; (try dsimp only at hSw); go_simp; try with_reducible rfl)
                    try simp only [Act.put, List.setIfInBounds_toArray, List.set_cons_zero, List.set_cons_succ]
                    refine Take.take (i := 31) (oi := _) (t := 9) (v := ?v100) rfl (by kernel_rfl) (by kernel_rfl) (by kernel_rfl) (by kernel_rfl) (fun _ _ _ h => h) (by kernel_rfl) ?hy100 (by assumption) ?_
                    case hy100 => (intro w hSw; (try dsimp only at hSw); go_simp; try with_reducible rfl)
                    try simp only [Act.put, List.setIfInBounds_toArray, List.set_cons_zero, List.set_cons_succ]
                    refine wpAnyH_done (by kernel_rfl) ?_ _
                    go_wp2_with fail
                    go_roundg (k - (j + 1))
                    case measure => have := Hgj.out; omega
                    case rel => exact ⟨j + 1, rfl, by rw [Hn2.out], by go_num, hjk, Lib.hid LU.out.drew⟩
            · skip
              have Hn2 := Lib.hid (show okTo dl r x (j + 1) = true from by rw [Hnx.out]; rfl)
              refine wp_region_held_drew (S := fun w' => w'.cell? ⟨Y, 0, none⟩ = some (.int .i64 y.node) ∧ w'.cell? ⟨Y, 1, none⟩ = some (.int .i64 y.time) ∧ w'.cell? ⟨Y, 2, none⟩ = some (.int .i64 y.hops) ∧ w'.cell? ⟨X, 0, none⟩ = some (.int .i64 x.node) ∧ w'.cell? ⟨X, 1, none⟩ = some (.int .i64 x.time) ∧ w'.cell? ⟨X, 2, none⟩ = some (.int .i64 x.hops) ∧ w'.cell? ⟨X, 3, none⟩ = some (.int .i64 x.frm) ∧ w'.cell? ⟨w.heap.size, 3, none⟩ = some (.slice da dl.length dc)) (by kernel_rfl) ⟨p0, p1, p2, c0, c1, c2, c3, cs⟩ (fun hHeld => ?_)
              refine Take.take (i := 0) (oi := _) (t := 49) (v := ?v1) rfl (by kernel_rfl) (by kernel_rfl) (by kernel_rfl) (by kernel_rfl) (fun _ _ _ h => h) (by kernel_rfl) ?hy1 (by assumption) ?_
              case hy1 => (intro w hSw; (try dsimp only at hSw); go_simp; try with_reducible rfl)
              try simp only [Act.put, List.setIfInBounds_toArray, List.set_cons_zero, List.set_cons_succ]
              refine Take.take (i := 1) (oi := _) (t := 50) (v := ?v2) rfl (by kernel_rfl) (by kernel_rfl) (by kernel_rfl) (by kernel_rfl) (fun _ _ _ h => h) (by kernel_rfl) ?hy2 (by assumption) ?_
              case hy2 => (intro w hSw; (try dsimp only at hSw); go_simp; try with_reducible rfl)
              try simp only [Act.put, List.setIfInBounds_toArray, List.set_cons_zero, List.set_cons_succ]
              refine Take.skip (i := 2) (t := 51) (g := 1) (b := false) (by kernel_rfl) (by kernel_rfl) (by kernel_rfl) (by kernel_rfl) (fun _ _ _ h => h) (by kernel_rfl) (by assumption) ?_
              try simp only [Act.put, List.setIfInBounds_toArray, List.set_cons_zero, List.set_cons_succ]
              refine Take.skip (i := 3) (t := 52) (g := 1) (b := false) (by kernel_rfl) (by kernel_rfl) (by kernel_rfl) (by kernel_rfl) (fun _ _ _ h => h) (by kernel_rfl) (by assumption) ?_
              try simp only [Act.put, List.setIfInBounds_toArray, List.set_cons_zero, List.set_cons_succ]
              refine Take.skip (i := 4) (t := 53) (g := 1) (b := false) (by kernel_rfl) (by kernel_rfl) (by kernel_rfl) (by kernel_rfl) (fun _ _ _ h => h) (by kernel_rfl) (by assumption) ?_
              try simp only [Act.put, List.setIfInBounds_toArray, List.set_cons_zero, List.set_cons_succ]
              refine Take.skip (i := 5) (t := 54) (g := 1) (b := false) (by kernel_rfl) (by kernel_rfl) (by kernel_rfl) (by kernel_rfl) (fun _ _ _ h => h) (by kernel_rfl) (by assumption) ?_
              try simp only [Act.put, List.setIfInBounds_toArray, List.set_cons_zero, List.set_cons_succ]
              refine Take.skip (i := 6) (t := 55) (g := 1) (b := false) (by kernel_rfl) (by kernel_rfl) (by kernel_rfl) (by kernel_rfl) (fun _ _ _ h => h) (by kernel_rfl) (by assumption) ?_
              try simp only [Act.put, List.setIfInBounds_toArray, List.set_cons_zero, List.set_cons_succ]
              refine Take.skip (i := 7) (t := 56) (g := 1) (b := false) (by kernel_rfl) (by kernel_rfl) (by kernel_rfl) (by kernel_rfl) (fun _ _ _ h => h) (by kernel_rfl) (by assumption) ?_
              try simp only [Act.put, List.setIfInBounds_toArray, List.set_cons_zero, List.set_cons_succ]
              refine Take.skip (i := 8) (t := 57) (g := 7) (b := true) (by kernel_rfl) (by kernel_rfl) (by kernel_rfl) (by kernel_rfl) (fun _ _ _ h => h) (by kernel_rfl) (by assumption) ?_
              try simp only [Act.put, List.setIfInBounds_toArray, List.set_cons_zero, List.set_cons_succ]
              refine Take.skip (i := 9) (t := 58) (g := 7) (b := true) (by kernel_rfl) (by kernel_rfl) (by kernel_rfl) (by kernel_rfl) (fun _ _ _ h => h) (by kernel_rfl) (by assumption) ?_
              try simp only [Act.put, List.setIfInBounds_toArray, List.set_cons_zero, List.set_cons_succ]
              refine Take.skip (i := 10) (t := 59) (g := 7) (b := true) (by kernel_rfl) (by kernel_rfl) (by kernel_rfl) (by kernel_rfl) (fun _ _ _ h => h) (by kernel_rfl) (by assumption) ?_
              try simp only [Act.put, List.setIfInBounds_toArray, List.set_cons_zero, List.set_cons_succ]
              refine Take.skip (i := 11) (t := 60) (g := 7) (b := true) (by kernel_rfl) (by kernel_rfl) (by kernel_rfl) (by kernel_rfl) (fun _ _ _ h => h) (by kernel_rfl) (by assumption) ?_
              try simp only [Act.put, List.setIfInBounds_toArray, List.set_cons_zero, List.set_cons_succ]
              refine Take.skip (i := 12) (t := 61) (g := 7) (b := true) (by kernel_rfl) (by kernel_rfl) (by kernel_rfl) (by kernel_rfl) (fun _ _ _ h => h) (by kernel_rfl) (by assumption) ?_
              try simp only [Act.put, List.setIfInBounds_toArray, List.set_cons_zero, List.set_cons_succ]
              refine Take.skip (i := 13) (t := 62) (g := 7) (b := true) (by kernel_rfl) (by kernel_rfl) (by kernel_rfl) (by kernel_rfl) (fun _ _ _ h => h) (by kernel_rfl) (by assumption) ?_
              try simp only [Act.put, List.setIfInBounds_toArray, List.set_cons_zero, List.set_cons_succ]
              refine Take.skip (i := 14) (t := 63) (g := 1) (b := false) (by kernel_rfl) (by kernel_rfl) (by kernel_rfl) (by kernel_rfl) (fun _ _ _ h => h) (by kernel_rfl) (by assumption) ?_
              try simp only [Act.put, List.setIfInBounds_toArray, List.set_cons_zero, List.set_cons_succ]
              refine Take.skip (i := 15) (t := 64) (g := 1) (b := false) (by kernel_rfl) (by kernel_rfl) (by kernel_rfl) (by kernel_rfl) (fun _ _ _ h => h) (by kernel_rfl) (by assumption) ?_
              try simp only [Act.put, List.setIfInBounds_toArray, List.set_cons_zero, List.set_cons_succ]
              refine Take.skip (i := 16) (t := 65) (g := 15) (b := true) (by kernel_rfl) (by kernel_rfl) (by kernel_rfl) (by kernel_rfl) (fun _ _ _ h => h) (by kernel_rfl) (by assumption) ?_
              try simp only [Act.put, List.setIfInBounds_toArray, List.set_cons_zero, List.set_cons_succ]
              refine Take.skip (i := 17) (t := 66) (g := 15) (b := true) (by kernel_rfl) (by kernel_rfl) (by kernel_rfl) (by kernel_rfl) (fun _ _ _ h => h) (by kernel_rfl) (by assumption) ?_
              try simp only [Act.put, List.setIfInBounds_toArray, List.set_cons_zero, List.set_cons_succ]
              refine Take.skip (i := 18) (t := 67) (g := 15) (b := true) (by kernel_rfl) (by kernel_rfl) (by kernel_rfl) (by kernel_rfl) (fun _ _ _ h => h) (by kernel_rfl) (by assumption) ?_
              try simp only [Act.put, List.setIfInBounds_toArray, List.set_cons_zero, List.set_cons_succ]
              refine Take.skip (i := 19) (t := 68) (g := 15) (b := true) (by kernel_rfl) (by kernel_rfl) (by kernel_rfl) (by kernel_rfl) (fun _ _ _ h => h) (by kernel_rfl) (by assumption) ?_
              try simp only [Act.put, List.setIfInBounds_toArray, List.set_cons_zero, List.set_cons_succ]
              refine Take.skip (i := 20) (t := 69) (g := 15) (b := true) (by kernel_rfl) (by kernel_rfl) (by kernel_rfl) (by kernel_rfl) (fun _ _ _ h => h) (by kernel_rfl) (by assumption) ?_
              try simp only [Act.put, List.setIfInBounds_toArray, List.set_cons_zero, List.set_cons_succ]
              refine Take.skip (i := 21) (t := 70) (g := 15) (b := true) (by kernel_rfl) (by kernel_rfl) (by kernel_rfl) (by kernel_rfl) (fun _ _ _ h => h) (by kernel_rfl) (by assumption) ?_
              try simp only [Act.put, List.setIfInBounds_toArray, List.set_cons_zero, List.set_cons_succ]
              refine Take.skip (i := 22) (t := 71) (g := 15) (b := true) (by kernel_rfl) (by kernel_rfl) (by kernel_rfl) (by kernel_rfl) (fun _ _ _ h => h) (by kernel_rfl) (by assumption) ?_
              try simp only [Act.put, List.setIfInBounds_toArray, List.set_cons_zero, List.set_cons_succ]
              refine Take.skip (i := 23) (t := 72) (g := 15) (b := true) (by kernel_rfl) (by kernel_rfl) (by kernel_rfl) (by kernel_rfl) (fun _ _ _ h => h) (by kernel_rfl) (by assumption) ?_
              try simp only [Act.put, List.setIfInBounds_toArray, List.set_cons_zero, List.set_cons_succ]
              refine Take.skip (i := 24) (t := 73) (g := 15) (b := true) (by kernel_rfl) (by kernel_rfl) (by kernel_rfl) (by kernel_rfl) (fun _ _ _ h => h) (by kernel_rfl) (by assumption) ?_
              try simp only [Act.put, List.setIfInBounds_toArray, List.set_cons_zero, List.set_cons_succ]
              refine Take.skip (i := 25) (t := 74) (g := 15) (b := true) (by kernel_rfl) (by kernel_rfl) (by kernel_rfl) (by kernel_rfl) (fun _ _ _ h => h) (by kernel_rfl) (by assumption) ?_
              try simp only [Act.put, List.setIfInBounds_toArray, List.set_cons_zero, List.set_cons_succ]
              refine Take.skip (i := 26) (t := 75) (g := 15) (b := true) (by kernel_rfl) (by kernel_rfl) (by kernel_rfl) (by kernel_rfl) (fun _ _ _ h => h) (by kernel_rfl) (by assumption) ?_
              try simp only [Act.put, List.setIfInBounds_toArray, List.set_cons_zero, List.set_cons_succ]
              refine Take.skip (i := 27) (t := 76) (g := 15) (b := true) (by kernel_rfl) (by kernel_rfl) (by kernel_rfl) (by kernel_rfl) (fun _ _ _ h => h) (by kernel_rfl) (by assumption) ?_
              try simp only [Act.put, List.setIfInBounds_toArray, List.set_cons_zero, List.set_cons_succ]
              refine Take.skip (i := 28) (t := 77) (g := 15) (b := true) (by kernel_rfl) (by kernel_rfl) (by kernel_rfl) (by kernel_rfl) (fun _ _ _ h => h) (by kernel_rfl) (by assumption) ?_
              try simp only [Act.put, List.setIfInBounds_toArray, List.set_cons_zero, List.set_cons_succ]
              refine Take.skip (i := 29) (t := 78) (g := 1) (b := false) (by kernel_rfl) (by kernel_rfl) (by kernel_rfl) (by kernel_rfl) (fun _ _ _ h => h) (by kernel_rfl) (by assumption) ?_
              try simp only [Act.put, List.setIfInBounds_toArray, List.set_cons_zero, List.set_cons_succ]
              refine Take.take (i := 30) (oi := _) (t := 79) (v := ?v3) rfl (by kernel_rfl) (by kernel_rfl) (by kernel_rfl) (by kernel_rfl) (fun _ _ _ h => h) (by kernel_rfl) ?hy3 (by assumption) ?_
              case hy3 => (intro w hSw; (try dsimp only at hSw); go_simp; try with_reducible rfl)
              try simp only [Act.put, List.setIfInBounds_toArray, List.set_cons_zero, List.set_cons_succ]
              refine Take.take (i := 31) (oi := _) (t := 9) (v := ?v4) rfl (by kernel_rfl) (by kernel_rfl) (by kernel_rfl) (by kernel_rfl) (fun _ _ _ h => h) (by kernel_rfl) ?hy4 (by assumption) ?_
              case hy4 => (intro w hSw; (try dsimp only at hSw); go_simp; try with_reducible rfl)
              try simp only [Act.put, List.setIfInBounds_toArray, List.set_cons_zero, List.set_cons_succ]
              refine wpAnyH_done (by kernel_rfl) ?_ _
              go_wp2_with fail
              go_roundg (k - (j + 1))
              case measure => have := Hgj.out; omega
              case rel => exact ⟨j + 1, rfl, by rw [Hn2.out], by go_num, hjk, Lib.hid LU.out.drew⟩
          · obtain rfl : j = k := by omega
            rw [Hok.out]
            have LU0 := LW
            have bXu := BV.out.below LI.out (by omega)
            have hmM := (BM.out.below LW.out z4)
            have c0 : wr.cell? ⟨X, 0, none⟩ = some (.int .i64 x.node) := bXu.cell 0
            have c1 : wr.cell? ⟨X, 1, none⟩ = some (.int .i64 x.time) := bXu.cell 1
            have c2 : wr.cell? ⟨X, 2, none⟩ = some (.int .i64 x.hops) := bXu.cell 2
            have c3 : wr.cell? ⟨X, 3, none⟩ = some (.int .i64 x.frm) := bXu.cell 3
            have cm : wr.cell? ⟨w2.heap.size, 0, none⟩ = some (.int .i64 (m : Nat)) := hmM.cell 0
            have hgw := HG3.out.below LW.out (Nat.le_refl _)
            have HLk : RowKit.Hid (Calls Tryd.prog 36 #[.pointer (some ⟨G, 0, none⟩), .int .i64 x.frm, .int .i64 x.node] wr.drew fun e w' => e = .returned (.bool true) ∧ w' = wr.drew) := Lib.hid (by
              have := linked_any (w := wr.drew) (hgw.below (Below.refl _ wr).drew (Nat.le_refl _)) x.frm x.node
              rwa [Hlk.out] at this)
            have HPa : RowKit.Hid (Calls Tryd.prog 37 #[.slice (some ⟨g1, 0, none⟩) r.length q1, .int .i64 x.node] wr.drew fun e w' => ∃ (p : Nat) (a : Option Addr) (c : Nat), e = .returned (.slice a p c) ∧ (p : Int) = x.hops + 1 ∧ Below wr.drew.heap.size wr.drew w') := Lib.hid (by
              refine (path_any wr.drew (own_below P1.out (LW.out.drew)) HE.out HF.out (by omega) x.node (wf_small (by omega))).mono fun e w' h => ?_
              obtain ⟨hb, h⟩ := h
              rcases h with ⟨hc, _⟩ | ⟨x', p, v', hx', hxn', hok, rfl, ho⟩
              · exact absurd rfl (cameF_no.1 hc x (mem_of_get Hx.out))
              · obtain ⟨i', hi'⟩ := get_of_mem hx'
                obtain rfl := nodup_uniq HF.out.dist hi' Hx.out hxn'
                rw [Hx.out] at hi'
                cases hi'
                obtain ⟨a, c, rfl⟩ := own_form ho
                exact ⟨p.length, a, c, rfl, hok.len, hb⟩)
            have HS := Lib.hid (fun (U : World) (kU : Below wr.heap.size wr U) => (show U.cell? ⟨X, 0, none⟩ = some (.int .i64 x.node) ∧ U.cell? ⟨X, 1, none⟩ = some (.int .i64 x.time) ∧ U.cell? ⟨X, 2, none⟩ = some (.int .i64 x.hops) ∧ U.cell? ⟨X, 3, none⟩ = some (.int .i64 x.frm) ∧ U.cell? ⟨w2.heap.size, 0, none⟩ = some (.int .i64 (m : Nat)) from ⟨(bXu.below kU bXu.lt).cell 0, (bXu.below kU bXu.lt).cell 1, (bXu.below kU bXu.lt).cell 2, (bXu.below kU bXu.lt).cell 3, (hmM.below kU hmM.lt).cell 0⟩))
            have w1 : IntKind.i64.wrap (x.hops + 1) = x.hops + 1 := IntWalk.i64_in _ (by omega)
            have g2 : decide ((m : Int) ≤ x.hops) = false := by simp; omega
            have hzw : W3.heap.size ≤ wr.heap.size := by omega
            clear hgw hmM bXu
            go_upto_region 14 with (fail)
            refine wp_region_held_drew (S := fun w' => w'.cell? ⟨X, 0, none⟩ = some (.int .i64 x.node) ∧ w'.cell? ⟨X, 1, none⟩ = some (.int .i64 x.time) ∧ w'.cell? ⟨X, 2, none⟩ = some (.int .i64 x.hops) ∧ w'.cell? ⟨X, 3, none⟩ = some (.int .i64 x.frm) ∧ w'.cell? ⟨w2.heap.size, 0, none⟩ = some (.int .i64 (m : Nat))) (by kernel_rfl) ⟨c0, c1, c2, c3, cm⟩ (fun hHeld => ?_)
            refine Take.take (i := 0) (oi := _) (t := 81) (v := ?v101) rfl (by kernel_rfl) (by kernel_rfl) (by kernel_rfl) (by kernel_rfl) (fun _ _ _ h => h) (by kernel_rfl) ?hy101 (by assumption) ?_
            case hy101 => (intro w hSw; (try dsimp only at hSw); go_simp; try with_reducible rfl)
            try simp only [Act.put, List.setIfInBounds_toArray, List.set_cons_zero, List.set_cons_succ]
            refine Take.take (i := 1) (oi := _) (t := 82) (v := ?v102) rfl (by kernel_rfl) (by kernel_rfl) (by kernel_rfl) (by kernel_rfl) (fun _ _ _ h => h) (by kernel_rfl) ?hy102 (by assumption) ?_
            case hy102 => (intro w hSw; (try dsimp only at hSw); go_simp; try with_reducible rfl)
            try simp only [Act.put, List.setIfInBounds_toArray, List.set_cons_zero, List.set_cons_succ]
            refine Take.take (i := 2) (oi := _) (t := 83) (v := ?v103) rfl (by kernel_rfl) (by kernel_rfl) (by kernel_rfl) (by kernel_rfl) (fun _ _ _ h => h) (by kernel_rfl) ?hy103 (by assumption) ?_
            case hy103 => (intro w hSw; (try dsimp only at hSw); go_simp; try with_reducible rfl)
            try simp only [Act.put, List.setIfInBounds_toArray, List.set_cons_zero, List.set_cons_succ]
            refine Take.take (i := 3) (oi := _) (t := 84) (v := ?v104) rfl (by kernel_rfl) (by kernel_rfl) (by kernel_rfl) (by kernel_rfl) (fun _ _ _ h => h) (by kernel_rfl) ?hy104 (by assumption) ?_
            case hy104 => (intro w hSw; (try dsimp only at hSw); go_simp; try with_reducible rfl)
            try simp only [Act.put, List.setIfInBounds_toArray, List.set_cons_zero, List.set_cons_succ]
            refine Take.take (i := 4) (oi := _) (t := 85) (v := ?v105) rfl (by kernel_rfl) (by kernel_rfl) (by kernel_rfl) (by kernel_rfl) (fun _ _ _ h => h) (by kernel_rfl) ?hy105 (by assumption) ?_
            case hy105 => (intro w hSw; (try dsimp only at hSw); go_simp; try with_reducible rfl)
            try simp only [Act.put, List.setIfInBounds_toArray, List.set_cons_zero, List.set_cons_succ]
            refine Take.take (i := 5) (oi := _) (t := 86) (v := ?v106) rfl (by kernel_rfl) (by kernel_rfl) (by kernel_rfl) (by kernel_rfl) (fun _ _ _ h => h) (by kernel_rfl) ?hy106 (by assumption) ?_
            case hy106 => (intro w hSw; (try dsimp only at hSw); go_simp; try with_reducible rfl)
            try simp only [Act.put, List.setIfInBounds_toArray, List.set_cons_zero, List.set_cons_succ]
            refine Take.take (i := 6) (oi := _) (t := 87) (v := ?v107) rfl (by kernel_rfl) (by kernel_rfl) (by kernel_rfl) (by kernel_rfl) (fun _ _ _ h => h) (by kernel_rfl) ?hy107 (by assumption) ?_
            case hy107 => (intro w hSw; (try dsimp only at hSw); go_simp; try with_reducible rfl)
            try simp only [Act.put, List.setIfInBounds_toArray, List.set_cons_zero, List.set_cons_succ]
            refine Take.take (i := 7) (oi := _) (t := 88) (v := ?v108) rfl (by kernel_rfl) (by kernel_rfl) (by kernel_rfl) (by kernel_rfl) (fun _ _ _ h => h) (by kernel_rfl) ?hy108 (by assumption) ?_
            case hy108 => (intro w hSw; (try dsimp only at hSw); go_simp; try with_reducible rfl)
            try simp only [Act.put, List.setIfInBounds_toArray, List.set_cons_zero, List.set_cons_succ]
            refine wpAnyH_ready (rs := [8]) (by kernel_rfl) (by simp) ?_
            refine AllReadyH.cons (o := _) rfl (fun K hK => ?_) AllReadyH.nil
            go_simp
            go_at_call 36
            refine HLk.out.mono ?_
            rintro e w' ⟨rfl, h⟩
            rw [h]
            clear h w'
            try dsimp only
            refine hK.out _ _ ?hS109 (fun hHeld => ?_)
            case hS109 => (first | (exact hHeld) | exact HS.out w7 L7.out)
            clear hK K
            try simp only [Act.put, List.setIfInBounds_toArray, List.set_cons_zero, List.set_cons_succ]
            refine Take.take (i := 9) (oi := _) (t := 90) (v := ?v110) rfl (by kernel_rfl) (by kernel_rfl) (by kernel_rfl) (by kernel_rfl) (fun _ _ _ h => h) (by kernel_rfl) ?hy110 (by assumption) ?_
            case hy110 => (intro w hSw; (try dsimp only at hSw); go_simp; try with_reducible rfl)
            try simp only [Act.put, List.setIfInBounds_toArray, List.set_cons_zero, List.set_cons_succ]
            refine Take.take (i := 10) (oi := _) (t := 91) (v := ?v111) rfl (by kernel_rfl) (by kernel_rfl) (by kernel_rfl) (by kernel_rfl) (fun _ _ _ h => h) (by kernel_rfl) ?hy111 (by assumption) ?_
            case hy111 => (intro w hSw; (try dsimp only at hSw); go_simp; try with_reducible rfl)
            try simp only [Act.put, List.setIfInBounds_toArray, List.set_cons_zero, List.set_cons_succ]
            refine Take.take (i := 11) (oi := _) (t := 92) (v := ?v112) rfl (by kernel_rfl) (by kernel_rfl) (by kernel_rfl) (by kernel_rfl) (fun _ _ _ h => h) (by kernel_rfl) ?hy112 (by assumption) ?_
            case hy112 => (intro w hSw; (try dsimp only at hSw); go_simp; try with_reducible rfl)
            try simp only [Act.put, List.setIfInBounds_toArray, List.set_cons_zero, List.set_cons_succ]
            refine Take.take (i := 12) (oi := _) (t := 93) (v := ?v113) rfl (by kernel_rfl) (by kernel_rfl) (by kernel_rfl) (by kernel_rfl) (fun _ _ _ h => h) (by kernel_rfl) ?hy113 (by assumption) ?_
            case hy113 => (intro w hSw; (try dsimp only at hSw); go_simp; try with_reducible rfl)
            try simp only [Act.put, List.setIfInBounds_toArray, List.set_cons_zero, List.set_cons_succ]
            refine Take.take (i := 13) (oi := _) (t := 94) (v := ?v114) rfl (by kernel_rfl) (by kernel_rfl) (by kernel_rfl) (by kernel_rfl) (fun _ _ _ h => h) (by kernel_rfl) ?hy114 (by assumption) ?_
            case hy114 => (intro w hSw; (try dsimp only at hSw); go_simp; try with_reducible rfl)
            try simp only [Act.put, List.setIfInBounds_toArray, List.set_cons_zero, List.set_cons_succ]
            refine Take.take (i := 14) (oi := _) (t := 95) (v := ?v115) rfl (by kernel_rfl) (by kernel_rfl) (by kernel_rfl) (by kernel_rfl) (fun _ _ _ h => h) (by kernel_rfl) ?hy115 (by assumption) ?_
            case hy115 => (intro w hSw; (try dsimp only at hSw); go_simp; try with_reducible rfl)
            try simp only [Act.put, List.setIfInBounds_toArray, List.set_cons_zero, List.set_cons_succ]
            refine Take.take (i := 15) (oi := _) (t := 96) (v := ?v116) rfl (by kernel_rfl) (by kernel_rfl) (by kernel_rfl) (by kernel_rfl) (fun _ _ _ h => h) (by kernel_rfl) ?hy116 (by assumption) ?_
            case hy116 => (intro w hSw; (try dsimp only at hSw); go_simp; try with_reducible rfl)
            try simp only [Act.put, List.setIfInBounds_toArray, List.set_cons_zero, List.set_cons_succ]
            refine Take.take (i := 16) (oi := _) (t := 97) (v := ?v117) rfl (by kernel_rfl) (by kernel_rfl) (by kernel_rfl) (by kernel_rfl) (fun _ _ _ h => h) (by kernel_rfl) ?hy117 (by assumption) ?_
            case hy117 => (intro w hSw; (try dsimp only at hSw); go_simp; try with_reducible rfl)
            try simp only [Act.put, List.setIfInBounds_toArray, List.set_cons_zero, List.set_cons_succ]
            refine Take.take (i := 17) (oi := _) (t := 98) (v := ?v118) rfl (by kernel_rfl) (by kernel_rfl) (by kernel_rfl) (by kernel_rfl) (fun _ _ _ h => h) (by kernel_rfl) ?hy118 (by assumption) ?_
            case hy118 => (intro w hSw; (try dsimp only at hSw); go_simp; try with_reducible rfl)
            try simp only [Act.put, List.setIfInBounds_toArray, List.set_cons_zero, List.set_cons_succ]
            refine Take.take (i := 18) (oi := _) (t := 99) (v := ?v119) rfl (by kernel_rfl) (by kernel_rfl) (by kernel_rfl) (by kernel_rfl) (fun _ _ _ h => h) (by kernel_rfl) ?hy119 (by assumption) ?_
            case hy119 => (intro w hSw; (try dsimp only at hSw); go_simp; try with_reducible rfl)
            try simp only [Act.put, List.setIfInBounds_toArray, List.set_cons_zero, List.set_cons_succ]
            refine Take.take (i := 19) (oi := _) (t := 100) (v := ?v120) rfl (by kernel_rfl) (by kernel_rfl) (by kernel_rfl) (by kernel_rfl) (fun _ _ _ h => h) (by kernel_rfl) ?hy120 (by assumption) ?_
            case hy120 => (intro w hSw; (try dsimp only at hSw); go_simp; try with_reducible rfl)
            try simp only [Act.put, List.setIfInBounds_toArray, List.set_cons_zero, List.set_cons_succ]
            refine Take.take (i := 20) (oi := _) (t := 101) (v := ?v121) rfl (by kernel_rfl) (by kernel_rfl) (by kernel_rfl) (by kernel_rfl) (fun _ _ _ h => h) (by kernel_rfl) ?hy121 (by assumption) ?_
            case hy121 => (intro w hSw; (try dsimp only at hSw); go_simp; try with_reducible rfl)
            try simp only [Act.put, List.setIfInBounds_toArray, List.set_cons_zero, List.set_cons_succ]
            refine Take.take (i := 21) (oi := _) (t := 102) (v := ?v122) rfl (by kernel_rfl) (by kernel_rfl) (by kernel_rfl) (by kernel_rfl) (fun _ _ _ h => h) (by kernel_rfl) ?hy122 (by assumption) ?_
            case hy122 => (intro w hSw; (try dsimp only at hSw); go_simp; try with_reducible rfl)
            try simp only [Act.put, List.setIfInBounds_toArray, List.set_cons_zero, List.set_cons_succ]
            refine Take.take (i := 24) (oi := _) (t := 105) (v := ?v123) rfl (by kernel_rfl) (by kernel_rfl) (by kernel_rfl) (by kernel_rfl) (fun _ _ _ h => h) (by kernel_rfl) ?hy123 (by assumption) ?_
            case hy123 => (intro w hSw; (try dsimp only at hSw); go_simp; try with_reducible rfl)
            try simp only [Act.put, List.setIfInBounds_toArray, List.set_cons_zero, List.set_cons_succ]
            refine Take.take (i := 25) (oi := _) (t := 106) (v := ?v124) rfl (by kernel_rfl) (by kernel_rfl) (by kernel_rfl) (by kernel_rfl) (fun _ _ _ h => h) (by kernel_rfl) ?hy124 (by assumption) ?_
            case hy124 => (intro w hSw; (try dsimp only at hSw); go_simp; try with_reducible rfl)
            try simp only [Act.put, List.setIfInBounds_toArray, List.set_cons_zero, List.set_cons_succ]
            refine Take.take (i := 26) (oi := _) (t := 107) (v := ?v125) rfl (by kernel_rfl) (by kernel_rfl) (by kernel_rfl) (by kernel_rfl) (fun _ _ _ h => h) (by kernel_rfl) ?hy125 (by assumption) ?_
            case hy125 => (intro w hSw; (try dsimp only at hSw); go_simp; try with_reducible rfl)
            try simp only [Act.put, List.setIfInBounds_toArray, List.set_cons_zero, List.set_cons_succ]
            refine wpAnyH_ready (rs := [22]) (by kernel_rfl) (by simp) ?_
            refine AllReadyH.cons (o := _) rfl (fun K hK => ?_) AllReadyH.nil
            go_simp
            go_at_call 37
            refine HPa.out.mono ?_
            rintro e w7 ⟨p7, a7, c7, rfl, hp7, l7⟩
            try dsimp only
            have L7 := Lib.hid ((Below.refl _ wr).drew.trans (l7 : Below wr.heap.size wr.drew w7))
            refine hK.out _ _ ?hS126 (fun hHeld => ?_)
            case hS126 => (first | (exact hHeld) | exact HS.out w7 L7.out)
            clear hK K
            try simp only [Act.put, List.setIfInBounds_toArray, List.set_cons_zero, List.set_cons_succ]
            refine Take.take (i := 23) (oi := _) (t := 104) (v := ?v127) rfl (by kernel_rfl) (by kernel_rfl) (by kernel_rfl) (by kernel_rfl) (fun _ _ _ h => h) (by kernel_rfl) ?hy127 (by assumption) ?_
            case hy127 => (intro w hSw; (try dsimp only at hSw); go_simp; try with_reducible rfl)
            try simp only [Act.put, List.setIfInBounds_toArray, List.set_cons_zero, List.set_cons_succ]
            refine Take.take (i := 27) (oi := _) (t := 108) (v := ?v128) rfl (by kernel_rfl) (by kernel_rfl) (by kernel_rfl) (by kernel_rfl) (fun _ _ _ h => h) (by kernel_rfl) ?hy128 (by assumption) ?_
            case hy128 => (intro w hSw; (try dsimp only at hSw); go_simp; try with_reducible rfl)
            try simp only [Act.put, List.setIfInBounds_toArray, List.set_cons_zero, List.set_cons_succ]
            refine Take.take (i := 28) (oi := _) (t := 109) (v := ?v129) rfl (by kernel_rfl) (by kernel_rfl) (by kernel_rfl) (by kernel_rfl) (fun _ _ _ h => h) (by kernel_rfl) ?hy129 (by assumption) ?_
            case hy129 => (intro w hSw; (try dsimp only at hSw); go_simp; try with_reducible rfl)
            try simp only [Act.put, List.setIfInBounds_toArray, List.set_cons_zero, List.set_cons_succ]
            refine wpAnyH_done (by kernel_rfl) ?_ _
            go_wp2_with fail
            go_roundg (r.length - (j + 1))
            case measure => have := Hgk.out; omega
            case rel => exact ⟨j + 1, rfl, by go_num, hlt, Lib.hid (LU0.out.trans (L7.out.mono hzw))⟩
    · obtain rfl : k = r.length := by omega
      have HWk := Lib.hid (floodworks_any wr (HT3.out.below LR.out HT3.out.size))
      go_wp2_with (go_at_call 30; refine HWk.out.mono ?_; rintro e w9 ⟨rfl, b9⟩)
      go_ret
      exact ⟨rfl, (L3.out.trans (LR.out.mono L3.out.size)).trans (b9.mono (by have := L3.out.size; omega))⟩
end Go.Proofs.YtmbblhajbecomaaDoor.Flood
