/- reach's Dist: walked. -/
import Derived.Test.YtcangalpccppbaaDoorReachBall
import Derived.Test.YtcangalpccppbaaDoorMade
namespace Go.Proofs.YtcangalpccppbaaDoor.Reach
open Go.RowKit
open Go.Proofs.YtcangalpccppbaaDoor.RF Go.Proofs.YtcangalpccppbaaDoor.Heap Go.Proofs.YtcangalpccppbaaDoor.Nodes Go.Proofs.YtcangalpccppbaaDoor.Graph
set_option linter.unusedVariables false
set_option linter.unusedSimpArgs false
attribute [local go_sem] Oper.semAt_some

/-- Numbers as cells. -/
def ic (l : List Int) : Array Value := (l.map (Value.int .i64)).toArray
theorem ic_set (l : List Int) (k : Nat) (x : Int) : (ic l).setIfInBounds k (.int .i64 x) = ic (l.set k x) := by
  simp [ic, List.map_set]
theorem ic_at {l : List Int} {k : Nat} (h : k < l.length) : (ic l)[k]? = some (.int .i64 (l.getD k (-1))) := by
  simp [ic, h]
theorem blk_ic {w : World} {g : Nat} {t : TypeId} {l : List Int} (h : Blk w g t (ic l)) (k : Nat) (x : Int) : Blk (w.setCell ⟨g, k, none⟩ (.int .i64 x)) g t (ic (l.set k x)) := by
  rw [← ic_set]; exact h.put k _
theorem made_int (n : Nat) : madeCells #[(.int .i64 0 : Value)] n = ic (List.replicate n 0) := by
  apply Array.ext
  · simp [madeCells, ic]
  · intro i h1 h2
    simp [madeCells, ic, Nat.mod_one]
def initL (n k : Nat) : List Int := List.replicate k (-1) ++ List.replicate (n - k) 0
theorem initL_zero (n : Nat) : initL n 0 = List.replicate n 0 := by simp [initL]
theorem initL_len {n k : Nat} (h : k ≤ n) : (initL n k).length = n := by simp [initL]; omega
theorem initL_succ {n k : Nat} (h : k < n) : (initL n k).set k (-1) = initL n (k + 1) := by
  unfold initL
  obtain ⟨m, hm⟩ : ∃ m, n - k = m + 1 := ⟨n - k - 1, by omega⟩
  rw [hm, show n - (k + 1) = m by omega, List.replicate_succ, List.replicate_succ', List.set_append_right _ _ (by simp)]
  simp
theorem initL_full (n : Nat) (l : List Nat) : initL n n = distTo n l 0 := by
  unfold initL distTo
  rw [Nat.sub_self, List.replicate_zero, List.append_nil]
  refine List.ext_getElem (by simp) fun j h1 h2 => by simp [dl]
/-- While a ring is gone through. -/
def part (n : Nat) (l : List Nat) (t : Nat) (pre : List Nat) : List Int := (List.range n).map fun j => if j ∈ pre then (t : Int) else dl l t j
theorem part_len (n : Nat) (l : List Nat) (t : Nat) (pre : List Nat) : (part n l t pre).length = n := by simp [part]
theorem part_nil (n : Nat) (l : List Nat) (t : Nat) : part n l t [] = distTo n l t := by simp [part, distTo]
theorem part_snoc (n : Nat) (l : List Nat) (t : Nat) (pre : List Nat) (x : Nat) : part n l t (pre ++ [x]) = (part n l t pre).set x t := by
  refine List.ext_getElem (by simp [part]) fun j h1 h2 => ?_
  rw [List.getElem_set]
  simp only [part, List.getElem_map, List.getElem_range, List.mem_append, List.mem_singleton]
  by_cases c : x = j
  · subst c; simp
  · rw [if_neg c]
    have d : ¬ j = x := fun e => c e.symm
    by_cases c2 : j ∈ pre <;> simp [c2, d]
theorem part_full (n : Nat) (l : List Nat) (t : Nat) (h : n ≤ 64) : part n l t (ones (l.getD t 0)) = distTo n l (t + 1) := by
  unfold part distTo
  refine List.map_congr_left fun j hj => ?_
  rw [List.mem_range] at hj
  rw [dl]
  by_cases c : (l.getD t 0).testBit j = true
  · rw [if_pos c, if_pos (mem_ones.2 ⟨by omega, c⟩)]
  · rw [if_neg c, if_neg (fun d => c (mem_ones.1 d).2)]
/-- Ahead of a round of the loop over the rings. -/
structure DLInv (w w1 : World) (n : Nat) (l : List Nat) (k : Nat) (ds : List Deferred) (W : World) : Prop where
  marks : Marked w.heap.size ds W
  d : Blk W w.heap.size 3 (ic (distTo n l k))
  x : Blk W (w.heap.size + 1) 47 #[.slice (some ⟨w.heap.size, 0, none⟩) n n]
  off : Off (fun j => j = w.heap.size) w1 W
/-- Ahead of a round of the loop over a ring. -/
structure DRInv (w w1 W Wr : World) (n : Nat) (l : List Nat) (k : Nat) (pre : List Nat) (V : World) : Prop where
  d : Blk V w.heap.size 3 (ic (part n l k pre))
  x : Blk V (w.heap.size + 1) 47 #[.slice (some ⟨w.heap.size, 0, none⟩) n n]
  far : Blk V W.heap.size 3 #[.int .i64 (k : Nat)]
  box : ∃ x, Blk V (W.heap.size + 1) 38 x
  off : Off (fun j => j = w.heap.size) w1 V
  kept : ∀ j : Nat, Wr.heap[j]? = some (Obj.deferred (some [])) → V.heap[j]? = some (Obj.deferred (some []))
  size : Wr.heap.size ≤ V.heap.size
theorem DRInv.hush {w w1 W Wr : World} {n : Nat} {l : List Nat} {k : Nat} {pre : List Nat} {V V' : World} (h : DRInv w w1 W Wr n l k pre V) (c : Hush (fun k => k = W.heap.size + 1) Wr.heap.size V V') (h1 : w.heap.size + 1 < W.heap.size) (h2 : w1.heap.size ≤ W.heap.size ∧ W.heap.size < Wr.heap.size) : DRInv w w1 W Wr n l k pre V' := by
  obtain ⟨x, hx⟩ := h.box
  refine ⟨c.blk h.d (by show ¬ w.heap.size = _; omega), c.blk h.x (by show ¬ w.heap.size + 1 = _; omega), c.blk h.far (by show ¬ W.heap.size = _; omega), c.kind _ _ _ hx, ?_, fun j hj => ?_, Nat.le_trans h.size c.size⟩
  · exact ⟨c.os.trans h.off.os, c.tape.trans h.off.tape, c.output.trans h.off.output, Nat.le_trans h.off.size c.size, fun j hj hn => by
      have e := h.off.block j hj hn
      rw [Array.getElem?_eq_getElem hj] at e
      exact (c.rest j _ e (by show ¬ j = _; omega) (.inl (by omega))).trans (Array.getElem?_eq_getElem hj).symm⟩
  · have hv := h.kept j hj
    refine c.rest j _ hv (fun e => ?_) (.inl (Array.getElem?_eq_some_iff.1 hj).1)
    subst e
    unfold Blk at hx
    rw [hx] at hv; cases hv
theorem DLInv.low {w w1 : World} {n : Nat} {l : List Nat} {k : Nat} {ds : List Deferred} {W : World} (h : DLInv w w1 n l k ds W) (h1 : Below w.heap.size w w1) : Below w.heap.size w W := by
  rcases h.off.below (b := w.heap.size) (fun k _ hk => by omega) with c | c
  · exact h1.trans c
  · have := h1.size; omega
set_option maxRecDepth 100000 in
set_option maxHeartbeats 8000000 in
theorem dist_any {w : World} {G R : Nat} {near : List Nat} (hg : GraphAt w G R near) (hT : Tab w) (ok : Ok near) (i : Int) (off : Nat) (ho : off < 2 ^ 64) :
    Calls Tryd.prog 35 #[.pointer (some ⟨G, 0, none⟩), .int .i64 i, .int .u64 (off : Nat)] w fun e w' => ∃ g, e = .returned (.slice (some ⟨g, 0, none⟩) near.length near.length) ∧ w.heap.size ≤ g ∧ Blk w' g 3 (ic (distF near off i)) ∧ Below w.heap.size w w' := by
  refine callsIn_wide.1 (callsIn_of_wp_marks (n := 0) Tryd.func35 rfl trivial ?_ rfl)
  simp only [Tryd.ntmps35, List.size_toArray, List.length_cons, List.length_nil, Nat.reduceAdd, Nat.reduceSub, Array.replicate_succ, Array.replicate_zero, List.push_toArray, List.append_toArray, List.nil_append, List.cons_append]
  refine wpIn_wide.2 ?_
  have hfew := ok.few
  have lenI : (0 : Int) ≤ (near.length : Int) := by omega
  have hmk := run_make_row' (P := Tryd.prog) 47 3 (.int .i64 0) 8 Tryd.underlying47 infoI rfl .i64 .i64 near.length (by omega) (by omega)
  obtain ⟨W1, hW1⟩ : ∃ W1, (w.alloc (.cells (madeCells #[.int .i64 0] near.length) 3)).alloc (.cells #[.slice (some ⟨w.heap.size, 0, none⟩) near.length near.length] 47) = W1 := ⟨_, rfl⟩
  have z1 : (w.alloc (.cells (madeCells #[.int .i64 0] near.length) 3)).heap.size = w.heap.size + 1 := by simp
  have bD : Blk W1 w.heap.size 3 (ic (initL near.length 0)) := by rw [← hW1, initL_zero, ← made_int]; exact (Blk.new w _ _).alloc _
  have bX : Blk W1 (w.heap.size + 1) 47 #[.slice (some ⟨w.heap.size, 0, none⟩) near.length near.length] := by
    rw [← hW1]
    have := Blk.new (w.alloc (.cells (madeCells #[.int .i64 0] near.length) 3)) 47 #[.slice (some ⟨w.heap.size, 0, none⟩) near.length near.length]
    rwa [z1] at this
  have l1 : Below w.heap.size w W1 := by rw [← hW1]; exact ((Below.refl _ w).alloc (Nat.le_refl _) _).alloc (by simp) _
  have cX := bX.cell 0
  simp at cX
  have HW := Lib.hid hW1
  have HN := Lib.hid (n_any hg)
  clear hW1 z1
  go_wp2_with (first | (go_at_call 27; refine HN.out.mono ?_; rintro e w' ⟨rfl, h⟩; rw [h]; clear h w') | (rw [HW.out]))
  clear HW hmk HN
  go_loopw [17] (fun v17 wr => ∃ k : Nat, v17 = .int .i64 k ∧ k ≤ near.length ∧ Blk wr w.heap.size 3 (ic (initL near.length k)) ∧ Blk wr (w.heap.size + 1) 47 #[.slice (some ⟨w.heap.size, 0, none⟩) near.length near.length] ∧ Below w.heap.size w wr) (fun v17 _ => match v17 with | .int _ k => near.length - k.toNat | _ => 0)
  case atStart => exact ⟨0, rfl, Nat.zero_le _, bD, bX, l1⟩
  case round =>
    clear bD bX l1 cX
    obtain ⟨k, rfl, hk, bD, bX, lR⟩ := hrel
    have cX := bX.cell 0
    simp at cX
    by_cases hlt : k < near.length
    · have l3 : (0 : Int) ≤ (k : Int) := by omega
      have l4 : (k : Int) < (near.length : Int) := by omega
      have c4 := (bD.cell k).trans (ic_at (by rw [initL_len hk]; exact hlt))
      have f4 := bD.frozen k
      have BD := Lib.hid bD
      have BX := Lib.hid bX
      clear bD bX
      go_wp2_with fail
      go_round
      case rel => exact ⟨k + 1, rfl, hlt, by rw [← initL_succ hlt]; exact blk_ic BD.out k (-1), BX.out.far (by show w.heap.size + 1 ≠ w.heap.size; omega) _, lR.setCell (p := ⟨w.heap.size, k, none⟩) (Nat.le_refl _) _⟩
      case measure => simp; omega
    · obtain rfl : k = near.length := by omega
      rw [initL_full near.length (rings near off i)] at bD
      go_wp2_with fail
      have hRings := rings_any (hg.below lR (Nat.le_refl _)) (hT.below lR hT.size) ok i off ho
      refine hRings.mono ?_
      clear hRings cX
      rintro e w1 ⟨v, rfl, own, b1⟩
      have hfl := rings_few ok ho i
      have hlt2 := rings_lt ok ho i
      have hbit : ∀ j x, x ∈ ones ((rings near off i).getD j 0) → x < near.length := fun j x hx => by
        obtain ⟨_, h⟩ := rings_spec ok ho i
        rcases Nat.lt_or_ge j (rings near off i).length with c | c
        · exact ((h.at_ j x c).1 (mem_ones.1 hx).2).1.lt
        · rw [List.getD_eq_getElem?_getD, List.getElem?_eq_none c] at hx
          simp [ones_zero] at hx
      obtain ⟨l, hl⟩ : ∃ l, rings near off i = l := ⟨_, rfl⟩
      rw [hl] at own bD hfl hlt2 hbit
      obtain ⟨a, cap, rfl, hc⟩ := own_sets own
      have hge := fun (b : Nat) (h : a = some ⟨b, 0, none⟩) => (show wr.heap.size ≤ b from own_ge own (b := b) (by rw [h]; rfl))
      have Hc := Lib.hid hc
      have Hge := Lib.hid hge
      have Hlt := Lib.hid hlt2
      have Hbit := Lib.hid hbit
      have Hres := Lib.hid (show distF near off i = distTo near.length l l.length from by rw [← hl]; rfl)
      have bD1 := bD.below b1 bD.lt
      have bX1 := bX.below b1 bX.lt
      have low1 : Below w.heap.size w w1 := lR.trans (b1.mono lR.size)
      have zX := bX.lt
      have hDw := bD.lt
      clear own hc hge hlt2 hbit bD bX hl b1
      go_wp2_with fail
      refine wp_loop (fun a' W => ∃ (k : Nat) (ds : List Deferred) (u0 u1 u2 u3 u4 u5 u6 u8 u9 u10 u11 u12 u13 u14 u15 u16 u17 u18 u19 u20 u21 u22 u23 u24 u25 u26 u30 u31 u32 u33 u34 u35 u36 u37 u38 u39 u40 u41 u42 : Value), a' = { tmps := #[u0, u1, u2, u3, u4, u5, u6, .pointer (some ⟨w.heap.size + 1, 0, none⟩), u8, u9, u10, u11, u12, u13, u14, u15, u16, u17, u18, u19, u20, u21, u22, u23, u24, u25, u26, .slice a l.length cap, .int .i64 l.length, .int .i64 (k : Nat), u30, u31, u32, u33, u34, u35, u36, u37, u38, u39, u40, u41, u42], defers := ds } ∧ k ≤ l.length ∧ DLInv w w1 near.length l k ds W) (fun a' _ => l.length - slotNat a' 29) ?_ ?_
      · exact ⟨0, [], _, _, _, _, _, _, _, _, _, _, _, _, _, _, _, _, _, _, _, _, _, _, _, _, _, _, _, _, _, _, _, _, _, _, _, _, _, _, _, rfl, Nat.zero_le _, Marked.nil _ _, bD1, bX1, Off.refl _ _⟩
      clear bD1 bX1
      rintro a' W ⟨k, ds, u0, u1, u2, u3, u4, u5, u6, u8, u9, u10, u11, u12, u13, u14, u15, u16, u17, u18, u19, u20, u21, u22, u23, u24, u25, u26, u30, u31, u32, u33, u34, u35, u36, u37, u38, u39, u40, u41, u42, rfl, hk2, hI⟩
      have bDW := hI.d
      have bXW := hI.x
      have ofW := hI.off
      have lowW : Below w.heap.size w W := hI.low low1
      by_cases hlt2 : k < l.length
      · obtain ⟨b, rfl, hbl, c0⟩ := Hc.out k hlt2
        have hbge := Hge.out b rfl
        replace c0 := (ofW.cell (p := ⟨b, k, none⟩) hbl (by show ¬ b = w.heap.size; omega)).trans c0
        obtain ⟨s, hs⟩ : ∃ s, l.getD k 0 = s := ⟨_, rfl⟩
        have hs64 := Hlt.out k
        have hsb := Hbit.out k
        rw [hs] at c0 hs64 hsb
        have l3 : (0 : Int) ≤ (k : Int) := by omega
        have l4 : (k : Int) < (l.length : Int) := by omega
        go_wp2_with fail
        refine (each_any s _).mono ?_
        rintro e w' ⟨rfl, h⟩
        rw [h]
        clear h w'
        obtain ⟨Wr, hWr⟩ : ∃ Wr, (W.alloc (.cells #[.int .i64 (k : Nat)] 3)).alloc (.cells #[.int .u64 (s : Nat)] 38) = Wr := ⟨_, rfl⟩
        have z1 : (W.alloc (.cells #[.int .i64 (k : Nat)] 3)).heap.size = W.heap.size + 1 := by simp
        have bA : Blk Wr W.heap.size 3 #[.int .i64 (k : Nat)] := by rw [← hWr]; exact (Blk.new W _ _).alloc _
        have bB : Blk Wr (W.heap.size + 1) 38 #[.int .u64 (s : Nat)] := by
          rw [← hWr]
          have := Blk.new (W.alloc (.cells #[.int .i64 (k : Nat)] 3)) 38 #[.int .u64 (s : Nat)]
          rwa [z1] at this
        have ofWr : Off (fun _ => False) W Wr := by rw [← hWr]; exact ((Off.refl _ _).alloc _).alloc _
        have mkr : Marked w.heap.size ds Wr := by rw [← hWr]; exact Fr.marks (b0 := 0) (ts := []) (((Fr.refl 0 [] W).alloc _).alloc _) hI.marks
        have bDr := bDW.off ofWr id
        have bXr := bXW.off ofWr id
        have of1 : Off (fun j => j = w.heap.size) w1 Wr := ofW.trans ofWr.none
        have hTr : Tab Wr := (hT.below lowW hT.size).off ofWr id (by have := hT.size; have := lowW.size; omega)
        have zr := bB.lt
        have zw := ofW.size
        have zd := bDW.lt
        have zx := bXW.lt
        have hw0 := hT.size
        rw [hWr]
        clear hWr z1 c0 bDW bXW ofW hI
        go_wp2_with fail
        refine range_each (B := W.heap.size + 1) (s := s) rfl hs64 bB hTr (by omega) rfl (fun pre V => DRInv w w1 W Wr near.length l k pre V) (fun _ _ _ => False) (fun xs A C h c => h.hush c (by omega) (by omega)) (fun _ _ _ _ h _ => h)
          ⟨by rw [part_nil]; exact bDr, bXr, bA, ⟨_, bB⟩, of1, fun _ h => h, Nat.le_refl _⟩ (fun x => { tmps := #[u0, u1, u2, u3, u4, u5, u6, .pointer (some ⟨w.heap.size + 1, 0, none⟩), u8, .pointer (some ⟨W.heap.size, 0, none⟩), .int .u64 (s : Nat), .int .i64 (x : Nat), u12, u13, u14, u15, u16, u17, u18, u19, u20, u21, u22, u23, u24, u25, u26, .slice (some ⟨b, 0, none⟩) l.length cap, .int .i64 l.length, .int .i64 (k : Nat), .bool true, .int .i64 (k : Nat), .pointer (some ⟨b, k, none⟩), .int .u64 (s : Nat), .int .u64 (s : Nat), .func (.func 59) #[] #[.pointer (some ⟨W.heap.size + 1, 0, none⟩)], .int .i64 (x : Nat), u37, u38, u39, u40, u41, u42], defers := [] }) ?assign ?body ?done ?stop
        case assign =>
          intro l' x V R hR
          gi_wp2
          exact hR
        case stop =>
          rintro D c pre V _ _ h _
          exact h.elim
        case body =>
          rintro l' pre x V hzV ⟨d1, x1, a1, ⟨y1, b1⟩, of2, kp, sz⟩ hpre
          have hxn : x < near.length := hsb x (hpre.subset (by simp))
          have cX := x1.cell 0
          have cA := a1.cell 0
          have cD := (d1.cell x).trans (ic_at (by rw [part_len]; exact hxn))
          have fD := d1.frozen x
          simp at cX cA
          have q1 : (0 : Int) ≤ (x : Int) := by omega
          have q2 : (x : Int) < (near.length : Int) := by omega
          gi_wp2
          refine ⟨off_stays (K := fun k => k = w.heap.size) (off_put (Off.refl _ V) _ _) (fun k hk => by subst hk; exact ⟨_, _, d1⟩) (fun k hk => ?_), ⟨by rw [part_snoc]; exact blk_ic d1 x k, x1.far (by show w.heap.size + 1 ≠ w.heap.size; omega) _, a1.far (by show W.heap.size ≠ w.heap.size; omega) _, ⟨y1, b1.far (by show W.heap.size + 1 ≠ w.heap.size; omega) _⟩, off_put of2 _ _, fun j hj => ?_, by simpa [World.setCell] using sz⟩⟩
          · rcases hk with rfl | rfl
            · exact ⟨b1.lt, by omega⟩
            · exact ⟨by omega, by omega⟩
          · have hv := kp j hj
            refine (Below.heap_setCell V ⟨w.heap.size, x, none⟩ _ j (fun e => ?_)).trans hv
            unfold Blk at d1
            rw [show j = w.heap.size from e, d1] at hv; cases hv
        case done =>
          rintro D V hD ⟨d1, x1, a1, ⟨y1, b1⟩, of2, kp, sz⟩ hd
          rw [← hs, part_full near.length l k hfew] at d1
          have mkD := Marked.cons mkr kp hD (by omega) hd
          go_wp2_with fail
          refine ⟨⟨k + 1, _, _, _, _, _, _, _, _, _, _, _, _, _, _, _, _, _, _, _, _, _, _, _, _, _, _, _, _, _, _, _, _, _, _, _, _, _, _, _, _, rfl, hlt2, mkD, d1, x1, of2⟩, ?_⟩
          simp [slotNat]; omega
      · obtain rfl : k = l.length := by omega
        have cX := bXW.cell 0
        simp at cX
        have hM := hI.marks
        have Hres' := Hres
        clear hI
        go_wp2_with fail
        refine leaves_marks hM fun w' hB hC => ?_
        exact ⟨_, results_tmp rfl _ _ _, _, rfl, Nat.le_refl _, by rw [Hres'.out]; exact hC _ _ bDW rfl, lowW.trans hB⟩
end Go.Proofs.YtcangalpccppbaaDoor.Reach
