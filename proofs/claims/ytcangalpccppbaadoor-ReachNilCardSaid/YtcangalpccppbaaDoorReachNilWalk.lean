/- What reach answers of a graph that is nil; the law's walk. -/
import Derived.Test.YtcangalpccppbaaDoorReachWorks
namespace Go.Proofs.YtcangalpccppbaaDoor.Reach
open Go.RowKit
open Go.Proofs.YtcangalpccppbaaDoor.RF Go.Proofs.YtcangalpccppbaaDoor.Heap Go.Proofs.YtcangalpccppbaaDoor.Nodes Go.Proofs.YtcangalpccppbaaDoor.Graph
set_option linter.unusedVariables false
set_option linter.unusedSimpArgs false
attribute [local go_sem] Oper.semAt_some

theorem there_nil {off : Nat} (ho : off < 2 ^ 64) : bits .andNot .u64 ((2 ^ 0 - 1 : Nat) : Int) (off : Int) = ((0 : Nat) : Int) := by
  rw [there_any (n := 0) (by omega) ho]
  congr 1
  refine Nat.eq_of_testBit_eq fun k => ?_
  rw [thereN_bit (by omega) ho, Nat.zero_testBit]
  simp [on]
theorem and_nil (x : Nat) (hx : x < 2 ^ 64) : bits .and .u64 (x : Int) ((2 ^ 0 - 1 : Nat) : Int) = ((0 : Nat) : Int) := by
  rw [bits_and_u64_nat x (2 ^ 0 - 1) hx (by decide)]
  simp
theorem start_nil (w : World) (i : Int) (off : Nat) (ho : off < 2 ^ 64) :
    Calls Tryd.prog 61 #[.pointer none, .int .i64 i, .int .u64 (off : Nat)] w fun e w' => e = .returned (.int .u64 0) ∧ Below w.heap.size w w' := by
  obtain ⟨W, hW⟩ : ∃ W, w.alloc (.cells #[.int .i64 i] 3) = W := ⟨_, rfl⟩
  have bW : Blk W w.heap.size 3 #[.int .i64 i] := by rw [← hW]; exact Blk.new w _ _
  have lW : Below w.heap.size w W := by rw [← hW]; exact (Below.refl _ w).alloc (Nat.le_refl _) _
  have H1 := Lib.hid (of_one i w.heap.size W (bW.cell 0))
  have H2 := Lib.hid (n_nil W)
  have H3 := Lib.hid (all_any 0 (by omega) W)
  have e1 : bits .and .u64 (oneN i : Int) 0 = 0 := by simpa using and_nil (oneN i) (oneN_lt i)
  have e2 : bits .andNot .u64 0 (off : Int) = 0 := by simpa using there_nil ho
  have HW := Lib.hid hW
  clear bW hW
  simp only [Nat.pow_zero, Nat.sub_self] at H3
  go_enter Tryd.func61, Tryd.ntmps61
  go_wp2_with (first
    | (rw [HW.out])
    | (go_at_call 64; refine H1.out.mono ?_; rintro e w' ⟨rfl, h⟩; rw [h]; clear h w')
    | (go_at_call 27; refine H2.out.mono ?_; rintro e w' ⟨rfl, h⟩; rw [h]; clear h w')
    | (go_at_call 54; refine H3.out.mono ?_; rintro e w' ⟨rfl, h⟩; rw [h]; clear h w'))
  go_ret
  exact ⟨rfl, lW⟩
set_option maxHeartbeats 4000000 in
theorem rings_nil (w : World) (i : Int) (off : Nat) (ho : off < 2 ^ 64) :
    Calls Tryd.prog 53 #[.pointer none, .int .i64 i, .int .u64 (off : Nat)] w fun e w' => e = .returned (.slice none 0 0) ∧ Below w.heap.size w w' := by
  have H1 := Lib.hid (start_nil w i off ho)
  go_enter Tryd.func53, Tryd.ntmps53
  go_wp2_with fail
  refine wp_scope_again 0 (fun a' W => (∃ (u10 u11 u12 u13 u14 u15 u16 u17 u18 u19 u20 u21 u22 u23 u24 u25 u26 u27 u28 u29 : Value), a' = { tmps := #[.pointer none, .int .i64 i, .int .u64 (off : Nat), undef, undef, undef, .slice none 0 0, .slice none 0 0, .int .u64 0, .int .u64 0, u10, u11, u12, u13, u14, u15, u16, u17, u18, u19, u20, u21, u22, u23, u24, u25, u26, u27, u28, u29], defers := [] }) ∧ Below w.heap.size w W) (fun a' _ => 0) rfl ?_ ?_
  · intro rest
    go_wp2_with (go_at_call 61; refine H1.out.mono ?_; rintro e w1 ⟨rfl, b1⟩)
    go_step3
    rename_i K0 hK0
    exact hK0 _ _ (rest _ _ ⟨⟨_, _, _, _, _, _, _, _, _, _, _, _, _, _, _, _, _, _, _, _, rfl⟩, b1⟩)
  · rintro a' W ⟨⟨u10, u11, u12, u13, u14, u15, u16, u17, u18, u19, u20, u21, u22, u23, u24, u25, u26, u27, u28, u29, rfl⟩, low⟩
    go_wp2_with fail
    simp only [Exit.jump]
    go_ret
    exact ⟨rfl, low⟩
theorem ball_nil (w : World) (i most : Int) (off : Nat) (ho : off < 2 ^ 64) :
    Calls Tryd.prog 42 #[.pointer none, .int .i64 i, .int .i64 most, .int .u64 (off : Nat)] w fun e w' => e = .returned (.int .u64 0) ∧ Below w.heap.size w w' := by
  have H1 := Lib.hid (rings_nil w i off ho)
  go_enter Tryd.func42, Tryd.ntmps42
  go_wp2_with (go_at_call 53; refine H1.out.mono ?_; rintro e w1 ⟨rfl, b1⟩)
  refine wp_loop_rounds 1 ?_
  unfold Code.rounds
  go_wp2_with fail
  go_ret
  exact ⟨rfl, b1⟩
theorem from_nil (w : World) (i : Int) (off : Nat) (ho : off < 2 ^ 64) :
    Calls Tryd.prog 36 #[.pointer none, .int .i64 i, .int .u64 (off : Nat)] w fun e w' => e = .returned (.int .u64 0) ∧ Below w.heap.size w w' := by
  have H1 := Lib.hid (ball_nil w i 64 off ho)
  go_enter Tryd.func36, Tryd.ntmps36
  go_wp2_with (go_at_call 42; refine H1.out.mono ?_; rintro e w1 ⟨rfl, b1⟩)
  go_ret
  exact ⟨rfl, b1⟩
theorem whole_nil (w : World) (off : Nat) (ho : off < 2 ^ 64) :
    Calls Tryd.prog 41 #[.pointer none, .int .u64 (off : Nat)] w fun e w' => e = .returned (.bool false) ∧ Below w.heap.size w w' := by
  have H1 := Lib.hid (n_nil w)
  have H2 := Lib.hid (all_any 0 (by omega) w)
  have e1 : bits .andNot .u64 0 (off : Int) = 0 := by simpa using there_nil ho
  simp only [Nat.pow_zero, Nat.sub_self] at H2
  go_enter Tryd.func41, Tryd.ntmps41
  go_wp2_with (first
    | (go_at_call 27; refine H1.out.mono ?_; rintro e w' ⟨rfl, h⟩; rw [h]; clear h w')
    | (go_at_call 54; refine H2.out.mono ?_; rintro e w' ⟨rfl, h⟩; rw [h]; clear h w'))
  go_ret
  exact ⟨rfl, Below.refl _ _⟩
set_option maxRecDepth 100000 in
set_option maxHeartbeats 8000000 in
theorem dist_nil (w : World) (i : Int) (off : Nat) (ho : off < 2 ^ 64) :
    Calls Tryd.prog 35 #[.pointer none, .int .i64 i, .int .u64 (off : Nat)] w fun e w' => ∃ g, e = .returned (.slice (some ⟨g, 0, none⟩) 0 0) ∧ Below w.heap.size w w' := by
  refine callsIn_wide.1 (callsIn_of_wp_marks (n := 0) Tryd.func35 rfl trivial ?_ rfl)
  simp only [Tryd.ntmps35, List.size_toArray, List.length_cons, List.length_nil, Nat.reduceAdd, Nat.reduceSub, Array.replicate_succ, Array.replicate_zero, List.push_toArray, List.append_toArray, List.nil_append, List.cons_append]
  refine wpIn_wide.2 ?_
  have hmk := run_make_row' (P := Tryd.prog) 47 3 (.int .i64 0) 8 Tryd.underlying47 infoI rfl .i64 .i64 0 (by omega) (by omega)
  simp only [show ((0 : Nat) : Int) = 0 from rfl] at hmk
  have HN := Lib.hid (n_nil w)
  go_wp2_with (go_at_call 27; refine HN.out.mono ?_; rintro e w' ⟨rfl, h⟩; rw [h]; clear h w')
  refine wp_loop_rounds 1 ?_
  unfold Code.rounds
  have bX : Blk ((w.alloc (.cells (madeCells #[.int .i64 0] 0) 3)).alloc (.cells #[.slice (some ⟨w.heap.size, 0, none⟩) 0 0] 47)) (w.heap.size + 1) 47 #[.slice (some ⟨w.heap.size, 0, none⟩) 0 0] := by
    have := Blk.new (w.alloc (.cells (madeCells #[.int .i64 0] 0) 3)) 47 #[.slice (some ⟨w.heap.size, 0, none⟩) 0 0]
    rwa [show (w.alloc (.cells (madeCells #[.int .i64 0] 0) 3)).heap.size = w.heap.size + 1 by simp] at this
  have lV : Below w.heap.size w ((w.alloc (.cells (madeCells #[.int .i64 0] 0) 3)).alloc (.cells #[.slice (some ⟨w.heap.size, 0, none⟩) 0 0] 47)) := ((Below.refl _ w).alloc (Nat.le_refl _) _).alloc (by simp) _
  obtain ⟨V, hV⟩ : ∃ V, (w.alloc (.cells (madeCells #[.int .i64 0] 0) 3)).alloc (.cells #[.slice (some ⟨w.heap.size, 0, none⟩) 0 0] 47) = V := ⟨_, rfl⟩
  rw [hV] at bX lV
  have HR := Lib.hid (rings_nil V i off ho)
  rw [hV]
  clear hV hmk
  go_wp2_with (go_at_call 53; refine HR.out.mono ?_; rintro e w1 ⟨rfl, b1⟩)
  have cX := (bX.below b1 bX.lt).cell 0
  simp at cX
  have lw1 := lV.trans (b1.mono lV.size)
  refine wp_loop_rounds 1 ?_
  unfold Code.rounds
  go_wp2_with fail
  refine leaves_marks (Marked.nil w.heap.size _) fun w' hB hC => ?_
  exact ⟨_, results_tmp rfl _ _ _, ⟨w.heap.size, rfl⟩, lw1.trans hB⟩
/-- What lies while Wide goes on. -/
structure WNil (w : World) (r : Int) (W : World) : Prop where
  r : Blk W (w.heap.size + 2) 3 #[.int .i64 r]
  m : Blk W (w.heap.size + 3) 3 #[.int .i64 (-1)]
  t : Blk W (w.heap.size + 4) 38 #[.int .u64 0]
  low : Below w.heap.size w W
set_option maxRecDepth 100000 in
set_option maxHeartbeats 8000000 in
theorem wide_nil {w : World} (hT : Tab w) (off : Nat) (ho : off < 2 ^ 64) :
    Calls Tryd.prog 40 #[.pointer none, .int .u64 (off : Nat)] w fun e w' => e = .returned (.int .i64 (-1)) ∧ Below w.heap.size w w' := by
  refine callsIn_wide.1 (callsIn_of_wp_marks (n := 0) Tryd.func40 rfl trivial ?_ rfl)
  simp only [Tryd.ntmps40, List.size_toArray, List.length_cons, List.length_nil, Nat.reduceAdd, Nat.reduceSub, Array.replicate_succ, Array.replicate_zero, List.push_toArray, List.append_toArray, List.nil_append, List.cons_append]
  refine wpIn_wide.2 ?_
  have hw0 := hT.size
  go_wp2_with fail
  obtain ⟨W0, hW0⟩ : ∃ W0, (((w.alloc (.cells #[.pointer none] 24)).alloc (.cells #[.int .u64 (off : Nat)] 38)).alloc (.cells #[.int .i64 0] 3)).alloc (.cells #[.int .i64 (-1)] 3) = W0 := ⟨_, rfl⟩
  rw [hW0]
  have z1 : (w.alloc (.cells #[.pointer none] 24)).heap.size = w.heap.size + 1 := by simp
  have z2 : ((w.alloc (.cells #[.pointer none] 24)).alloc (.cells #[.int .u64 (off : Nat)] 38)).heap.size = w.heap.size + 2 := by simp
  have z3 : (((w.alloc (.cells #[.pointer none] 24)).alloc (.cells #[.int .u64 (off : Nat)] 38)).alloc (.cells #[.int .i64 0] 3)).heap.size = w.heap.size + 3 := by simp
  have b0 : Blk W0 w.heap.size 24 #[.pointer none] := by rw [← hW0]; exact (((Blk.new w _ _).alloc _).alloc _).alloc _
  have b1 : Blk W0 (w.heap.size + 1) 38 #[.int .u64 (off : Nat)] := by
    rw [← hW0]
    have := Blk.new (w.alloc (.cells #[.pointer none] 24)) 38 #[.int .u64 (off : Nat)]
    rw [z1] at this
    exact (this.alloc _).alloc _
  have b2 : Blk W0 (w.heap.size + 2) 3 #[.int .i64 0] := by
    rw [← hW0]
    have := Blk.new ((w.alloc (.cells #[.pointer none] 24)).alloc (.cells #[.int .u64 (off : Nat)] 38)) 3 #[.int .i64 0]
    rw [z2] at this
    exact this.alloc _
  have b3 : Blk W0 (w.heap.size + 3) 3 #[.int .i64 (-1)] := by
    rw [← hW0]
    have := Blk.new (((w.alloc (.cells #[.pointer none] 24)).alloc (.cells #[.int .u64 (off : Nat)] 38)).alloc (.cells #[.int .i64 0] 3)) 3 #[.int .i64 (-1)]
    rwa [z3] at this
  have low0 : Below w.heap.size w W0 := by rw [← hW0]; exact ((((Below.refl _ w).alloc (Nat.le_refl _) _).alloc (by simp) _).alloc (by simp; omega) _).alloc (by simp; omega) _
  have s0 : W0.heap.size = w.heap.size + 4 := by rw [← hW0]; simp
  have c0 := b0.cell 0
  have c1 := b1.cell 0
  simp at c0 c1
  have HN := Lib.hid (fun (V : World) (h : Below W0.heap.size W0 V) => n_nil V)
  have HA0 := fun (V : World) => all_any 0 (by omega) V
  have e1 : bits .andNot .u64 0 (off : Int) = 0 := by simpa using there_nil ho
  simp only [Nat.pow_zero, Nat.sub_self] at HA0
  have HA := Lib.hid HA0
  clear HA0
  have lt0 : w.heap.size < W0.heap.size := by omega
  have lt1 : w.heap.size + 1 < W0.heap.size := by omega
  clear z1 z2 z3 hW0
  go_cut [6] from 12 to 16 (fun s6 V => s6 = .pointer (some ⟨w.heap.size + 4, 0, none⟩) ∧ RowKit.Hid (WNil w 0 V) ∧ V.heap.size = w.heap.size + 5)
  case first =>
    refine wp_region_noPanic ?_
    go_region_with (first
      | (go_at_call 27; refine (HN.out _ (by first | exact Below.refl _ _ | exact (Below.refl _ _).drew | exact ((Below.refl _ _).drew).alloc (by simp) _)).mono ?_; rintro e w' ⟨rfl, h⟩; rw [h]; clear h w')
      | (go_at_call 54; refine (HA.out _).mono ?_; rintro e w' ⟨rfl, h⟩; rw [h]; clear h w'))
    all_goals (refine NoPanic.normal ?_; go_wp2_with fail; go_meet; refine ⟨rfl, Lib.hid ⟨b2.alloc _, b3.alloc _, ?_, (low0.alloc (by omega) _).drew⟩, by simp [World.drew, s0]⟩; rw [← s0]; exact Blk.new W0 _ _)
  case rest =>
    obtain ⟨rfl, hWI, hVz⟩ := hcut
    have hI := hWI.out
    have c4 := hI.t.cell 0
    simp at c4
    have hTc : Tab wc := hT.below hI.low hT.size
    clear HN HA e1 c0 c1 b0 b1 b2 b3 lt0 lt1 hWI
    go_wp2_with (go_at_call 51; refine (each_any 0 _).mono ?_; rintro e w' ⟨rfl, h⟩; rw [h]; clear h w')
    have bB : Blk (wc.alloc (.cells #[.int .u64 0] 38)) wc.heap.size 38 #[.int .u64 ((0 : Nat) : Int)] := Blk.new wc 38 #[.int .u64 0]
    have lB : Below wc.heap.size wc (wc.alloc (.cells #[.int .u64 0] 38)) := (Below.refl _ wc).alloc (Nat.le_refl _) _
    have hI1 : WNil w 0 (wc.alloc (.cells #[.int .u64 0] 38)) := ⟨hI.r.below lB hI.r.lt, hI.m.below lB hI.m.lt, hI.t.below lB hI.t.lt, hI.low.trans (lB.mono hI.low.size)⟩
    have hT1 : Tab (wc.alloc (.cells #[.int .u64 0] 38)) := hTc.below lB hTc.size
    have hz1 : (wc.alloc (.cells #[.int .u64 0] 38)).heap.size = wc.heap.size + 1 := by simp
    obtain ⟨Wr, hWr⟩ : ∃ Wr, wc.alloc (.cells #[.int .u64 0] 38) = Wr := ⟨_, rfl⟩
    rw [hWr] at bB hI1 hT1 hz1
    rw [hVz] at bB hz1
    rw [hWr]
    clear hWr lB
    refine range_each (B := w.heap.size + 5) (s := 0) rfl (by decide) bB hT1 (by omega) rfl (fun pre V => WNil w 0 V) (fun c pre V => False)
      (fun xs A C h c => ⟨c.blk h.r (by show ¬ w.heap.size + 2 = _; omega), c.blk h.m (by show ¬ w.heap.size + 3 = _; omega), c.blk h.t (by show ¬ w.heap.size + 4 = _; omega), c.below h.low (Nat.le_refl _) (by omega) (fun k hk => by omega)⟩) (fun _ _ _ _ h _ => h)
      hI1 (fun x => { tmps := #[.pointer none, .int .u64 (off : Nat), .pointer (some ⟨w.heap.size, 0, none⟩), .pointer (some ⟨w.heap.size + 1, 0, none⟩), .pointer (some ⟨w.heap.size + 1 + 1, 0, none⟩), .pointer (some ⟨w.heap.size + 1 + 1 + 1, 0, none⟩), .pointer (some ⟨w.heap.size + 4, 0, none⟩), .int .i64 (x : Nat), undef, undef, undef, undef, u12, u13, u14, u15, u16, .int .u64 0, .func (.func 59) #[] #[.pointer (some ⟨w.heap.size + 5, 0, none⟩)], .int .i64 (x : Nat), undef, undef, undef, undef, undef, undef, undef, undef, undef, undef, undef, undef, undef, undef, undef, undef, undef, undef, undef, undef, undef, undef, undef], defers := [] }) ?assign ?body ?done ?stop
    case assign =>
      intro l x V R hR
      gi_wp2
      exact hR
    case body =>
      rintro l pre x V hzV hIV hpre
      have := hpre.subset (show x ∈ pre ++ [x] by simp)
      rw [ones_zero] at this
      cases this
    case stop =>
      rintro D c pre V _ _ h _
      exact h.elim
    case done =>
      rintro D V hD hIV hd
      have cm : V.cell? ⟨w.heap.size + 1 + 1 + 1, 0, none⟩ = some (.int .i64 (-1)) := hIV.m.cell 0
      have cr : V.cell? ⟨w.heap.size + 1 + 1, 0, none⟩ = some (.int .i64 0) := hIV.r.cell 0
      have fr : V.frozen? ⟨w.heap.size + 1 + 1, 0, none⟩ = false := hIV.r.frozen 0
      have hr2 : Blk (V.setCell ⟨w.heap.size + 2, 0, none⟩ (.int .i64 (-1))) (w.heap.size + 2) 3 #[.int .i64 (-1)] := hIV.r.put 0 _
      have hl2 : Below w.heap.size w (V.setCell ⟨w.heap.size + 2, 0, none⟩ (.int .i64 (-1))) := hIV.low.setCell (p := ⟨w.heap.size + 2, 0, none⟩) (by show w.heap.size ≤ w.heap.size + 2; omega) _
      have Hr2 := Lib.hid hr2
      have Hl2 := Lib.hid hl2
      have hzD : w.heap.size ≤ D := by omega
      clear hr2 hl2 hI hI1 c4 hT1 hTc bB
      go_wp2_with fail
      refine leaves_marks (mark_one (b := w.heap.size) hzD ((Below.heap_setCell V ⟨w.heap.size + 1 + 1, 0, none⟩ _ D (by show D ≠ w.heap.size + 1 + 1; omega)).trans hd)) fun w' hB hC => ?_
      have cr2 := hC _ _ Hr2.out rfl
      exact ⟨_, results_int rfl rfl (fun v => rfl) (Blk.cell cr2 0), rfl, Hl2.out.trans hB⟩
set_option maxRecDepth 100000 in
set_option maxHeartbeats 8000000 in
theorem reachnil_walk (w : World) (hT : Tab w) (i : Int) (off : Nat) (ho : off < 2 ^ 64) :
    Calls Tryd.prog 13 #[.int .i64 i, .int .u64 (off : Nat)] w fun e w' => e = .returned (.bool true) ∧ Below w.heap.size w w' := by
  have h1 := Lib.hid (from_nil w i off ho)
  have h2 := Lib.hid (fun V => dist_nil V i off ho)
  have h3 := Lib.hid (fun V => whole_nil V off ho)
  have h4 := Lib.hid (fun V (h : Below w.heap.size w V) => wide_nil (hT.below h hT.size) off ho)
  have h5 := Lib.hid (fun V => ball_nil V i i off ho)
  have h6 := Lib.hid (fun V (h : Below w.heap.size w V) => reachworks_any V (hT.below h hT.size))
  clear hT
  go_enter Tryd.func13, Tryd.ntmps13
  go_wp2_with fail
  refine h1.out.mono ?_
  rintro e w1 ⟨rfl, b1⟩
  go_wp2_with fail
  refine (h2.out w1).mono ?_
  rintro e w2 ⟨g, rfl, b2⟩
  have lw2 := b1.trans (b2.mono b1.size)
  go_wp2_with fail
  refine (h3.out w2).mono ?_
  rintro e w3 ⟨rfl, b3⟩
  have lw3 := lw2.trans (b3.mono lw2.size)
  go_wp2_with fail
  refine (h4.out w3 lw3).mono ?_
  rintro e w4 ⟨rfl, b4⟩
  have lw4 := lw3.trans (b4.mono lw3.size)
  go_wp2_with fail
  refine (h5.out w4).mono ?_
  rintro e w5 ⟨rfl, b5⟩
  have lw5 := lw4.trans (b5.mono lw4.size)
  go_wp2_with fail
  refine (h6.out w5 lw5).mono ?_
  rintro e w6 ⟨rfl, b6⟩
  go_wp2_with fail
  go_ret
  exact ⟨rfl, lw5.trans (b6.mono lw5.size)⟩
end Go.Proofs.YtcangalpccppbaaDoor.Reach
