/- How far a note's clocks are apart: drift's gap, walked. -/
import Derived.Test.YtpbabpbinojodaaDoorDriftTold
import Derived.Test.YtpbabpbinojodaaDoorHeldIn
namespace Go.Proofs.YtpbabpbinojodaaDoor.Drift
open Go.RowKit
open Go.Proofs.YtpbabpbinojodaaDoor.Arith Go.Proofs.YtpbabpbinojodaaDoor.Nodes Go.Proofs.YtpbabpbinojodaaDoor.Heap Go.Proofs.YtpbabpbinojodaaDoor.RF
set_option linter.unusedVariables false
set_option linter.unusedSimpArgs false
attribute [local go_sem] Oper.semAt_some
/-- What the rounds of gap keep. -/
structure GInv (w : World) (p : Nat) (A : List Int) (pre : List Nat) (V : World) : Prop where
  n : Blk V w.heap.size 60 #[.pointer (some ⟨p, 0, none⟩)]
  ext : ∃ lo hi, Ext A pre lo hi ∧ Blk V (w.heap.size + 1) 2 #[.int .i64 lo] ∧ Blk V (w.heap.size + 2) 2 #[.int .i64 hi]
  box : ∃ x, Blk V (w.heap.size + 3) 33 x
  low : Below w.heap.size w V
theorem GInv.hush {w : World} {p : Nat} {A : List Int} {pre : List Nat} {V V' : World} (h : GInv w p A pre V) {b : Nat} (c : Hush (fun k => k = w.heap.size + 3) b V V') (hb : w.heap.size ≤ b) : GInv w p A pre V' := by
  obtain ⟨x, hx⟩ := h.box
  obtain ⟨lo, hi, h1, h2, h3⟩ := h.ext
  exact ⟨c.blk h.n (by omega), ⟨lo, hi, h1, c.blk h2 (by omega), c.blk h3 (by omega)⟩, ⟨_, (c.kind _ _ _ hx).choose_spec⟩, c.below h.low (Nat.le_refl _) hb (fun k hk => by omega)⟩
theorem GInv.body {w : World} {p : Nat} {A : List Int} {pre : List Nat} {V : World} (h : GInv w p A pre V) {x b : Nat} {lo hi z lo' hi' : Int} (hE : Ext A (pre ++ [x]) (min lo z) (max hi z)) (e1 : lo' = min lo z) (e2 : hi' = max hi z) (hw : 0 < w.heap.size) (hb : w.heap.size + 4 = b) (hV : b ≤ V.heap.size) :
    Stays b (fun k => k = w.heap.size + 3 ∨ k = 0) V ((V.setCell ⟨w.heap.size + 1, 0, none⟩ (.int .i64 lo')).setCell ⟨w.heap.size + 1 + 1, 0, none⟩ (.int .i64 hi')).drew ∧
      GInv w p A (pre ++ [x]) ((V.setCell ⟨w.heap.size + 1, 0, none⟩ (.int .i64 lo')).setCell ⟨w.heap.size + 1 + 1, 0, none⟩ (.int .i64 hi')).drew := by
  subst e1 e2
  obtain ⟨l0, h0, hE0, b1, b2⟩ := h.ext
  obtain ⟨y, hy⟩ := h.box
  refine ⟨off_stays (K := fun k => k = w.heap.size + 1 ∨ k = w.heap.size + 1 + 1) (((Off.refl _ V).setCell (p := ⟨w.heap.size + 1, 0, none⟩) (.inl (.inl rfl)) _).setCell (p := ⟨w.heap.size + 1 + 1, 0, none⟩) (.inl (.inr rfl)) _).drew (fun k hk => ?_) (fun k hk => ?_),
    (h.n.far (by show w.heap.size ≠ w.heap.size + 1; omega) _).far (by show w.heap.size ≠ w.heap.size + 1 + 1; omega) _, ⟨_, _, hE, (b1.put 0 _).far (by show w.heap.size + 1 ≠ w.heap.size + 1 + 1; omega) _, (b2.far (by show w.heap.size + 2 ≠ w.heap.size + 1; omega) _).put 0 _⟩,
    ⟨y, (hy.far (by show w.heap.size + 3 ≠ w.heap.size + 1; omega) _).far (by show w.heap.size + 3 ≠ w.heap.size + 1 + 1; omega) _⟩, ((h.low.setCell (p := ⟨w.heap.size + 1, 0, none⟩) (by show w.heap.size ≤ w.heap.size + 1; omega) _).setCell (p := ⟨w.heap.size + 1 + 1, 0, none⟩) (by show w.heap.size ≤ w.heap.size + 1 + 1; omega) _).drew⟩
  · rcases hk with rfl | rfl
    · exact ⟨_, _, b1⟩
    · exact ⟨_, _, b2⟩
  · rcases hk with rfl | rfl
    · exact ⟨hy.lt, by omega⟩
    · exact ⟨by omega, by omega⟩
set_option maxRecDepth 100000 in
set_option maxHeartbeats 4000000 in
theorem gap_any {w : World} {p : Nat} {n : Nt} {T : Int} {A : List Int} {m : Nat} (hb : Blk w p 50 (nl T A m).toArray) (ht : Told n T A m) (hT : Tab w) :
    Calls Tryd.prog 19 #[.pointer (some ⟨p, 0, none⟩)] w fun e w' => ∃ g, e = .returned (.int .i64 g) ∧ GapOf n g ∧ Below w.heap.size w w' := by
  have cm := hb.cell 65
  rw [List.getElem?_toArray, nl_set ht.len] at cm
  have lp := hb.lt
  have hml := ht.lt
  refine callsIn_wide.1 (callsIn_of_wp_marks (n := 0) Tryd.func19 rfl trivial ?_ rfl)
  simp only [Tryd.ntmps19, List.size_toArray, List.length_cons, List.length_nil, Nat.reduceAdd, Nat.reduceSub, Array.replicate_succ, Array.replicate_zero, List.push_toArray, List.append_toArray, List.nil_append, List.cons_append]
  refine wpIn_wide.2 ?_
  by_cases hm : m = 0
  · subst hm
    have hg := Lib.hid ht.gap0
    clear ht
    go_wp2_with fail
    refine leaves_marks (Marked.nil w.heap.size _) fun w' hB hC => ?_
    exact ⟨_, results_tmp rfl _ _ _, 0, rfl, hg.out, ((Below.refl _ w).alloc (Nat.le_refl _) _).trans hB⟩
  · have hz := eq0 hm
    have HT := Lib.hid ht
    clear ht
    go_upto_region 4 with fail
    obtain ⟨W, hW⟩ : ∃ W, ((w.alloc (.cells #[.pointer (some ⟨p, 0, none⟩)] 60)).alloc (.cells #[.int .i64 1152921504606846976] 2)).alloc (.cells #[.int .i64 0] 2) = W := ⟨_, rfl⟩
    have z1 : (w.alloc (.cells #[.pointer (some ⟨p, 0, none⟩)] 60)).heap.size = w.heap.size + 1 := by simp
    have z2 : ((w.alloc (.cells #[.pointer (some ⟨p, 0, none⟩)] 60)).alloc (.cells #[.int .i64 1152921504606846976] 2)).heap.size = w.heap.size + 2 := by simp
    have bN : Blk W w.heap.size 60 #[.pointer (some ⟨p, 0, none⟩)] := by rw [← hW]; exact ((Blk.new w _ _).alloc _).alloc _
    have bL : Blk W (w.heap.size + 1) 2 #[.int .i64 1152921504606846976] := by
      rw [← hW]
      have := Blk.new (w.alloc (.cells #[.pointer (some ⟨p, 0, none⟩)] 60)) 2 #[.int .i64 1152921504606846976]
      rw [z1] at this
      exact this.alloc _
    have bH : Blk W (w.heap.size + 2) 2 #[.int .i64 0] := by
      rw [← hW]
      have := Blk.new ((w.alloc (.cells #[.pointer (some ⟨p, 0, none⟩)] 60)).alloc (.cells #[.int .i64 1152921504606846976] 2)) 2 #[.int .i64 0]
      rwa [z2] at this
    have low : Below w.heap.size w W := by rw [← hW]; exact (((Below.refl _ w).alloc (Nat.le_refl _) _).alloc (by simp) _).alloc (by simp; omega) _
    have zr : W.heap.size = w.heap.size + 3 := by rw [← hW]; simp
    rw [hW]
    clear hW z1 z2
    have bp := hb.below low lp
    have cn := bN.cell 0
    have cm' : W.cell? ⟨p, 65, none⟩ = some (.int .u64 (m : Nat)) := (low.cell (p := ⟨p, _, none⟩) lp).trans cm
    simp at cn
    go_wp2_with (go_at_call 24; refine (each_any m _).mono ?_; rintro e w' ⟨rfl, h⟩; rw [h]; clear h w')
    have bB := Blk.new W 33 #[.int .u64 (m : Nat)]
    have hI0 : GInv w p A [] (W.alloc (.cells #[.int .u64 (m : Nat)] 33)) :=
      ⟨bN.alloc _, ⟨_, _, Ext.nil A, bL.alloc _, bH.alloc _⟩, ⟨_, zr ▸ bB⟩, low.alloc (by omega) _⟩
    have hT1 : Tab (W.alloc (.cells #[.int .u64 (m : Nat)] 33)) := hT.below (low.alloc (by omega) _) hT.size
    have hz1 : (W.alloc (.cells #[.int .u64 (m : Nat)] 33)).heap.size = w.heap.size + 4 := by simp [zr]
    have hw0 := hT.size
    obtain ⟨Wr, hWr⟩ : ∃ Wr, W.alloc (.cells #[.int .u64 (m : Nat)] 33) = Wr := ⟨_, rfl⟩
    rw [hWr] at bB hI0 hT1 hz1
    rw [hWr]
    rw [zr] at bB
    clear hWr cn cm' bN bL bH
    refine range_each (B := w.heap.size + 3) (s := m) rfl hml bB hT1 (by omega) rfl (fun pre V => GInv w p A pre V) (fun _ _ _ => False)
      (fun xs A C h c => h.hush c (by omega)) (fun _ _ _ _ h _ => h) hI0
      (fun x => { tmps := #[.pointer (some ⟨p, 0, none⟩), .pointer (some ⟨w.heap.size, 0, none⟩), .int .i64 0, .pointer (some ⟨w.heap.size + 1, 0, none⟩), .pointer (some ⟨w.heap.size + 1 + 1, 0, none⟩), .int .i64 (x : Nat), .pointer (some ⟨p, 0, none⟩), .pointer (some ⟨p, 0, none⟩), .pointer (some ⟨p, 65, none⟩), .int .u64 (m : Nat), .bool false, .pointer (some ⟨p, 0, none⟩), .pointer (some ⟨p, 0, none⟩), .pointer (some ⟨p, 65, none⟩), .int .u64 (m : Nat), .func (.func 30) #[] #[.pointer (some ⟨w.heap.size + 3, 0, none⟩)], .int .i64 (x : Nat), undef, undef, undef, undef, undef, undef, undef, undef, undef, undef, undef, undef, undef, undef, undef, undef, undef, undef, undef], defers := [] }) ?assign ?body ?done ?stop
    case assign =>
      intro l x V R hR
      gi_wp2
      exact hR
    case stop =>
      rintro D c pre V _ _ h _
      exact h.elim
    case body =>
      rintro l pre x V hzV hIV hpre
      have hx : x ∈ ones m := hpre.subset (by simp)
      obtain ⟨hx64, _⟩ := mem_ones.1 hx
      obtain ⟨lo, hi, hE, bL, bH⟩ := hIV.ext
      have cA := (hb.below hIV.low lp).cell (1 + x)
      rw [List.getElem?_toArray, Nat.add_comm 1 x, nl_at HT.out.len hx64, Nat.add_comm x 1] at cA
      have hE2 := hE.add HT.out.inn x
      obtain ⟨z, hzz⟩ : ∃ z, A.getD x 0 = z := ⟨_, rfl⟩
      rw [hzz] at cA hE2
      have cn := hIV.n.cell 0
      have cL := bL.cell 0
      have cH : V.cell? ⟨w.heap.size + 1 + 1, 0, none⟩ = some (.int .i64 hi) := bH.cell 0
      have fL := bL.frozen 0
      have fH : V.frozen? ⟨w.heap.size + 1 + 1, 0, none⟩ = false := bH.frozen 0
      simp at cn cL
      have q1 : (0 : Int) ≤ (x : Int) := by omega
      have q3 : (x : Int) < 64 := by omega
      have HE := Lib.hid hE2
      have hmx : Tryd.prog.follows .mixedOrders = true := by kernel_rfl
      have HIV := Lib.hid hIV
      have lNV := hIV.n.lt
      have lpV : p < V.heap.size := by omega
      clear hE hE2 hzz hx hpre hI0 hIV
      gi_wp2
      have HS := Lib.hid (fun (v : World) (hv : Off (fun k => k = w.heap.size + 1 ∨ k = w.heap.size + 1 + 1) V v) => (show v.cell? ⟨w.heap.size, 0, none⟩ = some (.pointer (some ⟨p, 0, none⟩)) ∧ v.cell? ⟨p, 1 + x, none⟩ = some (.int .i64 z) from ⟨(hv.cell (p := ⟨w.heap.size, 0, none⟩) lNV (by show ¬ (w.heap.size = w.heap.size + 1 ∨ w.heap.size = w.heap.size + 1 + 1); omega)).trans cn, (hv.cell (p := ⟨p, 1 + x, none⟩) lpV (by show ¬ (p = w.heap.size + 1 ∨ p = w.heap.size + 1 + 1); omega)).trans cA⟩))
      refine HeldIn.region_held (S := fun w' => w'.cell? ⟨w.heap.size, 0, none⟩ = some (.pointer (some ⟨p, 0, none⟩)) ∧ w'.cell? ⟨p, 1 + x, none⟩ = some (.int .i64 z)) hmx (by kernel_rfl) (HS.out _ (Off.refl _ _).drew) (fun hHeld => ?_)
      refine Take.take (i := 1) (oi := _) (t := 18) (v := ?v1) rfl (by kernel_rfl) (by kernel_rfl) (by kernel_rfl) (by kernel_rfl) (fun _ _ _ h => h) (by kernel_rfl) ?hy1 (by assumption) ?_
      case hy1 => (intro w hSw; (try dsimp only at hSw); go_simp; try with_reducible rfl)
      try simp only [Act.put, List.setIfInBounds_toArray, List.set_cons_zero, List.set_cons_succ]
      refine Take.take (i := 2) (oi := _) (t := 19) (v := ?v2) rfl (by kernel_rfl) (by kernel_rfl) (by kernel_rfl) (by kernel_rfl) (fun _ _ _ h => h) (by kernel_rfl) ?hy2 (by assumption) ?_
      case hy2 => (intro w hSw; (try dsimp only at hSw); go_simp; try with_reducible rfl)
      try simp only [Act.put, List.setIfInBounds_toArray, List.set_cons_zero, List.set_cons_succ]
      refine Take.take (i := 3) (oi := _) (t := 20) (v := ?v3) rfl (by kernel_rfl) (by kernel_rfl) (by kernel_rfl) (by kernel_rfl) (fun _ _ _ h => h) (by kernel_rfl) ?hy3 (by assumption) ?_
      case hy3 => (intro w hSw; (try dsimp only at hSw); go_simp; try with_reducible rfl)
      try simp only [Act.put, List.setIfInBounds_toArray, List.set_cons_zero, List.set_cons_succ]
      refine Take.take (i := 4) (oi := _) (t := 21) (v := ?v4) rfl (by kernel_rfl) (by kernel_rfl) (by kernel_rfl) (by kernel_rfl) (fun _ _ _ h => h) (by kernel_rfl) ?hy4 (by assumption) ?_
      case hy4 => (intro w hSw; (try dsimp only at hSw); go_simp; try with_reducible rfl)
      try simp only [Act.put, List.setIfInBounds_toArray, List.set_cons_zero, List.set_cons_succ]
      refine Take.take (i := 5) (oi := _) (t := 22) (v := ?v5) rfl (by kernel_rfl) (by kernel_rfl) (by kernel_rfl) (by kernel_rfl) (fun _ _ _ h => h) (by kernel_rfl) ?hy5 (by assumption) ?_
      case hy5 => (intro w hSw; (try dsimp only at hSw); go_simp; try with_reducible rfl)
      try simp only [Act.put, List.setIfInBounds_toArray, List.set_cons_zero, List.set_cons_succ]
      refine Take.take (i := 6) (oi := _) (t := 23) (v := ?v6) rfl (by kernel_rfl) (by kernel_rfl) (by kernel_rfl) (by kernel_rfl) (fun _ _ _ h => h) (by kernel_rfl) ?hy6 (by assumption) ?_
      case hy6 => (intro w hSw; (try dsimp only at hSw); go_simp; try with_reducible rfl)
      try simp only [Act.put, List.setIfInBounds_toArray, List.set_cons_zero, List.set_cons_succ]
      refine Take.take (i := 9) (oi := _) (t := 26) (v := ?v7) rfl (by kernel_rfl) (by kernel_rfl) (by kernel_rfl) (by kernel_rfl) (fun _ _ _ h => h) (by kernel_rfl) ?hy7 (by assumption) ?_
      case hy7 => (intro w hSw; (try dsimp only at hSw); go_simp; try with_reducible rfl)
      try simp only [Act.put, List.setIfInBounds_toArray, List.set_cons_zero, List.set_cons_succ]
      refine Take.take (i := 10) (oi := _) (t := 27) (v := ?v8) rfl (by kernel_rfl) (by kernel_rfl) (by kernel_rfl) (by kernel_rfl) (fun _ _ _ h => h) (by kernel_rfl) ?hy8 (by assumption) ?_
      case hy8 => (intro w hSw; (try dsimp only at hSw); go_simp; try with_reducible rfl)
      try simp only [Act.put, List.setIfInBounds_toArray, List.set_cons_zero, List.set_cons_succ]
      refine Take.take (i := 11) (oi := _) (t := 28) (v := ?v9) rfl (by kernel_rfl) (by kernel_rfl) (by kernel_rfl) (by kernel_rfl) (fun _ _ _ h => h) (by kernel_rfl) ?hy9 (by assumption) ?_
      case hy9 => (intro w hSw; (try dsimp only at hSw); go_simp; try with_reducible rfl)
      try simp only [Act.put, List.setIfInBounds_toArray, List.set_cons_zero, List.set_cons_succ]
      refine Take.take (i := 12) (oi := _) (t := 29) (v := ?v10) rfl (by kernel_rfl) (by kernel_rfl) (by kernel_rfl) (by kernel_rfl) (fun _ _ _ h => h) (by kernel_rfl) ?hy10 (by assumption) ?_
      case hy10 => (intro w hSw; (try dsimp only at hSw); go_simp; try with_reducible rfl)
      try simp only [Act.put, List.setIfInBounds_toArray, List.set_cons_zero, List.set_cons_succ]
      refine Take.take (i := 13) (oi := _) (t := 30) (v := ?v11) rfl (by kernel_rfl) (by kernel_rfl) (by kernel_rfl) (by kernel_rfl) (fun _ _ _ h => h) (by kernel_rfl) ?hy11 (by assumption) ?_
      case hy11 => (intro w hSw; (try dsimp only at hSw); go_simp; try with_reducible rfl)
      try simp only [Act.put, List.setIfInBounds_toArray, List.set_cons_zero, List.set_cons_succ]
      refine Take.take (i := 14) (oi := _) (t := 31) (v := ?v12) rfl (by kernel_rfl) (by kernel_rfl) (by kernel_rfl) (by kernel_rfl) (fun _ _ _ h => h) (by kernel_rfl) ?hy12 (by assumption) ?_
      case hy12 => (intro w hSw; (try dsimp only at hSw); go_simp; try with_reducible rfl)
      try simp only [Act.put, List.setIfInBounds_toArray, List.set_cons_zero, List.set_cons_succ]
      refine wpAnyH_ready (rs := [0, 8]) (by kernel_rfl) (by simp) ?_
      refine AllReadyH.cons (o := _) rfl (fun K hK => ?_) (AllReadyH.cons (o := _) rfl (fun K hK => ?_) AllReadyH.nil)
      · skip
        go_simp
        refine hK.out _ _ ?hS13 (fun hHeld => ?_)
        case hS13 => (refine HS.out _ ?_; repeat (first | exact Off.refl _ _ | refine Off.drew ?_ | refine off_put ?_ (.inl rfl) _ _ | refine off_put ?_ (.inr rfl) _ _))
        clear hK K
        try simp only [Act.put, List.setIfInBounds_toArray, List.set_cons_zero, List.set_cons_succ]
        refine Take.take (i := 7) (oi := _) (t := 24) (v := ?v14) rfl (by kernel_rfl) (by kernel_rfl) (by kernel_rfl) (by kernel_rfl) (fun _ _ _ h => h) (by kernel_rfl) ?hy14 (by assumption) ?_
        case hy14 => (intro w hSw; (try dsimp only at hSw); go_simp; try with_reducible rfl)
        try simp only [Act.put, List.setIfInBounds_toArray, List.set_cons_zero, List.set_cons_succ]
        refine wpAnyH_ready (rs := [8, 16]) (by kernel_rfl) (by simp) ?_
        refine AllReadyH.cons (o := _) rfl (fun K hK => ?_) (AllReadyH.cons (o := _) rfl (fun K hK => ?_) AllReadyH.nil)
        · skip
          go_simp
          refine hK.out _ _ ?hS15 (fun hHeld => ?_)
          case hS15 => (refine HS.out _ ?_; repeat (first | exact Off.refl _ _ | refine Off.drew ?_ | refine off_put ?_ (.inl rfl) _ _ | refine off_put ?_ (.inr rfl) _ _))
          clear hK K
          try simp only [Act.put, List.setIfInBounds_toArray, List.set_cons_zero, List.set_cons_succ]
          refine Take.take (i := 15) (oi := _) (t := 32) (v := ?v16) rfl (by kernel_rfl) (by kernel_rfl) (by kernel_rfl) (by kernel_rfl) (fun _ _ _ h => h) (by kernel_rfl) ?hy16 (by assumption) ?_
          case hy16 => (intro w hSw; (try dsimp only at hSw); go_simp; try with_reducible rfl)
          try simp only [Act.put, List.setIfInBounds_toArray, List.set_cons_zero, List.set_cons_succ]
          refine wpAnyH_ready (rs := [16]) (by kernel_rfl) (by simp) ?_
          refine AllReadyH.cons (o := _) rfl (fun K hK => ?_) AllReadyH.nil
          go_simp
          refine hK.out _ _ ?hS17 (fun hHeld => ?_)
          case hS17 => (refine HS.out _ ?_; repeat (first | exact Off.refl _ _ | refine Off.drew ?_ | refine off_put ?_ (.inl rfl) _ _ | refine off_put ?_ (.inr rfl) _ _))
          clear hK K
          try simp only [Act.put, List.setIfInBounds_toArray, List.set_cons_zero, List.set_cons_succ]
          refine wpAnyH_ready (rs := [17]) (by kernel_rfl) (by simp) ?_
          refine AllReadyH.cons (o := _) rfl (fun K hK => ?_) AllReadyH.nil
          go_simp
          refine hK.out _ _ ?hS18 (fun hHeld => ?_)
          case hS18 => (refine HS.out _ ?_; repeat (first | exact Off.refl _ _ | refine Off.drew ?_ | refine off_put ?_ (.inl rfl) _ _ | refine off_put ?_ (.inr rfl) _ _))
          clear hK K
          try simp only [Act.put, List.setIfInBounds_toArray, List.set_cons_zero, List.set_cons_succ]
          refine wpAnyH_done (by kernel_rfl) ?_ _
          refine HeldIn.Calm.normal ?_
          gi_wp2
          all_goals exact HIV.out.body HE.out (by omega) (by omega) (by omega) (by omega) (by omega)
        · skip
          go_simp
          refine hK.out _ _ ?hS19 (fun hHeld => ?_)
          case hS19 => (refine HS.out _ ?_; repeat (first | exact Off.refl _ _ | refine Off.drew ?_ | refine off_put ?_ (.inl rfl) _ _ | refine off_put ?_ (.inr rfl) _ _))
          clear hK K
          try simp only [Act.put, List.setIfInBounds_toArray, List.set_cons_zero, List.set_cons_succ]
          refine wpAnyH_ready (rs := [8]) (by kernel_rfl) (by simp) ?_
          refine AllReadyH.cons (o := _) rfl (fun K hK => ?_) AllReadyH.nil
          go_simp
          refine hK.out _ _ ?hS20 (fun hHeld => ?_)
          case hS20 => (refine HS.out _ ?_; repeat (first | exact Off.refl _ _ | refine Off.drew ?_ | refine off_put ?_ (.inl rfl) _ _ | refine off_put ?_ (.inr rfl) _ _))
          clear hK K
          try simp only [Act.put, List.setIfInBounds_toArray, List.set_cons_zero, List.set_cons_succ]
          refine Take.take (i := 15) (oi := _) (t := 32) (v := ?v21) rfl (by kernel_rfl) (by kernel_rfl) (by kernel_rfl) (by kernel_rfl) (fun _ _ _ h => h) (by kernel_rfl) ?hy21 (by assumption) ?_
          case hy21 => (intro w hSw; (try dsimp only at hSw); go_simp; try with_reducible rfl)
          try simp only [Act.put, List.setIfInBounds_toArray, List.set_cons_zero, List.set_cons_succ]
          refine wpAnyH_ready (rs := [17]) (by kernel_rfl) (by simp) ?_
          refine AllReadyH.cons (o := _) rfl (fun K hK => ?_) AllReadyH.nil
          go_simp
          refine hK.out _ _ ?hS22 (fun hHeld => ?_)
          case hS22 => (refine HS.out _ ?_; repeat (first | exact Off.refl _ _ | refine Off.drew ?_ | refine off_put ?_ (.inl rfl) _ _ | refine off_put ?_ (.inr rfl) _ _))
          clear hK K
          try simp only [Act.put, List.setIfInBounds_toArray, List.set_cons_zero, List.set_cons_succ]
          refine wpAnyH_done (by kernel_rfl) ?_ _
          refine HeldIn.Calm.normal ?_
          gi_wp2
          all_goals exact HIV.out.body HE.out (by omega) (by omega) (by omega) (by omega) (by omega)
      · skip
        go_simp
        refine hK.out _ _ ?hS23 (fun hHeld => ?_)
        case hS23 => (refine HS.out _ ?_; repeat (first | exact Off.refl _ _ | refine Off.drew ?_ | refine off_put ?_ (.inl rfl) _ _ | refine off_put ?_ (.inr rfl) _ _))
        clear hK K
        try simp only [Act.put, List.setIfInBounds_toArray, List.set_cons_zero, List.set_cons_succ]
        refine Take.take (i := 15) (oi := _) (t := 32) (v := ?v24) rfl (by kernel_rfl) (by kernel_rfl) (by kernel_rfl) (by kernel_rfl) (fun _ _ _ h => h) (by kernel_rfl) ?hy24 (by assumption) ?_
        case hy24 => (intro w hSw; (try dsimp only at hSw); go_simp; try with_reducible rfl)
        try simp only [Act.put, List.setIfInBounds_toArray, List.set_cons_zero, List.set_cons_succ]
        refine wpAnyH_ready (rs := [0]) (by kernel_rfl) (by simp) ?_
        refine AllReadyH.cons (o := _) rfl (fun K hK => ?_) AllReadyH.nil
        go_simp
        refine hK.out _ _ ?hS25 (fun hHeld => ?_)
        case hS25 => (refine HS.out _ ?_; repeat (first | exact Off.refl _ _ | refine Off.drew ?_ | refine off_put ?_ (.inl rfl) _ _ | refine off_put ?_ (.inr rfl) _ _))
        clear hK K
        try simp only [Act.put, List.setIfInBounds_toArray, List.set_cons_zero, List.set_cons_succ]
        refine Take.take (i := 7) (oi := _) (t := 24) (v := ?v26) rfl (by kernel_rfl) (by kernel_rfl) (by kernel_rfl) (by kernel_rfl) (fun _ _ _ h => h) (by kernel_rfl) ?hy26 (by assumption) ?_
        case hy26 => (intro w hSw; (try dsimp only at hSw); go_simp; try with_reducible rfl)
        try simp only [Act.put, List.setIfInBounds_toArray, List.set_cons_zero, List.set_cons_succ]
        refine wpAnyH_ready (rs := [16]) (by kernel_rfl) (by simp) ?_
        refine AllReadyH.cons (o := _) rfl (fun K hK => ?_) AllReadyH.nil
        go_simp
        refine hK.out _ _ ?hS27 (fun hHeld => ?_)
        case hS27 => (refine HS.out _ ?_; repeat (first | exact Off.refl _ _ | refine Off.drew ?_ | refine off_put ?_ (.inl rfl) _ _ | refine off_put ?_ (.inr rfl) _ _))
        clear hK K
        try simp only [Act.put, List.setIfInBounds_toArray, List.set_cons_zero, List.set_cons_succ]
        refine wpAnyH_ready (rs := [17]) (by kernel_rfl) (by simp) ?_
        refine AllReadyH.cons (o := _) rfl (fun K hK => ?_) AllReadyH.nil
        go_simp
        refine hK.out _ _ ?hS28 (fun hHeld => ?_)
        case hS28 => (refine HS.out _ ?_; repeat (first | exact Off.refl _ _ | refine Off.drew ?_ | refine off_put ?_ (.inl rfl) _ _ | refine off_put ?_ (.inr rfl) _ _))
        clear hK K
        try simp only [Act.put, List.setIfInBounds_toArray, List.set_cons_zero, List.set_cons_succ]
        refine wpAnyH_done (by kernel_rfl) ?_ _
        refine HeldIn.Calm.normal ?_
        gi_wp2
        all_goals exact HIV.out.body HE.out (by omega) (by omega) (by omega) (by omega) (by omega)
    case done =>
      rintro D V hD hI hd
      obtain ⟨lo, hi, hE, bL, bH⟩ := hI.ext
      have hg := Lib.hid (HT.out.gap hm hE)
      have hr := hE.rng HT.out.inn
      have cL := bL.cell 0
      have cH : V.cell? ⟨w.heap.size + 1 + 1, 0, none⟩ = some (.int .i64 hi) := bH.cell 0
      simp at cL
      have hlow := Lib.hid hI.low
      clear hI hE bL bH
      go_wp2_with fail
      refine leaves_marks (mark_one (b := w.heap.size) (by omega) hd) fun w' hB hC => ?_
      exact ⟨_, results_tmp rfl _ _ _, _, rfl, hg.out, hlow.out.trans hB⟩
end Go.Proofs.YtpbabpbinojodaaDoor.Drift
