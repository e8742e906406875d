/- What is told is kept: drift.told. -/
import Derived.Test.YtpbabpbinojodaaDoorDriftMem
import Derived.Test.YtpbabpbinojodaaDoorTake
import Derived.Deep.DeepCutAuto
import Derived.Deep.CutBlock
import Derived.Deep.WholeRow
namespace Go.Proofs.YtpbabpbinojodaaDoor.Drift
open Go.RowKit
open Go.Proofs.YtpbabpbinojodaaDoor.Arith Go.Proofs.YtpbabpbinojodaaDoor.Nodes Go.Proofs.YtpbabpbinojodaaDoor.Heap Go.Proofs.YtpbabpbinojodaaDoor.RF
set_option linter.unusedVariables false
set_option linter.unusedSimpArgs false
attribute [local go_sem] Oper.semAt_some
theorem mark_one {b D : Nat} {w : World} (hb : b ≤ D) (hd : w.heap[D]? = some (Obj.deferred (some []))) : Marked b [{ target := .collected D, args := #[] }] w :=
  ⟨[D], rfl, by simp, fun E hE => by simp at hE; subst hE; exact ⟨hb, hd⟩⟩
theorem off_put {K : Nat → Prop} {A B : World} {g : Nat} (h : Off K A B) (hg : K g) (i : Nat) (v : Value) : Off K A (B.setCell ⟨g, i, none⟩ v) := Off.setCell (p := ⟨g, i, none⟩) h (.inl hg) v
theorem off_stays {K T : Nat → Prop} {b : Nat} {A B : World} (h : Off K A B) (hK : ∀ k, K k → ∃ t cs, Blk A k t cs) (hT : ∀ k, T k → k < A.heap.size ∧ ¬ K k) : Stays b T A B :=
  ⟨⟨h.size, fun k o _ hk ho => (h.block k (Array.getElem?_eq_some_iff.1 hk).1 (fun c => by
    obtain ⟨t, cs, hb⟩ := hK k c
    unfold Blk at hb
    rw [hk] at hb; cases hb; cases ho)).trans hk⟩, fun k hk => h.block k (hT k hk).1 (hT k hk).2⟩
theorem results_cell {P : Program} {fn : Func} {a : Tmp} {t : TypeId} {tmps : Array Value} {w : World} {b : Nat} {cs : List Value} {d : TypeDesc} (h : fn.results = #[.cell a t]) (ha : tmps.getD a undef = .pointer (some ⟨b, 0, none⟩))
    (hu : P.underlying t = some d) (hd : d.isRow = true) (hi : (P.info? t).map (·.size) = some cs.length) (hc : w.rangeAt b 0 cs) :
    (results fn tmps).run P w = .ok (.agg cs.toArray) w := by
  have hl := run_loadVar_mid (P := P) w b 0 t cs d hc hu hd hi
  have hp : (asAddr (.pointer (some ⟨b, 0, none⟩) : Value)).run P w = .ok ⟨b, 0, none⟩ w := by simp [asAddr]
  rw [Array.getD_eq_getD_getElem?] at ha
  simp [results, h, ha, Sem.run_bind, hl, hp]
/-- A note that tells nothing. -/
def nz : List Value := nl 0 (List.replicate 64 0) 0
theorem info_note : (Tryd.prog.info? 50).map (fun i => (i.zero, i.size)) = some (some (.agg nz.toArray), 66) := by kernel_rfl
theorem nz_len : nz.length = 66 := by simp [nz, nl_len]
theorem nz_set (x : Int) (m : Nat) : (nz.set 0 (.int .i64 x)).set 65 (.int .u64 m) = nl x (List.replicate 64 0) m := by
  simp only [nz, nl, List.set_cons_zero, List.set_cons_succ]
  rw [List.set_append_right _ _ (by simp)]
  simp
theorem below_setCells {b g : Nat} {A : World} : ∀ (vs : List Value) (o : Nat) (B : World), Below b A B → b ≤ g → Below b A (B.setCells g o vs)
  | [], o, B, h, hg => h
  | v :: vs, o, B, h, hg => by
    rw [World.setCells]
    exact below_setCells vs (o + 1) _ (h.setCell (p := ⟨g, o, none⟩) hg v) hg
theorem wp_store_V {P : Program} {op : Oper} {a : Act} {w : World} {K : Act → World → Prop} {Q : Exit → Act → World → Prop} (ty : TypeId) (x y : Operand) (ho : op.op = .store ty x y)
    (b o : Nat) (cells : Array Value) (hx : a.eval x = .pointer (some ⟨b, o, none⟩)) (hy : a.eval y = .agg cells)
    (ht : w.there b o cells.size) (hi : (P.info? ty).map (·.size) = some cells.size) (h1 : cells.all (·.oneCell') = true)
    (h : ∀ V, V = w.setCells b o cells.toList → K (a.put op.dst undef) V) : op.wp P a w K Q := wp_store_mid ty x y ho b o cells hx hy ht hi h1 (h _ rfl)
theorem puts_nz (T : Int) (A : List Int) (m : Nat) (h : A.length = 64) : puts nz 0 (nl T A m) = nl T A m := by
  apply List.ext_getElem?
  intro i
  have h1 : nz.length = 66 := by simp [nz, nl_len]
  have h2 := nl_len (T := T) (m := m) h
  rw [puts_get _ _ _ _ (by omega)]
  by_cases c : i < 66
  · rw [if_pos (by omega), Nat.sub_zero]
  · rw [if_neg (by omega), List.getElem?_eq_none (by omega), List.getElem?_eq_none (by omega)]
/-- What holds while it is kept: the members of pre are there. -/
structure TInv (w : World) (n B : Nat) (a : Option Addr) (cap : Nat) (zs : List Int) (tick : Int) (m : Nat) (pre : List Nat) (V : World) : Prop where
  note : ∃ A : List Int, A.length = 64 ∧ Blk V n 50 (nl (tm tick) A m).toArray ∧ (∀ i ∈ pre, A.getD i 0 = tm (zs.getD i 0)) ∧ ∀ i, 0 ≤ A.getD i 0 ∧ A.getD i 0 ≤ 1152921504606846976
  box : Blk V w.heap.size 26 #[.slice a zs.length cap]
  res : Blk V (w.heap.size + 1) 50 nz.toArray
  each : ∃ x, Blk V B 33 x
  low : Below w.heap.size w V
theorem TInv.hush {w : World} {n B : Nat} {a : Option Addr} {cap : Nat} {zs : List Int} {tick : Int} {m : Nat} {pre : List Nat} {V C : World} {b : Nat} (h : TInv w n B a cap zs tick m pre V) (c : Hush (fun k => k = B) b V C) (hn : n ≠ B) (hB : w.heap.size + 1 < B) (hb : w.heap.size ≤ b) : TInv w n B a cap zs tick m pre C := by
  obtain ⟨A, h1, h2, h3⟩ := h.note
  refine ⟨⟨A, h1, c.blk h2 hn, h3⟩, c.blk h.box (by omega), c.blk h.res (by omega), ?_, Hush.below h.low c (Nat.le_refl _) hb (fun k hk => by subst hk; omega)⟩
  obtain ⟨x, hx⟩ := h.each
  exact c.kind _ _ _ hx
theorem getD_set {A : List Int} {i j : Nat} {x : Int} (hi : i < A.length) : (A.set i x).getD j 0 = if j = i then x else A.getD j 0 := by
  rw [List.getD_eq_getElem?_getD, List.getElem?_set]
  by_cases c : i = j
  · subst c; rw [if_pos rfl, if_pos hi, if_pos rfl]; rfl
  · rw [if_neg c, if_neg (fun e => c e.symm), List.getD_eq_getElem?_getD]
theorem TInv.put {w : World} {n B : Nat} {a : Option Addr} {cap : Nat} {zs : List Int} {tick : Int} {m : Nat} {pre : List Nat} {V : World} (h : TInv w n B a cap zs tick m pre V) (hn : n ≠ B) (hw : w.heap.size + 1 < n) {x : Nat} (hx : x < 64) :
    TInv w n B a cap zs tick m (pre ++ [x]) (V.setCell ⟨n, x + 1, none⟩ (.int .i64 (tm (zs.getD x 0)))) := by
  obtain ⟨A, h1, h2, h3, h4⟩ := h.note
  have ht := tm_in (zs.getD x 0)
  refine ⟨⟨A.set x (tm (zs.getD x 0)), by simpa using h1, ?_, fun i hi => ?_, fun i => ?_⟩, h.box.far (by show w.heap.size ≠ n; omega) _, h.res.far (by show w.heap.size + 1 ≠ n; omega) _, ?_, h.low.setCell (p := ⟨n, _, none⟩) (by show w.heap.size ≤ n; omega) _⟩
  · have := h2.put (x + 1) (.int .i64 (tm (zs.getD x 0)))
    rw [List.setIfInBounds_toArray, nl_put h1 hx] at this
    exact this
  · rw [getD_set (by omega)]
    by_cases c : i = x
    · rw [if_pos c, c]
    · rw [if_neg c]
      rcases List.mem_append.1 hi with d | d
      · exact h3 i d
      · simp at d; exact absurd d c
  · rw [getD_set (by omega)]
    split
    · exact ht
    · exact h4 i
  · obtain ⟨y, hy⟩ := h.each
    exact ⟨y, hy.far (by show B ≠ n; omega) _⟩
theorem TInv.told {w : World} {n B : Nat} {a : Option Addr} {cap : Nat} {zs : List Int} {tick : Int} {s m : Nat} {V : World} (hm : s &&& mask zs.length = m) (h : TInv w n B a cap zs tick m (ones m) V) : ∃ A : List Int, Blk V n 50 (nl (tm tick) A m).toArray ∧ Told ⟨tick, zs, s⟩ (tm tick) A m := by
  obtain ⟨A, h1, h2, h3, h4⟩ := h.note
  have hb : ∀ i, i < 64 → m.testBit i = Nt.live ⟨tick, zs, s⟩ i := fun i hi => by
    rw [← hm, Nat.testBit_and, mask_bit _ hi]
    unfold Nt.live
    rw [Bool.and_comm]
  refine ⟨A, h2, rfl, h1, by rw [← hm]; exact Nat.and_lt_two_pow _ (mask_lt _), hb, fun i hi hl => ?_, h4⟩
  exact h3 i (mem_ones.2 ⟨hi, (hb i hi).trans hl⟩)
set_option maxRecDepth 100000 in
set_option maxHeartbeats 4000000 in
theorem told_any (tick : Int) (a : Option Addr) (cap : Nat) (zs : List Int) (s : Nat) (hs : s < 2 ^ 64) (w : World) (hl : zs.length ≤ 9223372036854775807) (hz : Row64 w a zs) (hT : Tab w) :
    Calls Tryd.prog 18 #[.int .i64 tick, .slice a zs.length cap, .int .u64 s] w fun e w' => ∃ (A : List Int) (m : Nat), e = .returned (.agg (nl (tm tick) A m).toArray) ∧ Told ⟨tick, zs, s⟩ (tm tick) A m ∧ Below w.heap.size w w' := by
  have z50 := (zero_of_info info_note).1
  have hz1 : ¬ nz = [] := fun e => by have := nz_len; rw [e] at this; cases this
  have hz2 : ¬ nz.length < 66 := by rw [nz_len]; omega
  have hz3 := nz_set (tm tick)
  obtain ⟨m, hm⟩ : ∃ m, s &&& mask zs.length = m := ⟨_, rfl⟩
  have hml : m < 2 ^ 64 := by rw [← hm]; exact Nat.and_lt_two_pow _ (mask_lt _)
  have hand : bits .and .u64 (s : Int) (mask zs.length : Nat) = ((m : Nat) : Int) := by rw [← hm]; exact bits_and_u64_nat _ _ hs (mask_lt _)
  have Hm := Lib.hid hm
  have HT := Lib.hid hT
  have Hz := Lib.hid hz
  clear hm hT hz
  refine callsIn_wide.1 (callsIn_of_wp_marks (n := 0) Tryd.func18 rfl trivial ?_ rfl)
  simp only [Tryd.ntmps18, List.size_toArray, List.length_cons, List.length_nil, Nat.reduceAdd, Nat.reduceSub, Array.replicate_succ, Array.replicate_zero, List.push_toArray, List.append_toArray, List.nil_append, List.cons_append]
  refine wpIn_wide.2 ?_
  go_upto_region 1 with fail
  have b0 := (Blk.new w 26 #[.slice a zs.length cap]).alloc (.cells nz.toArray 50)
  have b1 := Blk.new (w.alloc (.cells #[.slice a zs.length cap] 26)) 50 nz.toArray
  rw [show (w.alloc (.cells #[.slice a zs.length cap] 26)).heap.size = w.heap.size + 1 by simp] at b1
  have lW : Below w.heap.size w ((w.alloc (.cells #[.slice a zs.length cap] 26)).alloc (.cells nz.toArray 50)) := ((Below.refl _ w).alloc (Nat.le_refl _) _).alloc (by simp) _
  have hWz : ((w.alloc (.cells #[.slice a zs.length cap] 26)).alloc (.cells nz.toArray 50)).heap.size = w.heap.size + 1 + 1 := by simp
  obtain ⟨W, hW⟩ : ∃ W, (w.alloc (.cells #[.slice a zs.length cap] 26)).alloc (.cells nz.toArray 50) = W := ⟨_, rfl⟩
  rw [hW] at b0 b1 lW hWz
  rw [hW]
  clear hW
  go_cut [7] from 9 to 16 (fun s7 V => RowKit.Hid (∃ n : Nat, s7 = .pointer (some ⟨n, 0, none⟩) ∧ Blk V n 50 (puts nz 0 (nl (tm tick) (List.replicate 64 0) m)).toArray ∧ Below W.heap.size W V ∧ W.heap.size ≤ n))
  case first =>
    have HS := Lib.hid (fun (v : World) (hv : Below W.heap.size W v) => (show v.cell? ⟨w.heap.size, 0, none⟩ = some (.slice a zs.length cap) ∧ RowKit.Hid (Below W.heap.size W v) from ⟨(b0.below hv b0.lt).cell 0, Lib.hid hv⟩))
    refine wp_region_noPanic ?_
    refine wp_region_held_drew (S := fun w' => w'.cell? ⟨w.heap.size, 0, none⟩ = some (.slice a zs.length cap) ∧ RowKit.Hid (Below W.heap.size W w')) (by kernel_rfl) (HS.out _ (Below.refl _ _).drew) (fun hHeld => ?_)
    refine Take.take (i := 0) (oi := _) (t := 9) (v := ?v1) rfl (by kernel_rfl) (by kernel_rfl) (by kernel_rfl) (by kernel_rfl) (fun _ _ _ h => h) (by kernel_rfl) ?hy1 (by assumption) ?_
    case hy1 => (intro w hSw; (try dsimp only at hSw); go_simp; try with_reducible rfl)
    try simp only [Act.put, List.setIfInBounds_toArray, List.set_cons_zero, List.set_cons_succ]
    refine Take.take (i := 2) (oi := _) (t := 11) (v := ?v2) rfl (by kernel_rfl) (by kernel_rfl) (by kernel_rfl) (by kernel_rfl) (fun _ _ _ h => h) (by kernel_rfl) ?hy2 (by assumption) ?_
    case hy2 => (intro w hSw; (try dsimp only at hSw); go_simp; try with_reducible rfl)
    try simp only [Act.put, List.setIfInBounds_toArray, List.set_cons_zero, List.set_cons_succ]
    refine Take.take (i := 3) (oi := _) (t := 12) (v := ?v3) rfl (by kernel_rfl) (by kernel_rfl) (by kernel_rfl) (by kernel_rfl) (fun _ _ _ h => h) (by kernel_rfl) ?hy3 (by assumption) ?_
    case hy3 => (intro w hSw; (try dsimp only at hSw); go_simp; try with_reducible rfl)
    try simp only [Act.put, List.setIfInBounds_toArray, List.set_cons_zero, List.set_cons_succ]
    refine Take.take (i := 4) (oi := _) (t := 13) (v := ?v4) rfl (by kernel_rfl) (by kernel_rfl) (by kernel_rfl) (by kernel_rfl) (fun _ _ _ h => h) (by kernel_rfl) ?hy4 (by assumption) ?_
    case hy4 => (intro w hSw; (try dsimp only at hSw); go_simp; try with_reducible rfl)
    try simp only [Act.put, List.setIfInBounds_toArray, List.set_cons_zero, List.set_cons_succ]
    refine wpAnyH_ready (rs := [1, 8]) (by kernel_rfl) (by simp) ?_
    refine AllReadyH.cons (o := _) rfl (fun K hK => ?_) (AllReadyH.cons (o := _) rfl (fun K hK => ?_) AllReadyH.nil)
    · skip
      go_simp
      go_at_call 22
      refine (time_any tick _).mono ?_
      rintro e w4 ⟨rfl, rfl⟩
      try dsimp only
      refine hK.out _ _ ?hS5 (fun hHeld => ?_)
      case hS5 => (refine HS.out _ ?_; first | exact BW.out | exact (Below.refl _ W).drew | exact ((Below.refl _ W).drew).alloc (Nat.le_refl _) _)
      clear hK K
      try simp only [Act.put, List.setIfInBounds_toArray, List.set_cons_zero, List.set_cons_succ]
      refine wpAnyH_ready (rs := [5, 8]) (by kernel_rfl) (by simp) ?_
      refine AllReadyH.cons (o := _) rfl (fun K hK => ?_) (AllReadyH.cons (o := _) rfl (fun K hK => ?_) AllReadyH.nil)
      · skip
        go_simp
        go_at_call 23
        refine (all_any zs.length _).mono ?_
        rintro e w4 ⟨rfl, rfl⟩
        try dsimp only
        refine hK.out _ _ ?hS6 (fun hHeld => ?_)
        case hS6 => (refine HS.out _ ?_; first | exact BW.out | exact (Below.refl _ W).drew | exact ((Below.refl _ W).drew).alloc (Nat.le_refl _) _)
        clear hK K
        try simp only [Act.put, List.setIfInBounds_toArray, List.set_cons_zero, List.set_cons_succ]
        refine Take.take (i := 6) (oi := _) (t := 15) (v := ?v7) rfl (by kernel_rfl) (by kernel_rfl) (by kernel_rfl) (by kernel_rfl) (fun _ _ _ h => h) (by kernel_rfl) ?hy7 (by assumption) ?_
        case hy7 => (intro w hSw; (try dsimp only at hSw); go_simp; try with_reducible rfl)
        try simp only [Act.put, List.setIfInBounds_toArray, List.set_cons_zero, List.set_cons_succ]
        refine Take.take (i := 7) (oi := _) (t := 16) (v := ?v8) rfl (by kernel_rfl) (by kernel_rfl) (by kernel_rfl) (by kernel_rfl) (fun _ _ _ h => h) (by kernel_rfl) ?hy8 (by assumption) ?_
        case hy8 => (intro w hSw; (try dsimp only at hSw); go_simp; try with_reducible rfl)
        try simp only [Act.put, List.setIfInBounds_toArray, List.set_cons_zero, List.set_cons_succ]
        refine wpAnyH_ready (rs := [8]) (by kernel_rfl) (by simp) ?_
        refine AllReadyH.cons (o := _) rfl (fun K hK => ?_) AllReadyH.nil
        go_simp
        refine hK.out _ _ ?hS9 (fun hHeld => ?_)
        case hS9 => (refine HS.out _ ?_; first | exact BW.out | exact (Below.refl _ W).drew | exact ((Below.refl _ W).drew).alloc (Nat.le_refl _) _)
        clear hK K
        try simp only [Act.put, List.setIfInBounds_toArray, List.set_cons_zero, List.set_cons_succ]
        refine wpAnyH_ready (rs := [9]) (by kernel_rfl) (by simp) ?_
        refine AllReadyH.cons (o := _) rfl (fun K hK => ?_) AllReadyH.nil
        have bN := Blk.new W.drew 50 nz.toArray
        rw [show W.drew.heap.size = W.heap.size from rfl, hWz] at bN
        refine wp_store_V 50 _ _ rfl _ 0 (nl (tm tick) (List.replicate 64 0) m).toArray rfl rfl (blk_there bN 0 _ (by simp [nz, nl_len])) (by kernel_rfl) (all_oneCell_toArray (nl_one _ _ _)) ?_
        intro V hV
        have bX : Blk V (w.heap.size + 1 + 1) 50 (puts nz 0 (nl (tm tick) (List.replicate 64 0) m)).toArray := by rw [hV]; exact blk_setCells (nl (tm tick) (List.replicate 64 0) m) 0 _ _ bN
        have BW : RowKit.Hid (Below W.heap.size W V) := by rw [hV]; exact Lib.hid (below_setCells (nl (tm tick) (List.replicate 64 0) m) 0 _ (((Below.refl _ W).drew).alloc (Nat.le_refl _) (.cells nz.toArray 50)) (Nat.le_of_eq hWz))
        clear hV bN
        refine hK.out _ _ ?hS10 (fun hHeld => ?_)
        case hS10 => (refine HS.out _ ?_; first | exact BW.out | exact (Below.refl _ W).drew | exact ((Below.refl _ W).drew).alloc (Nat.le_refl _) _)
        clear hK K
        try simp only [Act.put, List.setIfInBounds_toArray, List.set_cons_zero, List.set_cons_succ]
        refine wpAnyH_done (by kernel_rfl) ?_ _
        refine NoPanic.normal ?_
        go_wp2_with fail
        go_meet
        exact Lib.hid ⟨_, rfl, bX, BW.out, Nat.le_of_eq hWz⟩
      · skip
        go_simp
        refine hK.out _ _ ?hS11 (fun hHeld => ?_)
        case hS11 => (refine HS.out _ ?_; first | exact BW.out | exact (Below.refl _ W).drew | exact ((Below.refl _ W).drew).alloc (Nat.le_refl _) _)
        clear hK K
        try simp only [Act.put, List.setIfInBounds_toArray, List.set_cons_zero, List.set_cons_succ]
        refine wpAnyH_ready (rs := [5]) (by kernel_rfl) (by simp) ?_
        refine AllReadyH.cons (o := _) rfl (fun K hK => ?_) AllReadyH.nil
        go_simp
        go_at_call 23
        refine (all_any zs.length _).mono ?_
        rintro e w4 ⟨rfl, rfl⟩
        try dsimp only
        refine hK.out _ _ ?hS12 (fun hHeld => ?_)
        case hS12 => (refine HS.out _ ?_; first | exact BW.out | exact (Below.refl _ W).drew | exact ((Below.refl _ W).drew).alloc (Nat.le_refl _) _)
        clear hK K
        try simp only [Act.put, List.setIfInBounds_toArray, List.set_cons_zero, List.set_cons_succ]
        refine Take.take (i := 6) (oi := _) (t := 15) (v := ?v13) rfl (by kernel_rfl) (by kernel_rfl) (by kernel_rfl) (by kernel_rfl) (fun _ _ _ h => h) (by kernel_rfl) ?hy13 (by assumption) ?_
        case hy13 => (intro w hSw; (try dsimp only at hSw); go_simp; try with_reducible rfl)
        try simp only [Act.put, List.setIfInBounds_toArray, List.set_cons_zero, List.set_cons_succ]
        refine Take.take (i := 7) (oi := _) (t := 16) (v := ?v14) rfl (by kernel_rfl) (by kernel_rfl) (by kernel_rfl) (by kernel_rfl) (fun _ _ _ h => h) (by kernel_rfl) ?hy14 (by assumption) ?_
        case hy14 => (intro w hSw; (try dsimp only at hSw); go_simp; try with_reducible rfl)
        try simp only [Act.put, List.setIfInBounds_toArray, List.set_cons_zero, List.set_cons_succ]
        refine wpAnyH_ready (rs := [9]) (by kernel_rfl) (by simp) ?_
        refine AllReadyH.cons (o := _) rfl (fun K hK => ?_) AllReadyH.nil
        have bN := Blk.new W.drew 50 nz.toArray
        rw [show W.drew.heap.size = W.heap.size from rfl, hWz] at bN
        refine wp_store_V 50 _ _ rfl _ 0 (nl (tm tick) (List.replicate 64 0) m).toArray rfl rfl (blk_there bN 0 _ (by simp [nz, nl_len])) (by kernel_rfl) (all_oneCell_toArray (nl_one _ _ _)) ?_
        intro V hV
        have bX : Blk V (w.heap.size + 1 + 1) 50 (puts nz 0 (nl (tm tick) (List.replicate 64 0) m)).toArray := by rw [hV]; exact blk_setCells (nl (tm tick) (List.replicate 64 0) m) 0 _ _ bN
        have BW : RowKit.Hid (Below W.heap.size W V) := by rw [hV]; exact Lib.hid (below_setCells (nl (tm tick) (List.replicate 64 0) m) 0 _ (((Below.refl _ W).drew).alloc (Nat.le_refl _) (.cells nz.toArray 50)) (Nat.le_of_eq hWz))
        clear hV bN
        refine hK.out _ _ ?hS15 (fun hHeld => ?_)
        case hS15 => (refine HS.out _ ?_; first | exact BW.out | exact (Below.refl _ W).drew | exact ((Below.refl _ W).drew).alloc (Nat.le_refl _) _)
        clear hK K
        try simp only [Act.put, List.setIfInBounds_toArray, List.set_cons_zero, List.set_cons_succ]
        refine wpAnyH_done (by kernel_rfl) ?_ _
        refine NoPanic.normal ?_
        go_wp2_with fail
        go_meet
        exact Lib.hid ⟨_, rfl, bX, BW.out, Nat.le_of_eq hWz⟩
    · skip
      go_simp
      refine hK.out _ _ ?hS16 (fun hHeld => ?_)
      case hS16 => (refine HS.out _ ?_; first | exact BW.out | exact (Below.refl _ W).drew | exact ((Below.refl _ W).drew).alloc (Nat.le_refl _) _)
      clear hK K
      try simp only [Act.put, List.setIfInBounds_toArray, List.set_cons_zero, List.set_cons_succ]
      refine wpAnyH_ready (rs := [1]) (by kernel_rfl) (by simp) ?_
      refine AllReadyH.cons (o := _) rfl (fun K hK => ?_) AllReadyH.nil
      go_simp
      go_at_call 22
      refine (time_any tick _).mono ?_
      rintro e w4 ⟨rfl, rfl⟩
      try dsimp only
      refine hK.out _ _ ?hS17 (fun hHeld => ?_)
      case hS17 => (refine HS.out _ ?_; first | exact BW.out | exact (Below.refl _ W).drew | exact ((Below.refl _ W).drew).alloc (Nat.le_refl _) _)
      clear hK K
      try simp only [Act.put, List.setIfInBounds_toArray, List.set_cons_zero, List.set_cons_succ]
      refine wpAnyH_ready (rs := [5]) (by kernel_rfl) (by simp) ?_
      refine AllReadyH.cons (o := _) rfl (fun K hK => ?_) AllReadyH.nil
      go_simp
      go_at_call 23
      refine (all_any zs.length _).mono ?_
      rintro e w4 ⟨rfl, rfl⟩
      try dsimp only
      refine hK.out _ _ ?hS18 (fun hHeld => ?_)
      case hS18 => (refine HS.out _ ?_; first | exact BW.out | exact (Below.refl _ W).drew | exact ((Below.refl _ W).drew).alloc (Nat.le_refl _) _)
      clear hK K
      try simp only [Act.put, List.setIfInBounds_toArray, List.set_cons_zero, List.set_cons_succ]
      refine Take.take (i := 6) (oi := _) (t := 15) (v := ?v19) rfl (by kernel_rfl) (by kernel_rfl) (by kernel_rfl) (by kernel_rfl) (fun _ _ _ h => h) (by kernel_rfl) ?hy19 (by assumption) ?_
      case hy19 => (intro w hSw; (try dsimp only at hSw); go_simp; try with_reducible rfl)
      try simp only [Act.put, List.setIfInBounds_toArray, List.set_cons_zero, List.set_cons_succ]
      refine Take.take (i := 7) (oi := _) (t := 16) (v := ?v20) rfl (by kernel_rfl) (by kernel_rfl) (by kernel_rfl) (by kernel_rfl) (fun _ _ _ h => h) (by kernel_rfl) ?hy20 (by assumption) ?_
      case hy20 => (intro w hSw; (try dsimp only at hSw); go_simp; try with_reducible rfl)
      try simp only [Act.put, List.setIfInBounds_toArray, List.set_cons_zero, List.set_cons_succ]
      refine wpAnyH_ready (rs := [9]) (by kernel_rfl) (by simp) ?_
      refine AllReadyH.cons (o := _) rfl (fun K hK => ?_) AllReadyH.nil
      have bN := Blk.new W.drew 50 nz.toArray
      rw [show W.drew.heap.size = W.heap.size from rfl, hWz] at bN
      refine wp_store_V 50 _ _ rfl _ 0 (nl (tm tick) (List.replicate 64 0) m).toArray rfl rfl (blk_there bN 0 _ (by simp [nz, nl_len])) (by kernel_rfl) (all_oneCell_toArray (nl_one _ _ _)) ?_
      intro V hV
      have bX : Blk V (w.heap.size + 1 + 1) 50 (puts nz 0 (nl (tm tick) (List.replicate 64 0) m)).toArray := by rw [hV]; exact blk_setCells (nl (tm tick) (List.replicate 64 0) m) 0 _ _ bN
      have BW : RowKit.Hid (Below W.heap.size W V) := by rw [hV]; exact Lib.hid (below_setCells (nl (tm tick) (List.replicate 64 0) m) 0 _ (((Below.refl _ W).drew).alloc (Nat.le_refl _) (.cells nz.toArray 50)) (Nat.le_of_eq hWz))
      clear hV bN
      refine hK.out _ _ ?hS21 (fun hHeld => ?_)
      case hS21 => (refine HS.out _ ?_; first | exact BW.out | exact (Below.refl _ W).drew | exact ((Below.refl _ W).drew).alloc (Nat.le_refl _) _)
      clear hK K
      try simp only [Act.put, List.setIfInBounds_toArray, List.set_cons_zero, List.set_cons_succ]
      refine wpAnyH_done (by kernel_rfl) ?_ _
      refine NoPanic.normal ?_
      go_wp2_with fail
      go_meet
      exact Lib.hid ⟨_, rfl, bX, BW.out, Nat.le_of_eq hWz⟩
  case rest =>
    obtain ⟨n, rfl, bX, bV, hn⟩ := hcut.out
    rw [puts_nz _ _ _ (by simp)] at bX
    have lV : Below w.heap.size w wc := lW.trans (bV.mono (by omega))
    have hTc : Tab wc := HT.out.below lV HT.out.size
    have hw0 := HT.out.size
    have bb := b0.below bV b0.lt
    have br := b1.below bV b1.lt
    have q0 := bX.cell 65
    rw [List.getElem?_toArray, nl_set (by simp)] at q0
    have hnl := bX.lt
    go_wp2_with (go_at_call 24; refine (each_any m _).mono ?_; rintro e w' ⟨rfl, h⟩; rw [h]; clear h w')
    have bB := Blk.new wc 33 #[.int .u64 (m : Nat)]
    have hI0 : TInv w n wc.heap.size a cap zs tick m [] (wc.alloc (.cells #[.int .u64 (m : Nat)] 33)) :=
      ⟨⟨List.replicate 64 0, by simp, bX.alloc _, fun i hi => by simp at hi, Told.zero.inn⟩, bb.alloc _, br.alloc _, ⟨_, bB⟩, lV.alloc (by have := lV.size; omega) _⟩
    have hT1 : Tab (wc.alloc (.cells #[.int .u64 (m : Nat)] 33)) := hTc.below ((Below.refl _ wc).alloc (Nat.le_refl _) _) hTc.size
    have hz1 : (wc.alloc (.cells #[.int .u64 (m : Nat)] 33)).heap.size = wc.heap.size + 1 := by simp
    obtain ⟨Wr, hWr⟩ : ∃ Wr, wc.alloc (.cells #[.int .u64 (m : Nat)] 33) = Wr := ⟨_, rfl⟩
    rw [hWr] at bB hI0 hT1 hz1
    rw [hWr]
    clear hWr hcut q0
    have hne : n ≠ wc.heap.size := by omega
    have hlo : w.heap.size + 1 < wc.heap.size := by omega
    refine range_each (B := wc.heap.size) (s := m) rfl hml bB hT1 (by omega) rfl (fun pre V => TInv w n wc.heap.size a cap zs tick m pre V) (fun _ _ _ => False)
      (fun xs A C h c => h.hush c hne hlo (by omega)) (fun _ _ _ _ h _ => h) hI0
      (fun x => { tmps := #[.int .i64 tick, .slice a zs.length cap, .int .u64 (s : Nat), undef, .pointer (some ⟨w.heap.size, 0, none⟩), undef, .pointer (some ⟨w.heap.size + 1, 0, none⟩), .pointer (some ⟨n, 0, none⟩), .int .i64 (x : Nat), u9, u10, u11, u12, u13, u14, u15, u16, .pointer (some ⟨n, 65, none⟩), .int .u64 (m : Nat), .func (.func 30) #[] #[.pointer (some ⟨wc.heap.size, 0, none⟩)], .int .i64 (x : Nat), undef, undef, undef, undef, undef, undef, undef, undef, undef], defers := [] }) ?assign ?body ?done ?stop
    case assign =>
      intro l x V R hR
      gi_wp2
      exact hR
    case stop =>
      rintro D c pre V _ _ h _
      exact h.elim
    case body =>
      rintro l pre x V hzV hIV hpre
      have hx : x ∈ ones m := hpre.subset (by simp)
      obtain ⟨hx64, hxb⟩ := mem_ones.1 hx
      have hxl : x < zs.length := by
        rw [← Hm.out, Nat.testBit_and, mask_bit _ hx64] at hxb
        simp at hxb
        exact hxb.2
      obtain ⟨b, off, rfl, hb, hc⟩ := Hz.out x hxl
      have hcV : V.cell? ⟨b, off + x, none⟩ = some (.int .i64 (zs.getD x 0)) := (hIV.low.cell (p := ⟨b, _, none⟩) hb).trans hc
      have hput := hIV.put hne (by omega) hx64
      obtain ⟨z, hzz⟩ : ∃ z, zs.getD x 0 = z := ⟨_, rfl⟩
      rw [hzz] at hcV hput
      have cB := hIV.box.cell 0
      simp at cB
      obtain ⟨A, h1, h2, h3, h4⟩ := hIV.note
      have cA := h2.cell (x + 1)
      rw [List.getElem?_toArray, nl_at h1 hx64] at cA
      have fA := h2.frozen (x + 1)
      rw [Nat.add_comm x 1] at cA fA hput
      have q1 : (0 : Int) ≤ (x : Int) := by omega
      have q2 : (x : Int) < (zs.length : Int) := by omega
      have q3 : (x : Int) < 64 := by omega
      have HIV := Lib.hid hIV
      have Htm := Lib.hid ((callsIn_wide (n := 0)).2 (time_any z V))
      have Hput := Lib.hid hput
      clear hIV h1 h2 h3 h4 hc hpre hx hxb hI0 hput hzz
      gi_wp2
      refine ⟨trivial, rfl, (CallsIn.inRound l Htm.out).mono ?_⟩
      rintro e w' ⟨rfl, rfl⟩
      gi_wp2
      obtain ⟨A', h1', h2', _⟩ := HIV.out.note
      obtain ⟨y, hy⟩ := HIV.out.each
      refine ⟨off_stays (K := fun k => k = n) (off_put (K := fun k => k = n) (Off.refl _ _) (show n = n from rfl) _ _) (fun k hk => by subst hk; exact ⟨_, _, h2'⟩) (fun k hk => ?_), Hput.out⟩
      rcases hk with rfl | rfl
      · exact ⟨hy.lt, by omega⟩
      · exact ⟨by omega, by omega⟩
    case done =>
      rintro D V hD hI hd
      obtain ⟨A, bA, hA⟩ := hI.told Hm.out
      have HA := Lib.hid hA
      have hAl := hA.len
      have HL := Lib.hid hI.low
      have rA := blk_range bA 0 (nl (tm tick) A m) (fun j v hv => by rw [Nat.zero_add]; exact hv)
      have bR := hI.res
      have hn2 : n ≠ w.heap.size + 1 := by omega
      clear hA hI hI0 bX bB hand hz3
      go_wp2_with (first
        | refine wpList_load_mid rfl 50 _ rfl n 0 rfl (nl (tm tick) A m) _ rA Tryd.underlying50 rfl (by rw [nl_len hAl]; kernel_rfl) ?_
        | (refine wpList_plain rfl fun K hK => wp_store_V 50 _ _ rfl _ 0 (nl (tm tick) A m).toArray rfl rfl (blk_there bR 0 _ (by simp [nz, nl_len, hAl])) (by rw [List.size_toArray, nl_len hAl]; kernel_rfl) (all_oneCell_toArray (nl_one _ _ _)) ?_; intro V' hV'; refine hK _ _ ?_))
      have bF : Blk (V.setCells (w.heap.size + 1) 0 (nl (tm tick) A m)) (w.heap.size + 1) 50 (nl (tm tick) A m).toArray := by
        have := blk_setCells (nl (tm tick) A m) 0 _ _ bR
        rwa [puts_nz _ _ _ hAl] at this
      have oF := off_setCells (nl (tm tick) A m) 0 V (Off.refl (fun k => k = w.heap.size + 1) V)
      have lF : Below w.heap.size w (V.setCells (w.heap.size + 1) 0 (nl (tm tick) A m)) := below_setCells (nl (tm tick) A m) 0 _ HL.out (by omega)
      have hDl := (Array.getElem?_eq_some_iff.1 hd).1
      have hDn : D ≠ w.heap.size + 1 := by
        intro e
        unfold Blk at bR
        rw [e, bR] at hd
        cases hd
      refine leaves_marks (mark_one (b := w.heap.size) (by omega) ((oF.block D hDl hDn).trans hd)) fun w' hB hC => ?_
      exact ⟨_, results_cell (b := w.heap.size + 1) Tryd.results18 rfl Tryd.underlying50 (by kernel_rfl) (by rw [nl_len hAl]; kernel_rfl) (blk_range (show Blk w' (w.heap.size + 1) 50 _ from hC _ _ bF rfl) 0 (nl (tm tick) A m) (fun j v hv => by rw [Nat.zero_add]; exact hv)), A, m, rfl, HA.out, lF.trans hB⟩
end Go.Proofs.YtpbabpbinojodaaDoor.Drift
