/- A watch's state; the chapter's example and the nil watch, walked. -/
import Derived.Test.YtpbabpbinojodaaDoorDriftPaceRef
namespace Go.Proofs.YtpbabpbinojodaaDoor.Drift
open Go.RowKit
open Go.Proofs.YtpbabpbinojodaaDoor.Arith Go.Proofs.YtpbabpbinojodaaDoor.Nodes Go.Proofs.YtpbabpbinojodaaDoor.Heap Go.Proofs.YtpbabpbinojodaaDoor.RF
set_option linter.unusedVariables false
set_option linter.unusedSimpArgs false
/-- A watch lies: its numbers, the note that it was told last. -/
def WAt (w : World) (q : Nat) (c : Wt) (a : Nt) : Prop := ∃ (T : Int) (A : List Int) (m : Nat), Blk w q 52 (wl c (nl T A m)).toArray ∧ Told a T A m
theorem WAt.lt {w : World} {q : Nat} {c : Wt} {a : Nt} (h : WAt w q c a) : q < w.heap.size := by
  obtain ⟨T, A, m, hb, _⟩ := h
  exact hb.lt
theorem WAt.below {b : Nat} {w w' : World} {q : Nat} {c : Wt} {a : Nt} (h : WAt w q c a) (k : Below b w w') (hq : q < b) : WAt w' q c a := by
  obtain ⟨T, A, m, hb, ht⟩ := h
  exact ⟨T, A, m, hb.below k hq, ht⟩
theorem WAt.drew {w : World} {q : Nat} {c : Wt} {a : Nt} (h : WAt w q c a) : WAt w.drew q c a := h
theorem WAt.worst {w : World} {q : Nat} {c : Wt} {a : Nt} (h : WAt w q c a) :
    Calls Tryd.prog 11 #[.pointer (some ⟨q, 0, none⟩)] w fun r w' => r = .returned (.tuple #[.int .i64 c.worst, .int .i64 c.tick]) ∧ w' = w.drew := by
  obtain ⟨T, A, m, hb, ht⟩ := h
  exact worst_any (nl_len ht.len) hb
theorem WAt.count {w : World} {q : Nat} {c : Wt} {a : Nt} (h : WAt w q c a) :
    Calls Tryd.prog 12 #[.pointer (some ⟨q, 0, none⟩)] w fun r w' => r = .returned (.tuple #[.int .i64 c.apart, .int .i64 c.pace]) ∧ w' = w.drew := by
  obtain ⟨T, A, m, hb, ht⟩ := h
  exact count_any (nl_len ht.len) hb
theorem WAt.fine {w : World} {q : Nat} {c : Wt} {a : Nt} (h : WAt w q c a) :
    Calls Tryd.prog 13 #[.pointer (some ⟨q, 0, none⟩)] w fun r w' => r = .returned (.bool (decide (c.apart = 0) && decide (c.pace = 0))) ∧ w' = w := by
  obtain ⟨T, A, m, hb, ht⟩ := h
  exact fine_any (nl_len ht.len) hb
/-- A watch that noted nothing. -/
theorem WAt.new (w : World) (e s f : Int) : WAt (w.alloc (.cells (wl (w0 e s f) nz).toArray 52)) w.heap.size (w0 e s f) ⟨0, [], 0⟩ := ⟨0, List.replicate 64 0, 0, Blk.new w _ _, Told.zero⟩
theorem off_tab {w w' : World} {q : Nat} (h : Tab w) (k : Off (fun j => j = q) w w') (hq : 0 < q) : Tab w' := h.off k (fun e => by omega) h.size
theorem off_low {b : Nat} {w w' : World} {q : Nat} (k : Off (fun j => j = q) w w') (hq : b ≤ q) (hb : b ≤ w.heap.size) : Below b w w' := ⟨k.os, k.tape, k.output, k.size, fun i hi => k.block i (by omega) (by omega)⟩
/-- NOTE, of a watch that lies so. -/
theorem WAt.note {w : World} {q : Nat} {c : Wt} {a : Nt} (h : WAt w q c a) (tick : Int) (ad : Option Addr) (cap : Nat) (zs : List Int) (s : Nat) (hs64 : s < 2 ^ 64) (hl : zs.length ≤ 9223372036854775807) (hz : Row64 w ad zs) (hT : Tab w)
    (hs : I64 c.slow) (hf : I64 c.fast) (b1 : 0 ≤ c.apart ∧ c.apart ≤ 1000000) (b2 : 0 ≤ c.pace ∧ c.pace ≤ 1000000) (g : Int) (hg : GapOf ⟨tick, zs, s⟩ g) :
    Calls Tryd.prog 9 #[.pointer (some ⟨q, 0, none⟩), .int .i64 tick, .slice ad zs.length cap, .int .u64 (s : Nat)] w fun r w' =>
      r = .returned (.bool (decide (g ≤ c.eps) && decide (outOf a ⟨tick, zs, s⟩ c.slow c.fast = 0))) ∧ WAt w' q (stepW c g (tm tick) (outOf a ⟨tick, zs, s⟩ c.slow c.fast)) ⟨tick, zs, s⟩ ∧ Off (fun j => j = q) w w' := by
  obtain ⟨T, A, m, hb, ht⟩ := h
  refine (note_any hb ht tick ad cap zs s hs64 hl hz hT hs hf b1 b2).mono ?_
  rintro r w' ⟨g', U, B, k, hg', hB, hr, hb', ho⟩
  obtain rfl := hg.uniq hg'
  rw [← hB.tick]
  exact ⟨hr, ⟨U, B, k, hb', hB⟩, ho⟩
theorem row_new2 (V : World) (x y : Int) : Row64 (V.alloc (.cells #[.int .i64 x, .int .i64 y] 2)) (some ⟨V.heap.size, 0, none⟩) [x, y] := fun i hi => by
  have hb := Blk.new V 2 #[.int .i64 x, .int .i64 y]
  refine ⟨V.heap.size, 0, rfl, hb.lt, ?_⟩
  rw [Nat.zero_add, hb.cell]
  rcases i with _ | _ | i
  · rfl
  · rfl
  · exact absurd hi (by simp)
theorem note_two {w V : World} {q : Nat} {c : Wt} {a : Nt} (h : WAt V q c a) (hT : Tab V) (hl : Below w.heap.size w V) (hq : w.heap.size ≤ q) (hw0 : 0 < w.heap.size) (tick x y : Int) (hs : I64 c.slow) (hf : I64 c.fast) (b1 : 0 ≤ c.apart ∧ c.apart ≤ 1000000) (b2 : 0 ≤ c.pace ∧ c.pace ≤ 1000000)
    (g : Int) (hg : GapOf ⟨tick, [x, y], 3⟩ g) (o : Nat) (ho : outOf a ⟨tick, [x, y], 3⟩ c.slow c.fast = o) (c' : Wt) (hc : stepW c g (tm tick) o = c') (b : Bool) (hb : (decide (g ≤ c.eps) && decide (o = 0)) = b) :
    Calls Tryd.prog 9 #[.pointer (some ⟨q, 0, none⟩), .int .i64 tick, .slice (some ⟨V.heap.size, 0, none⟩) 2 2, .int .u64 3] (V.alloc (.cells #[.int .i64 x, .int .i64 y] 2)) fun r w' =>
      r = .returned (.bool b) ∧ WAt w' q c' ⟨tick, [x, y], 3⟩ ∧ Tab w' ∧ Below w.heap.size w w' := by
  have kb : Below V.heap.size V (V.alloc (.cells #[.int .i64 x, .int .i64 y] 2)) := (Below.refl _ V).alloc (Nat.le_refl _) _
  have hT' := hT.below kb hT.size
  refine ((h.below kb h.lt).note tick (some ⟨V.heap.size, 0, none⟩) 2 [x, y] 3 (by omega) (by simp) (row_new2 V x y) hT' hs hf b1 b2 g hg).mono ?_
  rintro r w' ⟨hr, h1, h2⟩
  rw [ho] at hr h1
  rw [hc] at h1
  rw [hb] at hr
  exact ⟨hr, h1, off_tab hT' h2 (by omega), (hl.trans (kb.mono hl.size)).trans (off_low h2 hq (by have := hl.size; have := kb.size; omega))⟩
theorem gap_dec {n : Nt} {g : Int} (h : (decide (0 ≤ g) && ((List.range 64).all fun i => (List.range 64).all fun k => !(n.live i && n.live k) || decide (n.at i - n.at k ≤ g)) && (decide (g = 0) || ((List.range 64).any fun i => (List.range 64).any fun k => n.live i && n.live k && decide (g = n.at i - n.at k)))) = true) : GapOf n g := by
  simp only [Bool.and_eq_true, decide_eq_true_eq, List.all_eq_true, List.any_eq_true, List.mem_range, Bool.or_eq_true, Bool.not_eq_true', Bool.and_eq_false_iff] at h
  obtain ⟨⟨h1, h2⟩, h3⟩ := h
  refine ⟨h1, fun i k hi hk li lk => ?_, ?_⟩
  · rcases h2 i hi k hk with c | c
    · rw [li, lk] at c; simp at c
    · exact c
  · rcases h3 with h3 | ⟨i, hi, k, hk, ⟨h4, h5⟩, h6⟩
    · exact .inl h3
    · exact .inr ⟨i, k, hi, hk, h4, h5, h6⟩
theorem gap1 : GapOf ⟨1, [5, 9], 3⟩ 4 := gap_dec (by decide +kernel)
theorem gap2 : GapOf ⟨2, [8, 10], 3⟩ 2 := gap_dec (by decide +kernel)
theorem gap3 : GapOf ⟨3, [8, 12], 3⟩ 4 := gap_dec (by decide +kernel)
theorem out1 : outOf ⟨0, [], 0⟩ ⟨1, [5, 9], 3⟩ 1 3 = 0 := by decide +kernel
theorem out2 : outOf ⟨1, [5, 9], 3⟩ ⟨2, [8, 10], 3⟩ 1 3 = 0 := by decide +kernel
theorem out3 : outOf ⟨2, [8, 10], 3⟩ ⟨3, [8, 12], 3⟩ 1 3 = 1 := by decide +kernel
set_option maxRecDepth 100000 in
theorem works_any (w : World) (hT : Tab w) :
    Calls Tryd.prog 14 #[] w fun e w' => e = .returned (.bool true) ∧ Below w.heap.size w w' := by
  have hw0 := hT.size
  have HN := Lib.hid (new_any 10 1 3 w)
  have hA := WAt.new w 10 1 3
  have lA : Below w.heap.size w (w.alloc (.cells (wl (w0 10 1 3) nz).toArray 52)) := (Below.refl _ w).alloc (Nat.le_refl _) _
  have tA := hT.below lA hw0
  obtain ⟨W, hW⟩ : ∃ W, w.alloc (.cells (wl (w0 10 1 3) nz).toArray 52) = W := ⟨_, rfl⟩
  rw [show max (10 : Int) 0 = 10 by omega, hW] at HN
  rw [hW] at hA lA tA
  clear hW
  obtain ⟨q, hq⟩ : ∃ q, w.heap.size = q := ⟨_, rfl⟩
  have hq' : w.heap.size ≤ q := by omega
  rw [hq] at hA HN
  have N1 := Lib.hid (note_two hA tA lA hq' hw0 1 5 9 (by unfold I64; decide) (by unfold I64; decide) (by decide) (by decide) 4 gap1 0 out1 ⟨10, 1, 3, 4, 1, 0, 0⟩ (by kernel_rfl) true (by decide +kernel))
  go_enter Tryd.func14, Tryd.ntmps14
  go_wp2_with (first
    | (go_at_call 6; refine HN.out.mono ?_; rintro e w' ⟨rfl, h⟩; rw [h]; clear h w')
    | (go_at_call 9; with_reducible refine N1.out.mono ?_; rintro e V1 ⟨rfl, h1, t1, l1⟩; have N2 := Lib.hid (note_two h1 t1 l1 hq' hw0 2 8 10 (by unfold I64; decide) (by unfold I64; decide) (by decide) (by decide) 2 gap2 0 out2 ⟨10, 1, 3, 4, 1, 0, 0⟩ (by kernel_rfl) true (by decide +kernel)); clear h1 t1 l1)
    | (go_at_call 9; with_reducible refine N2.out.mono ?_; rintro e V2 ⟨rfl, h2, t2, l2⟩; have N3 := Lib.hid (note_two h2 t2 l2 hq' hw0 3 8 12 (by unfold I64; decide) (by unfold I64; decide) (by decide) (by decide) 4 gap3 1 out3 ⟨10, 1, 3, 4, 1, 0, 1⟩ (by kernel_rfl) false (by decide +kernel)); clear h2 t2 l2)
    | (go_at_call 9; with_reducible refine N3.out.mono ?_; rintro e V3 ⟨rfl, h3, t3, l3⟩; have Wo := Lib.hid h3.worst; have Co := Lib.hid h3.drew.count; have Fi := Lib.hid h3.drew.drew.fine; have L3 := Lib.hid l3; clear h3 t3 l3)
    | (go_at_call 11; refine Wo.out.mono ?_; rintro e w' ⟨rfl, h⟩; rw [h]; clear h w')
    | (go_at_call 12; refine Co.out.mono ?_; rintro e w' ⟨rfl, h⟩; rw [h]; clear h w')
    | (go_at_call 13; refine Fi.out.mono ?_; rintro e w' ⟨rfl, h⟩; rw [h]; clear h w'))
  go_ret
  exact ⟨rfl, L3.out.drew.drew⟩
end Go.Proofs.YtpbabpbinojodaaDoor.Drift
