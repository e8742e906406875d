/- A watch: New, Note, Worst, Count, Fine of package drift, walked. -/
import Derived.Test.YtpbabpbinojodaaDoorDriftOut
namespace Go.Proofs.YtpbabpbinojodaaDoor.Drift
open Go.RowKit
open Go.Proofs.YtpbabpbinojodaaDoor.Arith Go.Proofs.YtpbabpbinojodaaDoor.Nodes Go.Proofs.YtpbabpbinojodaaDoor.Heap Go.Proofs.YtpbabpbinojodaaDoor.RF
set_option linter.unusedVariables false
set_option linter.unusedSimpArgs false
/-- A watch that noted nothing. -/
def w0 (e s f : Int) : Wt := ⟨e, s, f, 0, 0, 0, 0⟩
def zw : List Value := wl (w0 0 0 0) nz
theorem info_watch : (Tryd.prog.info? 52).map (fun i => (i.zero, i.size)) = some (some (.agg zw.toArray), 73) := by kernel_rfl
theorem zw_set (e s f : Int) : ((zw.set 0 (.int .i64 e)).set 1 (.int .i64 s)).set 2 (.int .i64 f) = wl (w0 e s f) nz := rfl
theorem ret_tt {a b c d : Int} (h : a = c) (k : b = d) : Ending.returned (.tuple #[.int .i64 a, .int .i64 b]) = Ending.returned (.tuple #[.int .i64 c, .int .i64 d]) := by rw [h, k]
theorem new_any (e s f : Int) (w : World) :
    Calls Tryd.prog 6 #[.int .i64 e, .int .i64 s, .int .i64 f] w fun r w' => r = .returned (.pointer (some ⟨w.heap.size, 0, none⟩)) ∧ w' = w.alloc (.cells (wl (w0 (max e 0) s f) nz).toArray 52) := by
  have z52 := (zero_of_info info_watch).1
  have hz3 := zw_set (max e 0) s f
  have hl : zw.length = 73 := rfl
  have hz1 : ¬ zw = [] := fun c => by rw [c] at hl; cases hl
  rcases Int.lt_trichotomy e 0 with h | h | h
  · rw [show max e 0 = 0 by omega] at hz3 ⊢
    go_enter Tryd.func6, Tryd.ntmps6
    go_wp2
    go_ret
    exact ⟨rfl, rfl⟩
  · subst h
    rw [show max (0 : Int) 0 = 0 by omega] at hz3 ⊢
    go_enter Tryd.func6, Tryd.ntmps6
    go_wp2
    go_ret
    exact ⟨rfl, rfl⟩
  · rw [show max e 0 = e by omega] at hz3 ⊢
    go_enter Tryd.func6, Tryd.ntmps6
    go_wp2
    go_ret
    exact ⟨rfl, rfl⟩
theorem worst_any {w : World} {q : Nat} {c : Wt} {ns : List Value} (hn : ns.length = 66) (hq : Blk w q 52 (wl c ns).toArray) :
    Calls Tryd.prog 11 #[.pointer (some ⟨q, 0, none⟩)] w fun r w' => r = .returned (.tuple #[.int .i64 c.worst, .int .i64 c.tick]) ∧ w' = w.drew := by
  have c1 : w.cell? ⟨q, 69, none⟩ = some (.int .i64 c.worst) := by have := hq.cell 69; rwa [List.getElem?_toArray, wl_worst hn] at this
  have c2 : w.cell? ⟨q, 70, none⟩ = some (.int .i64 c.tick) := by have := hq.cell 70; rwa [List.getElem?_toArray, wl_tick hn] at this
  go_enter Tryd.func11, Tryd.ntmps11
  go_wp2
  go_region_held3 (fun v => v.cell? ⟨q, 69, none⟩ = some (.int .i64 c.worst) ∧ v.cell? ⟨q, 70, none⟩ = some (.int .i64 c.tick)) ((go_keep; done)) (fail)
  go_wp2
  go_ret2
  exact ⟨rfl, rfl⟩
theorem count_any {w : World} {q : Nat} {c : Wt} {ns : List Value} (hn : ns.length = 66) (hq : Blk w q 52 (wl c ns).toArray) :
    Calls Tryd.prog 12 #[.pointer (some ⟨q, 0, none⟩)] w fun r w' => r = .returned (.tuple #[.int .i64 c.apart, .int .i64 c.pace]) ∧ w' = w.drew := by
  have c1 : w.cell? ⟨q, 71, none⟩ = some (.int .i64 c.apart) := by have := hq.cell 71; rwa [List.getElem?_toArray, wl_apart hn] at this
  have c2 : w.cell? ⟨q, 72, none⟩ = some (.int .i64 c.pace) := by have := hq.cell 72; rwa [List.getElem?_toArray, wl_pace hn] at this
  go_enter Tryd.func12, Tryd.ntmps12
  go_wp2
  go_region_held3 (fun v => v.cell? ⟨q, 71, none⟩ = some (.int .i64 c.apart) ∧ v.cell? ⟨q, 72, none⟩ = some (.int .i64 c.pace)) ((go_keep; done)) (fail)
  go_wp2
  go_ret2
  exact ⟨rfl, rfl⟩
theorem fine_any {w : World} {q : Nat} {c : Wt} {ns : List Value} (hn : ns.length = 66) (hq : Blk w q 52 (wl c ns).toArray) :
    Calls Tryd.prog 13 #[.pointer (some ⟨q, 0, none⟩)] w fun r w' => r = .returned (.bool (decide (c.apart = 0) && decide (c.pace = 0))) ∧ w' = w := by
  have c1 : w.cell? ⟨q, 71, none⟩ = some (.int .i64 c.apart) := by have := hq.cell 71; rwa [List.getElem?_toArray, wl_apart hn] at this
  have c2 : w.cell? ⟨q, 72, none⟩ = some (.int .i64 c.pace) := by have := hq.cell 72; rwa [List.getElem?_toArray, wl_pace hn] at this
  obtain ⟨a, ha⟩ : ∃ a, c.apart = a := ⟨_, rfl⟩
  obtain ⟨b, hb⟩ : ∃ b, c.pace = b := ⟨_, rfl⟩
  rw [ha] at c1 ⊢
  rw [hb] at c2 ⊢
  clear ha hb
  rcases e1 : a == 0 with _ | _
  · rw [show decide (a = 0) = false by simpa using e1]
    go_enter Tryd.func13, Tryd.ntmps13
    go_wp2
    go_ret
    exact ⟨rfl, rfl⟩
  · rw [show decide (a = 0) = true by simpa using e1]
    rcases e2 : b == 0 with _ | _
    · rw [show decide (b = 0) = false by simpa using e2]
      go_enter Tryd.func13, Tryd.ntmps13
      go_wp2
      go_ret
      exact ⟨rfl, rfl⟩
    · rw [show decide (b = 0) = true by simpa using e2]
      go_enter Tryd.func13, Tryd.ntmps13
      go_wp2
      go_ret
      exact ⟨rfl, rfl⟩
/-- What a watch keeps behind a note: how far clocks are apart, when, how many are out of pace. -/
def stepW (c : Wt) (g T : Int) (o : Nat) : Wt := { c with worst := if c.worst < g then g else c.worst, tick := if c.worst < g then T else c.tick, apart := c.apart + (if c.eps < g then 1 else 0), pace := c.pace + o }
/-- What Note does. -/
def Noted (w : World) (q : Nat) (c : Wt) (n : Nt) (o : Nat) (r : Ending) (w' : World) : Prop :=
  ∃ (g : Int) (U : Int) (B : List Int) (k : Nat), GapOf n g ∧ Told n U B k ∧ r = .returned (.bool (decide (g ≤ c.eps) && decide (o = 0))) ∧ Blk w' q 52 (wl (stepW c g U o) (nl U B k)).toArray ∧ Off (fun j => j = q) w w'
set_option maxRecDepth 100000 in
set_option maxHeartbeats 4000000 in
theorem note_any {w : World} {q : Nat} {a : Nt} {T : Int} {A : List Int} {m : Nat} {c : Wt} (hq : Blk w q 52 (wl c (nl T A m)).toArray) (ha : Told a T A m) (tick : Int) (ad : Option Addr) (cap : Nat) (zs : List Int) (s : Nat) (hs64 : s < 2 ^ 64) (hl : zs.length ≤ 9223372036854775807) (hz : Row64 w ad zs) (hT : Tab w)
    (hs : I64 c.slow) (hf : I64 c.fast) (b1 : 0 ≤ c.apart ∧ c.apart ≤ 1000000) (b2 : 0 ≤ c.pace ∧ c.pace ≤ 1000000) :
    Calls Tryd.prog 9 #[.pointer (some ⟨q, 0, none⟩), .int .i64 tick, .slice ad zs.length cap, .int .u64 (s : Nat)] w fun r w' => Noted w q c ⟨tick, zs, s⟩ (outOf a ⟨tick, zs, s⟩ c.slow c.fast) r w' := by
  have HTo := Lib.hid (told_any tick ad cap zs s hs64 w hl hz hT)
  have z50 := (zero_of_info info_note).1
  have lq := hq.lt
  have hn := nl_len (T := T) (m := m) ha.len
  obtain ⟨o, ho⟩ : ∃ o, outOf a ⟨tick, zs, s⟩ c.slow c.fast = o := ⟨_, rfl⟩
  rw [ho]
  have Ho := Lib.hid ho
  clear ho
  go_enter Tryd.func9, Tryd.ntmps9
  go_upto_region 4 with (first
    | (go_at_call 18; refine HTo.out.mono ?_; rintro e w1 ⟨B, k, rfl, hb, hL1⟩)
    | (refine wpList_plain rfl fun K hK => wp_store_V 50 _ _ rfl w1.heap.size 0 (nl (tm tick) B k).toArray rfl rfl (blk_there (Blk.new w1 50 nz.toArray) 0 _ (by simp [nz, nl_len, hb.len])) (by rw [List.size_toArray, nl_len hb.len]; kernel_rfl) (all_oneCell_toArray (nl_one _ _ _)) ?_; intro V hV; refine hK _ _ ?_))
  have bN : Blk V w1.heap.size 50 (nl (tm tick) B k).toArray := by
    have := blk_setCells (nl (tm tick) B k) 0 _ _ (Blk.new w1 50 nz.toArray)
    rw [puts_nz _ _ _ hb.len, ← hV] at this
    exact this
  have hL2 : Below w.heap.size w V := by rw [hV]; exact below_setCells (nl (tm tick) B k) 0 _ (hL1.alloc hL1.size _) hL1.size
  have hq2 := hq.below hL2 lq
  have hT2 := hT.below hL2 hT.size
  have lN := bN.lt
  have Hg := Lib.hid (gap_any bN hb hT2)
  have lw1 := hL1.size
  obtain ⟨N, hN⟩ : ∃ N, w1.heap.size = N := ⟨_, rfl⟩
  rw [hN] at bN lN Hg lw1
  rw [hN]
  have HL2 := Lib.hid hL2
  have HO : RowKit.Hid (∀ V3, Below V.heap.size V V3 → Calls Tryd.prog 20 #[.pointer (some ⟨q, 0, none⟩), .pointer (some ⟨N, 0, none⟩)] V3 fun e w' => e = .returned (.int .i64 (o : Nat)) ∧ Below V3.heap.size V3 w') := Lib.hid (fun V3 h3 => by rw [← Ho.out]; exact out_any (hq2.below h3 hq2.lt) (bN.below h3 bN.lt) ha hb hs hf (hT2.below h3 hT2.size))
  have o64 : o ≤ 64 := by rw [← Ho.out]; exact outOf_le _ _ _ _
  clear hV hN HTo hz hL2 hL1 hK K
  simp only [Act.put]
  go_upto_region 5 with (first
    | (go_at_call 19; refine Hg.out.mono ?_; rintro e V3 ⟨g, rfl, hgap, hL3⟩)
    | (go_at_call 20; refine (HO.out V3 hL3).mono ?_; rintro e V4 ⟨rfl, hL4⟩))
  have hL34 := hL3.trans (hL4.mono hL3.size)
  have hq4 := hq2.below hL34 hq2.lt
  have bN4 := bN.below hL34 bN.lt
  have cl : ∀ (i : Nat) (v : Value), (wl c (nl T A m))[i]? = some v → V4.cell? ⟨q, i, none⟩ = some v := fun i v h => by
    have := hq4.cell i
    rwa [List.getElem?_toArray, h] at this
  have c1 : V4.cell? ⟨q, 69, none⟩ = some (.int .i64 c.worst) := cl 69 _ (wl_worst hn)
  have c2 : V4.cell? ⟨q, 70, none⟩ = some (.int .i64 c.tick) := cl 70 _ (wl_tick hn)
  have c3 : V4.cell? ⟨q, 71, none⟩ = some (.int .i64 c.apart) := cl 71 _ (wl_apart hn)
  have c4 : V4.cell? ⟨q, 72, none⟩ = some (.int .i64 c.pace) := cl 72 _ (wl_pace hn)
  have c0 : V4.cell? ⟨q, 0, none⟩ = some (.int .i64 c.eps) := cl 0 _ rfl
  have f1 := hq4.frozen 69
  have f2 := hq4.frozen 70
  have f3 := hq4.frozen 71
  have f4 := hq4.frozen 72
  have cT : V4.cell? ⟨N, 0, none⟩ = some (.int .i64 (tm tick)) := bN4.cell 0
  have rg := hgap.nn
  have rg2 := hgap.most
  have HF : RowKit.Hid (∀ V5 : World, ∀ c' : Wt, Blk V5 q 52 (wl c' (nl T A m)).toArray → Off (fun j => j = q) V4 V5 → c' = stepW c g (tm tick) o → V5.rangeAt N 0 (nl (tm tick) B k) ∧ V5.there q 3 66 ∧ V5.cell? ⟨q, 0, none⟩ = some (.int .i64 c.eps)) := Lib.hid (fun V5 c' hb5 ho5 hc => ⟨blk_range (bN4.off ho5 (by omega)) 0 _ (fun j v hv => by rw [Nat.zero_add]; exact hv), blk_there hb5 3 66 (by rw [wl_len hn]; omega), by rw [hb5.cell, hc]; rfl⟩)
  have Hgap := Lib.hid hgap
  have Hb := Lib.hid hb
  have HL34 := Lib.hid hL34
  clear cl hgap hL34 hL3 hL4 Hg HO hq2 hT2 hT hq bN
  by_cases h1 : c.worst < g
  · by_cases h2 : c.eps < g
    · go_upto_region 10 with fail
      generalize hV5 : World.setCell _ ⟨q, 72, none⟩ _ = V5
      have B5 : Blk V5 q 52 (wl (stepW c g (tm tick) o) (nl T A m)).toArray := by
        have := ((((hq4).put 69 (.int .i64 (g))).put 70 (.int .i64 (tm tick))).put 71 (.int .i64 (c.apart + 1))).put 72 (.int .i64 (c.pace + (o : Int)))
        simp only [List.setIfInBounds_toArray, wl_put_worst hn, wl_put_tick hn, wl_put_apart hn, wl_put_pace hn] at this
        rw [show stepW c g (tm tick) o = { c with worst := g, tick := tm tick, apart := c.apart + 1, pace := c.pace + (o : Int) } by simp [stepW, h1, h2], ← hV5]
        exact this
      have O5 : Off (fun j => j = q) V4 V5 := by rw [← hV5]; exact off_put (off_put (off_put (off_put (Off.refl (fun j => j = q) V4) (show q = q from rfl) 69 (.int .i64 (g))) (show q = q from rfl) 70 (.int .i64 (tm tick))) (show q = q from rfl) 71 (.int .i64 (c.apart + 1))) (show q = q from rfl) 72 (.int .i64 (c.pace + (o : Int)))
      obtain ⟨r5, t5, e5⟩ := HF.out V5 _ B5 O5 rfl
      have Bl := nl_len (T := tm tick) (m := k) Hb.out.len
      clear hV5 c0 c1 c2 c3 c4 f1 f2 f3 f4 cT
      go_upto_region 11 with (first
        | refine wpList_load_mid rfl 50 _ rfl N 0 rfl (nl (tm tick) B k) _ r5 Tryd.underlying50 rfl (by rw [Bl]; kernel_rfl) ?_
        | (refine wpList_plain rfl fun K hK => wp_store_V 50 _ _ rfl q 3 (nl (tm tick) B k).toArray rfl rfl (by rw [List.size_toArray, Bl]; exact t5) (by rw [List.size_toArray, Bl]; kernel_rfl) (all_oneCell_toArray (nl_one _ _ _)) ?_; intro V6 hV6; refine hK _ _ ?_))
      have B6 : Blk V6 q 52 (wl (stepW c g (tm tick) o) (nl (tm tick) B k)).toArray := by
        have := blk_setCells (nl (tm tick) B k) 3 _ _ B5
        rw [wl_puts hn Bl] at this
        rw [hV6]; exact this
      have O6 : Off (fun j => j = q) V4 V6 := by rw [hV6]; exact off_setCells (nl (tm tick) B k) 3 V5 O5
      have e6 : V6.cell? ⟨q, 0, none⟩ = some (.int .i64 c.eps) := B6.cell 0
      have OF : Off (fun j => j = q) w V6 := (Off.of_below (HL2.out.trans (HL34.out.mono (by have := HL2.out.size; omega))) (fun i h h' => absurd h (by omega))).trans O6
      have HB6 := Lib.hid B6
      have HOF := Lib.hid OF
      simp only [Act.put]
      clear hV6 hK K B5 O5 r5 t5 e5 O6 B6 OF HF
      go_wp2
      go_ret
      exact ⟨g, tm tick, B, k, Hgap.out, Hb.out, ret_b (by simp; omega), HB6.out, HOF.out⟩
    · go_upto_region 10 with fail
      generalize hV5 : World.setCell _ ⟨q, 72, none⟩ _ = V5
      have B5 : Blk V5 q 52 (wl (stepW c g (tm tick) o) (nl T A m)).toArray := by
        have := (((hq4).put 69 (.int .i64 (g))).put 70 (.int .i64 (tm tick))).put 72 (.int .i64 (c.pace + (o : Int)))
        simp only [List.setIfInBounds_toArray, wl_put_worst hn, wl_put_tick hn, wl_put_pace hn] at this
        rw [show stepW c g (tm tick) o = { c with worst := g, tick := tm tick, pace := c.pace + (o : Int) } by simp [stepW, h1, h2], ← hV5]
        exact this
      have O5 : Off (fun j => j = q) V4 V5 := by rw [← hV5]; exact off_put (off_put (off_put (Off.refl (fun j => j = q) V4) (show q = q from rfl) 69 (.int .i64 (g))) (show q = q from rfl) 70 (.int .i64 (tm tick))) (show q = q from rfl) 72 (.int .i64 (c.pace + (o : Int)))
      obtain ⟨r5, t5, e5⟩ := HF.out V5 _ B5 O5 rfl
      have Bl := nl_len (T := tm tick) (m := k) Hb.out.len
      clear hV5 c0 c1 c2 c3 c4 f1 f2 f3 f4 cT
      go_upto_region 11 with (first
        | refine wpList_load_mid rfl 50 _ rfl N 0 rfl (nl (tm tick) B k) _ r5 Tryd.underlying50 rfl (by rw [Bl]; kernel_rfl) ?_
        | (refine wpList_plain rfl fun K hK => wp_store_V 50 _ _ rfl q 3 (nl (tm tick) B k).toArray rfl rfl (by rw [List.size_toArray, Bl]; exact t5) (by rw [List.size_toArray, Bl]; kernel_rfl) (all_oneCell_toArray (nl_one _ _ _)) ?_; intro V6 hV6; refine hK _ _ ?_))
      have B6 : Blk V6 q 52 (wl (stepW c g (tm tick) o) (nl (tm tick) B k)).toArray := by
        have := blk_setCells (nl (tm tick) B k) 3 _ _ B5
        rw [wl_puts hn Bl] at this
        rw [hV6]; exact this
      have O6 : Off (fun j => j = q) V4 V6 := by rw [hV6]; exact off_setCells (nl (tm tick) B k) 3 V5 O5
      have e6 : V6.cell? ⟨q, 0, none⟩ = some (.int .i64 c.eps) := B6.cell 0
      have OF : Off (fun j => j = q) w V6 := (Off.of_below (HL2.out.trans (HL34.out.mono (by have := HL2.out.size; omega))) (fun i h h' => absurd h (by omega))).trans O6
      have HB6 := Lib.hid B6
      have HOF := Lib.hid OF
      simp only [Act.put]
      clear hV6 hK K B5 O5 r5 t5 e5 O6 B6 OF HF
      rcases h4 : ((o : Int) == 0) with _ | _
      · go_wp2
        go_ret
        exact ⟨g, tm tick, B, k, Hgap.out, Hb.out, ret_b (by simp at h4; simp; omega), HB6.out, HOF.out⟩
      · go_wp2
        go_ret
        exact ⟨g, tm tick, B, k, Hgap.out, Hb.out, ret_b (by simp at h4; simp; omega), HB6.out, HOF.out⟩
  · by_cases h2 : c.eps < g
    · go_upto_region 10 with fail
      generalize hV5 : World.setCell _ ⟨q, 72, none⟩ _ = V5
      have B5 : Blk V5 q 52 (wl (stepW c g (tm tick) o) (nl T A m)).toArray := by
        have := ((hq4).put 71 (.int .i64 (c.apart + 1))).put 72 (.int .i64 (c.pace + (o : Int)))
        simp only [List.setIfInBounds_toArray, wl_put_apart hn, wl_put_pace hn] at this
        rw [show stepW c g (tm tick) o = { c with apart := c.apart + 1, pace := c.pace + (o : Int) } by simp [stepW, h1, h2], ← hV5]
        exact this
      have O5 : Off (fun j => j = q) V4 V5 := by rw [← hV5]; exact off_put (off_put (Off.refl (fun j => j = q) V4) (show q = q from rfl) 71 (.int .i64 (c.apart + 1))) (show q = q from rfl) 72 (.int .i64 (c.pace + (o : Int)))
      obtain ⟨r5, t5, e5⟩ := HF.out V5 _ B5 O5 rfl
      have Bl := nl_len (T := tm tick) (m := k) Hb.out.len
      clear hV5 c0 c1 c2 c3 c4 f1 f2 f3 f4 cT
      go_upto_region 11 with (first
        | refine wpList_load_mid rfl 50 _ rfl N 0 rfl (nl (tm tick) B k) _ r5 Tryd.underlying50 rfl (by rw [Bl]; kernel_rfl) ?_
        | (refine wpList_plain rfl fun K hK => wp_store_V 50 _ _ rfl q 3 (nl (tm tick) B k).toArray rfl rfl (by rw [List.size_toArray, Bl]; exact t5) (by rw [List.size_toArray, Bl]; kernel_rfl) (all_oneCell_toArray (nl_one _ _ _)) ?_; intro V6 hV6; refine hK _ _ ?_))
      have B6 : Blk V6 q 52 (wl (stepW c g (tm tick) o) (nl (tm tick) B k)).toArray := by
        have := blk_setCells (nl (tm tick) B k) 3 _ _ B5
        rw [wl_puts hn Bl] at this
        rw [hV6]; exact this
      have O6 : Off (fun j => j = q) V4 V6 := by rw [hV6]; exact off_setCells (nl (tm tick) B k) 3 V5 O5
      have e6 : V6.cell? ⟨q, 0, none⟩ = some (.int .i64 c.eps) := B6.cell 0
      have OF : Off (fun j => j = q) w V6 := (Off.of_below (HL2.out.trans (HL34.out.mono (by have := HL2.out.size; omega))) (fun i h h' => absurd h (by omega))).trans O6
      have HB6 := Lib.hid B6
      have HOF := Lib.hid OF
      simp only [Act.put]
      clear hV6 hK K B5 O5 r5 t5 e5 O6 B6 OF HF
      go_wp2
      go_ret
      exact ⟨g, tm tick, B, k, Hgap.out, Hb.out, ret_b (by simp; omega), HB6.out, HOF.out⟩
    · go_upto_region 10 with fail
      generalize hV5 : World.setCell _ ⟨q, 72, none⟩ _ = V5
      have B5 : Blk V5 q 52 (wl (stepW c g (tm tick) o) (nl T A m)).toArray := by
        have := (hq4).put 72 (.int .i64 (c.pace + (o : Int)))
        simp only [List.setIfInBounds_toArray, wl_put_pace hn] at this
        rw [show stepW c g (tm tick) o = { c with pace := c.pace + (o : Int) } by simp [stepW, h1, h2], ← hV5]
        exact this
      have O5 : Off (fun j => j = q) V4 V5 := by rw [← hV5]; exact off_put (Off.refl (fun j => j = q) V4) (show q = q from rfl) 72 (.int .i64 (c.pace + (o : Int)))
      obtain ⟨r5, t5, e5⟩ := HF.out V5 _ B5 O5 rfl
      have Bl := nl_len (T := tm tick) (m := k) Hb.out.len
      clear hV5 c0 c1 c2 c3 c4 f1 f2 f3 f4 cT
      go_upto_region 11 with (first
        | refine wpList_load_mid rfl 50 _ rfl N 0 rfl (nl (tm tick) B k) _ r5 Tryd.underlying50 rfl (by rw [Bl]; kernel_rfl) ?_
        | (refine wpList_plain rfl fun K hK => wp_store_V 50 _ _ rfl q 3 (nl (tm tick) B k).toArray rfl rfl (by rw [List.size_toArray, Bl]; exact t5) (by rw [List.size_toArray, Bl]; kernel_rfl) (all_oneCell_toArray (nl_one _ _ _)) ?_; intro V6 hV6; refine hK _ _ ?_))
      have B6 : Blk V6 q 52 (wl (stepW c g (tm tick) o) (nl (tm tick) B k)).toArray := by
        have := blk_setCells (nl (tm tick) B k) 3 _ _ B5
        rw [wl_puts hn Bl] at this
        rw [hV6]; exact this
      have O6 : Off (fun j => j = q) V4 V6 := by rw [hV6]; exact off_setCells (nl (tm tick) B k) 3 V5 O5
      have e6 : V6.cell? ⟨q, 0, none⟩ = some (.int .i64 c.eps) := B6.cell 0
      have OF : Off (fun j => j = q) w V6 := (Off.of_below (HL2.out.trans (HL34.out.mono (by have := HL2.out.size; omega))) (fun i h h' => absurd h (by omega))).trans O6
      have HB6 := Lib.hid B6
      have HOF := Lib.hid OF
      simp only [Act.put]
      clear hV6 hK K B5 O5 r5 t5 e5 O6 B6 OF HF
      rcases h4 : ((o : Int) == 0) with _ | _
      · go_wp2
        go_ret
        exact ⟨g, tm tick, B, k, Hgap.out, Hb.out, ret_b (by simp at h4; simp; omega), HB6.out, HOF.out⟩
      · go_wp2
        go_ret
        exact ⟨g, tm tick, B, k, Hgap.out, Hb.out, ret_b (by simp at h4; simp; omega), HB6.out, HOF.out⟩
theorem worst_nil (w : World) : Calls Tryd.prog 11 #[.pointer none] w fun r w' => r = .returned (.tuple #[.int .i64 0, .int .i64 0]) ∧ w' = w := by
  go_enter Tryd.func11, Tryd.ntmps11
  go_wp2
  go_ret2
  exact ⟨rfl, rfl⟩
theorem count_nil (w : World) : Calls Tryd.prog 12 #[.pointer none] w fun r w' => r = .returned (.tuple #[.int .i64 0, .int .i64 0]) ∧ w' = w := by
  go_enter Tryd.func12, Tryd.ntmps12
  go_wp2
  go_ret2
  exact ⟨rfl, rfl⟩
theorem fine_nil (w : World) : Calls Tryd.prog 13 #[.pointer none] w fun r w' => r = .returned (.bool false) ∧ w' = w := by
  go_enter Tryd.func13, Tryd.ntmps13
  go_wp2
  go_ret
  exact ⟨rfl, rfl⟩
theorem note_nil (t s : Int) (sl : Value) (w : World) : Calls Tryd.prog 9 #[.pointer none, .int .i64 t, sl, .int .u64 s] w fun r w' => r = .returned (.bool false) ∧ w' = w := by
  go_enter Tryd.func9, Tryd.ntmps9
  go_wp2
  go_ret
  exact ⟨rfl, rfl⟩
end Go.Proofs.YtpbabpbinojodaaDoor.Drift
