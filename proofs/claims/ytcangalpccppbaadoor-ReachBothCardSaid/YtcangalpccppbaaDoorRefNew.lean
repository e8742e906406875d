/- The document's New, walked. -/
import Derived.Test.YtcangalpccppbaaDoorRefLists
namespace Go.Proofs.YtcangalpccppbaaDoor.Graph
open Go.RowKit
open Go.Proofs.YtcangalpccppbaaDoor.RF Go.Proofs.YtcangalpccppbaaDoor.Heap Go.Proofs.YtcangalpccppbaaDoor.Nodes Go.Proofs.YtcangalpccppbaaDoor.Seen
set_option linter.unusedVariables false
set_option linter.unusedSimpArgs false

theorem results_cell_tmp {P : Program} {fn : Func} {a s : Tmp} {t : TypeId} {tmps : Array Value} {w : World} {b : Nat} {cs : List Value} {d : TypeDesc} (h : fn.results = #[.cell a t, .tmp s]) (ha : tmps.getD a undef = .pointer (some ⟨b, 0, none⟩))
    (hu : P.underlying t = some d) (hd : d.isRow = true) (hi : (P.info? t).map (·.size) = some cs.length) (hc : w.rangeAt b 0 cs) :
    (results fn tmps).run P w = .ok (.tuple #[.agg cs.toArray, tmps.getD s undef]) w := by
  have hl := run_loadVar_mid (P := P) w b 0 t cs d hc hu hd hi
  have hp : (asAddr (.pointer (some ⟨b, 0, none⟩) : Value)).run P w = .ok ⟨b, 0, none⟩ w := by simp [asAddr]
  rw [Array.getD_eq_getD_getElem?] at ha
  simp [results, h, ha, Sem.run_bind, hl, hp]
/-- The zero graph. -/
def noGraph : Value := .agg #[.int .i64 0, .slice none 0 0]
/-- What New comes to. -/
def NewEnds (w : World) (n : Int) (ls : List (Int × Int)) (e : Ending) (w' : World) : Prop :=
  Below w.heap.size w w' ∧ ((newR n ls = 0 ∧ ∃ v', e = .returned (.tuple #[.agg #[.int .i64 n, v'], .int .i64 0]) ∧ PairsAt w' v' ls) ∨ (newR n ls ≠ 0 ∧ e = .returned (.tuple #[noGraph, .int .i64 (newR n ls)])))
theorem new_low (n : Int) (v : Value) (ls : List (Int × Int)) (w : World) (h : n < 1 ∨ 64 < n) :
    Calls Tryd.prog 16 #[.int .i64 n, v] w fun e w' => NewEnds w n ls e w' := by
  have hr : newR n ls = 1 := by simp only [newR]; rw [if_pos (by omega)]
  have fin : ∀ w', Below w.heap.size w w' → NewEnds w n ls (.returned (.tuple #[noGraph, .int .i64 1])) w' := fun w' hb => ⟨hb, .inr ⟨by rw [hr]; decide, by rw [hr]⟩⟩
  have Fin := Lib.hid fin
  clear fin hr
  rcases h with h | h
  · go_enter Tryd.func16, Tryd.ntmps16
    go_wp2
    all_goals
      refine bodyPost_ret (results_cell_tmp (b := w.heap.size) Tryd.results16 rfl (d := _) rfl (by kernel_rfl) (by kernel_rfl) (range2 (c0 := .int .i64 0) (c1 := .slice none 0 0) ?_ ?_)) rfl ?_
      · go_simp
      · go_simp
      · exact Fin.out _ ((Below.refl _ w).alloc (Nat.le_refl _) _)
  · have h2 : ¬ n < 1 := by omega
    go_enter Tryd.func16, Tryd.ntmps16
    go_wp2
    all_goals
      refine bodyPost_ret (results_cell_tmp (b := w.heap.size) Tryd.results16 rfl (d := _) rfl (by kernel_rfl) (by kernel_rfl) (range2 (c0 := .int .i64 0) (c1 := .slice none 0 0) ?_ ?_)) rfl ?_
      · go_simp
      · go_simp
      · exact Fin.out _ ((Below.refl _ w).alloc (Nat.le_refl _) _)
set_option maxRecDepth 100000 in
set_option maxHeartbeats 8000000 in
theorem new_mid (n : Nat) (v : Value) (ls : List (Int × Int)) (w : World) (hn : 1 ≤ n ∧ n ≤ 64) (hp : PairsAt w v ls) (hlen : ls.length ≤ 65536) :
    Calls Tryd.prog 16 #[.int .i64 n, v] w fun e w' => NewEnds w n ls e w' := by
  obtain ⟨i0, hi0, hz⟩ := Option.map_eq_some_iff.1 infoP
  simp only [Prod.mk.injEq] at hz
  obtain ⟨hz0, hz1, hz2⟩ := hz
  obtain ⟨la, cap, rfl, hcell⟩ := hp.1
  have hwf := hp.2
  have hr : newR n ls = newE n [] ls := by simp only [newR, Int.toNat_natCast]; rw [if_neg (by omega)]
  have fin0 : ∀ v' w', newE n [] ls = 0 → Below w.heap.size w w' → PairsAt w' v' ls → NewEnds w n ls (.returned (.tuple #[.agg #[.int .i64 (n : Nat), v'], .int .i64 0])) w' := fun v' w' h0 hb hp => ⟨hb, .inl ⟨by rw [hr]; exact h0, _, rfl, hp⟩⟩
  have fin1 : ∀ (c : Int) w', newE n [] ls = c → c ≠ 0 → Below w.heap.size w w' → NewEnds w n ls (.returned (.tuple #[noGraph, .int .i64 c])) w' := fun c w' h0 hc hb => ⟨hb, .inr ⟨by rw [hr, h0]; exact hc, by rw [hr, h0]⟩⟩
  have Fin0 := Lib.hid fin0
  have Fin1 := Lib.hid fin1
  have Hi0 := Lib.hid hi0
  have Hz0 := Lib.hid hz0
  have Hz1 := Lib.hid hz1
  have Hz2 := Lib.hid hz2
  clear fin0 fin1 hi0 hz0 hz1 hz2 hr hp
  have b1 : (1 : Int) ≤ (n : Int) := by omega
  have b2 : (n : Int) ≤ 64 := by omega
  have b3 : ¬ (n : Int) < 1 := by omega
  have b4 : ¬ (64 : Int) < (n : Int) := by omega
  go_enter Tryd.func16, Tryd.ntmps16
  obtain ⟨V, hV⟩ : ∃ V, (w.alloc (.cells #[.int .i64 0, .slice none 0 0] 29)).alloc (.cells #[.int .i64 (n : Nat), .slice none 0 0] 29) = V := ⟨_, rfl⟩
  have bA : Blk V w.heap.size 29 #[.int .i64 0, .slice none 0 0] := by rw [← hV]; exact (Blk.new w _ _).alloc _
  have bB : Blk V (w.heap.size + 1) 29 #[.int .i64 (n : Nat), .slice none 0 0] := by
    rw [← hV]
    have := Blk.new (w.alloc (.cells #[.int .i64 0, .slice none 0 0] 29)) 29 #[.int .i64 (n : Nat), .slice none 0 0]
    rwa [show (w.alloc (.cells #[.int .i64 0, .slice none 0 0] 29)).heap.size = w.heap.size + 1 by simp] at this
  have lV : Below w.heap.size w V := by rw [← hV]; exact ((Below.refl _ w).alloc (Nat.le_refl _) _).alloc (by simp) _
  have hE0 := Lib.hid (show newE n [] ls = newE n (([] : List (Int × Int)).map lk) (ls.drop 0) from rfl)
  have HV := Lib.hid hV
  clear hV
  go_wp2_with fail
  rw [HV.out]
  clear HV
  go_loopw [7] (fun v7 wr => ∃ (k : Nat) (vl : Value), v7 = .int .i64 k ∧ k ≤ ls.length ∧ RowKit.Hid (newE n [] ls = newE n ((ls.take k).map lk) (ls.drop k)) ∧ Blk wr w.heap.size 29 #[.int .i64 0, .slice none 0 0] ∧ Blk wr (w.heap.size + 1) 29 #[.int .i64 (n : Nat), vl] ∧ RowKit.Hid (wr.ownsRow w.heap.size 41 2 vl k (pcI (ls.take k))) ∧ Below w.heap.size w wr) (fun v7 _ => match v7 with | .int _ k => ls.length - k.toNat | _ => 0)
  case atStart => exact ⟨0, _, rfl, Nat.zero_le _, hE0, bA, bB, Lib.hid (World.ownsRow_nil _ _ _ _), lV⟩
  case round =>
    clear bA bB lV hE0
    obtain ⟨k, vl, rfl, hk, hE, bA, bB, own, lR⟩ := hrel
    obtain ⟨sa, sc, hvl⟩ : ∃ a c, vl = .slice a k c := by
      rcases own.out.2 with ⟨h1, h2⟩ | ⟨g, c, cur, h1, _⟩
      · exact ⟨none, 0, by rw [h1, h2]⟩
      · exact ⟨_, c, h1⟩
    subst hvl
    have cB0 := bB.cell 0
    have cB1 := bB.cell 1
    have cA0 := bA.cell 0
    have cA1 := bA.cell 1
    have fA0 := bA.frozen 0
    have fA1 := bA.frozen 1
    simp at cB0 cB1 cA0 cA1
    by_cases hlt : k < ls.length
    · obtain ⟨p, hpk⟩ : ∃ p, ls[k]? = some p := ⟨_, List.getElem?_eq_getElem hlt⟩
      obtain ⟨b, rfl, hb, c0, c1⟩ := hcell k p hpk
      have e0 := (lR.cell (p := ⟨b, k * 2, none⟩) hb).trans c0
      have e1 := (lR.cell (p := ⟨b, k * 2 + 1, none⟩) hb).trans c1
      have l3 : (0 : Int) ≤ (k : Int) := by omega
      have l4 : (k : Int) < (ls.length : Int) := by omega
      have l5 : (k : Int) ≤ 65535 := by omega
      have htk : (ls.take (k + 1)) = ls.take k ++ [p] := by rw [List.take_add_one, hpk]; rfl
      have hbad := bad_ref n (ls.take k) p.1 p.2
      have htl : (ls.take k).length = k := by rw [List.length_take]; omega
      have hpr := Lib.hid (own_pairs own.out htl (fun q hq => hwf q (List.mem_of_mem_take hq)))
      have hgd : bad n ((ls.take k).map lk) p = 0 → newE n ((ls.take k).map lk) (ls.drop k) = newE n ((ls.take (k + 1)).map lk) (ls.drop (k + 1)) := fun h => by
        rw [newE_at hpk h, htk, List.map_append]; rfl
      have hbd : bad n ((ls.take k).map lk) p ≠ 0 → newE n ((ls.take k).map lk) (ls.drop k) = bad n ((ls.take k).map lk) p := fun h => newE_bad hpk h
      obtain ⟨x, y⟩ := p
      simp only at e0 e1 hbad
      have Hgood := Lib.hid hgd
      have Hbad := Lib.hid hbd
      have Htk := Lib.hid htk
      have HB0 := Lib.hid hbad
      clear c0 c1 hcell hgd hbd htk hbad hpk
      have z1 := bB.lt
      go_wp2_with fail
      go_quiet (fail)
      go_wp2_with fail
      refine (refnode_any n _ x _ _ _ _ rfl).mono ?_
      rintro e w2 ⟨rfl, o2d⟩
      have o2 : Below wr.heap.size wr w2 := ⟨o2d.os, o2d.tape, o2d.output, o2d.size, o2d.block⟩
      clear o2d cB0 cB1 cA0 cA1 fA0 fA1 e0 e1
      have bA1 := bA
      have bB1 := bB
      have l1w := lR
      have own1 := own
      have pr1 := hpr
      clear bA bB lR own hpr
      have bA2 := bA1.below o2 (by omega)
      have bB2 := bB1.below o2 (by omega)
      have l2w := l1w.trans (o2.mono (by omega))
      have own2 := Lib.hid (own_below own1.out o2)
      have pr2 := Lib.hid (pr1.out.off o2)
      have z2 := bB2.lt
      have cB0 := bB2.cell 0
      have cB1 := bB2.cell 1
      have cA0 := bA2.cell 0
      have cA1 := bA2.cell 1
      have fA0 := bA2.frozen 0
      have fA1 := bA2.frozen 1
      simp at cB0 cB1 cA0 cA1
      clear bA1 bB1 l1w own1 pr1 z1
      rcases hx : isN n x with _ | _
      · have HB := Lib.hid (show bad n ((ls.take k).map lk) (x, y) = 8 from by rw [HB0.out, if_pos (.inl hx)])
        clear HB0
        have hE2 := Lib.hid (show newE n [] ls = 8 from by rw [hE.out, Hbad.out (by rw [HB.out]; decide), HB.out])
        clear Hgood Hbad HB
        go_wp2_with fail
        refine bodyPost_ret (results_cell_tmp (b := w.heap.size) Tryd.results16 rfl (d := _) rfl (by kernel_rfl) (by kernel_rfl) (range2 (c0 := .int .i64 0) (c1 := .slice none 0 0) ?_ ?_)) rfl ?_
        · go_simp
        · go_simp
        · refine Fin1.out 8 _ hE2.out (by decide) ?_
          first
            | exact l2w
            | exact (l2w.setCell (p := ⟨w.heap.size, 0, none⟩) (Nat.le_refl _) _).setCell (p := ⟨w.heap.size, 1, none⟩) (Nat.le_refl _) _
      · go_wp2_with fail
        refine (refnode_any n _ y _ _ _ _ rfl).mono ?_
        rintro e w3 ⟨rfl, o3⟩
        clear cB0 cB1 cA0 cA1 fA0 fA1
        have bA3 := bA2.below o3 (by omega)
        have bB3 := bB2.below o3 (by omega)
        have l3w := l2w.trans (o3.mono (by omega))
        have own3 := Lib.hid (own_below own2.out o3)
        have pr3 := Lib.hid (pr2.out.off o3)
        have z3 := bB3.lt
        have cB0 := bB3.cell 0
        have cB1 := bB3.cell 1
        have cA0 := bA3.cell 0
        have cA1 := bA3.cell 1
        have fA0 := bA3.frozen 0
        have fA1 := bA3.frozen 1
        simp at cB0 cB1 cA0 cA1
        clear bA2 bB2 l2w own2 pr2 z2
        rcases hy : isN n y with _ | _
        · have HB := Lib.hid (show bad n ((ls.take k).map lk) (x, y) = 8 from by rw [HB0.out, if_pos (.inr hy)])
          clear HB0
          have hE2 := Lib.hid (show newE n [] ls = 8 from by rw [hE.out, Hbad.out (by rw [HB.out]; decide), HB.out])
          clear Hgood Hbad HB
          go_wp2_with fail
          refine bodyPost_ret (results_cell_tmp (b := w.heap.size) Tryd.results16 rfl (d := _) rfl (by kernel_rfl) (by kernel_rfl) (range2 (c0 := .int .i64 0) (c1 := .slice none 0 0) ?_ ?_)) rfl ?_
          · go_simp
          · go_simp
          · refine Fin1.out 8 _ hE2.out (by decide) ?_
            first
              | exact l3w
              | exact (l3w.setCell (p := ⟨w.heap.size, 0, none⟩) (Nat.le_refl _) _).setCell (p := ⟨w.heap.size, 1, none⟩) (Nat.le_refl _) _
        · have hnn : ¬ (isN n x = false ∨ isN n y = false) := by rw [hx, hy]; simp
          rcases hxy : x == y with _ | _
          · have hne : x ≠ y := by simpa using hxy
            have HB1 := Lib.hid (HB0.out.trans (by rw [if_neg hnn, if_neg hne]))
            clear HB0 hnn hne
            go_wp2_with fail
            refine (reflinked_any n _ (ls.take k) x y _ (by have := pr3.out; exact this) (by rw [htl]; omega)).mono ?_
            rintro e w4 ⟨rfl, o4⟩
            clear cB0 cB1 cA0 cA1 fA0 fA1
            have bA4 := bA3.below o4 (by omega)
            have bB4 := bB3.below o4 (by omega)
            have l4w := l3w.trans (o4.mono (by omega))
            have own4 := Lib.hid (own_below own3.out o4)
            have pr4 := Lib.hid (pr3.out.off o4)
            have z4 := bB4.lt
            have cB0 := bB4.cell 0
            have cB1 := bB4.cell 1
            have cA0 := bA4.cell 0
            have cA1 := bA4.cell 1
            have fA0 := bA4.frozen 0
            have fA1 := bA4.frozen 1
            simp at cB0 cB1 cA0 cA1
            clear bA3 bB3 l3w own3 pr3 z3
            rcases hl : refL (ls.take k) x y with _ | _
            · have hE2 := Lib.hid (show newE n [] ls = newE n ((ls.take (k + 1)).map lk) (ls.drop (k + 1)) from by rw [hE.out, Hgood.out (by rw [HB1.out, hl]; rfl)])
              clear Hgood Hbad HB1 hE hx hy hxy hl
              go_wp2_with (at_builtin; refine wpList_append_own _ rfl _ _ 22 rfl w.heap.size 41 i0 _ 2 16 Tryd.underlying22 Hi0.out Hz0.out Hz1.out Hz2.out rfl (by decide) _ _ _ rfl (own4.out.alloc _) ⟨w4.heap.size, 0, none⟩ 1 1 [.int .i64 x, .int .i64 y] rfl rfl (World.news_of_block (cs := #[.int .i64 x, .int .i64 y]) (t := 41) (fr := (0, 0)) (heap_alloc_new w4 _)) (by simp [Value.oneCell']) (by unfold maxLen; omega) (by omega) (by simp; omega) ?_; intro v5 w5 own5 g5 _; obtain ⟨gg, cap2, rfl⟩ := own_some own5 (by omega); have B5 := (bB4.alloc _).grown g5 (own_free own4.out bB4 (by decide)); have A5 := (bA4.alloc _).grown g5 (own_free own4.out bA4 (by decide)); have k5 := B5.cell 1; have f5 := B5.frozen 1; simp at k5)
              have B6 := B5.put 1 (.slice (some ⟨gg, 0, none⟩) (k + 1) cap2)
              simp at B6
              go_round
              case rel => exact ⟨k + 1, _, rfl, hlt, hE2, A5.far (by show w.heap.size ≠ w.heap.size + 1; omega) _, B6, Lib.hid (by rw [Htk.out, pcI_snoc]; exact own_off own5 (Off.setCell (p := ⟨w.heap.size + 1, 1, none⟩) (Off.refl (fun j => j = w.heap.size + 1) w5) (.inl rfl) _) (fun g hg c => own_free own5 B5 (by decide) (by rw [c] at hg; exact hg.symm))), (below_own (l4w.alloc l4w.size _) g5 (own4.out.alloc _) (Nat.le_refl _) (Nat.le_refl _)).setCell (p := ⟨w.heap.size + 1, 1, none⟩) (by show w.heap.size ≤ w.heap.size + 1; omega) _⟩
              case measure => simp; omega
            · have HB := Lib.hid (show bad n ((ls.take k).map lk) (x, y) = 12 from by rw [HB1.out, hl]; rfl)
              clear HB1
              have hE2 := Lib.hid (show newE n [] ls = 12 from by rw [hE.out, Hbad.out (by rw [HB.out]; decide), HB.out])
              clear Hgood Hbad HB
              go_wp2_with fail
              refine bodyPost_ret (results_cell_tmp (b := w.heap.size) Tryd.results16 rfl (d := _) rfl (by kernel_rfl) (by kernel_rfl) (range2 (c0 := .int .i64 0) (c1 := .slice none 0 0) ?_ ?_)) rfl ?_
              · go_simp
              · go_simp
              · refine Fin1.out 12 _ hE2.out (by decide) ?_
                first
                  | exact l4w
                  | exact (l4w.setCell (p := ⟨w.heap.size, 0, none⟩) (Nat.le_refl _) _).setCell (p := ⟨w.heap.size, 1, none⟩) (Nat.le_refl _) _
          · have he : x = y := by simpa using hxy
            have HB := Lib.hid (show bad n ((ls.take k).map lk) (x, y) = 5 from by rw [HB0.out, if_neg hnn, if_pos he])
            clear HB0 hnn he
            have hE2 := Lib.hid (show newE n [] ls = 5 from by rw [hE.out, Hbad.out (by rw [HB.out]; decide), HB.out])
            clear Hgood Hbad HB
            go_wp2_with fail
            refine bodyPost_ret (results_cell_tmp (b := w.heap.size) Tryd.results16 rfl (d := _) rfl (by kernel_rfl) (by kernel_rfl) (range2 (c0 := .int .i64 0) (c1 := .slice none 0 0) ?_ ?_)) rfl ?_
            · go_simp
            · go_simp
            · refine Fin1.out 5 _ hE2.out (by decide) ?_
              first
                | exact l3w
                | exact (l3w.setCell (p := ⟨w.heap.size, 0, none⟩) (Nat.le_refl _) _).setCell (p := ⟨w.heap.size, 1, none⟩) (Nat.le_refl _) _
    · obtain rfl : k = ls.length := by omega
      rw [List.drop_length, List.take_length] at hE
      have hE2 := Lib.hid (show newE n [] ls = 0 from hE.out)
      rw [List.take_length] at own
      have hpr := Lib.hid (own_pairs own.out rfl hwf)
      clear hE
      go_wp2_with fail
      refine bodyPost_ret (results_cell_tmp (b := w.heap.size) Tryd.results16 rfl (d := _) rfl (by kernel_rfl) (by kernel_rfl) (range2 (c0 := .int .i64 (n : Nat)) (c1 := .slice sa ls.length sc) ?_ ?_)) rfl ?_
      · go_simp
      · go_simp
      · refine Fin0.out _ _ hE2.out ((lR.setCell (p := ⟨w.heap.size, 0, none⟩) (Nat.le_refl _) _).setCell (p := ⟨w.heap.size, 1, none⟩) (Nat.le_refl _) _) ?_
        have hsz := bA.lt
        exact own_pairs (own_off own.out (Off.setCell (p := ⟨w.heap.size, 1, none⟩) (Off.setCell (p := ⟨w.heap.size, 0, none⟩) (Off.refl (fun j => j = w.heap.size) wr) (.inl rfl) _) (.inl rfl) _) (fun g hg c => own_free own.out bA (by decide) (by rw [c] at hg; exact hg.symm))) rfl hwf
/-- The document's New of any nodes and any links. -/
theorem refnew_any (n : Int) (v : Value) (ls : List (Int × Int)) (w : World) (hp : PairsAt w v ls) (hlen : ls.length ≤ 65536) :
    Calls Tryd.prog 16 #[.int .i64 n, v] w fun e w' => NewEnds w n ls e w' := by
  by_cases h : n < 1 ∨ 64 < n
  · exact new_low n v ls w h
  · obtain ⟨k, rfl⟩ : ∃ k : Nat, n = k := ⟨n.toNat, by omega⟩
    exact new_mid k v ls w ⟨by omega, by omega⟩ hp hlen
end Go.Proofs.YtcangalpccppbaaDoor.Graph
