/- graph.Graph's N and Links, walked. -/
import Derived.Test.YtcangalpccppbaaDoorLinks
import Derived.OwnWalkIn
import Derived.TacticsInMore
import Derived.LoopIn
import Derived.Deep.RegionLaw
import Derived.Test.YtcangalpccppbaaDoorQuiet
namespace Go.Proofs.YtcangalpccppbaaDoor.Graph
open Go.RowKit
open Go.Proofs.YtcangalpccppbaaDoor.RF Go.Proofs.YtcangalpccppbaaDoor.Heap Go.Proofs.YtcangalpccppbaaDoor.Nodes
set_option linter.unusedVariables false
attribute [local go_sem] Oper.semAt_some

theorem infoP : (Tryd.prog.info? 41).map (fun i => (i.zero, i.size, i.bytes)) = some (some (.agg #[.int .i64 0, .int .i64 0]), 2, 16) := by kernel_rfl
theorem n_any {w : World} {G R : Nat} {near : List Nat} (hg : GraphAt w G R near) :
    Calls Tryd.prog 27 #[.pointer (some ⟨G, 0, none⟩)] w fun e w' => e = .returned (.int .i64 near.length) ∧ w' = w := by
  have cG := hg.box.cell 0
  simp at cG
  go_enter Tryd.func27, Tryd.ntmps27
  go_wp2
  go_ret
  exact ⟨rfl, rfl⟩
theorem n_nil (w : World) : Calls Tryd.prog 27 #[.pointer none] w fun e w' => e = .returned (.int .i64 0) ∧ w' = w := by
  go_enter Tryd.func27, Tryd.ntmps27
  go_wp2
  go_ret
  exact ⟨rfl, rfl⟩
theorem own_some {W : World} {base : Nat} {e : TypeId} {s n : Nat} {v : Value} {xs : List Value} (h : W.ownsRow base e s v n xs) (hn : 0 < n) : ∃ g cap, v = .slice (some ⟨g, 0, none⟩) n cap := by
  rcases h.2 with ⟨rfl, h0⟩ | ⟨g, cap, cur, rfl, _⟩
  · omega
  · exact ⟨g, cap, rfl⟩
theorem own_free {W : World} {base : Nat} {e t : TypeId} {s n p : Nat} {v : Value} {xs : List Value} {cs : Array Value} (h : W.ownsRow base e s v n xs) (hp : Blk W p t cs) (hn : t ≠ e) : some p ≠ v.ownBlock := by
  rcases h.2 with ⟨rfl, _⟩ | ⟨g, cap, cur, rfl, hb, hg, _⟩
  · simp [Value.ownBlock]
  · simp only [Value.ownBlock, ne_eq, Option.some.injEq]
    exact fun c => hp.ne (show Blk W g e cur from hg) hn c
theorem own_cells {W W' : World} {base : Nat} {e : TypeId} {s n : Nat} {v : Value} {xs : List Value} (h : W.ownsRow base e s v n xs) (hC : ∀ (k : Nat) (o : Obj), W.heap[k]? = some o → o.isCells = true → W'.heap[k]? = some o) : W'.ownsRow base e s v n xs := by
  rcases h.2 with ⟨rfl, h0⟩ | ⟨g, cap, cur, rfl, hb, hg, rest⟩
  · exact ⟨h.1, .inl ⟨rfl, h0⟩⟩
  · exact ⟨h.1, .inr ⟨g, cap, cur, rfl, hb, hC g _ hg rfl, rest⟩⟩

/-- A slot's number. -/
def slotNat (a : Act) (i : Nat) : Nat := match (a.tmps.getD i undef : Value) with | .int _ k => k.toNat | _ => 0
/-- Ahead of a round of the outer loop. -/
structure LInv (w : World) (near : List Nat) (k : Nat) (ds : List Deferred) (W : World) : Prop where
  marks : Marked w.heap.size ds W
  list : ∃ v, Blk W w.heap.size 22 #[v] ∧ W.ownsRow w.heap.size 41 2 v (linksTo near k).length (pc (linksTo near k))
  low : Below w.heap.size w W
/-- Ahead of a round of the inner loop. -/
structure RInv (w W : World) (B A k : Nat) (near pre : List Nat) (V : World) : Prop where
  list : ∃ v, Blk V w.heap.size 22 #[v] ∧ V.ownsRow w.heap.size 41 2 v (linksTo near k ++ up k pre).length (pc (linksTo near k ++ up k pre))
  var : Blk V A 3 #[.int .i64 k]
  box : ∃ x, Blk V B 38 x
  fr : Fr w.heap.size [22, 41] W V
theorem RInv.hush {w W : World} {B A k : Nat} {near pre : List Nat} {V V' : World} (h : RInv w W B A k near pre V) {b : Nat} (c : Hush (fun k => k = B) b V V') (hb : W.heap.size ≤ b) (hB : W.heap.size ≤ B) : RInv w W B A k near pre V' := by
  obtain ⟨x, hx⟩ := h.box
  obtain ⟨v, h1, h2⟩ := h.list
  refine ⟨⟨v, c.blk h1 (fun e => ?_), c.own h2 (fun k hk => ?_)⟩, c.blk h.var (fun e => ?_), c.kind B _ _ hx, c.fr h.fr hb (fun k hk => by subst hk; exact hB)⟩
  · subst e; exact absurd (h1.uniq hx).1 (by decide)
  · subst hk; exact ⟨_, _, hx, by decide⟩
  · subst e; exact absurd (h.var.uniq hx).1 (by decide)

set_option maxRecDepth 100000 in
set_option maxHeartbeats 8000000 in
theorem links_any {w : World} {G R : Nat} {near : List Nat} (hg : GraphAt w G R near) (hT : Tab w) :
    Calls Tryd.prog 19 #[.pointer (some ⟨G, 0, none⟩)] w fun e w' => (∃ v, e = .returned v ∧ w'.ownsRow w.heap.size 41 2 v (linksOf near).length (pc (linksOf near))) ∧ Below w.heap.size w w' := by
  obtain ⟨i0, hi0, hz⟩ := Option.map_eq_some_iff.1 infoP
  simp only [Prod.mk.injEq] at hz
  obtain ⟨hz0, hz1, hz2⟩ := hz
  refine callsIn_wide.1 (callsIn_of_wp_marks (n := 0) Tryd.func19 rfl trivial ?_ rfl)
  simp only [Tryd.ntmps19, List.size_toArray, List.length_cons, List.length_nil, Nat.reduceAdd, Nat.reduceSub, Array.replicate_succ, Array.replicate_zero, List.push_toArray, List.append_toArray, List.nil_append, List.cons_append]
  refine wpIn_wide.2 ?_
  obtain ⟨w1, hw1⟩ : ∃ w1, w.alloc (.cells #[.slice none 0 0] 22) = w1 := ⟨_, rfl⟩
  have bL : Blk w1 w.heap.size 22 #[.slice none 0 0] := by rw [← hw1]; exact Blk.new w _ _
  have hB1 : Below w.heap.size w w1 := by rw [← hw1]; exact (Below.refl _ w).alloc (Nat.le_refl _) _
  have hg1 := hg.below hB1 (Nat.le_refl _)
  have hN := Lib.hid (n_any hg1)
  have hfew := hg.few
  go_wp2_with (first | (rw [hw1]) | (go_at_call 27; refine hN.out.mono ?_; rintro e w' ⟨rfl, h⟩; rw [h]; clear h w'))
  refine wp_loop (fun a W => ∃ (k : Nat) (ds : List Deferred) (u4 u5 u9 u10 u11 u12 u13 u14 u15 u16 u17 u18 u19 u20 u21 u22 u23 u24 u25 u26 u27 u28 u29 u30 : Value), a = { tmps := #[.pointer (some ⟨G, 0, none⟩), undef, .slice none 0 0, .pointer (some ⟨w.heap.size, 0, none⟩), u4, u5, .pointer (some ⟨G, 0, none⟩), .int .i64 near.length, .int .i64 (k : Nat), u9, u10, u11, u12, u13, u14, u15, u16, u17, u18, u19, u20, u21, u22, u23, u24, u25, u26, u27, u28, u29, u30], defers := ds } ∧ k ≤ near.length ∧ LInv w near k ds W) (fun a _ => near.length - slotNat a 8) ?_ ?_
  · exact ⟨0, [], _, _, _, _, _, _, _, _, _, _, _, _, _, _, _, _, _, _, _, _, _, _, _, _, rfl, Nat.zero_le _, Marked.nil _ _, ⟨_, bL, World.ownsRow_nil _ _ _ _⟩, hB1⟩
  clear hN bL hB1 hg1 hw1 w1
  rintro a wr ⟨k, ds, u4, u5, u9, u10, u11, u12, u13, u14, u15, u16, u17, u18, u19, u20, u21, u22, u23, u24, u25, u26, u27, u28, u29, u30, rfl, hk, hI⟩
  obtain ⟨v, bL, hown⟩ := hI.list
  have cL := bL.cell 0
  simp at cL
  by_cases hlt : k < near.length
  · go_wp2_with fail
    obtain ⟨W, hW⟩ : ∃ W, wr.alloc (.cells #[.int .i64 (k : Nat)] 3) = W := ⟨_, rfl⟩
    have bA : Blk W wr.heap.size 3 #[.int .i64 (k : Nat)] := by rw [← hW]; exact Blk.new wr _ _
    have bLW : Blk W w.heap.size 22 #[v] := by rw [← hW]; exact bL.alloc _
    have ownW : W.ownsRow w.heap.size 41 2 v (linksTo near k).length (pc (linksTo near k)) := by rw [← hW]; exact hown.alloc _
    have low : Below w.heap.size w W := by rw [← hW]; exact hI.low.alloc hI.low.size _
    have mks : Marked w.heap.size ds W := by rw [← hW]; exact Fr.marks (b0 := 0) (ts := []) ((Fr.refl 0 [] wr).alloc _) hI.marks
    have sz : wr.heap.size < W.heap.size := by rw [← hW]; simp
    have lz := bL.lt
    have hgW := hg.below low (Nat.le_refl _)
    have hTW := hT.below low hT.size
    have cG := hgW.box.cell 0
    have cR := hgW.at hlt
    have cA := bA.cell 0
    simp at cG cA
    obtain ⟨s, hs⟩ : ∃ s, near.getD k 0 = s := ⟨_, rfl⟩
    have hs64 := hg.lt k
    rw [hs] at cR hs64
    have b3 : (0 : Int) ≤ (k : Int) := by omega
    have b4 : (k : Int) < (near.length : Int) := by omega
    rw [hW]
    clear hW cL bL hown hI
    refine QT.region_tail 7 (by kernel_rfl) (by kernel_rfl) ?_
    simp only [List.take_succ_cons, List.take_zero, List.drop_succ_cons, List.drop_zero]
    repeat (quiet_step (fail))
    refine wpQuiet_nil ?_
    rintro _ ⟨nq, rfl⟩
    go_wp2_with fail
    refine (each_any s _).mono ?_
    rintro e w' ⟨rfl, h⟩
    rw [h]
    clear h w'
    obtain ⟨Wr, hWr⟩ : ∃ Wr, (W.drewN nq).alloc (.cells #[.int .u64 (s : Nat)] 38) = Wr := ⟨_, rfl⟩
    have bB : Blk Wr W.heap.size 38 #[.int .u64 (s : Nat)] := by rw [← hWr]; exact Blk.new (W.drewN nq) _ _
    have fr0 : Fr w.heap.size [22, 41] W Wr := by rw [← hWr]; exact Fr.alloc (Fr.drewN (Fr.refl _ _ _) nq) _
    have ofW : Off (fun _ => False) W Wr := by rw [← hWr]; exact Off.alloc (Off.drewN (Off.refl _ _) nq) _
    have bLr := bLW.off ofW id
    have bAr := bA.off ofW id
    have ownr : Wr.ownsRow w.heap.size 41 2 v (linksTo near k).length (pc (linksTo near k)) := own_off ownW ofW (fun _ _ => id)
    have hTr := hTW.off ofW id hTW.size
    have szr : W.heap.size < Wr.heap.size := bB.lt
    have mkr := Fr.marks fr0 mks
    have hw0 := hT.size
    rw [hWr]
    clear hWr cG cR cA
    go_wp2_with fail
    refine range_each (B := W.heap.size) (s := s) rfl hs64 bB hTr (by omega) rfl (fun pre V => RInv w W W.heap.size wr.heap.size k near pre V) (fun _ _ _ => False) (fun xs A C h c => h.hush c (by omega) (Nat.le_refl _)) (fun _ _ _ _ h _ => h)
      ⟨⟨v, bLr, by simpa [up] using ownr⟩, bAr, ⟨_, bB⟩, fr0⟩ (fun x => { tmps := #[.pointer (some ⟨G, 0, none⟩), undef, .slice none 0 0, .pointer (some ⟨w.heap.size, 0, none⟩), .pointer (some ⟨wr.heap.size, 0, none⟩), .int .i64 (x : Nat), .pointer (some ⟨G, 0, none⟩), .int .i64 near.length, .int .i64 (k : Nat), .bool true, .int .i64 (k : Nat), .pointer (some ⟨G, 0, none⟩), .pointer (some ⟨G, 0, none⟩), .pointer (some ⟨G, 0, none⟩), .slice (some ⟨R, 0, none⟩) near.length near.length, .int .i64 (k : Nat), .pointer (some ⟨R, k, none⟩), .int .u64 (s : Nat), .func (.func 59) #[] #[.pointer (some ⟨W.heap.size, 0, none⟩)], .int .i64 (x : Nat), u20, u21, u22, u23, u24, u25, u26, u27, u28, u29, u30], defers := [] }) ?assign ?body ?done ?stop
    case assign =>
      intro l x V R hR
      gi_wp2
      exact hR
    case body =>
      rintro l pre x V hzV ⟨⟨v1, b1, o1⟩, bA1, ⟨x1, bB1⟩, fr1⟩ hpre
      have cL1 := b1.cell 0
      have cA1 := bA1.cell 0
      have fL1 := b1.frozen 0
      simp at cL1 cA1
      have hpl := prefix_len hpre
      have h64 := ones_len s
      have hl1 := linksTo_len near k
      have hl2 := up_len k pre
      have hlen : (linksTo near k ++ up k pre).length ≤ 8192 := by rw [List.length_append]; simp at hpl; omega
      have own1 := own_free o1 b1 (by decide)
      have lowV : w.heap.size ≤ V.heap.size := by omega
      gi_wp2_with (gi_at_builtin; refine wpListIn_append_own _ rfl _ _ 22 rfl w.heap.size 41 i0 _ 2 16 Tryd.underlying22 hi0 hz0 hz1 hz2 rfl (by decide) _ _ _ rfl (o1.alloc _) ⟨V.heap.size, 0, none⟩ 1 1 [.int .i64 (k : Nat), .int .i64 (x : Nat)] rfl rfl (World.news_of_block (cs := #[.int .i64 (k : Nat), .int .i64 (x : Nat)]) (t := 41) (fr := (0, 0)) (heap_alloc_new V _)) (by simp [Value.oneCell']) (by unfold maxLen; omega) (by omega) (by simp; omega) ?_; intro v2 w2 own2 g2 _; obtain ⟨gg, cap2, rfl⟩ := own_some own2 (by omega); have B2 := (b1.alloc _).grown g2 own1; have k2 := B2.cell 0; have z2 := B2.frozen 0; simp at k2)
      · have hx : k < x := by assumption
        have f2 : Fr w.heap.size [22, 41] (V.alloc (.cells #[.int .i64 (k : Nat), .int .i64 (x : Nat)] 41)) w2 := Fr.grown_own g2 (o1.alloc _) (by decide)
        have f3 := Fr.put ((Fr.alloc (Fr.refl _ _ V) _).trans f2) B2 (Nat.le_refl _) (.inl (by decide)) 0 (.slice (some ⟨gg, 0, none⟩) ((linksTo near k).length + (up k pre).length + 1) cap2)
        have B3 := B2.put 0 (.slice (some ⟨gg, 0, none⟩) ((linksTo near k).length + (up k pre).length + 1) cap2)
        simp at B3
        have O3 := own_off own2 (Off.setCell (p := ⟨w.heap.size, 0, none⟩) (Off.refl (fun j => j = w.heap.size) w2) (.inl rfl) (.slice (some ⟨gg, 0, none⟩) ((linksTo near k).length + (up k pre).length + 1) cap2)) (fun g hg c => own_free own2 B2 (by decide) (by rw [c] at hg; exact hg.symm))
        refine ⟨Fr.stays f3 (fun j hj => ?_), ⟨⟨_, B3, ?_⟩, f3.blk bA1 (by decide), ⟨_, f3.blk bB1 (by decide)⟩, fr1.trans f3⟩⟩
        · rcases hj with rfl | rfl
          · exact .inr ⟨_, bB1, rfl⟩
          · exact .inl ⟨hw0, by omega⟩
        · rw [up_hit pre hx, ← List.append_assoc, pc_snoc, List.length_append]
          have := O3
          simp only [List.length_append] at this ⊢
          exact this
      · have hx : ¬ k < x := by first | assumption | omega
        refine ⟨Fr.stays (Fr.refl w.heap.size [22, 41] V) (fun j hj => ?_), ⟨⟨v1, b1, by rw [up_miss pre hx]; exact o1⟩, bA1, ⟨x1, bB1⟩, fr1⟩⟩
        rcases hj with rfl | rfl
        · exact .inr ⟨_, bB1, rfl⟩
        · exact .inl ⟨hw0, by omega⟩
    case done =>
      rintro D V hD ⟨⟨v1, b1, o1⟩, bA1, ⟨x1, bB1⟩, fr1⟩ hd
      go_wp2_with fail
      refine ⟨⟨k + 1, _, _, _, _, _, _, _, _, _, _, _, _, _, _, _, _, _, _, _, _, _, _, _, _, _, rfl, hlt, ?_, ⟨v1, b1, by rw [linksTo_succ, hs]; exact o1⟩, low.trans (fr1.toBelow (by omega))⟩, ?_⟩
      · exact Marked.cons mks (fun j hj => fr1.rest j _ hj rfl) (by omega) (by omega) hd
      · simp [slotNat]; omega
    case stop =>
      rintro D c pre V _ _ h _
      exact h.elim
  · obtain rfl : k = near.length := by omega
    go_wp2_with fail
    refine leaves_marks hI.marks fun w' hB hC => ?_
    exact ⟨_, results_tmp rfl _ _ _, ⟨v, rfl, own_cells hown hC⟩, hI.low.trans hB⟩
end Go.Proofs.YtcangalpccppbaaDoor.Graph
