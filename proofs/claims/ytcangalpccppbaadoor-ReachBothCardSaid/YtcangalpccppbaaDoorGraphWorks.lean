/- The chapter's example; what a graph that is nil answers. -/
import Derived.Test.YtcangalpccppbaaDoorNewWalk
namespace Go.Proofs.YtcangalpccppbaaDoor.Graph
open Go.RowKit
open Go.Proofs.YtcangalpccppbaaDoor.RF Go.Proofs.YtcangalpccppbaaDoor.Heap Go.Proofs.YtcangalpccppbaaDoor.Nodes Go.Proofs.YtcangalpccppbaaDoor.Seen
set_option linter.unusedVariables false

theorem ex_new : newE 3 [] [(0, 1), (2, 1)] = 0 := by decide
theorem ex_near : nearOf 3 ([(0, 1), (2, 1)].map lk) = [2, 5, 2] := by decide
theorem ex_links : linksOf [2, 5, 2] = [(0, 1), (1, 2)] := by decide +kernel
theorem ex_at1 : nearR [2, 5, 2] 1 = 5 := by decide
theorem ex_pairs (w : World) : PairsAt (w.alloc (.cells #[.int .i64 0, .int .i64 1, .int .i64 2, .int .i64 1] 41)) (.slice (some ⟨w.heap.size, 0, none⟩) 2 2) [(0, 1), (2, 1)] := by
  have b := Blk.new w 41 #[.int .i64 0, .int .i64 1, .int .i64 2, .int .i64 1]
  refine ⟨⟨_, _, rfl, fun i p hp => ⟨w.heap.size, rfl, b.lt, ?_⟩⟩, fun p hp => ?_⟩
  · rw [b.cell, b.cell]
    match i, hp with
    | 0, hp => cases hp; exact ⟨rfl, rfl⟩
    | 1, hp => cases hp; exact ⟨rfl, rfl⟩
    | i + 2, hp => simp at hp
  · simp at hp
    rcases hp with rfl | rfl <;> exact ⟨by decide, by decide⟩
set_option maxRecDepth 100000 in
set_option maxHeartbeats 4000000 in
theorem works_any (w : World) (hT : Tab w) :
    Calls Tryd.prog 18 #[] w fun e w' => e = .returned (.bool true) ∧ Below w.heap.size w w' := by
  go_enter Tryd.func18, Tryd.ntmps18
  go_wp2_with fail
  refine (new_yes 3 _ [(0, 1), (2, 1)] _ (by omega) (ex_pairs w) (by decide)).mono ?_
  rintro e w1 ⟨b1, (⟨_, G, R, rfl, g1⟩ | ⟨c, _⟩)⟩
  · rw [ex_near] at g1
    have B1 : Below w.heap.size w w1 := ((Below.refl _ w).alloc (Nat.le_refl _) _).trans (b1.mono (by simp))
    have T1 := hT.below B1 hT.size
    have z1 := B1.size
    go_wp2_with fail
    refine (links_any g1 T1).mono ?_
    rintro e w2 ⟨⟨v, rfl, o2⟩, b2⟩
    rw [ex_links] at o2
    have g2 := g1.below b2 (Nat.le_refl _)
    have B2 := B1.trans (b2.mono z1)
    obtain ⟨g, cap, rfl⟩ := own_some o2 (by decide)
    obtain ⟨cur, hb, _, _, _, hs, ht⟩ := row_blk o2
    have at4 : ∀ i v, [Value.int .i64 0, .int .i64 1, .int .i64 1, .int .i64 2][i]? = some v → w2.cell? ⟨g, i, none⟩ = some v := fun i v hv => by
      rw [hb.cell i]
      have : (cur.toList.take (2 * 2))[i]? = some v := by
        have e : cur.toList.take (2 * 2) = pc [(0, 1), (1, 2)] := ht
        rw [e]; exact hv
      rw [List.getElem?_take] at this
      split at this
      · simpa using this
      · cases this
    have c0 := at4 0 _ rfl
    have c1 := at4 1 _ rfl
    have c2 := at4 2 _ rfl
    have c3 := at4 3 _ rfl
    have e0 := eqP 0 1 0 1 w2
    have e1 := eqP 1 2 1 2 w2
    simp only [beq_self_eq_true, Bool.and_self] at e0 e1
    have hn := Lib.hid (n_any g2)
    have hr := near_any g2 1
    rw [ex_at1] at hr
    replace hr := Lib.hid hr
    simp only [List.length_cons, List.length_nil] at hn
    go_wp2_with (first
      | (go_at_call 27; refine hn.out.mono ?_; rintro e w' ⟨rfl, h⟩; rw [h]; clear h w')
      | (go_at_call 21; refine hr.out.mono ?_; rintro e w' ⟨rfl, h⟩; rw [h]; clear h w'))
    go_ret
    exact ⟨rfl, B2⟩
  · exact absurd ex_new c
theorem links_nil (w : World) : Calls Tryd.prog 19 #[.pointer none] w fun e w' => e = .returned (.slice none 0 0) ∧ Below w.heap.size w w' := by
  have hn := Lib.hid (fun w => n_nil w)
  go_enter Tryd.func19, Tryd.ntmps19
  go_wp2_with (go_at_call 27; refine (hn.out _).mono ?_; rintro e w' ⟨rfl, h⟩; rw [h]; clear h w')
  refine wp_loop_rounds 1 ?_
  unfold Code.rounds
  go_wp2_with fail
  go_ret
  exact ⟨rfl, (Below.refl _ w).alloc (Nat.le_refl _) _⟩
theorem without_nil (s : Int) (w : World) : Calls Tryd.prog 24 #[.pointer none, .int .u64 s] w fun e w' => e = .returned (.pointer none) ∧ w' = w := by
  go_enter Tryd.func24, Tryd.ntmps24
  go_wp2
  go_ret
  exact ⟨rfl, rfl⟩
set_option maxHeartbeats 4000000 in
theorem nil_walk (a b : Int) (w : World) (hT : Tab w) :
    Calls Tryd.prog 7 #[.int .i64 a, .int .i64 b] w fun e w' => e = .returned (.bool true) ∧ Below w.heap.size w w' := by
  have h1 := Lib.hid (fun w => n_nil w)
  have h2 := Lib.hid (fun w => near_nil a w)
  have h3 := Lib.hid (fun w => linked_nil a b w)
  have h5 := Lib.hid (fun w => without_nil 5 w)
  go_enter Tryd.func7, Tryd.ntmps7
  go_wp2_with (first
    | (go_at_call 27; refine (h1.out _).mono ?_; rintro e w' ⟨rfl, h⟩; rw [h]; clear h w')
    | (go_at_call 21; refine (h2.out _).mono ?_; rintro e w' ⟨rfl, h⟩; rw [h]; clear h w')
    | (go_at_call 22; refine (h3.out _).mono ?_; rintro e w' ⟨rfl, h⟩; rw [h]; clear h w')
    | (go_at_call 19; refine (links_nil w).mono ?_; rintro e w1 ⟨rfl, b1⟩)
    | (go_at_call 24; refine (h5.out _).mono ?_; rintro e w' ⟨rfl, h⟩; rw [h]; clear h w')
    | (go_at_call 18; refine (works_any _ ?_).mono ?_))
  · exact hT.below b1 hT.size
  · rintro e w2 ⟨rfl, b2⟩
    go_wp2_with fail
    go_ret
    exact ⟨rfl, b1.trans (b2.mono b1.size)⟩
end Go.Proofs.YtcangalpccppbaaDoor.Graph
