/- Whether nodes are a path of a graph: hops.Path and Limit, walked. -/
import Derived.Test.YtcangalpccppbaaMade
import Derived.Test.YtcangalpccppbaaRefLists
import Derived.Maps.OwnOps
import Derived.Maps.Views
namespace Go.Proofs.Ytcangalpccppbaa.Graph
open Go.RowKit Go.Maps
open Go.Proofs.Ytcangalpccppbaa.RF Go.Proofs.Ytcangalpccppbaa.Heap Go.Proofs.Ytcangalpccppbaa.Nodes Go.Proofs.Ytcangalpccppbaa.Seen
set_option linter.unusedVariables false
set_option linter.unusedSimpArgs false

/-- May number i of the list stand there? -/
def okAt (n : Nat) (L : List (Int × Int)) (xs : List Int) (i : Nat) : Bool :=
  isN n (xs.getD i 0) && !decide (xs.getD i 0 ∈ xs.take i) && (decide (i = 0) || refL L (xs.getD (i - 1) 0) (xs.getD i 0))
/-- Are they a path? -/
def pathB (n : Nat) (L : List (Int × Int)) (xs : List Int) : Bool := (List.range xs.length).all (okAt n L xs) && decide (0 < xs.length)
theorem pathB_bad {n : Nat} {L : List (Int × Int)} {xs : List Int} {i : Nat} (hi : i < xs.length) (h : okAt n L xs i = false) : pathB n L xs = false := by
  unfold pathB
  have : (List.range xs.length).all (okAt n L xs) = false := by
    rw [List.all_eq_false]
    exact ⟨i, by simpa using hi, by simp [h]⟩
  rw [this, Bool.false_and]
theorem pathB_good {n : Nat} {L : List (Int × Int)} {xs : List Int} (h : ∀ i : Nat, i < xs.length → okAt n L xs i = true) : pathB n L xs = decide (0 < xs.length) := by
  unfold pathB
  have : (List.range xs.length).all (okAt n L xs) = true := by
    rw [List.all_eq_true]
    exact fun i hi => h i (by simpa using hi)
  rw [this, Bool.true_and]
theorem okAt_at {n : Nat} {L : List (Int × Int)} {xs : List Int} {i : Nat} {x : Int} (hx : xs[i]? = some x) : okAt n L xs i = (isN n x && !decide (x ∈ xs.take i) && (decide (i = 0) || refL L (xs.getD (i - 1) 0) x)) := by
  unfold okAt
  rw [show xs.getD i 0 = x by rw [List.getD_eq_getElem?_getD, hx]; rfl]
/-- A path's nodes are different ones: it is no longer than there are nodes. -/
theorem pathB_len {n : Nat} {L : List (Int × Int)} {xs : List Int} (h : pathB n L xs = true) : xs.length ≤ n := by
  unfold pathB at h
  rw [Bool.and_eq_true, List.all_eq_true] at h
  have hok : ∀ i : Nat, i < xs.length → okAt n L xs i = true := fun i hi => h.1 i (by simpa using hi)
  have hd : xs.Nodup := by
    rw [List.nodup_iff_pairwise_ne, List.pairwise_iff_getElem]
    intro i j hi hj hij e
    have := hok j hj
    rw [okAt_at (List.getElem?_eq_getElem hj)] at this
    simp only [Bool.and_eq_true, Bool.not_eq_true', decide_eq_false_iff_not] at this
    refine this.1.2 ?_
    rw [← e, List.mem_take_iff_getElem]
    exact ⟨i, by omega, rfl⟩
  have hs : xs ⊆ (List.range n).map fun k : Nat => (k : Int) := by
    intro x hx
    obtain ⟨i, hi⟩ := List.getElem?_of_mem hx
    have := hok i (List.getElem?_eq_some_iff.1 hi).1
    rw [okAt_at hi] at this
    simp only [Bool.and_eq_true] at this
    obtain ⟨k, rfl, hk⟩ := isN_yes this.1.1
    exact List.mem_map.2 ⟨k, by simpa using hk, rfl⟩
  have := hd.length_le_of_subset hs
  simpa using this
theorem IntsAt.below {w w' : World} {v : Value} {xs : List Int} (h : IntsAt w v xs) (k : Below w.heap.size w w') : IntsAt w' v xs := by
  obtain ⟨a, c, h1, h2⟩ := h
  refine ⟨a, c, h1, fun j x hx => ?_⟩
  obtain ⟨b, e1, e2⟩ := h2 j x hx
  exact ⟨b, e1, (k.cell (p := ⟨b, j, none⟩) (World.block_lt_of_cell? w ⟨b, j, none⟩ e2)).trans e2⟩
/-- What the map holds behind some numbers. -/
def seenD (l : List Int) : DataW Unit := l.foldl (fun D x => D.put (.int .i64 x) (.lit (.int .i64 1))) (.map [])
theorem seenD_snoc (l : List Int) (x : Int) : seenD (l ++ [x]) = (seenD l).put (.int .i64 x) (.lit (.int .i64 1)) := by simp [seenD]
theorem keyI : Keyed Try.prog 3 := int_keyed Try.underlying3
theorem zeroI2 (w : World) : (zeroValue 3).run Try.prog w = .ok (.int .i64 0) w := by kernel_rfl
theorem seenD_map : ∀ l : List Int, IsMap (seenD l.reverse)
  | [] => isMap_empty
  | x :: l => by rw [List.reverse_cons, seenD_snoc]; exact (seenD_map l).put _ _
theorem seenD_at (x : Int) : ∀ l : List Int, (seenD l.reverse).atKey (.int .i64 x) (.lit (.int .i64 0)) = .lit (.int .i64 (if x ∈ l.reverse then 1 else 0))
  | [] => rfl
  | y :: l => by
    rw [List.reverse_cons, seenD_snoc]
    by_cases c : x = y
    · subst c
      rw [atKey_put_same (seenD_map l) (show WideAt.IsKeyLit (.int .i64 x) from trivial), if_pos (by simp)]
    · rw [atKey_put_other (by intro e; injection e with _ e; exact c e), seenD_at x l]
      by_cases d : x ∈ l.reverse
      · rw [if_pos d, if_pos (List.mem_append_left _ d)]
      · rw [if_neg d, if_neg (fun e => by
          rcases List.mem_append.1 e with e | e
          · exact d e
          · rw [List.mem_singleton] at e; exact c e)]
theorem seen_look {w : World} {b n : Nat} {l : List Int} (h : w.ownsMap Try.prog 3 (plainElem Try.prog 3) b n (seenD l)) (x : Int) (hx : (Lit.int .i64 x).wf = true) :
    (Instr.lookup 41 (.map (some b)) (.int .i64 x) false).run Try.prog w = .ok (.int .i64 (if x ∈ l then 1 else 0)) w := by
  obtain ⟨c, hr, ha, _⟩ := h.lookup_int keyI Try.underlying41 Try.underlying3 (zeroI2 w) (keyOf_int_mk Try.underlying3 hx)
  have := seenD_at x l.reverse
  rw [List.reverse_reverse, ha] at this
  injection this with this
  injection this with _ this
  rw [hr, this]
set_option maxRecDepth 100000 in
set_option maxHeartbeats 8000000 in
theorem path_any {w : World} {G R : Nat} {near : List Nat} (n : Nat) (L : List (Int × Int)) (hg : GraphAt w G R near) (hM : Match n near L) (h64 : n ≤ 64) (v : Value) (xs : List Int) (hi : IntsAt w v xs) (hwf : ∀ x ∈ xs, (Lit.int .i64 x).wf = true) (hlen : xs.length ≤ 65535) :
    Calls Try.prog 6 #[.pointer (some ⟨G, 0, none⟩), v] w fun e w' => e = .returned (.bool (pathB n L xs)) ∧ Below w.heap.size w w' := by
  obtain ⟨a, cap, rfl, hc⟩ := hi
  have hmm := @run_makeMap Try.prog
  have Hc := Lib.hid hc
  have Hg := Lib.hid hg
  have HM := Lib.hid hM
  have Hwf := Lib.hid hwf
  clear hc hg hM hwf
  go_enter Try.func6, Try.ntmps6
  go_wp2
  go_loopw [11] (fun v11 wr => ∃ k : Nat, v11 = .int .i64 k ∧ k ≤ xs.length ∧ RowKit.Hid (∀ i : Nat, i < k → okAt n L xs i = true) ∧ RowKit.Hid (wr.ownsMap Try.prog 3 (plainElem Try.prog 3) w.heap.size k (seenD (xs.take k))) ∧ RowKit.Hid (Below w.heap.size w wr)) (fun v11 _ => match v11 with | .int _ k => xs.length - k.toNat | _ => 0)
  case atStart => exact ⟨0, rfl, Nat.zero_le _, Lib.hid (fun i h => by omega), Lib.hid (World.ownsMap_made _ _ _ _), Lib.hid ((Below.refl _ _).alloc (Nat.le_refl _) _)⟩
  case round =>
    obtain ⟨k, rfl, hk, hok, own, lR⟩ := hrel
    by_cases hlt : k < xs.length
    · obtain ⟨x, hx⟩ : ∃ x, xs[k]? = some x := ⟨_, List.getElem?_eq_getElem hlt⟩
      obtain ⟨b, rfl, c0⟩ := Hc.out k x hx
      have hbw := World.block_lt_of_cell? w ⟨b, k, none⟩ c0
      replace c0 := (lR.out.cell (p := ⟨b, k, none⟩) hbw).trans c0
      have hwx := Hwf.out x (List.mem_of_getElem? hx)
      have l3 : (0 : Int) ≤ (k : Int) := by omega
      have l4 : (k : Int) < (xs.length : Int) := by omega
      have l5 : (k : Int) ≤ 65534 := by omega
      have hlook := seen_look own.out x hwx
      have Hat := Lib.hid (okAt_at (n := n) (L := L) hx)
      have gR := Hg.out.below lR.out (Nat.le_refl _)
      have hN := Lib.hid (show Calls Try.prog 12 #[.pointer (some ⟨G, 0, none⟩)] wr fun e w' => e = .returned (.int .i64 (n : Nat)) ∧ w' = wr from by
        have := n_any gR
        rwa [HM.out.len] at this)
      have hLk := Lib.hid (fun y z : Int => (show Calls Try.prog 13 #[.pointer (some ⟨G, 0, none⟩), .int .i64 y, .int .i64 z] wr fun e w' => e = .returned (.bool (refL L y z)) ∧ w' = wr from by
        have := linked_any gR y z
        rwa [HM.out.linked h64] at this))
      clear gR
      by_cases h1 : 0 ≤ x
      · by_cases h2 : x < (n : Int)
        · have hisN : isN n x = true := by simp [isN, h1, h2]
          by_cases h3 : x ∈ xs.take k
          · have hf := Lib.hid (pathB_bad (n := n) (L := L) hlt (by rw [Hat.out]; simp [h3]))
            rw [if_pos h3] at hlook
            clear Hat
            go_wp2_with (go_at_call 12; refine hN.out.mono ?_; rintro e w' ⟨rfl, h⟩; rw [h]; clear h w')
            go_ret
            exact ⟨ret_b hf.out.symm, lR.out⟩
          · rw [if_neg h3] at hlook
            rcases Nat.eq_zero_or_pos k with hz | hpos
            · have hmem := Lib.hid (show okAt n L xs k = true from by rw [Hat.out, hisN]; simp [h3, hz])
              have hz0 : ¬ (0 : Int) < (k : Int) := by omega
              clear hz
              have hsn := Lib.hid (show seenD (xs.take (k + 1)) = (seenD (xs.take k)).put (.int .i64 x) (.lit (.int .i64 1)) from by rw [List.take_add_one, hx]; exact seenD_snoc _ _)
              clear Hat hx Hc
              go_wp2_with (first
                | (go_at_call 12; refine hN.out.mono ?_; rintro e w' ⟨rfl, h⟩; rw [h]; clear h w')
                | (go_at_call 13; refine (hLk.out _ _).mono ?_; rintro e w' ⟨rfl, h⟩; rw [h]; clear h w')
                | (at_mapUpdate; refine wpList_mapUpdate_own _ rfl _ _ _ 41 rfl 3 3 keyI Try.underlying41 _ w.heap.size k _ rfl own.out (by unfold maxLen; omega) _ _ _ rfl rfl (keyOf_int_mk Try.underlying3 hwx) _ [] (plainElem_int Try.underlying3 (a := 1) (by decide)) ?_; intro w1 hown1 hgrow1))
              go_round
              case rel => exact ⟨k + 1, rfl, hlt, Lib.hid (fun i hi => by
                rcases Nat.lt_succ_iff_lt_or_eq.1 hi with c | c
                · exact hok.out i c
                · subst c; exact hmem.out), Lib.hid (by rw [hsn.out]; exact hown1), Lib.hid (lR.out.grown hgrow1 lR.out.size (fun j hj => by cases hj; exact Nat.le_refl _))⟩
              case measure => simp; omega
            · have hpos2 : (0 : Int) < (k : Int) := by omega
              obtain ⟨y, hy⟩ : ∃ y, xs[k - 1]? = some y := ⟨_, List.getElem?_eq_getElem (by omega)⟩
              obtain ⟨b', hbb, d0⟩ := Hc.out (k - 1) y hy
              cases hbb
              have hbw2 := World.block_lt_of_cell? w ⟨b, k - 1, none⟩ d0
              replace d0 := (lR.out.cell (p := ⟨b, k - 1, none⟩) hbw2).trans d0
              have hgy : xs.getD (k - 1) 0 = y := by rw [List.getD_eq_getElem?_getD, hy]; rfl
              rw [hgy] at Hat
              have m3 : (0 : Int) ≤ (k : Int) - 1 := by omega
              have m4 : (k : Int) - 1 < (xs.length : Int) := by omega
              have m5 : ((k : Int) - 1).toNat = k - 1 := by omega
              rcases hrl : refL L y x with _ | _
              · have hf := Lib.hid (pathB_bad (n := n) (L := L) hlt (by rw [Hat.out, hrl]; simp; omega))
                clear Hat hx hy Hc
                go_wp2_with (first
                  | (go_at_call 12; refine hN.out.mono ?_; rintro e w' ⟨rfl, h⟩; rw [h]; clear h w')
                  | (go_at_call 13; refine (hLk.out _ _).mono ?_; rintro e w' ⟨rfl, h⟩; rw [h, hrl]; clear h w'))
                go_ret
                exact ⟨ret_b hf.out.symm, lR.out⟩
              · clear hy
                have hmem := Lib.hid (show okAt n L xs k = true from by rw [Hat.out, hisN]; simp [h3, hrl])
                have hsn := Lib.hid (show seenD (xs.take (k + 1)) = (seenD (xs.take k)).put (.int .i64 x) (.lit (.int .i64 1)) from by rw [List.take_add_one, hx]; exact seenD_snoc _ _)
                clear Hat hx Hc
                go_wp2_with (first
                  | (go_at_call 12; refine hN.out.mono ?_; rintro e w' ⟨rfl, h⟩; rw [h]; clear h w')
                  | (go_at_call 13; refine (hLk.out _ _).mono ?_; rintro e w' ⟨rfl, h⟩; rw [h, hrl]; clear h w')
                  | (at_mapUpdate; refine wpList_mapUpdate_own _ rfl _ _ _ 41 rfl 3 3 keyI Try.underlying41 _ w.heap.size k _ rfl own.out (by unfold maxLen; omega) _ _ _ rfl rfl (keyOf_int_mk Try.underlying3 hwx) _ [] (plainElem_int Try.underlying3 (a := 1) (by decide)) ?_; intro w1 hown1 hgrow1))
                go_round
                case rel => exact ⟨k + 1, rfl, hlt, Lib.hid (fun i hi => by
                  rcases Nat.lt_succ_iff_lt_or_eq.1 hi with c | c
                  · exact hok.out i c
                  · subst c; exact hmem.out), Lib.hid (by rw [hsn.out]; exact hown1), Lib.hid (lR.out.grown hgrow1 lR.out.size (fun j hj => by cases hj; exact Nat.le_refl _))⟩
                case measure => simp; omega
        · have hf := Lib.hid (pathB_bad (n := n) (L := L) hlt (by rw [Hat.out, show isN n x = false by simp [isN]; omega]; rfl))
          clear Hat hx Hc
          go_wp2_with (go_at_call 12; refine hN.out.mono ?_; rintro e w' ⟨rfl, h⟩; rw [h]; clear h w')
          go_ret
          exact ⟨ret_b hf.out.symm, lR.out⟩
      · have hf := Lib.hid (pathB_bad (n := n) (L := L) hlt (by rw [Hat.out, show isN n x = false by simp [isN]; omega]; rfl))
        clear Hat hx Hc
        go_wp2_with fail
        go_ret
        exact ⟨ret_b hf.out.symm, lR.out⟩
    · obtain rfl : k = xs.length := by omega
      have hf := Lib.hid (pathB_good (n := n) (L := L) (fun i hi => hok.out i hi))
      have hfl : (decide ((0 : Int) < (xs.length : Int))) = decide (0 < xs.length) := by rw [decide_eq_decide]; omega
      have Hfl := Lib.hid hfl
      clear hfl Hc
      go_wp2_with fail
      go_ret
      refine ⟨ret_b ?_, lR.out⟩
      rw [hf.out]
end Go.Proofs.Ytcangalpccppbaa.Graph
