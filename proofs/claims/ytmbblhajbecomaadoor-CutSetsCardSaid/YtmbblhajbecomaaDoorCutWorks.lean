/- The cut laws' own: few, the worlds of at most seven nodes, the chapter's example. -/
import Derived.Test.YtmbblhajbecomaaDoorRefSets
import Derived.Test.YtmbblhajbecomaaDoorCutFirst
import Derived.Test.YtmbblhajbecomaaDoorMadeEx
import Derived.Test.YtmbblhajbecomaaDoorShapes
namespace Go.Proofs.YtmbblhajbecomaaDoor.Cut
open Go.RowKit
open Go.Proofs.YtmbblhajbecomaaDoor.RF Go.Proofs.YtmbblhajbecomaaDoor.Heap Go.Proofs.YtmbblhajbecomaaDoor.Nodes Go.Proofs.YtmbblhajbecomaaDoor.Graph Go.Proofs.YtmbblhajbecomaaDoor.Reach
set_option linter.unusedVariables false
set_option linter.unusedSimpArgs false
theorem tmod_few (n : Int) : n.tmod 8 < 8 ∧ -8 < n.tmod 8 := by
  rcases Int.le_total 0 n with h | h
  · rw [Int.tmod_eq_emod_of_nonneg h]; omega
  · obtain ⟨m, rfl⟩ : ∃ m, n = -m := ⟨-n, by omega⟩
    rw [Int.neg_tmod, Int.tmod_eq_emod_of_nonneg (by omega)]; omega
theorem few_bd (n : Int) : 1 ≤ madeN (n.tmod 8) ∧ madeN (n.tmod 8) ≤ 7 := by
  have h := tmod_few n
  have h2 : (n.tmod 8).tmod 11 = n.tmod 8 := by
    rcases Int.le_total 0 (n.tmod 8) with c | c
    · rw [Int.tmod_eq_emod_of_nonneg c]; omega
    · obtain ⟨m, hm⟩ : ∃ m, n.tmod 8 = -m := ⟨-n.tmod 8, by omega⟩
      rw [hm, Int.neg_tmod, Int.tmod_eq_emod_of_nonneg (by omega)]; omega
  unfold madeN
  rw [h2]
  split <;> omega
theorem few_any (w : World) (n : Int) (a : Option Addr) (len cap : Nat) :
    Calls Tryd.prog 13 #[.agg #[.int .i64 n, .slice a len cap]] w fun e w' => e = .returned (.agg #[.int .i64 (n.tmod 8), .slice a len cap]) ∧ Below w.heap.size w w' := by
  have hb := tmod_few n
  have hw : IntKind.i64.wrap (n.tmod 8) = n.tmod 8 := IntWalk.i64_in _ (by omega)
  obtain ⟨r, hr⟩ : ∃ r, n.tmod 8 = r := ⟨_, rfl⟩
  rw [hr]
  rw [hr] at hw
  have Hr := Lib.hid hr
  clear hr hb
  go_enter Tryd.func13, Tryd.ntmps13
  go_wp2_with fail
  rw [Hr.out]
  refine bodyPost_ret (results_cell (b := w.heap.size + 1) Tryd.results13 rfl Tryd.underlying24 (by kernel_rfl) (by kernel_rfl) (range2 (c0 := .int .i64 r) (c1 := .slice a len cap) ?_ ?_)) rfl ⟨rfl, ?_⟩
  · go_simp
  · go_simp
  · exact ((Below.refl _ w).alloc (Nat.le_refl _) _).alloc (by simp) _
/-- Made of few, with what it made given names. -/
theorem seven_ex (w : World) (n : Int) (a : Option Addr) (len cap : Nat) (ls : List (Int × Int)) (hp : PairIn w a len cap ls) :
    Calls Tryd.prog 12 #[.agg #[.int .i64 (n.tmod 8), .slice a len cap]] w fun e w' => Below w.heap.size w w' ∧ ∃ (m G R : Nat) (near : List Nat) (L : List (Int × Int)) (ha : Option Addr) (hc : Nat),
      e = .returned (.tuple #[.pointer (some ⟨G, 0, none⟩), .agg #[.int .i64 (m : Nat), .slice ha L.length hc]]) ∧ 1 ≤ m ∧ m ≤ 7 ∧ near.length = m ∧ L.length ≤ 60 ∧ RowKit.Hid (newE m [] L = 0 ∧ near = nearOf m (L.map lk)) ∧ RowKit.Hid (Match m near L) ∧ RowKit.Hid (GraphAt w' G R near) ∧ RowKit.Hid (PairsAt w' (.slice ha L.length hc) L) := by
  refine (made_any w (n.tmod 8) a len cap ls hp).mono fun e w' h => ?_
  obtain ⟨b, G, R, v, rfl, hG, hP⟩ := h
  obtain ⟨ha, hc, rfl, _⟩ := hP.out.1
  have hs := madeL_spec (madeN (n.tmod 8)) (ls.take 60)
  have hM := match_new hs.1
  have hbd := few_bd n
  exact ⟨b, _, G, R, _, _, ha, hc, rfl, hbd.1, hbd.2, hM.1, Nat.le_trans hs.2.1 (by rw [List.length_take]; omega), Lib.hid ⟨hs.1, rfl⟩, Lib.hid hM, hG, hP⟩

def ring4 : List Nat := [10, 5, 10, 5]
theorem ring4_new : newE 4 [] (zp (ringN 4)) = 0 := by decide
theorem ring4_near : nearOf 4 ((zp (ringN 4)).map lk) = ring4 := by decide
theorem ring4_match : Match 4 ring4 (zp (ringN 4)) := by
  have := match_new ring4_new
  rwa [ring4_near] at this
theorem ring4_first : firstF ring4 2 = some 5 := by decide +kernel
theorem ring4_str : strF ring4 = 1 := by decide +kernel
theorem ring4_safe : safeF ring4 1 = true := by decide +kernel
theorem ring4_cuts : cutsB ring4 2 = false := by decide +kernel
set_option maxRecDepth 100000 in
set_option maxHeartbeats 8000000 in
theorem cutworks_any (w : World) (hT : Tab w) :
    Calls Tryd.prog 18 #[] w fun e w' => e = .returned (.bool true) ∧ Below w.heap.size w w' := by
  have ok4 : Ok ring4 := ring4_match.ok (by omega)
  have sy4 : Sym ring4 := ring4_match.sym
  have h49 : ring4.length < 9 := by decide
  go_enter Tryd.func18, Tryd.ntmps18
  go_wp2_with fail
  refine (goring_any 4 w).mono ?_
  rintro e w1 ⟨v, rfl, hP, b1⟩
  go_wp2_with fail
  refine (new_yes 4 v (zp (ringN 4)) w1 (by omega) hP.out (by decide)).mono ?_
  rintro e w2 ⟨b2, (⟨_, G, R, rfl, g2⟩ | ⟨c, _⟩)⟩
  · rw [ring4_near] at g2
    have z1 := b1.size
    have B2 : Below w.heap.size w w2 := b1.trans (b2.mono z1)
    have T2 := hT.below B2 hT.size
    have z2 := B2.size
    clear hP b1 b2
    have HD := first_any g2 T2 ok4 sy4 h49 2
    unfold Firsts at HD
    rw [show min (2 : Int) 3 = 2 by decide, ring4_first] at HD
    have HD := Lib.hid HD
    go_wp2_with fail
    refine HD.out.mono ?_
    rintro e w3 ⟨rfl, b3⟩
    have B3 : Below w.heap.size w w3 := B2.trans (b3.mono z2)
    have g3 := g2.below b3 (Nat.le_refl _)
    have T3 := hT.below B3 hT.size
    have z3 := B3.size
    have HW := Lib.hid (strength_any g3 T3 ok4 sy4 h49)
    clear HD g2 T2
    go_wp2_with fail
    refine HW.out.mono ?_
    rintro e w4 ⟨rfl, b4⟩
    rw [ring4_str]
    have B4 : Below w.heap.size w w4 := B3.trans (b4.mono z3)
    have g4 := g3.below b4 (Nat.le_refl _)
    have T4 := hT.below B4 hT.size
    have z4 := B4.size
    have HO := Lib.hid (safe_any g4 T4 ok4 sy4 h49 1)
    clear HW g3 T3
    go_wp2_with fail
    refine HO.out.mono ?_
    rintro e w5 ⟨rfl, b5⟩
    rw [ring4_safe]
    have B5 : Below w.heap.size w w5 := B4.trans (b5.mono z4)
    have g5 := g4.below b5 (Nat.le_refl _)
    have T5 := hT.below B5 hT.size
    have HC := Lib.hid (cuts_any g5 T5 ok4 sy4 2 (by decide))
    clear HO g4 T4
    go_wp2_with (go_at_call 16; refine HC.out.mono ?_; rintro e w6 ⟨rfl, b6⟩; rw [ring4_cuts])
    go_ret
    exact ⟨rfl, B5.trans (b6.mono B5.size)⟩
  · exact absurd ring4_new c
end Go.Proofs.YtmbblhajbecomaaDoor.Cut
