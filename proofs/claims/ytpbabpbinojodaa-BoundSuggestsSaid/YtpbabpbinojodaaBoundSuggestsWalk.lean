/- The law of what is suggested, walked. -/
import Derived.Test.YtpbabpbinojodaaRefSuggest
import Derived.Test.YtpbabpbinojodaaBoundEnoughWalk
namespace Go.Proofs.Ytpbabpbinojodaa.Bound
open Go.Proofs.Ytpbabpbinojodaa.Arith Go.Proofs.Ytpbabpbinojodaa.Span Go.Proofs.Ytpbabpbinojodaa.Hops
open Go.RowKit (wrap64 Below intOf)
open Go.Proofs.Ytpbabpbinojodaa.Heap Go.Proofs.Ytpbabpbinojodaa.RF
set_option linter.unusedVariables false
set_option linter.unusedSimpArgs false

set_option maxRecDepth 100000 in
set_option maxHeartbeats 8000000 in
theorem times_any (la : Option Addr) (ln lc : Nat) (N F dmin dmax rho slew rnd win att sn hs fl qu bd : Int) (w : World) :
    Calls Try.prog 18 #[.agg #[.int .i64 N, .slice la ln lc, .int .i64 F, .int .i64 dmin, .int .i64 dmax, .int .i64 rho, .int .i64 slew, .int .i64 rnd, .int .i64 win, .int .i64 att, .int .i64 sn, .int .i64 hs, .int .i64 fl, .int .i64 qu, .int .i64 bd], .agg #[.int .i64 N, .slice la ln lc, .int .i64 F, .int .i64 dmin, .int .i64 dmax, .int .i64 rho, .int .i64 slew, .int .i64 rnd, .int .i64 win, .int .i64 att, .int .i64 sn, .int .i64 hs, .int .i64 fl, .int .i64 qu, .int .i64 bd]] w fun e w' => e = .returned (.bool true) ∧ Below w.heap.size w w' := by
  have l1 : (0 : Int) ≤ (ln : Int) := by omega
  go_enter Try.func18, Try.ntmps18
  go_wp2
  go_ret
  exact ⟨rfl, ((Below.refl _ w).alloc (Nat.le_refl _) _).alloc (by simp) _⟩
/-- Both come to the same. -/
theorem sug_same (la : Option Addr) (ln lc : Nat) (N F dmin dmax rho slew rnd win att sn hs fl qu bd : Int) {w w1 w2 w3 : World} {e1 e2 : Ending} (h1 : SugEnds la ln lc N F dmin dmax rho slew rnd win att sn hs fl qu bd w e1 w1) (h2 : SugEnds la ln lc N F dmin dmax rho slew rnd win att sn hs fl qu bd w2 e2 w3) : e1 = e2 := by
  obtain ⟨_, ⟨k, a1, a2, a3, a4, rfl⟩ | ⟨a1, rfl⟩⟩ := h1 <;> obtain ⟨_, ⟨j, b1, b2, b3, b4, rfl⟩ | ⟨b1, rfl⟩⟩ := h2
  · rcases Nat.lt_trichotomy k j with c | c | c
    · rw [b4 k a1 c] at a3; cases a3
    · subst c; rfl
    · rw [a4 j b1 c] at b3; cases b3
  · rw [b1 k a1 a2] at a3; cases a3
  · rw [a1 j b1 b2] at b3; cases b3
  · rfl
theorem sug_some (N dmin dmax rho slew : Int) : ∀ m : Nat, m ≤ 41 → (∃ k : Nat, 12 ≤ k ∧ k < m ∧ sE N dmin dmax rho slew k = true ∧ ∀ j : Nat, 12 ≤ j → j < k → sE N dmin dmax rho slew j = false) ∨ (∀ j : Nat, 12 ≤ j → j < m → sE N dmin dmax rho slew j = false)
  | 0, _ => .inr fun j _ h => by omega
  | m + 1, h => by
    rcases sug_some N dmin dmax rho slew m (by omega) with ⟨k, h1, h2, h3, h4⟩ | h1
    · exact .inl ⟨k, h1, by omega, h3, h4⟩
    · by_cases c : 12 ≤ m ∧ sE N dmin dmax rho slew m = true
      · exact .inl ⟨m, c.1, by omega, c.2, h1⟩
      · refine .inr fun j h2 h3 => ?_
        rcases Nat.lt_succ_iff_lt_or_eq.1 h3 with d | d
        · exact h1 j h2 d
        · subst d
          cases e : sE N dmin dmax rho slew j
          · rfl
          · exact absurd ⟨h2, e⟩ c
set_option maxRecDepth 100000 in
set_option maxHeartbeats 8000000 in
theorem law_yes (la : Option Addr) (ln lc : Nat) (N F dmin dmax rho slew rnd win att sn hs fl qu bd : Int) (P Q A : Int) (w : World) (HSu : RowKit.Hid (∀ w' : World, Calls Try.prog 16 #[.agg #[.int .i64 N, .slice la ln lc, .int .i64 F, .int .i64 dmin, .int .i64 dmax, .int .i64 rho, .int .i64 slew, .int .i64 rnd, .int .i64 win, .int .i64 att, .int .i64 sn, .int .i64 hs, .int .i64 fl, .int .i64 qu, .int .i64 bd]] w' fun e w'' => e = .returned (.tuple #[.agg #[.int .i64 N, .slice la ln lc, .int .i64 F, .int .i64 dmin, .int .i64 dmax, .int .i64 rho, .int .i64 slew, .int .i64 P, .int .i64 Q, .int .i64 A, .int .i64 sn, .int .i64 hs, .int .i64 fl, .int .i64 qu, .int .i64 bd], .bool true]) ∧ Below w'.heap.size w' w'')) (HRef : RowKit.Hid (∀ w' : World, Calls Try.prog 17 #[.agg #[.int .i64 N, .slice la ln lc, .int .i64 F, .int .i64 dmin, .int .i64 dmax, .int .i64 rho, .int .i64 slew, .int .i64 rnd, .int .i64 win, .int .i64 att, .int .i64 sn, .int .i64 hs, .int .i64 fl, .int .i64 qu, .int .i64 bd]] w' fun e w'' => e = .returned (.tuple #[.agg #[.int .i64 N, .slice la ln lc, .int .i64 F, .int .i64 dmin, .int .i64 dmax, .int .i64 rho, .int .i64 slew, .int .i64 P, .int .i64 Q, .int .i64 A, .int .i64 sn, .int .i64 hs, .int .i64 fl, .int .i64 qu, .int .i64 bd], .bool true]) ∧ Below w'.heap.size w' w'')) (HEn : RowKit.Hid (∀ w' : World, Calls Try.prog 14 #[.agg #[.int .i64 N, .slice la ln lc, .int .i64 F, .int .i64 dmin, .int .i64 dmax, .int .i64 rho, .int .i64 slew, .int .i64 P, .int .i64 Q, .int .i64 A, .int .i64 sn, .int .i64 hs, .int .i64 fl, .int .i64 qu, .int .i64 bd]] w' fun e w'' => e = .returned (.bool true) ∧ Below w'.heap.size w' w'')) :
    Calls Try.prog 7 #[.agg #[.int .i64 N, .slice la ln lc, .int .i64 F, .int .i64 dmin, .int .i64 dmax, .int .i64 rho, .int .i64 slew, .int .i64 rnd, .int .i64 win, .int .i64 att, .int .i64 sn, .int .i64 hs, .int .i64 fl, .int .i64 qu, .int .i64 bd]] w fun e w' => e = .returned (.bool true) ∧ Below w.heap.size w w' := by
  have HTi := Lib.hid (fun w' => times_any la ln lc N F dmin dmax rho slew P Q A sn hs fl qu bd w')
  obtain ⟨V, hV⟩ : ∃ V, w.alloc (.cells #[.int .i64 N, .slice la ln lc, .int .i64 F, .int .i64 dmin, .int .i64 dmax, .int .i64 rho, .int .i64 slew, .int .i64 rnd, .int .i64 win, .int .i64 att, .int .i64 sn, .int .i64 hs, .int .i64 fl, .int .i64 qu, .int .i64 bd] 24) = V := ⟨_, rfl⟩
  have bA : Blk V w.heap.size 24 #[.int .i64 N, .slice la ln lc, .int .i64 F, .int .i64 dmin, .int .i64 dmax, .int .i64 rho, .int .i64 slew, .int .i64 rnd, .int .i64 win, .int .i64 att, .int .i64 sn, .int .i64 hs, .int .i64 fl, .int .i64 qu, .int .i64 bd] := by rw [← hV]; exact Blk.new w _ _
  have lV : Below w.heap.size w V := by rw [← hV]; exact (Below.refl _ w).alloc (Nat.le_refl _) _
  have HV := Lib.hid hV
  clear hV
  go_enter Try.func7, Try.ntmps7
  go_wp2_with fail
  rw [HV.out]
  refine (HSu.out V).mono ?_
  rintro e w1 ⟨rfl, b1⟩
  have zV := bA.lt
  have A1 := bA.below b1 zV
  have L1 := lV.trans (b1.mono (by omega))
  clear bA lV HV b1
  obtain ⟨U, hU⟩ : ∃ U, w1.alloc (.cells #[.int .i64 N, .slice la ln lc, .int .i64 F, .int .i64 dmin, .int .i64 dmax, .int .i64 rho, .int .i64 slew, .int .i64 P, .int .i64 Q, .int .i64 A, .int .i64 sn, .int .i64 hs, .int .i64 fl, .int .i64 qu, .int .i64 bd] 24) = U := ⟨_, rfl⟩
  have BU : Blk U w1.heap.size 24 #[.int .i64 N, .slice la ln lc, .int .i64 F, .int .i64 dmin, .int .i64 dmax, .int .i64 rho, .int .i64 slew, .int .i64 P, .int .i64 Q, .int .i64 A, .int .i64 sn, .int .i64 hs, .int .i64 fl, .int .i64 qu, .int .i64 bd] := by rw [← hU]; exact Blk.new w1 _ _
  have AU : Blk U w.heap.size 24 #[.int .i64 N, .slice la ln lc, .int .i64 F, .int .i64 dmin, .int .i64 dmax, .int .i64 rho, .int .i64 slew, .int .i64 rnd, .int .i64 win, .int .i64 att, .int .i64 sn, .int .i64 hs, .int .i64 fl, .int .i64 qu, .int .i64 bd] := by rw [← hU]; exact A1.alloc _
  have LU : Below w.heap.size w U := by rw [← hU]; exact L1.alloc L1.size _
  have zB := BU.lt
  have zA := AU.lt
  have sL1 := L1.size
  have zA1 := A1.lt
  have HU := Lib.hid hU
  clear hU L1
  have a0 := A1.cell 0
  have a1 := A1.cell 1
  have a2 := A1.cell 2
  have a3 := A1.cell 3
  have a4 := A1.cell 4
  have a5 := A1.cell 5
  have a6 := A1.cell 6
  have a7 := A1.cell 7
  have a8 := A1.cell 8
  have a9 := A1.cell 9
  have a10 := A1.cell 10
  have a11 := A1.cell 11
  have a12 := A1.cell 12
  have a13 := A1.cell 13
  have a14 := A1.cell 14
  simp at a0 a1 a2 a3 a4 a5 a6 a7 a8 a9 a10 a11 a12 a13 a14
  go_wp2_with fail
  rw [HU.out]
  clear HU A1 a0 a1 a2 a3 a4 a5 a6 a7 a8 a9 a10 a11 a12 a13 a14
  refine (HRef.out U).mono ?_
  rintro e w2 ⟨rfl, b2⟩
  have A2 := AU.below b2 zA
  have B2 := BU.below b2 zB
  have L2 := LU.trans (b2.mono (by omega))
  clear AU BU LU b2
  obtain ⟨X, hX⟩ : ∃ X, w2.alloc (.cells #[.int .i64 N, .slice la ln lc, .int .i64 F, .int .i64 dmin, .int .i64 dmax, .int .i64 rho, .int .i64 slew, .int .i64 P, .int .i64 Q, .int .i64 A, .int .i64 sn, .int .i64 hs, .int .i64 fl, .int .i64 qu, .int .i64 bd] 24) = X := ⟨_, rfl⟩
  have CX : Blk X w2.heap.size 24 #[.int .i64 N, .slice la ln lc, .int .i64 F, .int .i64 dmin, .int .i64 dmax, .int .i64 rho, .int .i64 slew, .int .i64 P, .int .i64 Q, .int .i64 A, .int .i64 sn, .int .i64 hs, .int .i64 fl, .int .i64 qu, .int .i64 bd] := by rw [← hX]; exact Blk.new w2 _ _
  have BX : Blk X w1.heap.size 24 #[.int .i64 N, .slice la ln lc, .int .i64 F, .int .i64 dmin, .int .i64 dmax, .int .i64 rho, .int .i64 slew, .int .i64 P, .int .i64 Q, .int .i64 A, .int .i64 sn, .int .i64 hs, .int .i64 fl, .int .i64 qu, .int .i64 bd] := by rw [← hX]; exact B2.alloc _
  have LX : Below w.heap.size w X := by rw [← hX]; exact L2.alloc L2.size _
  have HX := Lib.hid hX
  have zBX := B2.lt
  have sL2 := L2.size
  have b0 := B2.cell 0
  have b1 := B2.cell 1
  have b2 := B2.cell 2
  have b3 := B2.cell 3
  have b4 := B2.cell 4
  have b5 := B2.cell 5
  have b6 := B2.cell 6
  have b7 := B2.cell 7
  have b8 := B2.cell 8
  have b9 := B2.cell 9
  have b10 := B2.cell 10
  have b11 := B2.cell 11
  have b12 := B2.cell 12
  have b13 := B2.cell 13
  have b14 := B2.cell 14
  simp at b0 b1 b2 b3 b4 b5 b6 b7 b8 b9 b10 b11 b12 b13 b14
  clear hX
  go_wp2_with fail
  rw [HX.out]
  clear HX b0 b1 b2 b3 b4 b5 b6 b7 b8 b9 b10 b11 b12 b13 b14
  refine (HTi.out X).mono ?_
  rintro e w3 ⟨rfl, b3⟩
  have zX := BX.lt
  have B3 := BX.below b3 zX
  have L3 := LX.trans (b3.mono (by omega))
  have sL3 := L3.size
  clear CX BX LX b3 L2 B2 A2
  have b0 := B3.cell 0
  have b1 := B3.cell 1
  have b2 := B3.cell 2
  have b3 := B3.cell 3
  have b4 := B3.cell 4
  have b5 := B3.cell 5
  have b6 := B3.cell 6
  have b7 := B3.cell 7
  have b8 := B3.cell 8
  have b9 := B3.cell 9
  have b10 := B3.cell 10
  have b11 := B3.cell 11
  have b12 := B3.cell 12
  have b13 := B3.cell 13
  have b14 := B3.cell 14
  simp at b0 b1 b2 b3 b4 b5 b6 b7 b8 b9 b10 b11 b12 b13 b14
  go_wp2_with fail
  refine (HEn.out _).mono ?_
  rintro e w4 ⟨rfl, b4⟩
  have L4 := L3.trans (b4.mono (by omega))
  clear b4
  have sL4 := L4.size
  go_wp2_with fail
  refine (works_any _).mono ?_
  rintro e w5 ⟨rfl, b5⟩
  go_wp2_with fail
  go_ret
  exact ⟨rfl, L4.trans (b5.mono (by omega))⟩
set_option maxRecDepth 100000 in
set_option maxHeartbeats 8000000 in
theorem law_no (la : Option Addr) (ln lc : Nat) (N F dmin dmax rho slew rnd win att sn hs fl qu bd : Int) (w : World) (HSu : RowKit.Hid (∀ w' : World, Calls Try.prog 16 #[.agg #[.int .i64 N, .slice la ln lc, .int .i64 F, .int .i64 dmin, .int .i64 dmax, .int .i64 rho, .int .i64 slew, .int .i64 rnd, .int .i64 win, .int .i64 att, .int .i64 sn, .int .i64 hs, .int .i64 fl, .int .i64 qu, .int .i64 bd]] w' fun e w'' => e = .returned (.tuple #[.agg #[.int .i64 N, .slice la ln lc, .int .i64 F, .int .i64 dmin, .int .i64 dmax, .int .i64 rho, .int .i64 slew, .int .i64 rnd, .int .i64 win, .int .i64 att, .int .i64 sn, .int .i64 hs, .int .i64 fl, .int .i64 qu, .int .i64 bd], .bool false]) ∧ Below w'.heap.size w' w'')) (HRef : RowKit.Hid (∀ w' : World, Calls Try.prog 17 #[.agg #[.int .i64 N, .slice la ln lc, .int .i64 F, .int .i64 dmin, .int .i64 dmax, .int .i64 rho, .int .i64 slew, .int .i64 rnd, .int .i64 win, .int .i64 att, .int .i64 sn, .int .i64 hs, .int .i64 fl, .int .i64 qu, .int .i64 bd]] w' fun e w'' => e = .returned (.tuple #[.agg #[.int .i64 N, .slice la ln lc, .int .i64 F, .int .i64 dmin, .int .i64 dmax, .int .i64 rho, .int .i64 slew, .int .i64 rnd, .int .i64 win, .int .i64 att, .int .i64 sn, .int .i64 hs, .int .i64 fl, .int .i64 qu, .int .i64 bd], .bool false]) ∧ Below w'.heap.size w' w'')) :
    Calls Try.prog 7 #[.agg #[.int .i64 N, .slice la ln lc, .int .i64 F, .int .i64 dmin, .int .i64 dmax, .int .i64 rho, .int .i64 slew, .int .i64 rnd, .int .i64 win, .int .i64 att, .int .i64 sn, .int .i64 hs, .int .i64 fl, .int .i64 qu, .int .i64 bd]] w fun e w' => e = .returned (.bool true) ∧ Below w.heap.size w w' := by
  have HTi := Lib.hid (fun w' => times_any la ln lc N F dmin dmax rho slew rnd win att sn hs fl qu bd w')
  obtain ⟨V, hV⟩ : ∃ V, w.alloc (.cells #[.int .i64 N, .slice la ln lc, .int .i64 F, .int .i64 dmin, .int .i64 dmax, .int .i64 rho, .int .i64 slew, .int .i64 rnd, .int .i64 win, .int .i64 att, .int .i64 sn, .int .i64 hs, .int .i64 fl, .int .i64 qu, .int .i64 bd] 24) = V := ⟨_, rfl⟩
  have bA : Blk V w.heap.size 24 #[.int .i64 N, .slice la ln lc, .int .i64 F, .int .i64 dmin, .int .i64 dmax, .int .i64 rho, .int .i64 slew, .int .i64 rnd, .int .i64 win, .int .i64 att, .int .i64 sn, .int .i64 hs, .int .i64 fl, .int .i64 qu, .int .i64 bd] := by rw [← hV]; exact Blk.new w _ _
  have lV : Below w.heap.size w V := by rw [← hV]; exact (Below.refl _ w).alloc (Nat.le_refl _) _
  have HV := Lib.hid hV
  clear hV
  go_enter Try.func7, Try.ntmps7
  go_wp2_with fail
  rw [HV.out]
  refine (HSu.out V).mono ?_
  rintro e w1 ⟨rfl, b1⟩
  have zV := bA.lt
  have A1 := bA.below b1 zV
  have L1 := lV.trans (b1.mono (by omega))
  clear bA lV HV b1
  obtain ⟨U, hU⟩ : ∃ U, w1.alloc (.cells #[.int .i64 N, .slice la ln lc, .int .i64 F, .int .i64 dmin, .int .i64 dmax, .int .i64 rho, .int .i64 slew, .int .i64 rnd, .int .i64 win, .int .i64 att, .int .i64 sn, .int .i64 hs, .int .i64 fl, .int .i64 qu, .int .i64 bd] 24) = U := ⟨_, rfl⟩
  have BU : Blk U w1.heap.size 24 #[.int .i64 N, .slice la ln lc, .int .i64 F, .int .i64 dmin, .int .i64 dmax, .int .i64 rho, .int .i64 slew, .int .i64 rnd, .int .i64 win, .int .i64 att, .int .i64 sn, .int .i64 hs, .int .i64 fl, .int .i64 qu, .int .i64 bd] := by rw [← hU]; exact Blk.new w1 _ _
  have AU : Blk U w.heap.size 24 #[.int .i64 N, .slice la ln lc, .int .i64 F, .int .i64 dmin, .int .i64 dmax, .int .i64 rho, .int .i64 slew, .int .i64 rnd, .int .i64 win, .int .i64 att, .int .i64 sn, .int .i64 hs, .int .i64 fl, .int .i64 qu, .int .i64 bd] := by rw [← hU]; exact A1.alloc _
  have LU : Below w.heap.size w U := by rw [← hU]; exact L1.alloc L1.size _
  have zB := BU.lt
  have zA := AU.lt
  have sL1 := L1.size
  have zA1 := A1.lt
  have HU := Lib.hid hU
  clear hU L1
  have a0 := A1.cell 0
  have a1 := A1.cell 1
  have a2 := A1.cell 2
  have a3 := A1.cell 3
  have a4 := A1.cell 4
  have a5 := A1.cell 5
  have a6 := A1.cell 6
  have a7 := A1.cell 7
  have a8 := A1.cell 8
  have a9 := A1.cell 9
  have a10 := A1.cell 10
  have a11 := A1.cell 11
  have a12 := A1.cell 12
  have a13 := A1.cell 13
  have a14 := A1.cell 14
  simp at a0 a1 a2 a3 a4 a5 a6 a7 a8 a9 a10 a11 a12 a13 a14
  go_wp2_with fail
  rw [HU.out]
  clear HU A1 a0 a1 a2 a3 a4 a5 a6 a7 a8 a9 a10 a11 a12 a13 a14
  refine (HRef.out U).mono ?_
  rintro e w2 ⟨rfl, b2⟩
  have A2 := AU.below b2 zA
  have B2 := BU.below b2 zB
  have L2 := LU.trans (b2.mono (by omega))
  clear AU BU LU b2
  obtain ⟨X, hX⟩ : ∃ X, w2.alloc (.cells #[.int .i64 N, .slice la ln lc, .int .i64 F, .int .i64 dmin, .int .i64 dmax, .int .i64 rho, .int .i64 slew, .int .i64 rnd, .int .i64 win, .int .i64 att, .int .i64 sn, .int .i64 hs, .int .i64 fl, .int .i64 qu, .int .i64 bd] 24) = X := ⟨_, rfl⟩
  have CX : Blk X w2.heap.size 24 #[.int .i64 N, .slice la ln lc, .int .i64 F, .int .i64 dmin, .int .i64 dmax, .int .i64 rho, .int .i64 slew, .int .i64 rnd, .int .i64 win, .int .i64 att, .int .i64 sn, .int .i64 hs, .int .i64 fl, .int .i64 qu, .int .i64 bd] := by rw [← hX]; exact Blk.new w2 _ _
  have BX : Blk X w1.heap.size 24 #[.int .i64 N, .slice la ln lc, .int .i64 F, .int .i64 dmin, .int .i64 dmax, .int .i64 rho, .int .i64 slew, .int .i64 rnd, .int .i64 win, .int .i64 att, .int .i64 sn, .int .i64 hs, .int .i64 fl, .int .i64 qu, .int .i64 bd] := by rw [← hX]; exact B2.alloc _
  have LX : Below w.heap.size w X := by rw [← hX]; exact L2.alloc L2.size _
  have HX := Lib.hid hX
  have zBX := B2.lt
  have sL2 := L2.size
  have b0 := B2.cell 0
  have b1 := B2.cell 1
  have b2 := B2.cell 2
  have b3 := B2.cell 3
  have b4 := B2.cell 4
  have b5 := B2.cell 5
  have b6 := B2.cell 6
  have b7 := B2.cell 7
  have b8 := B2.cell 8
  have b9 := B2.cell 9
  have b10 := B2.cell 10
  have b11 := B2.cell 11
  have b12 := B2.cell 12
  have b13 := B2.cell 13
  have b14 := B2.cell 14
  simp at b0 b1 b2 b3 b4 b5 b6 b7 b8 b9 b10 b11 b12 b13 b14
  clear hX
  go_wp2_with fail
  rw [HX.out]
  clear HX b0 b1 b2 b3 b4 b5 b6 b7 b8 b9 b10 b11 b12 b13 b14
  refine (HTi.out X).mono ?_
  rintro e w3 ⟨rfl, b3⟩
  have zX := BX.lt
  have B3 := BX.below b3 zX
  have L3 := LX.trans (b3.mono (by omega))
  have sL3 := L3.size
  clear CX BX LX b3 L2 B2 A2
  have b0 := B3.cell 0
  have b1 := B3.cell 1
  have b2 := B3.cell 2
  have b3 := B3.cell 3
  have b4 := B3.cell 4
  have b5 := B3.cell 5
  have b6 := B3.cell 6
  have b7 := B3.cell 7
  have b8 := B3.cell 8
  have b9 := B3.cell 9
  have b10 := B3.cell 10
  have b11 := B3.cell 11
  have b12 := B3.cell 12
  have b13 := B3.cell 13
  have b14 := B3.cell 14
  simp at b0 b1 b2 b3 b4 b5 b6 b7 b8 b9 b10 b11 b12 b13 b14
  have L4 := L3
  have sL4 := L4.size
  go_wp2_with fail
  refine (works_any _).mono ?_
  rintro e w5 ⟨rfl, b5⟩
  go_wp2_with fail
  go_ret
  exact ⟨rfl, L4.trans (b5.mono (by omega))⟩
theorem suggests_walk (la : Option Addr) (ln lc : Nat) (N F dmin dmax rho slew rnd win att sn hs fl qu bd : Int) (w : World) :
    Calls Try.prog 7 #[.agg #[.int .i64 N, .slice la ln lc, .int .i64 F, .int .i64 dmin, .int .i64 dmax, .int .i64 rho, .int .i64 slew, .int .i64 rnd, .int .i64 win, .int .i64 att, .int .i64 sn, .int .i64 hs, .int .i64 fl, .int .i64 qu, .int .i64 bd]] w fun e w' => e = .returned (.bool true) ∧ Below w.heap.size w w' := by
  rcases sug_some N dmin dmax rho slew 41 (Nat.le_refl _) with ⟨k, h1, h2, h3, h4⟩ | h1
  · have hS : SugEnds la ln lc N F dmin dmax rho slew rnd win att sn hs fl qu bd w (.returned (.tuple #[.agg #[.int .i64 N, .slice la ln lc, .int .i64 F, .int .i64 dmin, .int .i64 dmax, .int .i64 rho, .int .i64 slew, .int .i64 (pw k), .int .i64 (pw (k - 2)), .int .i64 (sD N dmin dmax rho slew k), .int .i64 sn, .int .i64 hs, .int .i64 fl, .int .i64 qu, .int .i64 bd], .bool true])) w := ⟨Below.refl _ _, .inl ⟨k, h1, by omega, h3, h4, rfl⟩⟩
    refine law_yes la ln lc N F dmin dmax rho slew rnd win att sn hs fl qu bd (pw k) (pw (k - 2)) (sD N dmin dmax rho slew k) w (Lib.hid fun w' => (suggest_any la ln lc N F dmin dmax rho slew rnd win att sn hs fl qu bd w').mono fun e w'' h => ⟨(sug_same la ln lc N F dmin dmax rho slew rnd win att sn hs fl qu bd h hS), h.1⟩) (Lib.hid fun w' => (refsuggest_any la ln lc N F dmin dmax rho slew rnd win att sn hs fl qu bd w').mono fun e w'' h => ⟨(sug_same la ln lc N F dmin dmax rho slew rnd win att sn hs fl qu bd h hS), h.1⟩) (Lib.hid fun w' => ?_)
    have := enough_any la ln lc N F dmin dmax rho slew (pw k) (pw (k - 2)) (sD N dmin dmax rho slew k) sn hs fl qu bd w'
    rw [show enoughB N dmin dmax rho slew (pw k) (pw (k - 2)) (sD N dmin dmax rho slew k) = true from h3] at this
    exact this
  · have hS : SugEnds la ln lc N F dmin dmax rho slew rnd win att sn hs fl qu bd w (.returned (.tuple #[.agg #[.int .i64 N, .slice la ln lc, .int .i64 F, .int .i64 dmin, .int .i64 dmax, .int .i64 rho, .int .i64 slew, .int .i64 rnd, .int .i64 win, .int .i64 att, .int .i64 sn, .int .i64 hs, .int .i64 fl, .int .i64 qu, .int .i64 bd], .bool false])) w := ⟨Below.refl _ _, .inr ⟨fun j a b => h1 j a (by omega), rfl⟩⟩
    exact law_no la ln lc N F dmin dmax rho slew rnd win att sn hs fl qu bd w (Lib.hid fun w' => (suggest_any la ln lc N F dmin dmax rho slew rnd win att sn hs fl qu bd w').mono fun e w'' h => ⟨(sug_same la ln lc N F dmin dmax rho slew rnd win att sn hs fl qu bd h hS), h.1⟩) (Lib.hid fun w' => (refsuggest_any la ln lc N F dmin dmax rho slew rnd win att sn hs fl qu bd w').mono fun e w'' h => ⟨(sug_same la ln lc N F dmin dmax rho slew rnd win att sn hs fl qu bd h hS), h.1⟩)
end Go.Proofs.Ytpbabpbinojodaa.Bound
