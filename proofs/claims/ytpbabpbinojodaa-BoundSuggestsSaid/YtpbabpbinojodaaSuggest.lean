/- Which periods bound.Suggest tells, walked. -/
import Derived.Test.YtpbabpbinojodaaBoundEnoughC
import Derived.Test.YtpbabpbinojodaaFlat
namespace Go.Proofs.Ytpbabpbinojodaa.Bound
open Go.Proofs.Ytpbabpbinojodaa.Arith Go.Proofs.Ytpbabpbinojodaa.Span Go.Proofs.Ytpbabpbinojodaa.Hops
open Go.RowKit (wrap64 Below intOf)
open Go.Proofs.Ytpbabpbinojodaa.Heap Go.Proofs.Ytpbabpbinojodaa.RF
set_option linter.unusedVariables false
set_option linter.unusedSimpArgs false

/-- The periods that are tried, and whether they are wide enough. -/
def pw (k : Nat) : Int := ((2 ^ k : Nat) : Int)
def sD (N dmin dmax rho slew : Int) (k : Nat) : Int := 2 * nDelta N dmin dmax rho slew (pw k) (pw (k - 2))
def sE (N dmin dmax rho slew : Int) (k : Nat) : Bool := enoughB N dmin dmax rho slew (pw k) (pw (k - 2)) (sD N dmin dmax rho slew k)
def baseB (N dmin dmax rho slew : Int) : Bool := smallB N dmin dmax && goodR rho slew
theorem pw_bd {k : Nat} (h : 12 ≤ k ∧ k ≤ 40) : 1024 ≤ pw (k - 2) ∧ pw (k - 2) ≤ 274877906944 ∧ pw k = 4 * pw (k - 2) := by
  obtain ⟨j, rfl⟩ : ∃ j, k = j + 2 := ⟨k - 2, by omega⟩
  have h1 : 2 ^ 10 ≤ 2 ^ j := Nat.pow_le_pow_right (by omega) (by omega)
  have h2 : 2 ^ j ≤ 2 ^ 38 := Nat.pow_le_pow_right (by omega) (by omega)
  have h3 : 2 ^ (j + 2) = 4 * 2 ^ j := by rw [Nat.pow_add]; omega
  unfold pw
  rw [Nat.add_sub_cancel, h3]
  omega
theorem off_put {A B : World} {R : Nat} (h : Off (fun k => k = R) A B) (i : Nat) (u : Value) : Off (fun k => k = R) A (B.setCell ⟨R, i, none⟩ u) := Off.setCell (p := ⟨R, i, none⟩) h (.inl rfl) u
theorem pw_wrap {k : Nat} (h : 12 ≤ k ∧ k ≤ 40) : wrap64 ((2 : Int) ^ k) = pw k := by
  have hb := pw_bd h
  have e : ((2 : Int) ^ k) = pw k := by unfold pw; simp
  rw [e]
  simp (disch := omega) only [IntWalk.wrap64_in]
theorem pw_wrap2 {k : Nat} (h : 12 ≤ k ∧ k ≤ 40) : wrap64 ((2 : Int) ^ (k - 2)) = pw (k - 2) := by
  have hb := pw_bd h
  have e : ((2 : Int) ^ (k - 2)) = pw (k - 2) := by unfold pw; simp
  rw [e]
  simp (disch := omega) only [IntWalk.wrap64_in]
theorem good_base {N dmin dmax rho slew : Int} {k : Nat} (h : 12 ≤ k ∧ k ≤ 40) : goodB N dmin dmax rho slew (pw k) (pw (k - 2)) 1 = baseB N dmin dmax rho slew := by
  have hb := pw_bd h
  have h1 : perB (pw k) = true := perB_iff.2 (by omega)
  have h2 : perB (pw (k - 2)) = true := perB_iff.2 (by omega)
  have h3 : perB 1 = true := perB_iff.2 (by omega)
  unfold goodB baseB
  rw [h1, h2, h3]; simp
theorem sE_base {N dmin dmax rho slew : Int} {k : Nat} (h : baseB N dmin dmax rho slew = false) : sE N dmin dmax rho slew k = false := by
  unfold sE enoughB goodB
  unfold baseB at h
  rw [h]; simp
/-- What a suggestion comes to. -/
def SugEnds (la : Option Addr) (ln lc : Nat) (N F dmin dmax rho slew rnd win att sn hs fl qu bd : Int) (w : World) (e : Ending) (w' : World) : Prop :=
  Below w.heap.size w w' ∧ ((∃ k : Nat, 12 ≤ k ∧ k ≤ 40 ∧ sE N dmin dmax rho slew k = true ∧ (∀ j : Nat, 12 ≤ j → j < k → sE N dmin dmax rho slew j = false) ∧ e = .returned (.tuple #[.agg #[.int .i64 N, .slice la ln lc, .int .i64 F, .int .i64 dmin, .int .i64 dmax, .int .i64 rho, .int .i64 slew, .int .i64 (pw k), .int .i64 (pw (k - 2)), .int .i64 (sD N dmin dmax rho slew k), .int .i64 sn, .int .i64 hs, .int .i64 fl, .int .i64 qu, .int .i64 bd], .bool true])) ∨
    ((∀ j : Nat, 12 ≤ j → j ≤ 40 → sE N dmin dmax rho slew j = false) ∧ e = .returned (.tuple #[.agg #[.int .i64 N, .slice la ln lc, .int .i64 F, .int .i64 dmin, .int .i64 dmax, .int .i64 rho, .int .i64 slew, .int .i64 rnd, .int .i64 win, .int .i64 att, .int .i64 sn, .int .i64 hs, .int .i64 fl, .int .i64 qu, .int .i64 bd], .bool false])))
set_option maxRecDepth 100000 in
set_option maxHeartbeats 8000000 in
theorem suggest_any (la : Option Addr) (ln lc : Nat) (N F dmin dmax rho slew rnd win att sn hs fl qu bd : Int) (w : World) :
    Calls Try.prog 16 #[.agg #[.int .i64 N, .slice la ln lc, .int .i64 F, .int .i64 dmin, .int .i64 dmax, .int .i64 rho, .int .i64 slew, .int .i64 rnd, .int .i64 win, .int .i64 att, .int .i64 sn, .int .i64 hs, .int .i64 fl, .int .i64 qu, .int .i64 bd]] w fun e w' => SugEnds la ln lc N F dmin dmax rho slew rnd win att sn hs fl qu bd w e w' := by
  obtain ⟨V, hV⟩ : ∃ V, (w.alloc (.cells #[.int .i64 N, .slice la ln lc, .int .i64 F, .int .i64 dmin, .int .i64 dmax, .int .i64 rho, .int .i64 slew, .int .i64 rnd, .int .i64 win, .int .i64 att, .int .i64 sn, .int .i64 hs, .int .i64 fl, .int .i64 qu, .int .i64 bd] 24)).alloc (.cells #[.int .i64 0, .slice none 0 0, .int .i64 0, .int .i64 0, .int .i64 0, .int .i64 0, .int .i64 0, .int .i64 0, .int .i64 0, .int .i64 0, .int .i64 0, .int .i64 0, .int .i64 0, .int .i64 0, .int .i64 0] 24) = V := ⟨_, rfl⟩
  have bA : Blk V w.heap.size 24 #[.int .i64 N, .slice la ln lc, .int .i64 F, .int .i64 dmin, .int .i64 dmax, .int .i64 rho, .int .i64 slew, .int .i64 rnd, .int .i64 win, .int .i64 att, .int .i64 sn, .int .i64 hs, .int .i64 fl, .int .i64 qu, .int .i64 bd] := by rw [← hV]; exact (Blk.new w _ _).alloc _
  have bR : Blk V (w.heap.size + 1) 24 #[.int .i64 0, .slice none 0 0, .int .i64 0, .int .i64 0, .int .i64 0, .int .i64 0, .int .i64 0, .int .i64 0, .int .i64 0, .int .i64 0, .int .i64 0, .int .i64 0, .int .i64 0, .int .i64 0, .int .i64 0] := by
    rw [← hV]
    have := Blk.new (w.alloc (.cells #[.int .i64 N, .slice la ln lc, .int .i64 F, .int .i64 dmin, .int .i64 dmax, .int .i64 rho, .int .i64 slew, .int .i64 rnd, .int .i64 win, .int .i64 att, .int .i64 sn, .int .i64 hs, .int .i64 fl, .int .i64 qu, .int .i64 bd] 24)) 24 #[.int .i64 0, .slice none 0 0, .int .i64 0, .int .i64 0, .int .i64 0, .int .i64 0, .int .i64 0, .int .i64 0, .int .i64 0, .int .i64 0, .int .i64 0, .int .i64 0, .int .i64 0, .int .i64 0, .int .i64 0]
    rwa [show (w.alloc (.cells #[.int .i64 N, .slice la ln lc, .int .i64 F, .int .i64 dmin, .int .i64 dmax, .int .i64 rho, .int .i64 slew, .int .i64 rnd, .int .i64 win, .int .i64 att, .int .i64 sn, .int .i64 hs, .int .i64 fl, .int .i64 qu, .int .i64 bd] 24)).heap.size = w.heap.size + 1 by simp] at this
  have lV : Below w.heap.size w V := by rw [← hV]; exact ((Below.refl _ w).alloc (Nat.le_refl _) _).alloc (by simp) _
  have HV := Lib.hid hV
  clear hV
  go_enter Try.func16, Try.ntmps16
  go_wp2_with fail
  rw [HV.out]
  clear HV
  go_loopw [4] (fun v4 wr => ∃ k : Nat, v4 = .int .i64 k ∧ 12 ≤ k ∧ k ≤ 41 ∧ RowKit.Hid (∀ j : Nat, 12 ≤ j → j < k → sE N dmin dmax rho slew j = false) ∧ Blk wr w.heap.size 24 #[.int .i64 N, .slice la ln lc, .int .i64 F, .int .i64 dmin, .int .i64 dmax, .int .i64 rho, .int .i64 slew, .int .i64 rnd, .int .i64 win, .int .i64 att, .int .i64 sn, .int .i64 hs, .int .i64 fl, .int .i64 qu, .int .i64 bd] ∧ Blk wr (w.heap.size + 1) 24 #[.int .i64 0, .slice none 0 0, .int .i64 0, .int .i64 0, .int .i64 0, .int .i64 0, .int .i64 0, .int .i64 0, .int .i64 0, .int .i64 0, .int .i64 0, .int .i64 0, .int .i64 0, .int .i64 0, .int .i64 0] ∧ Below w.heap.size w wr) (fun v4 _ => match v4 with | .int _ k => 41 - k.toNat | _ => 0)
  case atStart => exact ⟨12, rfl, by omega, by omega, Lib.hid (fun j h1 h2 => by omega), bA, bR, lV⟩
  case round =>
    clear bA bR lV
    obtain ⟨k, rfl, hk1, hk2, hE, bA, bR, lR⟩ := hrel
    have a0 := bA.cell 0
    have a1 := bA.cell 1
    have a2 := bA.cell 2
    have a3 := bA.cell 3
    have a4 := bA.cell 4
    have a5 := bA.cell 5
    have a6 := bA.cell 6
    have a7 := bA.cell 7
    have a8 := bA.cell 8
    have a9 := bA.cell 9
    have a10 := bA.cell 10
    have a11 := bA.cell 11
    have a12 := bA.cell 12
    have a13 := bA.cell 13
    have a14 := bA.cell 14
    simp at a0 a1 a2 a3 a4 a5 a6 a7 a8 a9 a10 a11 a12 a13 a14
    by_cases hlt : k ≤ 40
    · have l1 : (12 : Int) ≤ (k : Int) := by omega
      have l2 : (k : Int) ≤ 40 := by omega
      obtain ⟨X, hX⟩ : ∃ X, wr.alloc (.cells #[.int .i64 N, .slice la ln lc, .int .i64 F, .int .i64 dmin, .int .i64 dmax, .int .i64 rho, .int .i64 slew, .int .i64 rnd, .int .i64 win, .int .i64 att, .int .i64 sn, .int .i64 hs, .int .i64 fl, .int .i64 qu, .int .i64 bd] 24) = X := ⟨_, rfl⟩
      have xD : Blk X wr.heap.size 24 #[.int .i64 N, .slice la ln lc, .int .i64 F, .int .i64 dmin, .int .i64 dmax, .int .i64 rho, .int .i64 slew, .int .i64 rnd, .int .i64 win, .int .i64 att, .int .i64 sn, .int .i64 hs, .int .i64 fl, .int .i64 qu, .int .i64 bd] := by rw [← hX]; exact Blk.new wr _ _
      have xA : Blk X w.heap.size 24 #[.int .i64 N, .slice la ln lc, .int .i64 F, .int .i64 dmin, .int .i64 dmax, .int .i64 rho, .int .i64 slew, .int .i64 rnd, .int .i64 win, .int .i64 att, .int .i64 sn, .int .i64 hs, .int .i64 fl, .int .i64 qu, .int .i64 bd] := by rw [← hX]; exact bA.alloc _
      have xR : Blk X (w.heap.size + 1) 24 #[.int .i64 0, .slice none 0 0, .int .i64 0, .int .i64 0, .int .i64 0, .int .i64 0, .int .i64 0, .int .i64 0, .int .i64 0, .int .i64 0, .int .i64 0, .int .i64 0, .int .i64 0, .int .i64 0, .int .i64 0] := by rw [← hX]; exact bR.alloc _
      have xL : Below w.heap.size w X := by rw [← hX]; exact lR.alloc lR.size _
      have HX := Lib.hid hX
      clear hX
      go_wp2_with fail
      rw [HX.out]
      have d7 := xD.cell 7
      have d8 := xD.cell 8
      have d9 := xD.cell 9
      have f7 := xD.frozen 7
      have f8 := xD.frozen 8
      have f9 := xD.frozen 9
      simp at d7 d8 d9
      obtain ⟨P, hP⟩ : ∃ P, pw k = P := ⟨_, rfl⟩
      obtain ⟨Q, hQ⟩ : ∃ Q, pw (k - 2) = Q := ⟨_, rfl⟩
      have hb := pw_bd (k := k) ⟨hk1, hlt⟩
      have hgb := good_base (N := N) (dmin := dmin) (dmax := dmax) (rho := rho) (slew := slew) (k := k) ⟨hk1, hlt⟩
      have w1 : wrap64 ((2 : Int) ^ k) = P := by rw [← hP]; exact pw_wrap ⟨hk1, hlt⟩
      have w2 : wrap64 ((2 : Int) ^ (k - 2)) = Q := by rw [← hQ]; exact pw_wrap2 ⟨hk1, hlt⟩
      rw [hP, hQ] at hb hgb
      have HPQ := Lib.hid hb
      clear hb
      have hsE : sE N dmin dmax rho slew k = enoughB N dmin dmax rho slew P Q (2 * nDelta N dmin dmax rho slew P Q) := by unfold sE sD; rw [hP, hQ]
      have HsE := Lib.hid hsE
      have Hgb := Lib.hid hgb
      have HP := Lib.hid hP
      have HQ := Lib.hid hQ
      clear hP hQ hsE hgb
      go_region
      clear d7 d8 d9 f7 f8 f9
      obtain ⟨Y, hY⟩ : ∃ Y, (((X.setCell ⟨wr.heap.size, 7, none⟩ (.int .i64 P)).setCell ⟨wr.heap.size, 8, none⟩ (.int .i64 Q)).setCell ⟨wr.heap.size, 9, none⟩ (.int .i64 1)).drew = Y := ⟨_, rfl⟩
      have zD := xD.lt
      have yo : Off (fun j => j = wr.heap.size) X Y := by rw [← hY]; exact Off.drew (off_put (off_put (off_put (Off.refl _ X) _ _) _ _) _ _)
      have yD : Blk Y wr.heap.size 24 #[.int .i64 N, .slice la ln lc, .int .i64 F, .int .i64 dmin, .int .i64 dmax, .int .i64 rho, .int .i64 slew, .int .i64 P, .int .i64 Q, .int .i64 1, .int .i64 sn, .int .i64 hs, .int .i64 fl, .int .i64 qu, .int .i64 bd] := by
        rw [← hY]
        have := ((xD.put 7 (.int .i64 P)).put 8 (.int .i64 Q)).put 9 (.int .i64 1)
        simp at this
        exact this
      have za := bA.lt
      have zr := bR.lt
      have yA := xA.off yo (by omega)
      have yR := xR.off yo (by omega)
      have yL : Below w.heap.size w Y := by rw [← hY]; exact (((xL.setCell (p := ⟨wr.heap.size, 7, none⟩) (by show w.heap.size ≤ wr.heap.size; omega) _).setCell (p := ⟨wr.heap.size, 8, none⟩) (by show w.heap.size ≤ wr.heap.size; omega) _).setCell (p := ⟨wr.heap.size, 9, none⟩) (by show w.heap.size ≤ wr.heap.size; omega) _).drew
      have HY := Lib.hid hY
      have zY : wr.heap.size < Y.heap.size := yD.lt
      have szX : X.heap.size = wr.heap.size + 1 := by rw [← HX.out]; simp
      clear hY yo xD xA xR xL bA bR lR a0 a1 a2 a3 a4 a5 a6 a7 a8 a9 a10 a11 a12 a13 a14
      rw [HY.out]
      clear HY HX
      have d0 := yD.cell 0
      have d1 := yD.cell 1
      have d2 := yD.cell 2
      have d3 := yD.cell 3
      have d4 := yD.cell 4
      have d5 := yD.cell 5
      have d6 := yD.cell 6
      have d7 := yD.cell 7
      have d8 := yD.cell 8
      have d9 := yD.cell 9
      have d10 := yD.cell 10
      have d11 := yD.cell 11
      have d12 := yD.cell 12
      have d13 := yD.cell 13
      have d14 := yD.cell 14
      simp at d0 d1 d2 d3 d4 d5 d6 d7 d8 d9 d10 d11 d12 d13 d14
      rcases hbase : baseB N dmin dmax rho slew with _ | _
      · rw [hbase] at Hgb
        go_wp2_with fail
        refine (of_no la ln lc N F dmin dmax rho slew P Q 1 sn hs fl qu bd Y Hgb.out).mono ?_
        rintro e y2 ⟨rfl, o2⟩
        have Fin := Lib.hid (fun w' (h : Below w.heap.size w w') => (show SugEnds la ln lc N F dmin dmax rho slew rnd win att sn hs fl qu bd w (.returned (.tuple #[.agg #[.int .i64 N, .slice la ln lc, .int .i64 F, .int .i64 dmin, .int .i64 dmax, .int .i64 rho, .int .i64 slew, .int .i64 rnd, .int .i64 win, .int .i64 att, .int .i64 sn, .int .i64 hs, .int .i64 fl, .int .i64 qu, .int .i64 bd], .bool false])) w' from ⟨h, .inr ⟨fun j _ _ => sE_base hbase, rfl⟩⟩))
        have A2 := yA.below o2 (by omega)
        have R2 := yR.below o2 (by omega)
        have L2 := yL.trans (o2.mono (by omega))
        have zA2 := A2.lt
        have zR2 := R2.lt
        clear d0 d1 d2 d3 d4 d5 d6 d7 d8 d9 d10 d11 d12 d13 d14 yA yR yD yL o2
        have a0 := A2.cell 0
        have a1 := A2.cell 1
        have a2 := A2.cell 2
        have a3 := A2.cell 3
        have a4 := A2.cell 4
        have a5 := A2.cell 5
        have a6 := A2.cell 6
        have a7 := A2.cell 7
        have a8 := A2.cell 8
        have a9 := A2.cell 9
        have a10 := A2.cell 10
        have a11 := A2.cell 11
        have a12 := A2.cell 12
        have a13 := A2.cell 13
        have a14 := A2.cell 14
        simp at a0 a1 a2 a3 a4 a5 a6 a7 a8 a9 a10 a11 a12 a13 a14
        have r0 := R2.cell 0
        have r1 := R2.cell 1
        have r2 := R2.cell 2
        have r3 := R2.cell 3
        have r4 := R2.cell 4
        have r5 := R2.cell 5
        have r6 := R2.cell 6
        have r7 := R2.cell 7
        have r8 := R2.cell 8
        have r9 := R2.cell 9
        have r10 := R2.cell 10
        have r11 := R2.cell 11
        have r12 := R2.cell 12
        have r13 := R2.cell 13
        have r14 := R2.cell 14
        simp at r0 r1 r2 r3 r4 r5 r6 r7 r8 r9 r10 r11 r12 r13 r14
        have s0 := R2.frozen 0
        have s1 := R2.frozen 1
        have s2 := R2.frozen 2
        have s3 := R2.frozen 3
        have s4 := R2.frozen 4
        have s5 := R2.frozen 5
        have s6 := R2.frozen 6
        have s7 := R2.frozen 7
        have s8 := R2.frozen 8
        have s9 := R2.frozen 9
        have s10 := R2.frozen 10
        have s11 := R2.frozen 11
        have s12 := R2.frozen 12
        have s13 := R2.frozen 13
        have s14 := R2.frozen 14
        go_wp2_with fail
        refine bodyPost_ret (results_cell_tmp (b := w.heap.size + 1) Try.results16 rfl (d := _) rfl (by kernel_rfl) (by kernel_rfl) (range15 (c0 := .int .i64 N) (c1 := .slice la ln lc) (c2 := .int .i64 F) (c3 := .int .i64 dmin) (c4 := .int .i64 dmax) (c5 := .int .i64 rho) (c6 := .int .i64 slew) (c7 := .int .i64 rnd) (c8 := .int .i64 win) (c9 := .int .i64 att) (c10 := .int .i64 sn) (c11 := .int .i64 hs) (c12 := .int .i64 fl) (c13 := .int .i64 qu) (c14 := .int .i64 bd) ?_ ?_ ?_ ?_ ?_ ?_ ?_ ?_ ?_ ?_ ?_ ?_ ?_ ?_ ?_)) rfl ?_
        rotate_left 15
        · refine Fin.out _ ?_; exact ((((((((((((((((L2.setCell (p := ⟨w.heap.size + 1, 0, none⟩) (by show w.heap.size ≤ w.heap.size + 1; omega) _).setCell (p := ⟨w.heap.size + 1, 1, none⟩) (by show w.heap.size ≤ w.heap.size + 1; omega) _).setCell (p := ⟨w.heap.size + 1, 2, none⟩) (by show w.heap.size ≤ w.heap.size + 1; omega) _).setCell (p := ⟨w.heap.size + 1, 3, none⟩) (by show w.heap.size ≤ w.heap.size + 1; omega) _).setCell (p := ⟨w.heap.size + 1, 4, none⟩) (by show w.heap.size ≤ w.heap.size + 1; omega) _).setCell (p := ⟨w.heap.size + 1, 5, none⟩) (by show w.heap.size ≤ w.heap.size + 1; omega) _).setCell (p := ⟨w.heap.size + 1, 6, none⟩) (by show w.heap.size ≤ w.heap.size + 1; omega) _).setCell (p := ⟨w.heap.size + 1, 7, none⟩) (by show w.heap.size ≤ w.heap.size + 1; omega) _).setCell (p := ⟨w.heap.size + 1, 8, none⟩) (by show w.heap.size ≤ w.heap.size + 1; omega) _).setCell (p := ⟨w.heap.size + 1, 9, none⟩) (by show w.heap.size ≤ w.heap.size + 1; omega) _).setCell (p := ⟨w.heap.size + 1, 10, none⟩) (by show w.heap.size ≤ w.heap.size + 1; omega) _).setCell (p := ⟨w.heap.size + 1, 11, none⟩) (by show w.heap.size ≤ w.heap.size + 1; omega) _).setCell (p := ⟨w.heap.size + 1, 12, none⟩) (by show w.heap.size ≤ w.heap.size + 1; omega) _).setCell (p := ⟨w.heap.size + 1, 13, none⟩) (by show w.heap.size ≤ w.heap.size + 1; omega) _).setCell (p := ⟨w.heap.size + 1, 14, none⟩) (by show w.heap.size ≤ w.heap.size + 1; omega) _)).alloc (by simp [size_setCell]; omega) _
        all_goals go_simp
      · rw [hbase] at Hgb
        obtain ⟨fast, slow, link, rd, agree, start, eps, most, cold, rough, delta, down, join, Heq, Hbd, Hof⟩ := of_good la ln lc N F dmin dmax rho slew P Q 1 sn hs fl qu bd Hgb.out
        have hdl : nDelta N dmin dmax rho slew P Q = delta := Heq.out.2.2.2.2.2.2.2.2.2.2.1
        have HsE2 := Lib.hid (HsE.out.trans (by rw [hdl] : _ = enoughB N dmin dmax rho slew P Q (2 * delta)))
        have HsD := Lib.hid (show sD N dmin dmax rho slew k = 2 * delta by unfold sD; rw [HP.out, HQ.out, hdl])
        have hd0 : 0 ≤ delta ∧ delta ≤ 200000000000000000 := Hbd.2.2.2.2.2.1
        have hm : wrap64 (2 * delta) = 2 * delta := by simp (disch := omega) only [IntWalk.wrap64_in]
        have HOf := Lib.hid (Hof Y)
        clear hdl Heq Hbd Hof HsE hd0
        go_wp2_with fail
        refine HOf.out.mono ?_
        rintro e y2 ⟨rfl, o2⟩
        have A2 := yA.below o2 (by omega)
        have R2 := yR.below o2 (by omega)
        have D2 := yD.below o2 (by omega)
        have L2 := yL.trans (o2.mono (by omega))
        have zA2 := A2.lt
        have zR2 := R2.lt
        have zD2 := D2.lt
        clear d0 d1 d2 d3 d4 d5 d6 d7 d8 d9 d10 d11 d12 d13 d14 yA yR yD yL o2 HOf
        have d0 := D2.cell 0
        have d1 := D2.cell 1
        have d2 := D2.cell 2
        have d3 := D2.cell 3
        have d4 := D2.cell 4
        have d5 := D2.cell 5
        have d6 := D2.cell 6
        have d7 := D2.cell 7
        have d8 := D2.cell 8
        have d9 := D2.cell 9
        have d10 := D2.cell 10
        have d11 := D2.cell 11
        have d12 := D2.cell 12
        have d13 := D2.cell 13
        have d14 := D2.cell 14
        simp at d0 d1 d2 d3 d4 d5 d6 d7 d8 d9 d10 d11 d12 d13 d14
        have f9 := D2.frozen 9
        obtain ⟨eb, heb⟩ : ∃ b, enoughB N dmin dmax rho slew P Q (2 * delta) = b := ⟨_, rfl⟩
        have HEn := Lib.hid (fun w' => (show Calls Try.prog 14 #[.agg #[.int .i64 N, .slice la ln lc, .int .i64 F, .int .i64 dmin, .int .i64 dmax, .int .i64 rho, .int .i64 slew, .int .i64 P, .int .i64 Q, .int .i64 (2 * delta), .int .i64 sn, .int .i64 hs, .int .i64 fl, .int .i64 qu, .int .i64 bd]] w' fun e w'' => e = .returned (.bool eb) ∧ Below w'.heap.size w' w'' from by rw [← heb]; exact enough_any _ _ _ _ _ _ _ _ _ _ _ _ _ _ _ _ _ w'))
        have HsE3 := Lib.hid (HsE2.out.trans heb)
        clear heb HsE2
        go_wp2_with fail
        obtain ⟨U, hU⟩ : ∃ U, (y2.setCell ⟨wr.heap.size, 9, none⟩ (.int .i64 (2 * delta))).alloc (.cells #[.int .i64 (N - 1), .int .i64 fast, .int .i64 slow, .int .i64 link, .int .i64 rd, .int .i64 agree, .int .i64 start, .int .i64 eps, .int .i64 most, .int .i64 cold, .int .i64 rough, .int .i64 delta, .int .i64 down, .int .i64 join] 26) = U := ⟨_, rfl⟩
        rw [hU]
        have DU : Blk U wr.heap.size 24 #[.int .i64 N, .slice la ln lc, .int .i64 F, .int .i64 dmin, .int .i64 dmax, .int .i64 rho, .int .i64 slew, .int .i64 P, .int .i64 Q, .int .i64 (2 * delta), .int .i64 sn, .int .i64 hs, .int .i64 fl, .int .i64 qu, .int .i64 bd] := by
          rw [← hU]
          have := D2.put 9 (.int .i64 (2 * delta))
          simp at this
          exact this.alloc _
        have AU : Blk U w.heap.size 24 #[.int .i64 N, .slice la ln lc, .int .i64 F, .int .i64 dmin, .int .i64 dmax, .int .i64 rho, .int .i64 slew, .int .i64 rnd, .int .i64 win, .int .i64 att, .int .i64 sn, .int .i64 hs, .int .i64 fl, .int .i64 qu, .int .i64 bd] := by rw [← hU]; exact (A2.far (p := ⟨wr.heap.size, 9, none⟩) (by show w.heap.size ≠ wr.heap.size; omega) _).alloc _
        have RU : Blk U (w.heap.size + 1) 24 #[.int .i64 0, .slice none 0 0, .int .i64 0, .int .i64 0, .int .i64 0, .int .i64 0, .int .i64 0, .int .i64 0, .int .i64 0, .int .i64 0, .int .i64 0, .int .i64 0, .int .i64 0, .int .i64 0, .int .i64 0] := by rw [← hU]; exact (R2.far (p := ⟨wr.heap.size, 9, none⟩) (by show w.heap.size + 1 ≠ wr.heap.size; omega) _).alloc _
        have LU : Below w.heap.size w U := by rw [← hU]; exact (L2.setCell (p := ⟨wr.heap.size, 9, none⟩) (by show w.heap.size ≤ wr.heap.size; omega) _).alloc (by simp [size_setCell]; omega) _
        clear hU
        refine (HEn.out U).mono ?_
        rintro e y3 ⟨rfl, o3⟩
        have zDU := DU.lt
        have zAU := AU.lt
        have zRU := RU.lt
        have D3 := DU.below o3 zDU
        have A3 := AU.below o3 zAU
        have R3 := RU.below o3 zRU
        have L3 := LU.trans (o3.mono (by omega))
        have zD3 := D3.lt
        have zR3 := R3.lt
        clear d0 d1 d2 d3 d4 d5 d6 d7 d8 d9 d10 d11 d12 d13 d14 f9 A2 R2 D2 L2 DU AU RU LU o3 HEn w1 w2 hm
        rcases heb : eb with _ | _
        · have HsE4 := Lib.hid (HsE3.out.trans heb)
          subst heb
          go_wp2_with fail
          go_round
          case rel => exact ⟨k + 1, rfl, by omega, by omega, Lib.hid (fun j h1 h2 => by
            rcases Nat.lt_succ_iff_lt_or_eq.1 h2 with c | c
            · exact hE.out j h1 c
            · subst c; exact HsE4.out), A3, R3, L3⟩
          case measure => simp; omega
        · have HsE4 := Lib.hid (HsE3.out.trans heb)
          subst heb
          have Fin := Lib.hid (fun w' (h : Below w.heap.size w w') => (show SugEnds la ln lc N F dmin dmax rho slew rnd win att sn hs fl qu bd w (.returned (.tuple #[.agg #[.int .i64 N, .slice la ln lc, .int .i64 F, .int .i64 dmin, .int .i64 dmax, .int .i64 rho, .int .i64 slew, .int .i64 P, .int .i64 Q, .int .i64 (2 * delta), .int .i64 sn, .int .i64 hs, .int .i64 fl, .int .i64 qu, .int .i64 bd], .bool true])) w' from ⟨h, .inl ⟨k, hk1, hlt, HsE4.out, fun j h1 h2 => hE.out j h1 h2, by rw [HP.out, HQ.out, HsD.out]⟩⟩))
          have d0 := D3.cell 0
          have d1 := D3.cell 1
          have d2 := D3.cell 2
          have d3 := D3.cell 3
          have d4 := D3.cell 4
          have d5 := D3.cell 5
          have d6 := D3.cell 6
          have d7 := D3.cell 7
          have d8 := D3.cell 8
          have d9 := D3.cell 9
          have d10 := D3.cell 10
          have d11 := D3.cell 11
          have d12 := D3.cell 12
          have d13 := D3.cell 13
          have d14 := D3.cell 14
          simp at d0 d1 d2 d3 d4 d5 d6 d7 d8 d9 d10 d11 d12 d13 d14
          have r0 := R3.cell 0
          have r1 := R3.cell 1
          have r2 := R3.cell 2
          have r3 := R3.cell 3
          have r4 := R3.cell 4
          have r5 := R3.cell 5
          have r6 := R3.cell 6
          have r7 := R3.cell 7
          have r8 := R3.cell 8
          have r9 := R3.cell 9
          have r10 := R3.cell 10
          have r11 := R3.cell 11
          have r12 := R3.cell 12
          have r13 := R3.cell 13
          have r14 := R3.cell 14
          simp at r0 r1 r2 r3 r4 r5 r6 r7 r8 r9 r10 r11 r12 r13 r14
          have s0 := R3.frozen 0
          have s1 := R3.frozen 1
          have s2 := R3.frozen 2
          have s3 := R3.frozen 3
          have s4 := R3.frozen 4
          have s5 := R3.frozen 5
          have s6 := R3.frozen 6
          have s7 := R3.frozen 7
          have s8 := R3.frozen 8
          have s9 := R3.frozen 9
          have s10 := R3.frozen 10
          have s11 := R3.frozen 11
          have s12 := R3.frozen 12
          have s13 := R3.frozen 13
          have s14 := R3.frozen 14
          go_wp2_with fail
          refine bodyPost_ret (results_cell_tmp (b := w.heap.size + 1) Try.results16 rfl (d := _) rfl (by kernel_rfl) (by kernel_rfl) (range15 (c0 := .int .i64 N) (c1 := .slice la ln lc) (c2 := .int .i64 F) (c3 := .int .i64 dmin) (c4 := .int .i64 dmax) (c5 := .int .i64 rho) (c6 := .int .i64 slew) (c7 := .int .i64 P) (c8 := .int .i64 Q) (c9 := .int .i64 (2 * delta)) (c10 := .int .i64 sn) (c11 := .int .i64 hs) (c12 := .int .i64 fl) (c13 := .int .i64 qu) (c14 := .int .i64 bd) ?_ ?_ ?_ ?_ ?_ ?_ ?_ ?_ ?_ ?_ ?_ ?_ ?_ ?_ ?_)) rfl ?_
          rotate_left 15
          · refine Fin.out _ ?_; exact (((((((((((((((L3.setCell (p := ⟨w.heap.size + 1, 0, none⟩) (by show w.heap.size ≤ w.heap.size + 1; omega) _).setCell (p := ⟨w.heap.size + 1, 1, none⟩) (by show w.heap.size ≤ w.heap.size + 1; omega) _).setCell (p := ⟨w.heap.size + 1, 2, none⟩) (by show w.heap.size ≤ w.heap.size + 1; omega) _).setCell (p := ⟨w.heap.size + 1, 3, none⟩) (by show w.heap.size ≤ w.heap.size + 1; omega) _).setCell (p := ⟨w.heap.size + 1, 4, none⟩) (by show w.heap.size ≤ w.heap.size + 1; omega) _).setCell (p := ⟨w.heap.size + 1, 5, none⟩) (by show w.heap.size ≤ w.heap.size + 1; omega) _).setCell (p := ⟨w.heap.size + 1, 6, none⟩) (by show w.heap.size ≤ w.heap.size + 1; omega) _).setCell (p := ⟨w.heap.size + 1, 7, none⟩) (by show w.heap.size ≤ w.heap.size + 1; omega) _).setCell (p := ⟨w.heap.size + 1, 8, none⟩) (by show w.heap.size ≤ w.heap.size + 1; omega) _).setCell (p := ⟨w.heap.size + 1, 9, none⟩) (by show w.heap.size ≤ w.heap.size + 1; omega) _).setCell (p := ⟨w.heap.size + 1, 10, none⟩) (by show w.heap.size ≤ w.heap.size + 1; omega) _).setCell (p := ⟨w.heap.size + 1, 11, none⟩) (by show w.heap.size ≤ w.heap.size + 1; omega) _).setCell (p := ⟨w.heap.size + 1, 12, none⟩) (by show w.heap.size ≤ w.heap.size + 1; omega) _).setCell (p := ⟨w.heap.size + 1, 13, none⟩) (by show w.heap.size ≤ w.heap.size + 1; omega) _).setCell (p := ⟨w.heap.size + 1, 14, none⟩) (by show w.heap.size ≤ w.heap.size + 1; omega) _)
          all_goals go_simp
    · obtain rfl : k = 41 := by omega
      have Fin := Lib.hid (fun w' (h : Below w.heap.size w w') => (show SugEnds la ln lc N F dmin dmax rho slew rnd win att sn hs fl qu bd w (.returned (.tuple #[.agg #[.int .i64 N, .slice la ln lc, .int .i64 F, .int .i64 dmin, .int .i64 dmax, .int .i64 rho, .int .i64 slew, .int .i64 rnd, .int .i64 win, .int .i64 att, .int .i64 sn, .int .i64 hs, .int .i64 fl, .int .i64 qu, .int .i64 bd], .bool false])) w' from ⟨h, .inr ⟨fun j h1 h2 => hE.out j h1 (by omega), rfl⟩⟩))
      have zA := bA.lt
      have zR := bR.lt
      have r0 := bR.cell 0
      have r1 := bR.cell 1
      have r2 := bR.cell 2
      have r3 := bR.cell 3
      have r4 := bR.cell 4
      have r5 := bR.cell 5
      have r6 := bR.cell 6
      have r7 := bR.cell 7
      have r8 := bR.cell 8
      have r9 := bR.cell 9
      have r10 := bR.cell 10
      have r11 := bR.cell 11
      have r12 := bR.cell 12
      have r13 := bR.cell 13
      have r14 := bR.cell 14
      simp at r0 r1 r2 r3 r4 r5 r6 r7 r8 r9 r10 r11 r12 r13 r14
      have s0 := bR.frozen 0
      have s1 := bR.frozen 1
      have s2 := bR.frozen 2
      have s3 := bR.frozen 3
      have s4 := bR.frozen 4
      have s5 := bR.frozen 5
      have s6 := bR.frozen 6
      have s7 := bR.frozen 7
      have s8 := bR.frozen 8
      have s9 := bR.frozen 9
      have s10 := bR.frozen 10
      have s11 := bR.frozen 11
      have s12 := bR.frozen 12
      have s13 := bR.frozen 13
      have s14 := bR.frozen 14
      go_wp2_with fail
      refine bodyPost_ret (results_cell_tmp (b := w.heap.size + 1) Try.results16 rfl (d := _) rfl (by kernel_rfl) (by kernel_rfl) (range15 (c0 := .int .i64 N) (c1 := .slice la ln lc) (c2 := .int .i64 F) (c3 := .int .i64 dmin) (c4 := .int .i64 dmax) (c5 := .int .i64 rho) (c6 := .int .i64 slew) (c7 := .int .i64 rnd) (c8 := .int .i64 win) (c9 := .int .i64 att) (c10 := .int .i64 sn) (c11 := .int .i64 hs) (c12 := .int .i64 fl) (c13 := .int .i64 qu) (c14 := .int .i64 bd) ?_ ?_ ?_ ?_ ?_ ?_ ?_ ?_ ?_ ?_ ?_ ?_ ?_ ?_ ?_)) rfl ?_
      rotate_left 15
      · refine Fin.out _ ?_; exact (((((((((((((((lR.setCell (p := ⟨w.heap.size + 1, 0, none⟩) (by show w.heap.size ≤ w.heap.size + 1; omega) _).setCell (p := ⟨w.heap.size + 1, 1, none⟩) (by show w.heap.size ≤ w.heap.size + 1; omega) _).setCell (p := ⟨w.heap.size + 1, 2, none⟩) (by show w.heap.size ≤ w.heap.size + 1; omega) _).setCell (p := ⟨w.heap.size + 1, 3, none⟩) (by show w.heap.size ≤ w.heap.size + 1; omega) _).setCell (p := ⟨w.heap.size + 1, 4, none⟩) (by show w.heap.size ≤ w.heap.size + 1; omega) _).setCell (p := ⟨w.heap.size + 1, 5, none⟩) (by show w.heap.size ≤ w.heap.size + 1; omega) _).setCell (p := ⟨w.heap.size + 1, 6, none⟩) (by show w.heap.size ≤ w.heap.size + 1; omega) _).setCell (p := ⟨w.heap.size + 1, 7, none⟩) (by show w.heap.size ≤ w.heap.size + 1; omega) _).setCell (p := ⟨w.heap.size + 1, 8, none⟩) (by show w.heap.size ≤ w.heap.size + 1; omega) _).setCell (p := ⟨w.heap.size + 1, 9, none⟩) (by show w.heap.size ≤ w.heap.size + 1; omega) _).setCell (p := ⟨w.heap.size + 1, 10, none⟩) (by show w.heap.size ≤ w.heap.size + 1; omega) _).setCell (p := ⟨w.heap.size + 1, 11, none⟩) (by show w.heap.size ≤ w.heap.size + 1; omega) _).setCell (p := ⟨w.heap.size + 1, 12, none⟩) (by show w.heap.size ≤ w.heap.size + 1; omega) _).setCell (p := ⟨w.heap.size + 1, 13, none⟩) (by show w.heap.size ≤ w.heap.size + 1; omega) _).setCell (p := ⟨w.heap.size + 1, 14, none⟩) (by show w.heap.size ≤ w.heap.size + 1; omega) _)
      all_goals go_simp
end Go.Proofs.Ytpbabpbinojodaa.Bound
