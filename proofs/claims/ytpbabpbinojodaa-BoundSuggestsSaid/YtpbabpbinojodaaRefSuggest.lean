/- Which periods the document suggests, walked. -/
import Derived.Test.YtpbabpbinojodaaSuggest
namespace Go.Proofs.Ytpbabpbinojodaa.Bound
open Go.Proofs.Ytpbabpbinojodaa.Arith Go.Proofs.Ytpbabpbinojodaa.Span Go.Proofs.Ytpbabpbinojodaa.Hops
open Go.RowKit (wrap64 Below intOf)
open Go.Proofs.Ytpbabpbinojodaa.Heap Go.Proofs.Ytpbabpbinojodaa.RF
set_option linter.unusedVariables false
set_option linter.unusedSimpArgs false

theorem field11 (n0 n1 n2 n3 n4 n5 n6 n7 n8 n9 n10 n11 n12 n13 : Int) (w : World) : (Instr.field 32 (.agg #[.int .i64 n0, .int .i64 n1, .int .i64 n2, .int .i64 n3, .int .i64 n4, .int .i64 n5, .int .i64 n6, .int .i64 n7, .int .i64 n8, .int .i64 n9, .int .i64 n10, .int .i64 n11, .int .i64 n12, .int .i64 n13]) 11).run Try.prog w = .ok (.int .i64 n11) w := by kernel_rfl
theorem enough_base {N dmin dmax rho slew rnd win att : Int} (h : baseB N dmin dmax rho slew = false) : enoughB N dmin dmax rho slew rnd win att = false := by
  unfold enoughB goodB
  unfold baseB at h
  rw [h]; simp
set_option maxRecDepth 100000 in
set_option maxHeartbeats 8000000 in
theorem refsuggest_any (la : Option Addr) (ln lc : Nat) (N F dmin dmax rho slew rnd win att sn hs fl qu bd : Int) (w : World) :
    Calls Try.prog 17 #[.agg #[.int .i64 N, .slice la ln lc, .int .i64 F, .int .i64 dmin, .int .i64 dmax, .int .i64 rho, .int .i64 slew, .int .i64 rnd, .int .i64 win, .int .i64 att, .int .i64 sn, .int .i64 hs, .int .i64 fl, .int .i64 qu, .int .i64 bd]] w fun e w' => SugEnds la ln lc N F dmin dmax rho slew rnd win att sn hs fl qu bd w e w' := by
  obtain ⟨V, hV⟩ : ∃ V, ((w.alloc (.cells #[.int .i64 N, .slice la ln lc, .int .i64 F, .int .i64 dmin, .int .i64 dmax, .int .i64 rho, .int .i64 slew, .int .i64 rnd, .int .i64 win, .int .i64 att, .int .i64 sn, .int .i64 hs, .int .i64 fl, .int .i64 qu, .int .i64 bd] 24)).alloc (.cells #[.int .i64 0, .slice none 0 0, .int .i64 0, .int .i64 0, .int .i64 0, .int .i64 0, .int .i64 0, .int .i64 0, .int .i64 0, .int .i64 0, .int .i64 0, .int .i64 0, .int .i64 0, .int .i64 0, .int .i64 0] 24)).alloc (.cells #[.int .i64 N, .slice la ln lc, .int .i64 F, .int .i64 dmin, .int .i64 dmax, .int .i64 rho, .int .i64 slew, .int .i64 rnd, .int .i64 win, .int .i64 att, .int .i64 sn, .int .i64 hs, .int .i64 fl, .int .i64 qu, .int .i64 bd] 24) = V := ⟨_, rfl⟩
  have z1 : (w.alloc (.cells #[.int .i64 N, .slice la ln lc, .int .i64 F, .int .i64 dmin, .int .i64 dmax, .int .i64 rho, .int .i64 slew, .int .i64 rnd, .int .i64 win, .int .i64 att, .int .i64 sn, .int .i64 hs, .int .i64 fl, .int .i64 qu, .int .i64 bd] 24)).heap.size = w.heap.size + 1 := by simp
  have z2 : ((w.alloc (.cells #[.int .i64 N, .slice la ln lc, .int .i64 F, .int .i64 dmin, .int .i64 dmax, .int .i64 rho, .int .i64 slew, .int .i64 rnd, .int .i64 win, .int .i64 att, .int .i64 sn, .int .i64 hs, .int .i64 fl, .int .i64 qu, .int .i64 bd] 24)).alloc (.cells #[.int .i64 0, .slice none 0 0, .int .i64 0, .int .i64 0, .int .i64 0, .int .i64 0, .int .i64 0, .int .i64 0, .int .i64 0, .int .i64 0, .int .i64 0, .int .i64 0, .int .i64 0, .int .i64 0, .int .i64 0] 24)).heap.size = w.heap.size + 1 + 1 := by simp
  have bA : Blk V w.heap.size 24 #[.int .i64 N, .slice la ln lc, .int .i64 F, .int .i64 dmin, .int .i64 dmax, .int .i64 rho, .int .i64 slew, .int .i64 rnd, .int .i64 win, .int .i64 att, .int .i64 sn, .int .i64 hs, .int .i64 fl, .int .i64 qu, .int .i64 bd] := by rw [← hV]; exact ((Blk.new w _ _).alloc _).alloc _
  have bR : Blk V (w.heap.size + 1) 24 #[.int .i64 0, .slice none 0 0, .int .i64 0, .int .i64 0, .int .i64 0, .int .i64 0, .int .i64 0, .int .i64 0, .int .i64 0, .int .i64 0, .int .i64 0, .int .i64 0, .int .i64 0, .int .i64 0, .int .i64 0] := by
    rw [← hV]
    have := Blk.new (w.alloc (.cells #[.int .i64 N, .slice la ln lc, .int .i64 F, .int .i64 dmin, .int .i64 dmax, .int .i64 rho, .int .i64 slew, .int .i64 rnd, .int .i64 win, .int .i64 att, .int .i64 sn, .int .i64 hs, .int .i64 fl, .int .i64 qu, .int .i64 bd] 24)) 24 #[.int .i64 0, .slice none 0 0, .int .i64 0, .int .i64 0, .int .i64 0, .int .i64 0, .int .i64 0, .int .i64 0, .int .i64 0, .int .i64 0, .int .i64 0, .int .i64 0, .int .i64 0, .int .i64 0, .int .i64 0]
    rw [z1] at this
    exact this.alloc _
  have bD : Blk V (w.heap.size + 1 + 1) 24 #[.int .i64 N, .slice la ln lc, .int .i64 F, .int .i64 dmin, .int .i64 dmax, .int .i64 rho, .int .i64 slew, .int .i64 rnd, .int .i64 win, .int .i64 att, .int .i64 sn, .int .i64 hs, .int .i64 fl, .int .i64 qu, .int .i64 bd] := by
    rw [← hV]
    have := Blk.new ((w.alloc (.cells #[.int .i64 N, .slice la ln lc, .int .i64 F, .int .i64 dmin, .int .i64 dmax, .int .i64 rho, .int .i64 slew, .int .i64 rnd, .int .i64 win, .int .i64 att, .int .i64 sn, .int .i64 hs, .int .i64 fl, .int .i64 qu, .int .i64 bd] 24)).alloc (.cells #[.int .i64 0, .slice none 0 0, .int .i64 0, .int .i64 0, .int .i64 0, .int .i64 0, .int .i64 0, .int .i64 0, .int .i64 0, .int .i64 0, .int .i64 0, .int .i64 0, .int .i64 0, .int .i64 0, .int .i64 0] 24)) 24 #[.int .i64 N, .slice la ln lc, .int .i64 F, .int .i64 dmin, .int .i64 dmax, .int .i64 rho, .int .i64 slew, .int .i64 rnd, .int .i64 win, .int .i64 att, .int .i64 sn, .int .i64 hs, .int .i64 fl, .int .i64 qu, .int .i64 bd]
    rwa [z2] at this
  have lV : Below w.heap.size w V := by rw [← hV]; exact (((Below.refl _ w).alloc (Nat.le_refl _) _).alloc (by simp) _).alloc (by simp; omega) _
  have HV := Lib.hid hV
  clear hV z1 z2
  go_enter Try.func17, Try.ntmps17
  go_wp2_with fail
  rw [HV.out]
  clear HV
  go_loopw [5] (fun v5 wr => ∃ (k : Nat) (r9 q9 a9 : Int), v5 = .int .i64 k ∧ 12 ≤ k ∧ k ≤ 41 ∧ RowKit.Hid (∀ j : Nat, 12 ≤ j → j < k → sE N dmin dmax rho slew j = false) ∧ Blk wr w.heap.size 24 #[.int .i64 N, .slice la ln lc, .int .i64 F, .int .i64 dmin, .int .i64 dmax, .int .i64 rho, .int .i64 slew, .int .i64 rnd, .int .i64 win, .int .i64 att, .int .i64 sn, .int .i64 hs, .int .i64 fl, .int .i64 qu, .int .i64 bd] ∧ Blk wr (w.heap.size + 1) 24 #[.int .i64 0, .slice none 0 0, .int .i64 0, .int .i64 0, .int .i64 0, .int .i64 0, .int .i64 0, .int .i64 0, .int .i64 0, .int .i64 0, .int .i64 0, .int .i64 0, .int .i64 0, .int .i64 0, .int .i64 0] ∧ Blk wr (w.heap.size + 1 + 1) 24 #[.int .i64 N, .slice la ln lc, .int .i64 F, .int .i64 dmin, .int .i64 dmax, .int .i64 rho, .int .i64 slew, .int .i64 r9, .int .i64 q9, .int .i64 a9, .int .i64 sn, .int .i64 hs, .int .i64 fl, .int .i64 qu, .int .i64 bd] ∧ Below w.heap.size w wr) (fun v5 _ => match v5 with | .int _ k => 41 - k.toNat | _ => 0)
  case atStart => exact ⟨12, _, _, _, rfl, by omega, by omega, Lib.hid (fun j h1 h2 => by omega), bA, bR, bD, lV⟩
  case round =>
    clear bA bR bD lV
    obtain ⟨k, r9, q9, a9, rfl, hk1, hk2, hE, bA, bR, bD, lR⟩ := hrel
    by_cases hlt : k ≤ 40
    · have l1 : (12 : Int) ≤ (k : Int) := by omega
      have l2 : (k : Int) ≤ 40 := by omega
      obtain ⟨P, hP⟩ : ∃ P, pw k = P := ⟨_, rfl⟩
      obtain ⟨Q, hQ⟩ : ∃ Q, pw (k - 2) = Q := ⟨_, rfl⟩
      have hb := pw_bd (k := k) ⟨hk1, hlt⟩
      have hgb := good_base (N := N) (dmin := dmin) (dmax := dmax) (rho := rho) (slew := slew) (k := k) ⟨hk1, hlt⟩
      have w1 : wrap64 ((2 : Int) ^ k) = P := by rw [← hP]; exact pw_wrap ⟨hk1, hlt⟩
      rw [hP, hQ] at hb hgb
      have w3 : P / 4 = Q := by omega
      have w5 : wrap64 Q = Q := by simp (disch := omega) only [IntWalk.wrap64_in]
      have w4 : P.tdiv 4 = Q := by rw [Int.tdiv_eq_ediv_of_nonneg (by omega)]; omega
      have hsE : sE N dmin dmax rho slew k = enoughB N dmin dmax rho slew P Q (2 * nDelta N dmin dmax rho slew P Q) := by unfold sE sD; rw [hP, hQ]
      have HsE := Lib.hid hsE
      have Hgb := Lib.hid hgb
      have HP := Lib.hid hP
      have HQ := Lib.hid hQ
      have HPQ := Lib.hid hb
      have HGd := Lib.hid (fun w' => (show Calls Try.prog 9 #[.agg #[.int .i64 N, .slice la ln lc, .int .i64 F, .int .i64 dmin, .int .i64 dmax, .int .i64 rho, .int .i64 slew, .int .i64 P, .int .i64 Q, .int .i64 1, .int .i64 sn, .int .i64 hs, .int .i64 fl, .int .i64 qu, .int .i64 bd]] w' fun e w'' => e = .returned (.bool (baseB N dmin dmax rho slew)) ∧ Below w'.heap.size w' w'' from (rgood_cfg la ln lc N F dmin dmax rho slew P Q 1 sn hs fl qu bd w').mono fun e w'' he => by
        obtain ⟨rfl, rfl⟩ := he
        rw [hgb]
        exact ⟨rfl, (Below.refl _ _).alloc (Nat.le_refl _) _⟩))
      clear hP hQ hsE hgb hb
      have d0 := bD.cell 0
      have d1 := bD.cell 1
      have d2 := bD.cell 2
      have d3 := bD.cell 3
      have d4 := bD.cell 4
      have d5 := bD.cell 5
      have d6 := bD.cell 6
      have d7 := bD.cell 7
      have d8 := bD.cell 8
      have d9 := bD.cell 9
      have d10 := bD.cell 10
      have d11 := bD.cell 11
      have d12 := bD.cell 12
      have d13 := bD.cell 13
      have d14 := bD.cell 14
      simp at d0 d1 d2 d3 d4 d5 d6 d7 d8 d9 d10 d11 d12 d13 d14
      have f7 := bD.frozen 7
      have f8 := bD.frozen 8
      have f9 := bD.frozen 9
      have zA := bA.lt
      have zD := bD.lt
      go_wp2_with fail
      obtain ⟨U, hU⟩ : ∃ U, ((wr.setCell ⟨w.heap.size + 1 + 1, 7, none⟩ (.int .i64 P)).setCell ⟨w.heap.size + 1 + 1, 8, none⟩ (.int .i64 Q)).setCell ⟨w.heap.size + 1 + 1, 9, none⟩ (.int .i64 1) = U := ⟨_, rfl⟩
      rw [hU]
      have uo : Off (fun j => j = w.heap.size + 1 + 1) wr U := by rw [← hU]; exact off_put (off_put (off_put (Off.refl _ wr) _ _) _ _) _ _
      have DU : Blk U (w.heap.size + 1 + 1) 24 #[.int .i64 N, .slice la ln lc, .int .i64 F, .int .i64 dmin, .int .i64 dmax, .int .i64 rho, .int .i64 slew, .int .i64 P, .int .i64 Q, .int .i64 1, .int .i64 sn, .int .i64 hs, .int .i64 fl, .int .i64 qu, .int .i64 bd] := by
        rw [← hU]
        have := ((bD.put 7 (.int .i64 P)).put 8 (.int .i64 Q)).put 9 (.int .i64 1)
        simp at this
        exact this
      have AU := bA.off uo (by omega)
      have RU := bR.off uo (by omega)
      have LU : Below w.heap.size w U := by rw [← hU]; exact ((lR.setCell (p := ⟨w.heap.size + 1 + 1, 7, none⟩) (by show w.heap.size ≤ w.heap.size + 1 + 1; omega) _).setCell (p := ⟨w.heap.size + 1 + 1, 8, none⟩) (by show w.heap.size ≤ w.heap.size + 1 + 1; omega) _).setCell (p := ⟨w.heap.size + 1 + 1, 9, none⟩) (by show w.heap.size ≤ w.heap.size + 1 + 1; omega) _
      have zU := DU.lt
      clear hU uo bA bR bD lR d0 d1 d2 d3 d4 d5 d6 d7 d8 d9 d10 d11 d12 d13 d14 f7 f8 f9 w1 w3 w4 w5
      refine (HGd.out U).mono ?_
      rintro e y2 ⟨rfl, o2⟩
      have A2 := AU.below o2 (by omega)
      have R2 := RU.below o2 (by omega)
      have D2 := DU.below o2 zU
      have L2 := LU.trans (o2.mono (by omega))
      have zD2 := D2.lt
      clear AU RU DU LU o2
      have d0 := D2.cell 0
      have d1 := D2.cell 1
      have d2 := D2.cell 2
      have d3 := D2.cell 3
      have d4 := D2.cell 4
      have d5 := D2.cell 5
      have d6 := D2.cell 6
      have d7 := D2.cell 7
      have d8 := D2.cell 8
      have d9 := D2.cell 9
      have d10 := D2.cell 10
      have d11 := D2.cell 11
      have d12 := D2.cell 12
      have d13 := D2.cell 13
      have d14 := D2.cell 14
      simp at d0 d1 d2 d3 d4 d5 d6 d7 d8 d9 d10 d11 d12 d13 d14
      rcases hbase : baseB N dmin dmax rho slew with _ | _
      · have HEn := Lib.hid (fun w' => (show Calls Try.prog 15 #[.agg #[.int .i64 N, .slice la ln lc, .int .i64 F, .int .i64 dmin, .int .i64 dmax, .int .i64 rho, .int .i64 slew, .int .i64 P, .int .i64 Q, .int .i64 1, .int .i64 sn, .int .i64 hs, .int .i64 fl, .int .i64 qu, .int .i64 bd]] w' fun e w'' => e = .returned (.bool false) ∧ Below w'.heap.size w' w'' from by rw [← enough_base (rnd := P) (win := Q) (att := 1) hbase]; exact renough_any _ _ _ _ _ _ _ _ _ _ _ _ _ _ _ _ _ w'))
        have hEk := Lib.hid (sE_base (k := k) hbase)
        go_wp2_with fail
        refine (HEn.out y2).mono ?_
        rintro e y3 ⟨rfl, o3⟩
        have A3 := A2.below o3 (by omega)
        have R3 := R2.below o3 (by omega)
        have D3 := D2.below o3 zD2
        have L3 := L2.trans (o3.mono (by omega))
        clear A2 R2 D2 L2 o3 d0 d1 d2 d3 d4 d5 d6 d7 d8 d9 d10 d11 d12 d13 d14
        go_wp2_with fail
        go_round
        case rel => exact ⟨k + 1, P, Q, 1, rfl, by omega, by omega, Lib.hid (fun j h1 h2 => by
          rcases Nat.lt_succ_iff_lt_or_eq.1 h2 with c | c
          · exact hE.out j h1 c
          · subst c; exact hEk.out), A3, R3, D3, L3⟩
        case measure => simp; omega
      · rw [hbase] at Hgb
        obtain ⟨fast, slow, link, rd, agree, start, eps, most, cold, rough, delta, down, join, Heq, Hbd, Hof⟩ := rof_good la ln lc N F dmin dmax rho slew P Q 1 sn hs fl qu bd Hgb.out
        have hdl : nDelta N dmin dmax rho slew P Q = delta := Heq.out.2.2.2.2.2.2.2.2.2.2.1
        have HsE2 := Lib.hid (HsE.out.trans (by rw [hdl] : _ = enoughB N dmin dmax rho slew P Q (2 * delta)))
        have HsD := Lib.hid (show sD N dmin dmax rho slew k = 2 * delta by unfold sD; rw [HP.out, HQ.out, hdl])
        have hd0 : 0 ≤ delta ∧ delta ≤ 200000000000000000 := Hbd.2.2.2.2.2.1
        have hm : wrap64 (2 * delta) = 2 * delta := by simp (disch := omega) only [IntWalk.wrap64_in]
        have HOf := Lib.hid (Hof y2)
        clear hdl Heq Hbd Hof HsE hd0
        go_wp2_with fail
        refine HOf.out.mono ?_
        rintro e y3 ⟨rfl, o3⟩
        have A3 := A2.below o3 (by omega)
        have R3 := R2.below o3 (by omega)
        have D3 := D2.below o3 zD2
        have L3 := L2.trans (o3.mono (by omega))
        have zD3 := D3.lt
        clear A2 R2 D2 L2 o3 d0 d1 d2 d3 d4 d5 d6 d7 d8 d9 d10 d11 d12 d13 d14 HOf
        have d0 := D3.cell 0
        have d1 := D3.cell 1
        have d2 := D3.cell 2
        have d3 := D3.cell 3
        have d4 := D3.cell 4
        have d5 := D3.cell 5
        have d6 := D3.cell 6
        have d7 := D3.cell 7
        have d8 := D3.cell 8
        have d9 := D3.cell 9
        have d10 := D3.cell 10
        have d11 := D3.cell 11
        have d12 := D3.cell 12
        have d13 := D3.cell 13
        have d14 := D3.cell 14
        simp at d0 d1 d2 d3 d4 d5 d6 d7 d8 d9 d10 d11 d12 d13 d14
        have f9 := D3.frozen 9
        have h11 := fun w' => field11 (N - 1) fast slow link rd agree start eps most cold rough delta down join w'
        obtain ⟨eb, heb⟩ : ∃ b, enoughB N dmin dmax rho slew P Q (2 * delta) = b := ⟨_, rfl⟩
        have HEn := Lib.hid (fun w' => (show Calls Try.prog 15 #[.agg #[.int .i64 N, .slice la ln lc, .int .i64 F, .int .i64 dmin, .int .i64 dmax, .int .i64 rho, .int .i64 slew, .int .i64 P, .int .i64 Q, .int .i64 (2 * delta), .int .i64 sn, .int .i64 hs, .int .i64 fl, .int .i64 qu, .int .i64 bd]] w' fun e w'' => e = .returned (.bool eb) ∧ Below w'.heap.size w' w'' from by rw [← heb]; exact renough_any _ _ _ _ _ _ _ _ _ _ _ _ _ _ _ _ _ w'))
        have HsE3 := Lib.hid (HsE2.out.trans heb)
        clear heb HsE2
        go_wp2_with fail
        obtain ⟨X, hX⟩ : ∃ X, y3.setCell ⟨w.heap.size + 1 + 1, 9, none⟩ (.int .i64 (2 * delta)) = X := ⟨_, rfl⟩
        rw [hX]
        have DX : Blk X (w.heap.size + 1 + 1) 24 #[.int .i64 N, .slice la ln lc, .int .i64 F, .int .i64 dmin, .int .i64 dmax, .int .i64 rho, .int .i64 slew, .int .i64 P, .int .i64 Q, .int .i64 (2 * delta), .int .i64 sn, .int .i64 hs, .int .i64 fl, .int .i64 qu, .int .i64 bd] := by
          rw [← hX]
          have := D3.put 9 (.int .i64 (2 * delta))
          simp at this
          exact this
        have AX : Blk X w.heap.size 24 #[.int .i64 N, .slice la ln lc, .int .i64 F, .int .i64 dmin, .int .i64 dmax, .int .i64 rho, .int .i64 slew, .int .i64 rnd, .int .i64 win, .int .i64 att, .int .i64 sn, .int .i64 hs, .int .i64 fl, .int .i64 qu, .int .i64 bd] := by rw [← hX]; exact A3.far (p := ⟨w.heap.size + 1 + 1, 9, none⟩) (by show w.heap.size ≠ w.heap.size + 1 + 1; omega) _
        have RX : Blk X (w.heap.size + 1) 24 #[.int .i64 0, .slice none 0 0, .int .i64 0, .int .i64 0, .int .i64 0, .int .i64 0, .int .i64 0, .int .i64 0, .int .i64 0, .int .i64 0, .int .i64 0, .int .i64 0, .int .i64 0, .int .i64 0, .int .i64 0] := by rw [← hX]; exact R3.far (p := ⟨w.heap.size + 1 + 1, 9, none⟩) (by show w.heap.size + 1 ≠ w.heap.size + 1 + 1; omega) _
        have LX : Below w.heap.size w X := by rw [← hX]; exact L3.setCell (p := ⟨w.heap.size + 1 + 1, 9, none⟩) (by show w.heap.size ≤ w.heap.size + 1 + 1; omega) _
        have zX := DX.lt
        clear hX A3 R3 D3 L3 d0 d1 d2 d3 d4 d5 d6 d7 d8 d9 d10 d11 d12 d13 d14 f9 hm h11
        refine (HEn.out X).mono ?_
        rintro e y4 ⟨rfl, o4⟩
        have A4 := AX.below o4 (by omega)
        have R4 := RX.below o4 (by omega)
        have D4 := DX.below o4 zX
        have L4 := LX.trans (o4.mono (by omega))
        have zD4 := D4.lt
        clear AX RX DX LX o4 HEn
        rcases heb : eb with _ | _
        · have HsE4 := Lib.hid (HsE3.out.trans heb)
          subst heb
          go_wp2_with fail
          go_round
          case rel => exact ⟨k + 1, P, Q, 2 * delta, rfl, by omega, by omega, Lib.hid (fun j h1 h2 => by
            rcases Nat.lt_succ_iff_lt_or_eq.1 h2 with c | c
            · exact hE.out j h1 c
            · subst c; exact HsE4.out), A4, R4, D4, L4⟩
          case measure => simp; omega
        · have HsE4 := Lib.hid (HsE3.out.trans heb)
          subst heb
          have Fin := Lib.hid (fun w' (h : Below w.heap.size w w') => (show SugEnds la ln lc N F dmin dmax rho slew rnd win att sn hs fl qu bd w (.returned (.tuple #[.agg #[.int .i64 N, .slice la ln lc, .int .i64 F, .int .i64 dmin, .int .i64 dmax, .int .i64 rho, .int .i64 slew, .int .i64 P, .int .i64 Q, .int .i64 (2 * delta), .int .i64 sn, .int .i64 hs, .int .i64 fl, .int .i64 qu, .int .i64 bd], .bool true])) w' from ⟨h, .inl ⟨k, hk1, hlt, HsE4.out, fun j h1 h2 => hE.out j h1 h2, by rw [HP.out, HQ.out, HsD.out]⟩⟩))
          have d0 := D4.cell 0
          have d1 := D4.cell 1
          have d2 := D4.cell 2
          have d3 := D4.cell 3
          have d4 := D4.cell 4
          have d5 := D4.cell 5
          have d6 := D4.cell 6
          have d7 := D4.cell 7
          have d8 := D4.cell 8
          have d9 := D4.cell 9
          have d10 := D4.cell 10
          have d11 := D4.cell 11
          have d12 := D4.cell 12
          have d13 := D4.cell 13
          have d14 := D4.cell 14
          simp at d0 d1 d2 d3 d4 d5 d6 d7 d8 d9 d10 d11 d12 d13 d14
          have r0 := R4.cell 0
          have r1 := R4.cell 1
          have r2 := R4.cell 2
          have r3 := R4.cell 3
          have r4 := R4.cell 4
          have r5 := R4.cell 5
          have r6 := R4.cell 6
          have r7 := R4.cell 7
          have r8 := R4.cell 8
          have r9 := R4.cell 9
          have r10 := R4.cell 10
          have r11 := R4.cell 11
          have r12 := R4.cell 12
          have r13 := R4.cell 13
          have r14 := R4.cell 14
          simp at r0 r1 r2 r3 r4 r5 r6 r7 r8 r9 r10 r11 r12 r13 r14
          have s0 := R4.frozen 0
          have s1 := R4.frozen 1
          have s2 := R4.frozen 2
          have s3 := R4.frozen 3
          have s4 := R4.frozen 4
          have s5 := R4.frozen 5
          have s6 := R4.frozen 6
          have s7 := R4.frozen 7
          have s8 := R4.frozen 8
          have s9 := R4.frozen 9
          have s10 := R4.frozen 10
          have s11 := R4.frozen 11
          have s12 := R4.frozen 12
          have s13 := R4.frozen 13
          have s14 := R4.frozen 14
          go_wp2_with fail
          refine bodyPost_ret (results_cell_tmp (b := w.heap.size + 1) Try.results17 rfl (d := _) rfl (by kernel_rfl) (by kernel_rfl) (range15 (c0 := .int .i64 N) (c1 := .slice la ln lc) (c2 := .int .i64 F) (c3 := .int .i64 dmin) (c4 := .int .i64 dmax) (c5 := .int .i64 rho) (c6 := .int .i64 slew) (c7 := .int .i64 P) (c8 := .int .i64 Q) (c9 := .int .i64 (2 * delta)) (c10 := .int .i64 sn) (c11 := .int .i64 hs) (c12 := .int .i64 fl) (c13 := .int .i64 qu) (c14 := .int .i64 bd) ?_ ?_ ?_ ?_ ?_ ?_ ?_ ?_ ?_ ?_ ?_ ?_ ?_ ?_ ?_)) rfl ?_
          rotate_left 15
          · refine Fin.out _ ?_; exact (((((((((((((((L4.setCell (p := ⟨w.heap.size + 1, 0, none⟩) (by show w.heap.size ≤ w.heap.size + 1; omega) _).setCell (p := ⟨w.heap.size + 1, 1, none⟩) (by show w.heap.size ≤ w.heap.size + 1; omega) _).setCell (p := ⟨w.heap.size + 1, 2, none⟩) (by show w.heap.size ≤ w.heap.size + 1; omega) _).setCell (p := ⟨w.heap.size + 1, 3, none⟩) (by show w.heap.size ≤ w.heap.size + 1; omega) _).setCell (p := ⟨w.heap.size + 1, 4, none⟩) (by show w.heap.size ≤ w.heap.size + 1; omega) _).setCell (p := ⟨w.heap.size + 1, 5, none⟩) (by show w.heap.size ≤ w.heap.size + 1; omega) _).setCell (p := ⟨w.heap.size + 1, 6, none⟩) (by show w.heap.size ≤ w.heap.size + 1; omega) _).setCell (p := ⟨w.heap.size + 1, 7, none⟩) (by show w.heap.size ≤ w.heap.size + 1; omega) _).setCell (p := ⟨w.heap.size + 1, 8, none⟩) (by show w.heap.size ≤ w.heap.size + 1; omega) _).setCell (p := ⟨w.heap.size + 1, 9, none⟩) (by show w.heap.size ≤ w.heap.size + 1; omega) _).setCell (p := ⟨w.heap.size + 1, 10, none⟩) (by show w.heap.size ≤ w.heap.size + 1; omega) _).setCell (p := ⟨w.heap.size + 1, 11, none⟩) (by show w.heap.size ≤ w.heap.size + 1; omega) _).setCell (p := ⟨w.heap.size + 1, 12, none⟩) (by show w.heap.size ≤ w.heap.size + 1; omega) _).setCell (p := ⟨w.heap.size + 1, 13, none⟩) (by show w.heap.size ≤ w.heap.size + 1; omega) _).setCell (p := ⟨w.heap.size + 1, 14, none⟩) (by show w.heap.size ≤ w.heap.size + 1; omega) _)
          all_goals go_simp
    · obtain rfl : k = 41 := by omega
      have Fin := Lib.hid (fun w' (h : Below w.heap.size w w') => (show SugEnds la ln lc N F dmin dmax rho slew rnd win att sn hs fl qu bd w (.returned (.tuple #[.agg #[.int .i64 N, .slice la ln lc, .int .i64 F, .int .i64 dmin, .int .i64 dmax, .int .i64 rho, .int .i64 slew, .int .i64 rnd, .int .i64 win, .int .i64 att, .int .i64 sn, .int .i64 hs, .int .i64 fl, .int .i64 qu, .int .i64 bd], .bool false])) w' from ⟨h, .inr ⟨fun j h1 h2 => hE.out j h1 (by omega), rfl⟩⟩))
      have zA := bA.lt
      have zR := bR.lt
      have a0 := bA.cell 0
      have a1 := bA.cell 1
      have a2 := bA.cell 2
      have a3 := bA.cell 3
      have a4 := bA.cell 4
      have a5 := bA.cell 5
      have a6 := bA.cell 6
      have a7 := bA.cell 7
      have a8 := bA.cell 8
      have a9 := bA.cell 9
      have a10 := bA.cell 10
      have a11 := bA.cell 11
      have a12 := bA.cell 12
      have a13 := bA.cell 13
      have a14 := bA.cell 14
      simp at a0 a1 a2 a3 a4 a5 a6 a7 a8 a9 a10 a11 a12 a13 a14
      have r0 := bR.cell 0
      have r1 := bR.cell 1
      have r2 := bR.cell 2
      have r3 := bR.cell 3
      have r4 := bR.cell 4
      have r5 := bR.cell 5
      have r6 := bR.cell 6
      have r7 := bR.cell 7
      have r8 := bR.cell 8
      have r9 := bR.cell 9
      have r10 := bR.cell 10
      have r11 := bR.cell 11
      have r12 := bR.cell 12
      have r13 := bR.cell 13
      have r14 := bR.cell 14
      simp at r0 r1 r2 r3 r4 r5 r6 r7 r8 r9 r10 r11 r12 r13 r14
      have s0 := bR.frozen 0
      have s1 := bR.frozen 1
      have s2 := bR.frozen 2
      have s3 := bR.frozen 3
      have s4 := bR.frozen 4
      have s5 := bR.frozen 5
      have s6 := bR.frozen 6
      have s7 := bR.frozen 7
      have s8 := bR.frozen 8
      have s9 := bR.frozen 9
      have s10 := bR.frozen 10
      have s11 := bR.frozen 11
      have s12 := bR.frozen 12
      have s13 := bR.frozen 13
      have s14 := bR.frozen 14
      go_wp2_with fail
      refine bodyPost_ret (results_cell_tmp (b := w.heap.size + 1) Try.results17 rfl (d := _) rfl (by kernel_rfl) (by kernel_rfl) (range15 (c0 := .int .i64 N) (c1 := .slice la ln lc) (c2 := .int .i64 F) (c3 := .int .i64 dmin) (c4 := .int .i64 dmax) (c5 := .int .i64 rho) (c6 := .int .i64 slew) (c7 := .int .i64 rnd) (c8 := .int .i64 win) (c9 := .int .i64 att) (c10 := .int .i64 sn) (c11 := .int .i64 hs) (c12 := .int .i64 fl) (c13 := .int .i64 qu) (c14 := .int .i64 bd) ?_ ?_ ?_ ?_ ?_ ?_ ?_ ?_ ?_ ?_ ?_ ?_ ?_ ?_ ?_)) rfl ?_
      rotate_left 15
      · refine Fin.out _ ?_; exact (((((((((((((((lR.setCell (p := ⟨w.heap.size + 1, 0, none⟩) (by show w.heap.size ≤ w.heap.size + 1; omega) _).setCell (p := ⟨w.heap.size + 1, 1, none⟩) (by show w.heap.size ≤ w.heap.size + 1; omega) _).setCell (p := ⟨w.heap.size + 1, 2, none⟩) (by show w.heap.size ≤ w.heap.size + 1; omega) _).setCell (p := ⟨w.heap.size + 1, 3, none⟩) (by show w.heap.size ≤ w.heap.size + 1; omega) _).setCell (p := ⟨w.heap.size + 1, 4, none⟩) (by show w.heap.size ≤ w.heap.size + 1; omega) _).setCell (p := ⟨w.heap.size + 1, 5, none⟩) (by show w.heap.size ≤ w.heap.size + 1; omega) _).setCell (p := ⟨w.heap.size + 1, 6, none⟩) (by show w.heap.size ≤ w.heap.size + 1; omega) _).setCell (p := ⟨w.heap.size + 1, 7, none⟩) (by show w.heap.size ≤ w.heap.size + 1; omega) _).setCell (p := ⟨w.heap.size + 1, 8, none⟩) (by show w.heap.size ≤ w.heap.size + 1; omega) _).setCell (p := ⟨w.heap.size + 1, 9, none⟩) (by show w.heap.size ≤ w.heap.size + 1; omega) _).setCell (p := ⟨w.heap.size + 1, 10, none⟩) (by show w.heap.size ≤ w.heap.size + 1; omega) _).setCell (p := ⟨w.heap.size + 1, 11, none⟩) (by show w.heap.size ≤ w.heap.size + 1; omega) _).setCell (p := ⟨w.heap.size + 1, 12, none⟩) (by show w.heap.size ≤ w.heap.size + 1; omega) _).setCell (p := ⟨w.heap.size + 1, 13, none⟩) (by show w.heap.size ≤ w.heap.size + 1; omega) _).setCell (p := ⟨w.heap.size + 1, 14, none⟩) (by show w.heap.size ≤ w.heap.size + 1; omega) _)
      all_goals go_simp
end Go.Proofs.Ytpbabpbinojodaa.Bound
