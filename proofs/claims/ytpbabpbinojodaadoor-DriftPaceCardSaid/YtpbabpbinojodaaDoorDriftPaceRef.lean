/- The document's Pace, walked. -/
import Derived.Test.YtpbabpbinojodaaDoorDriftRefGap
namespace Go.Proofs.YtpbabpbinojodaaDoor.Drift
open Go.RowKit
open Go.Proofs.YtpbabpbinojodaaDoor.Arith Go.Proofs.YtpbabpbinojodaaDoor.Nodes Go.Proofs.YtpbabpbinojodaaDoor.Heap Go.Proofs.YtpbabpbinojodaaDoor.RF
set_option linter.unusedVariables false
set_option linter.unusedSimpArgs false
theorem range_cnt (f : Nat → Bool) (i : Nat) : (List.range (i + 1)).countP f = (List.range i).countP f + if f i = true then 1 else 0 := by
  rw [List.range_succ, cnt_snoc]
theorem range_cnt_le (f : Nat → Bool) (i : Nat) : (List.range i).countP f ≤ i := by
  have := List.countP_le_length (p := f) (l := List.range i)
  simpa using this
theorem bb_true {P Q d slow fast : Int} {bb : Bool} (h : bb = ((if inr P = true then decide (d < P) else decide (0 < slow)) || if inr Q = true then decide (Q < d) else decide (fast < 0)))
    (c : (inr P = true ∧ d < fit P) ∨ (inr P = false ∧ 0 < slow) ∨ (inr Q = true ∧ fit Q < d) ∨ (inr Q = false ∧ fast < 0)) : bb = true := by
  rw [h]
  rcases c with ⟨c1, c2⟩ | ⟨c1, c2⟩ | ⟨c1, c2⟩ | ⟨c1, c2⟩
  · rw [if_pos c1, decide_eq_true (by rwa [fit_of (inr_iff.1 c1)] at c2)]; rfl
  · rw [if_neg (by rw [c1]; simp), decide_eq_true c2]; rfl
  · rw [if_pos (c := inr Q = true) c1, decide_eq_true (p := Q < d) (by rwa [fit_of (inr_iff.1 c1)] at c2)]; simp
  · rw [if_neg (c := inr Q = true) (by rw [c1]; simp), decide_eq_true c2]; simp
theorem bb_false {P Q d slow fast : Int} {bb : Bool} (h : bb = ((if inr P = true then decide (d < P) else decide (0 < slow)) || if inr Q = true then decide (Q < d) else decide (fast < 0)))
    (c1 : inr P = true → ¬ d < fit P) (c2 : inr P = false → ¬ 0 < slow) (c3 : inr Q = true → ¬ fit Q < d) (c4 : inr Q = false → ¬ fast < 0) : bb = false := by
  rw [h, Bool.or_eq_false_iff]
  constructor
  · rcases e : inr P with _ | _
    · rw [if_neg (by simp)]; exact decide_eq_false (c2 e)
    · rw [if_pos rfl]; have := c1 e; rw [fit_of (inr_iff.1 e)] at this; exact decide_eq_false this
  · rcases e : inr Q with _ | _
    · rw [if_neg (by simp)]; exact decide_eq_false (c4 e)
    · rw [if_pos rfl]; have := c3 e; rw [fit_of (inr_iff.1 e)] at this; exact decide_eq_false this
set_option maxRecDepth 100000 in
set_option maxHeartbeats 4000000 in
theorem refpace_any (t1 : Int) (a1 : Option Addr) (cap1 : Nat) (z1 : List Int) (s1 : Nat) (hs1 : s1 < 2 ^ 64) (hl1 : z1.length ≤ 9223372036854775807) (t2 : Int) (a2 : Option Addr) (cap2 : Nat) (z2 : List Int) (s2 : Nat) (hs2 : s2 < 2 ^ 64) (hl2 : z2.length ≤ 9223372036854775807)
    (slow fast : Int) (is : I64 slow) (if_ : I64 fast) (w : World) (hz1 : Row64 w a1 z1) (hz2 : Row64 w a2 z2) :
    Calls Tryd.prog 8 #[.agg #[.int .i64 t1, .slice a1 z1.length cap1, .int .u64 (s1 : Nat)], .agg #[.int .i64 t2, .slice a2 z2.length cap2, .int .u64 (s2 : Nat)], .int .i64 slow, .int .i64 fast] w
      fun e w' => e = .returned (.int .i64 (outOf ⟨t1, z1, s1⟩ ⟨t2, z2, s2⟩ slow fast : Nat)) ∧ Below w.heap.size w w' := by
  obtain ⟨W, hW⟩ : ∃ W, (w.alloc (.cells #[.int .i64 t1, .slice a1 z1.length cap1, .int .u64 (s1 : Nat)] 29)).alloc (.cells #[.int .i64 t2, .slice a2 z2.length cap2, .int .u64 (s2 : Nat)] 29) = W := ⟨_, rfl⟩
  have zz1 : (w.alloc (.cells #[.int .i64 t1, .slice a1 z1.length cap1, .int .u64 (s1 : Nat)] 29)).heap.size = w.heap.size + 1 := by simp
  have bW : Blk W w.heap.size 29 #[.int .i64 t1, .slice a1 z1.length cap1, .int .u64 (s1 : Nat)] := by rw [← hW]; exact (Blk.new w _ _).alloc _
  have bX : Blk W (w.heap.size + 1) 29 #[.int .i64 t2, .slice a2 z2.length cap2, .int .u64 (s2 : Nat)] := by
    rw [← hW]
    have := Blk.new (w.alloc (.cells #[.int .i64 t1, .slice a1 z1.length cap1, .int .u64 (s1 : Nat)] 29)) 29 #[.int .i64 t2, .slice a2 z2.length cap2, .int .u64 (s2 : Nat)]
    rwa [zz1] at this
  have l0 : Below w.heap.size w W := by rw [← hW]; exact ((Below.refl _ w).alloc (Nat.le_refl _) _).alloc (by simp) _
  have hzW1 := Lib.hid (hz1.below l0 (Nat.le_refl _))
  have hzW2 := Lib.hid (hz2.below l0 (Nat.le_refl _))
  have zW : W.heap.size = w.heap.size + 2 := by rw [← hW]; simp
  have HW := Lib.hid hW
  have HbW := Lib.hid bW
  have HbX := Lib.hid bX
  have HL0 := Lib.hid l0
  have r1 := tm_in t1
  have r2 := tm_in t2
  have TA := Lib.hid (fun V => reftime_any t1 V)
  have TB := Lib.hid (fun V => reftime_any t2 V)
  have c0 : W.cell? ⟨w.heap.size, 0, none⟩ = some (.int .i64 t1) := bW.cell 0
  have c1 : W.cell? ⟨w.heap.size + 1, 0, none⟩ = some (.int .i64 t2) := bX.cell 0
  obtain ⟨U, hU⟩ : ∃ U, tm t1 = U := ⟨_, rfl⟩
  obtain ⟨V2, hV2⟩ : ∃ V2, tm t2 = V2 := ⟨_, rfl⟩
  obtain ⟨t, ht⟩ : ∃ t, V2 - U = t := ⟨_, rfl⟩
  obtain ⟨f, hf⟩ : ∃ f, (fun i => Nt.live ⟨t1, z1, s1⟩ i && Nt.live ⟨t2, z2, s2⟩ i && bad (Nt.at ⟨t2, z2, s2⟩ i - Nt.at ⟨t1, z1, s1⟩ i) t slow fast) = f := ⟨_, rfl⟩
  have hout : outOf ⟨t1, z1, s1⟩ ⟨t2, z2, s2⟩ slow fast = if 1 ≤ t then (List.range 64).countP f else 0 := by
    unfold outOf
    show (if 1 ≤ tm t2 - tm t1 then _ else 0) = _
    rw [hU, hV2, ht, ← hf]
  rw [hout]
  simp only [hU] at TA r1
  simp only [hV2] at TB r2
  have wr0 : IntKind.i64.wrap (V2 - U) = t := by rw [wrap64_in' (by unfold I64; omega)]; exact ht
  have rt : -1152921504606846976 ≤ t ∧ t ≤ 1152921504606846976 := by omega
  have Hf := Lib.hid hf
  clear hW zz1 bW bX l0 hz1 hz2 hU hV2 ht r1 r2 hf hout
  by_cases h1 : 1 ≤ t
  · rw [if_pos h1]
    have h1' : 0 < t := by omega
    go_enter Tryd.func8, Tryd.ntmps8
    go_upto_region 1 with (rw [HW.out])
    go_region_held3 (fun v => v.cell? ⟨w.heap.size, 0, none⟩ = some (.int .i64 t1) ∧ v.cell? ⟨w.heap.size + 1, 0, none⟩ = some (.int .i64 t2)) ((go_keep; done)) (first
      | (go_at_call 16; with_reducible refine (TA.out _).mono ?_; rintro e w' ⟨rfl, h⟩; rw [h]; clear h w')
      | (go_at_call 16; with_reducible refine (TB.out _).mono ?_; rintro e w' ⟨rfl, h⟩; rw [h]; clear h w'))
    go_wp2_with fail
    go_loopw [9, 11] (fun v9 v11 wr => ∃ (n : Nat) (i : Nat), v9 = .int .i64 n ∧ v11 = .int .i64 i ∧ i ≤ 64 ∧ RowKit.Hid (n = (List.range i).countP f) ∧ Below W.heap.size W wr) (fun _ v11 _ => match v11 with | .int _ i => 64 - i.toNat | _ => 0)
    case atStart => exact ⟨0, 0, rfl, rfl, Nat.zero_le _, Lib.hid rfl, (Below.refl _ _).drew⟩
    case round =>
      obtain ⟨n, i, rfl, rfl, hi, Hn, lR⟩ := hrel
      by_cases hlt : i < 64
      · have q1 : (0 : Int) ≤ (i : Int) := by omega
        have q2 : (i : Int) < 64 := by omega
        have bA := HbW.out.below lR HbW.out.lt
        have bB := HbX.out.below lR HbX.out.lt
        have lA := bA.lt
        have lB := bB.lt
        have a0 : wr.cell? ⟨w.heap.size, 0, none⟩ = some (.int .i64 t1) := bA.cell 0
        have a1' : wr.cell? ⟨w.heap.size, 1, none⟩ = some (.slice a1 z1.length cap1) := bA.cell 1
        have a2' : wr.cell? ⟨w.heap.size, 2, none⟩ = some (.int .u64 (s1 : Nat)) := bA.cell 2
        have b0 : wr.cell? ⟨w.heap.size + 1, 0, none⟩ = some (.int .i64 t2) := bB.cell 0
        have b1 : wr.cell? ⟨w.heap.size + 1, 1, none⟩ = some (.slice a2 z2.length cap2) := bB.cell 1
        have b2 : wr.cell? ⟨w.heap.size + 1, 2, none⟩ = some (.int .u64 (s2 : Nat)) := bB.cell 2
        have HA := Lib.hid (fun (V : World) => nhas_any t1 a1 cap1 z1 s1 hs1 i hlt V)
        have HB := Lib.hid (fun (V : World) => nhas_any t2 a2 cap2 z2 s2 hs2 i hlt V)
        have zA := hzW1.out.below lR (Nat.le_refl _)
        have zB := hzW2.out.below lR (Nat.le_refl _)
        have HR := Lib.hid lR
        have hn64 : n ≤ 64 := by rw [Hn.out]; have := range_cnt_le f i; omega
        have hcn := range_cnt f i
        rw [← Hn.out] at hcn
        have hfi : f i = (Nt.live ⟨t1, z1, s1⟩ i && Nt.live ⟨t2, z2, s2⟩ i && bad (Nt.at ⟨t2, z2, s2⟩ i - Nt.at ⟨t1, z1, s1⟩ i) t slow fast) := by rw [← Hf.out]
        obtain ⟨la, hla⟩ : ∃ la, Nt.live ⟨t1, z1, s1⟩ i = la := ⟨_, rfl⟩
        obtain ⟨lb, hlb⟩ : ∃ lb, Nt.live ⟨t2, z2, s2⟩ i = lb := ⟨_, rfl⟩
        simp only [hla] at HA
        simp only [hlb] at HB
        rw [hla, hlb] at hfi
        go_upto_region 5 with fail
        go_cut [41] (fun s41 V => s41 = .bool (!(la && lb)) ∧ RowKit.Hid (Below wr.heap.size wr V))
        case first =>
          clear hcn hfi Hn zA zB hla hlb lR bA bB HR
          cases la
          · go_wp2_with (go_at_call 15; refine (HA.out _).mono ?_; rintro e w4 ⟨rfl, b4⟩)
            go_meet
            exact ⟨rfl, Lib.hid b4⟩
          · cases lb
            all_goals
              go_wp2_with (first
                | (go_at_call 15; with_reducible refine (HA.out _).mono ?_; rintro e w4 ⟨rfl, b4⟩; have d0 := (b4.cell (p := ⟨w.heap.size + 1, 0, none⟩) lB).trans b0; have d1 := (b4.cell (p := ⟨w.heap.size + 1, 1, none⟩) lB).trans b1; have d2 := (b4.cell (p := ⟨w.heap.size + 1, 2, none⟩) lB).trans b2)
                | (go_at_call 15; with_reducible refine (HB.out _).mono ?_; rintro e w5 ⟨rfl, b5⟩))
              go_meet
              exact ⟨rfl, Lib.hid (b4.trans (b5.mono b4.size))⟩
        case rest =>
          obtain ⟨rfl, hB⟩ := hcut
          rcases hll : (la && lb) with _ | _
          · have hz : (List.range (i + 1)).countP f = n := by rw [hcn, hfi, hll]; rfl
            have Hz := Lib.hid hz
            clear hz hcn hfi hll
            go_wp2_with fail
            go_round
            case rel => exact ⟨n, i + 1, rfl, rfl, hlt, Lib.hid Hz.out.symm, HR.out.trans (hB.out.mono HR.out.size)⟩
            case measure => simp; omega
          · have hla2 : la = true := by cases la <;> first | rfl | cases hll
            have hlb2 : lb = true := by cases la <;> cases lb <;> first | rfl | cases hll
            subst hla2 hlb2
            have hil := nt_live hla
            have hkl := nt_live hlb
            obtain ⟨p, off, rfl, lp, cx⟩ := zA i hil
            obtain ⟨q, off2, rfl, lq, cy⟩ := zB i hkl
            rw [nt_at, nt_at] at hfi
            have rx := tm_in (z1.getD i 0)
            have ry := tm_in (z2.getD i 0)
            obtain ⟨x, hx⟩ : ∃ x, z1.getD i 0 = x := ⟨_, rfl⟩
            obtain ⟨y, hy⟩ : ∃ y, z2.getD i 0 = y := ⟨_, rfl⟩
            rw [hx] at cx rx hfi
            rw [hy] at cy ry hfi
            have q5 : (i : Int) < (z1.length : Int) := by omega
            have q6 : (i : Int) < (z2.length : Int) := by omega
            obtain ⟨tx, htx⟩ : ∃ t, tm x = t := ⟨_, rfl⟩
            obtain ⟨ty, hty⟩ : ∃ t, tm y = t := ⟨_, rfl⟩
            rw [htx] at rx hfi
            rw [hty] at ry hfi
            have TX := Lib.hid (fun V => reftime_any x V)
            have TY := Lib.hid (fun V => reftime_any y V)
            simp only [htx] at TX
            simp only [hty] at TY
            have wr1 : IntKind.i64.wrap (ty - tx) = ty - tx := wrap64_in' (by unfold I64; omega)
            have e1 : wc.cell? ⟨w.heap.size, 1, none⟩ = some (.slice (some ⟨p, off, none⟩) z1.length cap1) := (hB.out.cell (p := ⟨w.heap.size, 1, none⟩) lA).trans a1'
            have e2 : wc.cell? ⟨w.heap.size + 1, 1, none⟩ = some (.slice (some ⟨q, off2, none⟩) z2.length cap2) := (hB.out.cell (p := ⟨w.heap.size + 1, 1, none⟩) lB).trans b1
            have ex : wc.cell? ⟨p, off + i, none⟩ = some (.int .i64 x) := (hB.out.cell (p := ⟨p, _, none⟩) lp).trans cx
            have ey : wc.cell? ⟨q, off2 + i, none⟩ = some (.int .i64 y) := (hB.out.cell (p := ⟨q, _, none⟩) lq).trans cy
            have hcn2 : (List.range (i + 1)).countP f = n + if bad (ty - tx) t slow fast = true then 1 else 0 := by rw [hcn, hfi]; rfl
            have hbad : bad (ty - tx) t slow fast = ((if inr (t * slow) then decide (ty - tx < t * slow) else decide (0 < slow)) || (if inr (t * fast) then decide (t * fast < ty - tx) else decide (fast < 0))) := rfl
            obtain ⟨bb, hbb⟩ : ∃ bb, bad (ty - tx) t slow fast = bb := ⟨_, rfl⟩
            rw [hbb] at hcn2 hbad
            have M1 := Lib.hid (fun V => SpanD.rmul_any t slow (by unfold I64; omega) is V)
            have M2 := Lib.hid (fun V => SpanD.rmul_any t fast (by unfold I64; omega) if_ V)
            obtain ⟨P, hP⟩ : ∃ P, t * slow = P := ⟨_, rfl⟩
            obtain ⟨Q, hQ⟩ : ∃ Q, t * fast = Q := ⟨_, rfl⟩
            simp only [hP] at M1 hbad
            simp only [hQ] at M2 hbad
            have Hcn := Lib.hid hcn2
            have Hbad := Lib.hid hbad
            clear a0 a1' a2' b0 b1 b2 cx cy hll hla hlb hx hy htx hty hbb hP hQ hcn2 hbad hcn hfi zA zB lR bA bB HA HB Hn
            go_wp2_with fail
            go_region_held3 (fun v => v.cell? ⟨w.heap.size, 1, none⟩ = some (.slice (some ⟨p, off, none⟩) z1.length cap1) ∧ v.cell? ⟨w.heap.size + 1, 1, none⟩ = some (.slice (some ⟨q, off2, none⟩) z2.length cap2) ∧ v.cell? ⟨p, off + i, none⟩ = some (.int .i64 x) ∧ v.cell? ⟨q, off2 + i, none⟩ = some (.int .i64 y)) ((go_keep; done)) (first
              | (go_at_call 16; with_reducible refine (TX.out _).mono ?_; rintro e w' ⟨rfl, h⟩; rw [h]; clear h w')
              | (go_at_call 16; with_reducible refine (TY.out _).mono ?_; rintro e w' ⟨rfl, h⟩; rw [h]; clear h w'))
            generalize hwd : wc.drew = wd
            have HRd : RowKit.Hid (Below W.heap.size W wd) := Lib.hid (by rw [← hwd]; exact (HR.out.trans (hB.out.mono HR.out.size)).drew)
            clear hwd e1 e2 ex ey hB HR TX TY
            go_wp2_with (first
              | (go_at_call 17; with_reducible refine (M1.out _).mono ?_; rintro e w' ⟨rfl, rfl⟩)
              | (go_at_call 17; with_reducible refine (M2.out _).mono ?_; rintro e w' ⟨rfl, rfl⟩))
            all_goals
              go_round
              case rel =>
                first
                  | exact ⟨n + 1, i + 1, rfl, rfl, hlt, Lib.hid (by rw [Hcn.out, if_pos (bb_true Hbad.out (by first | exact .inl ⟨by assumption, by omega⟩ | exact .inr (.inl ⟨by simp [*], by omega⟩) | exact .inr (.inr (.inl ⟨by assumption, by omega⟩)) | exact .inr (.inr (.inr ⟨by simp [*], by omega⟩))))]), HRd.out⟩
                  | exact ⟨n, i + 1, rfl, rfl, hlt, Lib.hid (by rw [Hcn.out, bb_false Hbad.out (by intro h0; first | omega | (exfalso; simp_all; done)) (by intro h0; first | omega | (exfalso; simp_all; done)) (by intro h0; first | omega | (exfalso; simp_all; done)) (by intro h0; first | omega | (exfalso; simp_all; done))]; rfl), HRd.out⟩
              case measure => simp; omega
      · obtain rfl : i = 64 := by omega
        have HR := Lib.hid lR
        go_wp2_with fail
        go_ret
        exact ⟨SpanD.ret1 (by rw [Hn.out]), HL0.out.trans (HR.out.mono (by omega))⟩
  · rw [if_neg h1]
    have h1' : ¬ 0 < t := by omega
    go_enter Tryd.func8, Tryd.ntmps8
    go_upto_region 1 with (rw [HW.out])
    go_region_held3 (fun v => v.cell? ⟨w.heap.size, 0, none⟩ = some (.int .i64 t1) ∧ v.cell? ⟨w.heap.size + 1, 0, none⟩ = some (.int .i64 t2)) ((go_keep; done)) (first
      | (go_at_call 16; with_reducible refine (TA.out _).mono ?_; rintro e w' ⟨rfl, h⟩; rw [h]; clear h w')
      | (go_at_call 16; with_reducible refine (TB.out _).mono ?_; rintro e w' ⟨rfl, h⟩; rw [h]; clear h w'))
    go_wp2_with fail
    go_loop [9, 11] (fun v9 v11 => v9 = .int .i64 0 ∧ v11 = .int .i64 0) (fun _ _ => 0)
    case atStart => exact ⟨rfl, rfl⟩
    case round =>
      obtain ⟨rfl, rfl⟩ := hrel
      go_wp2_with fail
      go_ret
      exact ⟨rfl, HL0.out.drew⟩
end Go.Proofs.YtpbabpbinojodaaDoor.Drift
