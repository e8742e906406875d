/- Any things come out by their time, and of one time as they were added: the walk of the law. -/
import Derived.Test.YtcicnanchikpjaaAgendaWorks
import Derived.Test.YtcicnanchikpjaaAgendaLaw
import Derived.Test.YtcicnanchikpjaaRead
import Derived.Laws.MakeOwn
namespace Go.Proofs.Ytcicnanchikpjaa.Agenda
open Go.RowKit (wrap64 Below intOf)
open Go.Proofs.Ytcicnanchikpjaa.Heap Go.Proofs.Ytcicnanchikpjaa.RF
set_option linter.unusedVariables false
theorem infoB : (Try.prog.info? 4).map (fun i => (i.zero, i.size, i.bytes)) = some (some (.bool false), 1, 1) := by kernel_rfl
theorem make_bools (m : Nat) (hm : m ≤ 60) : ∃ C : Array Value, C.size = m ∧ (∀ j, j < m → C[j]? = some (.bool false)) ∧
    ∀ W : World, (Instr.makeSlice 29 (.int .i64 (m : Int)) (.int .i64 (m : Int))).run Try.prog W = .ok (.slice (some ⟨W.heap.size, 0, none⟩) m m) (W.alloc (.cells C 4)) := by
  obtain ⟨i0, hi, hz, hs, hb⟩ := info_parts infoB
  have hl : (madeCells (Value.bool false).cells m).toList = List.replicate m (.bool false) := toList_madeCells_one _ m
  refine ⟨madeCells (Value.bool false).cells m, ?_, fun j hj => ?_, fun W => ?_⟩
  · rw [← Array.length_toList, hl, List.length_replicate]
  · rw [← Array.getElem?_toList, hl, List.getElem?_replicate, if_pos hj]
  · have := run_make (P := Try.prog) W 29 4 i0 (.bool false) Try.underlying29 hi hz .i64 .i64 (m : Int) (m : Int) (by omega) (by omega) (by rw [hb]; omega) (by omega)
    rw [hs, Nat.mul_one] at this
    simpa using this

/-- The loop that adds: number k of the slice comes in as a thing of that time, its place its number. -/
def lAt (w : World) (a : Option Addr) (m : Nat) (zs : List Int) : Prop := m = 0 ∨ ∃ b off, a = some ⟨b, off, none⟩ ∧ b < w.heap.size ∧ ∀ i, i < m → w.cell? ⟨b, off + i, none⟩ = some (.int .i64 (zs[i]?.getD 0))
theorem gr_below {b : Nat} {a w : World} (h : Below b a w) (n : Nat) : Below b a (w.drewN n) := ⟨h.os, h.tape, h.output, h.size, h.block⟩
theorem lAt_of {w : World} {a : Option Addr} {n cap m : Nat} {zs : List Int} (h : Read.IntRow .i64 w a n cap zs) (hm : m ≤ n) : lAt w a m zs := by
  rcases h.at' with h0 | ⟨b, off, h1, h2, h3⟩
  · exact .inl (by have := h.le; omega)
  · exact .inr ⟨b, off, h1, h2, fun i hi => h3 i (by have := h.le; omega)⟩
set_option maxRecDepth 100000 in
set_option maxHeartbeats 8000000 in
theorem order_walk (a : Option Addr) (n cap : Nat) (zs : List Int) (w : World) (hrow : Read.IntRow .i64 w a n cap zs) :
    Calls Try.prog 3 #[.slice a n cap] w fun e w' => e = .returned (.bool true) ∧ Below w.heap.size w w' := by
  obtain ⟨m, hm⟩ : ∃ m : Nat, m = min n 60 := ⟨_, rfl⟩
  have hm60 : m ≤ 60 := by omega
  have hmn : m ≤ n := by omega
  have hle := hrow.le
  have hmax := hrow.max
  have hat := lAt_of hrow hmn
  have hbz : ∀ i : Nat, zs[i]?.getD 0 ≤ 9223372036854775807 := fun i => by
    cases hc : zs[i]? with
    | none => simp
    | some z =>
      have := bounds_i64 (hrow.wf z (List.mem_iff_getElem?.2 ⟨i, hc⟩))
      simp; omega
  have Hat := Lib.hid hat
  have Hm := Lib.hid hm
  have Hbz := Lib.hid hbz
  clear hat hm hrow hbz
  go_enter Try.func3, Try.ntmps3
  go_wp2_with fail
  refine (I.new_any 100 _ (by omega)).mono ?_
  rintro e w1 ⟨rfl, a1, f1⟩
  rw [show min (max (100 : Int) 0) 65536 = 100 from by decide] at a1
  have A1 := Lib.hid a1
  have F1 := Lib.hid (f1.more (ts' := I.ts) (fun _ h => by cases h))
  clear a1 f1
  go_upto_region 2 with (fail)
  go_cut [3, 4] (fun s3 s4 wx => s3 = .pointer (some ⟨w.heap.size, 0, none⟩) ∧ s4 = .int .i64 (m : Int) ∧ wx = w1)
  case first =>
    by_cases h60 : n ≤ 60
    · obtain rfl : m = n := by have := Hm.out; omega
      go_wp2_with fail
      go_meet
      exact ⟨rfl, rfl, rfl⟩
    · obtain rfl : m = 60 := by have := Hm.out; omega
      have h60' : (60 : Int) < (n : Int) := by omega
      go_wp2_with fail
      go_meet
      exact ⟨rfl, rfl, rfl⟩
  case rest =>
    obtain ⟨rfl, rfl, rfl⟩ := hcut
    go_wp2_with fail
    go_loopw [5] (fun si wr => ∃ k : Nat, si = .int .i64 k ∧ k ≤ m ∧ I.Ag w.heap.size w.heap.size 100 k (mkS (fun _ i => i) zs k) wr ∧ Fr w.heap.size I.ts w wr)
      (fun si _ => m - (intOf si).toNat)
    case atStart => exact ⟨0, rfl, Nat.zero_le _, A1.out, F1.out⟩
    case round =>
      obtain ⟨k, rfl, hk, hag, hfr⟩ := hrel
      have Hag := Lib.hid hag
      have Hfr := Lib.hid hfr
      clear hag hfr
      by_cases hkm : k < m
      · obtain ⟨b, off, ha, hb, hc⟩ : ∃ b off, a = some ⟨b, off, none⟩ ∧ b < w.heap.size ∧ ∀ i, i < m → w.cell? ⟨b, off + i, none⟩ = some (.int .i64 (zs[i]?.getD 0)) := by
          rcases Hat.out with h | h
          · omega
          · exact h
        subst ha
        have ck : wr.cell? ⟨b, off + k, none⟩ = some (.int .i64 (zs[k]?.getD 0)) := (Hfr.out.cell hb hb).trans (hc k hkm)
        obtain ⟨z, hz⟩ : ∃ z, zs[k]?.getD 0 = z := ⟨_, rfl⟩
        rw [hz] at ck
        have Hz := Lib.hid hz
        have k1 : (0 : Int) ≤ (k : Int) := by omega
        have k2 : (k : Int) < (n : Int) := by omega
        clear hc hz
        go_wp2_with fail
        refine (I.add_any _ _ 100 k _ z (k : Int) _ Hag.out (by rw [mkS_len]; omega) (by omega) (by omega)).mono ?_
        rintro e w2 ⟨rfl, a2, f2⟩
        rw [← Hz.out, ← mkS_succ (fun _ i => i) zs k] at a2
        have A2 := Lib.hid a2
        have F2 := Lib.hid (Hfr.out.trans f2)
        clear a2 f2 ck
        go_wp2_with fail
        go_roundw
        case rel => exact ⟨k + 1, by go_num, by omega, A2.out, F2.out⟩
        case measure => simp [intOf]; omega
      · obtain rfl : k = m := by omega
        go_wp2_with fail
        refine (I.drain_any _ _ 100 k _ 9223372036854775807 _ Hag.out (mkS_rising _ _ _) (by rw [mkS_len]; omega)).mono ?_
        rintro e w2 ⟨v, xs, S', rfl, own2, hd, _, _, a2, f2⟩
        obtain ⟨rfl, ns, rfl, hnl, hnb, hnd, hno⟩ := order_facts hd Hbz.out
        have A2 := Lib.hid a2
        have F2 := Lib.hid (Hfr.out.trans f2)
        rw [List.length_map, hnl] at own2
        obtain ⟨A, c2, rfl⟩ : ∃ A c2, v = .slice A k c2 := by
          rcases own2.2 with ⟨h1, h2⟩ | ⟨g, c, cur, h1, _⟩
          · exact ⟨none, 0, by rw [h1, h2]⟩
          · exact ⟨_, c, h1⟩
        have Own2 := Lib.hid own2
        have Hnl := Lib.hid hnl
        have Hnb := Lib.hid hnb
        have Hnd := Lib.hid hnd
        have Hno := Lib.hid hno
        have ne1 : ((k : Int) != (k : Int)) = false := by simp
        obtain ⟨C, hC, hCf, hmk⟩ := make_bools k hm60
        have hzs : w.heap.size ≤ w2.heap.size := F2.out.size
        have HC := Lib.hid hC
        have HCf := Lib.hid hCf
        clear own2 a2 f2 hd hnl hnb hnd hno hC hCf
        go_wp2_with fail
        go_loopw [36] (fun sj wq => ∃ (j : Nat) (bs : Array Value), sj = .int .i64 j ∧ j ≤ k ∧ Blk wq w2.heap.size 4 bs ∧ bs.size = k ∧ RowKit.Hid (∀ x, x < k → bs[x]? = some (.bool (decide (x ∈ ns.take j)))) ∧ Below w2.heap.size w2 wq)
          (fun sj _ => k - (intOf sj).toNat)
        case atStart => exact ⟨0, C, rfl, Nat.zero_le _, Blk.new _ _ _, HC.out, (show RowKit.Hid _ from fun x hx => by rw [HCf.out x hx]; simp), (Below.refl _ _).alloc (Nat.le_refl _) _⟩
        case round =>
          obtain ⟨j, bs, rfl, hj, hbs, hsz, hseen, hbel⟩ := hrel
          have Hbs := Lib.hid hbs
          have Hsz := Lib.hid hsz
          have Hbel := Lib.hid hbel
          clear hbs hsz hbel
          by_cases hjk : j < k
          · obtain ⟨nj, hnj⟩ : ∃ x, ns[j]? = some x := ⟨_, List.getElem?_eq_getElem (by rw [Hnl.out]; exact hjk)⟩
            have bnj := Hnb.out j nj hnj
            obtain ⟨b, off, ha, hb, hc⟩ : ∃ b off, a = some ⟨b, off, none⟩ ∧ b < w.heap.size ∧ ∀ i, i < k → w.cell? ⟨b, off + i, none⟩ = some (.int .i64 (zs[i]?.getD 0)) := by
              rcases Hat.out with h | h
              · omega
              · exact h
            subst ha
            obtain ⟨g, c3, hA, _, hg⟩ := Own2.out.form (by omega)
            obtain ⟨rfl, rfl⟩ : A = some ⟨g, 0, none⟩ ∧ c2 = c3 := by simpa using hA
            clear hA
            have ownq := own_below Own2.out Hbel.out
            have dcell : ∀ (i x : Nat), ns[i]? = some x → wr.cell? ⟨g, i, none⟩ = some (.int .i64 (x : Int)) := fun i x hx => by
              rw [ownq.cellAt _ (by have := lt_of_get hx; rw [Hnl.out] at this; omega), List.map_map, List.getElem?_map, hx]; rfl
            have lcell : ∀ x, x < k → wr.cell? ⟨b, off + x, none⟩ = some (.int .i64 (zs[x]?.getD 0)) := fun x hx => ((Hbel.out.cell (p := ⟨b, off + x, none⟩) (by show b < w2.heap.size; omega)).trans (F2.out.cell hb hb)).trans (hc x hx)
            have d0 : wr.cell? ⟨g, j, none⟩ = some (.int .i64 (nj : Int)) := dcell j nj hnj
            have s0 : wr.cell? ⟨w2.heap.size, nj, none⟩ = some (.bool false) := by
              rw [Hbs.out.cell, hseen.out nj bnj, decide_eq_false]
              intro hm
              obtain ⟨i, hi⟩ := get_of_mem hm
              have li := lt_of_get hi
              rw [List.length_take] at li
              rw [List.getElem?_take_of_lt (by omega)] at hi
              exact Hnd.out i j nj nj (by omega) hi hnj rfl
            have sf : wr.frozen? ⟨w2.heap.size, nj, none⟩ = false := Hbs.out.frozen _
            have e1 : (0 : Int) ≤ (nj : Int) := by omega
            have e2 : (nj : Int) < (k : Int) := by omega
            have e3 : (0 : Int) ≤ (j : Int) := by omega
            have e4 : (j : Int) < (k : Int) := by omega
            have e5 : b ≠ w2.heap.size := by omega
            have e6 : g ≠ w2.heap.size := by omega
            have Hdc := Lib.hid dcell
            have Hlc := Lib.hid lcell
            have Hnj := Lib.hid hnj
            clear dcell lcell hnj hc ownq
            go_wp2_with fail
            obtain ⟨V, hV⟩ : ∃ V, wr.setCell ⟨w2.heap.size, nj, none⟩ (.bool true) = V := ⟨_, rfl⟩
            have vd : ∀ i, V.cell? ⟨g, i, none⟩ = wr.cell? ⟨g, i, none⟩ := fun i => by rw [← hV]; exact World.cell?_setCell_other _ _ _ _ (fun c => e6 (by injection c with c1; exact c1.symm))
            have vl : ∀ i, V.cell? ⟨b, i, none⟩ = wr.cell? ⟨b, i, none⟩ := fun i => by rw [← hV]; exact World.cell?_setCell_other _ _ _ _ (fun c => e5 (by injection c with c1; exact c1.symm))
            have Vb : Blk V w2.heap.size 4 (bs.setIfInBounds nj (.bool true)) := by rw [← hV]; exact Hbs.out.put nj _
            have Vbel : Below w2.heap.size w2 V := by rw [← hV]; exact Hbel.out.setCell (p := ⟨w2.heap.size, nj, none⟩) (Nat.le_refl _) _
            have Vseen : RowKit.Hid (∀ x, x < k → (bs.setIfInBounds nj (.bool true))[x]? = some (.bool (decide (x ∈ ns.take (j + 1))))) := (show RowKit.Hid _ from fun x hx => by
              rw [Array.getElem?_setIfInBounds, List.take_add_one, Hnj.out]
              by_cases c : nj = x
              · subst c; rw [if_pos rfl, if_pos (by rw [Hsz.out]; exact bnj)]; simp
              · rw [if_neg c, hseen.out x hx]; simp [Ne.symm c])
            have dj : V.cell? ⟨g, j, none⟩ = some (.int .i64 (nj : Int)) := (vd j).trans d0
            have lj : V.cell? ⟨b, off + nj, none⟩ = some (.int .i64 (zs[nj]?.getD 0)) := (vl _).trans (Hlc.out nj bnj)
            obtain ⟨zc, hzc⟩ : ∃ z, zs[nj]?.getD 0 = z := ⟨_, rfl⟩
            rw [hzc] at lj
            have Hvd := Lib.hid vd
            have Hvl := Lib.hid vl
            have HVb := Lib.hid Vb
            have HVbel := Lib.hid Vbel
            rw [hV]
            clear vd vl Vb Vbel hV d0 s0 sf
            have e7 : (nj : Int) < (n : Int) := by omega
            rcases Nat.eq_zero_or_pos j with hj0 | hj0
            · subst hj0
              have Hzc := Lib.hid hzc
              clear hzc dj lj
              go_quiet (fail)
              have b1 := Lib.hid (HVb.out.drewN nq)
              have b2 := Lib.hid (gr_below HVbel.out nq)
              go_wp2_with fail
              go_roundw
              case rel => exact ⟨0 + 1, _, by go_num, by omega, b1.out, by rw [Array.size_setIfInBounds]; exact Hsz.out, Vseen, b2.out⟩
              case measure => simp [intOf]; omega
            · obtain ⟨i, rfl⟩ : ∃ i, j = i + 1 := ⟨j - 1, by omega⟩
              obtain ⟨np, hnp⟩ : ∃ x, ns[i]? = some x := ⟨_, List.getElem?_eq_getElem (by rw [Hnl.out]; omega)⟩
              have bnp := Hnb.out i np hnp
              have di : V.cell? ⟨g, i, none⟩ = some (.int .i64 (np : Int)) := (Hvd.out i).trans (Hdc.out i np hnp)
              have li : V.cell? ⟨b, off + np, none⟩ = some (.int .i64 (zs[np]?.getD 0)) := (Hvl.out _).trans (Hlc.out np bnp)
              have hor := Hno.out i np nj hnp Hnj.out
              obtain ⟨zp, hzp⟩ : ∃ z, zs[np]?.getD 0 = z := ⟨_, rfl⟩
              rw [hzp] at li hor
              rw [hzc] at hor
              have Hzc := Lib.hid hzc
              have Hzp := Lib.hid hzp
              clear hzc hzp hnp
              have e8 : (np : Int) < (n : Int) := by omega
              have e9 : (0 : Int) ≤ (np : Int) := by omega
              have e10 : (0 : Int) ≤ (i : Int) := by omega
              have e11 : (i : Int) < (k : Int) := by omega
              have g1 : decide ((0 : Int) < (i : Int) + 1) = true := decide_eq_true (by omega)
              have wr1 : IntKind.i64.wrap ((i : Int) + 1 - 1) = (i : Int) := by rw [show (i : Int) + 1 - 1 = (i : Int) by omega]; exact IntWalk.i64_in _ (by omega)
              have wr2 : IntKind.i64.wrap (i : Int) = (i : Int) := IntWalk.i64_in _ (by omega)
              by_cases hlt : zp < zc
              · have g2 : decide (zc < zp) = false := decide_eq_false (by omega)
                have g3 : (zp == zc) = false := by simp; omega
                clear hor
                go_quiet (fail)
                have b1 := Lib.hid (HVb.out.drewN nq)
                have b2 := Lib.hid (gr_below HVbel.out nq)
                clear wr1 wr2
                go_wp2_with fail
                go_roundw
                case rel => exact ⟨i + 1 + 1, _, by go_num, by omega, b1.out, by rw [Array.size_setIfInBounds]; exact Hsz.out, Vseen, b2.out⟩
                case measure => simp [intOf]; omega
              · obtain ⟨hz, hnn⟩ : zp = zc ∧ np < nj := by omega
                subst hz
                have g4 : decide ((nj : Int) < (np : Int)) = false := decide_eq_false (by omega)
                have g5 : decide (zp < zp) = false := by simp
                have g6 : (zp == zp) = true := by simp
                clear hor
                go_quiet (fail)
                have b1 := Lib.hid (HVb.out.drewN nq)
                have b2 := Lib.hid (gr_below HVbel.out nq)
                clear wr1 wr2
                go_wp2_with fail
                go_roundw
                case rel => exact ⟨i + 1 + 1, _, by go_num, by omega, b1.out, by rw [Array.size_setIfInBounds]; exact Hsz.out, Vseen, b2.out⟩
                case measure => simp [intOf]; omega
          · obtain rfl : j = k := by omega
            have A3 := Lib.hid (A2.out.fr (us := []) (b := 0) (Fr.of_below Hbel.out) rfl rfl)
            have F3 := Lib.hid (F2.out.trans (Fr.of_below Hbel.out))
            go_wp2_with fail
            refine (I.len_any _ _ 100 _ [] _ A3.out (by simp)).mono ?_
            rintro e w4 ⟨rfl, rfl⟩
            go_wp2_with fail
            refine (works_any _).mono ?_
            rintro e w5 ⟨rfl, b5⟩
            have B5 := Lib.hid ((F3.out.toBelow (Nat.le_refl _)).trans (b5.mono F3.out.size))
            go_wp2_with fail
            go_ret
            exact ⟨rfl, B5.out⟩
end Go.Proofs.Ytcicnanchikpjaa.Agenda
