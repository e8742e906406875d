/- Nothing is taken ahead of its time: the walk of the law; and an agenda that is nil has nothing. -/
import Derived.Test.YtcicnanchikpjaaAgendaOrderWalk
namespace Go.Proofs.Ytcicnanchikpjaa.Agenda
open Go.RowKit (wrap64 Below intOf)
open Go.Proofs.Ytcicnanchikpjaa.Heap Go.Proofs.Ytcicnanchikpjaa.RF
set_option linter.unusedVariables false
/-- How many of the first k are due. -/
def soonN (zs : List Int) (now : Int) (k : Nat) : Nat := (List.range k).countP fun i => decide (zs[i]?.getD 0 ≤ now)
theorem soonN_succ (zs : List Int) (now : Int) (k : Nat) : soonN zs now (k + 1) = soonN zs now k + if zs[k]?.getD 0 ≤ now then 1 else 0 := by
  unfold soonN
  rw [List.range_succ, List.countP_append]
  by_cases h : zs[k]?.getD 0 ≤ now <;> simp [h]
theorem soonN_le (zs : List Int) (now : Int) (k : Nat) : soonN zs now k ≤ k := by
  have := List.countP_le_length (p := fun i => decide (zs[i]?.getD 0 ≤ now)) (l := List.range k)
  simpa [soonN] using this
set_option maxRecDepth 100000 in
set_option maxHeartbeats 8000000 in
theorem waits_walk (a : Option Addr) (n cap : Nat) (zs : List Int) (now : Int) (w : World) (hrow : Read.IntRow .i64 w a n cap zs) (hnow : (Lit.int .i64 now).wf = true) :
    Calls Try.prog 4 #[.slice a n cap, .int .i64 now] w fun e w' => e = .returned (.bool true) ∧ Below w.heap.size w w' := by
  obtain ⟨m, hm⟩ : ∃ m : Nat, m = min n 60 := ⟨_, rfl⟩
  have hm60 : m ≤ 60 := by omega
  have hmn : m ≤ n := by omega
  have hle := hrow.le
  have hmax := hrow.max
  have hat := lAt_of hrow hmn
  have Hat := Lib.hid hat
  have Hm := Lib.hid hm
  clear hat hm hrow hnow
  go_enter Try.func4, Try.ntmps4
  go_wp2_with fail
  refine (I64.new_any 100 _ (by omega)).mono ?_
  rintro e w1 ⟨rfl, a1, f1⟩
  rw [show min (max (100 : Int) 0) 65536 = 100 from by decide] at a1
  have A1 := Lib.hid a1
  have F1 := Lib.hid (f1.more (ts' := I64.ts) (fun _ h => by cases h))
  clear a1 f1
  go_upto_region 2 with (fail)
  go_cut [5, 6, 7] (fun s5 s6 s7 wx => s5 = .pointer (some ⟨w.heap.size, 0, none⟩) ∧ s6 = .int .i64 (m : Int) ∧ s7 = .int .i64 0 ∧ wx = w1)
  case first =>
    by_cases h60 : n ≤ 60
    · obtain rfl : m = n := by have := Hm.out; omega
      go_wp2_with fail
      go_meet
      exact ⟨rfl, rfl, rfl, rfl⟩
    · obtain rfl : m = 60 := by have := Hm.out; omega
      have h60' : (60 : Int) < (n : Int) := by omega
      go_wp2_with fail
      go_meet
      exact ⟨rfl, rfl, rfl, rfl⟩
  case rest =>
    obtain ⟨rfl, rfl, rfl, rfl⟩ := hcut
    go_wp2_with fail
    go_loopw [8, 7] (fun si ss wr => ∃ k : Nat, si = .int .i64 k ∧ ss = .int .i64 (soonN zs now k) ∧ k ≤ m ∧ I64.Ag w.heap.size w.heap.size 100 k (mkS (fun z _ => z) zs k) wr ∧ Fr w.heap.size I64.ts w wr)
      (fun si _ _ => m - (intOf si).toNat)
    case atStart => exact ⟨0, rfl, rfl, Nat.zero_le _, A1.out, F1.out⟩
    case round =>
      obtain ⟨k, rfl, rfl, hk, hag, hfr⟩ := hrel
      have Hag := Lib.hid hag
      have Hfr := Lib.hid hfr
      have hsl := soonN_le zs now k
      clear hag hfr
      by_cases hkm : k < m
      · obtain ⟨b, off, ha, hb, hc⟩ : ∃ b off, a = some ⟨b, off, none⟩ ∧ b < w.heap.size ∧ ∀ i, i < m → w.cell? ⟨b, off + i, none⟩ = some (.int .i64 (zs[i]?.getD 0)) := by
          rcases Hat.out with h | h
          · omega
          · exact h
        subst ha
        have ck : wr.cell? ⟨b, off + k, none⟩ = some (.int .i64 (zs[k]?.getD 0)) := (Hfr.out.cell hb hb).trans (hc k hkm)
        have hsu := soonN_succ zs now k
        obtain ⟨z, hz⟩ : ∃ z, zs[k]?.getD 0 = z := ⟨_, rfl⟩
        rw [hz] at ck hsu
        have Hz := Lib.hid hz
        have Hsu := Lib.hid hsu
        have k1 : (0 : Int) ≤ (k : Int) := by omega
        have k2 : (k : Int) < (n : Int) := by omega
        have Hc := Lib.hid hc
        clear hc hz hsu
        obtain ⟨c, hcc⟩ : ∃ c, soonN zs now k = c := ⟨_, rfl⟩
        rw [hcc] at hsl ⊢
        have Hcc := Lib.hid hcc
        clear hcc
        go_wp2_with fail
        refine QT.region_tail 9 (by kernel_rfl) (by kernel_rfl) ?_
        simp only [List.take_succ_cons, List.take_zero, List.drop_succ_cons, List.drop_zero]
        repeat (quiet_step (fail))
        refine wpQuiet_nil ?_
        rintro _ ⟨nq, rfl⟩
        go_wp2_with fail
        refine (I64.add_any _ _ 100 k _ z z _ (Hag.out.off ((Off.refl (fun _ => False) _).drewN nq)) (by rw [mkS_len]; omega) (by omega) (by omega)).mono ?_
        rintro e w2 ⟨rfl, a2, f2⟩
        rw [← Hz.out, ← mkS_succ (fun z _ => z) zs k] at a2
        have A2 := Lib.hid a2
        have F2 := Lib.hid ((Hfr.out.drewN nq).trans f2)
        have ck2 : w2.cell? ⟨b, off + k, none⟩ = some (.int .i64 z) := ((F2.out.cell hb hb).trans (Hc.out k hkm)).trans (by rw [Hz.out])
        clear a2 f2 ck
        by_cases hzn : z ≤ now
        · go_wp2_with fail
          go_roundw
          case rel => exact ⟨k + 1, by go_num, by rw [Hsu.out, if_pos hzn, Hcc.out]; go_num, by omega, A2.out, F2.out⟩
          case measure => simp [intOf]; omega
        · go_wp2_with fail
          go_roundw
          case rel => exact ⟨k + 1, by go_num, by rw [Hsu.out, if_neg (by omega), Hcc.out]; rfl, by omega, A2.out, F2.out⟩
          case measure => simp [intOf]; omega
      · obtain rfl : k = m := by omega
        go_wp2_with fail
        refine (I64.drain_any _ _ 100 k _ now _ Hag.out (mkS_rising _ _ _) (by rw [mkS_len]; omega)).mono ?_
        rintro e w2 ⟨v, xs, S', rfl, own2, hd, hr2, hlen, a2, f2⟩
        obtain ⟨hcnt, hxn, hun⟩ := waits_facts hd
        rw [mkS_len] at hlen
        have hc2 : xs.length = soonN zs now k := hcnt
        have A2 := Lib.hid a2
        have F2 := Lib.hid (Hfr.out.trans f2)
        obtain ⟨A, c2, rfl⟩ : ∃ A c2, v = .slice A xs.length c2 := by
          rcases own2.2 with ⟨h1, h2⟩ | ⟨g, c, cur, h1, _⟩
          · exact ⟨none, 0, by rw [h1, h2]⟩
          · exact ⟨_, c, h1⟩
        have Own2 := Lib.hid own2
        have Hxn := Lib.hid hxn
        have Hun := Lib.hid hun
        have Hr2 := Lib.hid hr2
        have Hlen := Lib.hid hlen
        rw [← hc2]
        have Hc2 := Lib.hid hc2
        have hl1 : xs.length ≤ 60 := by omega
        clear own2 a2 f2 hd hxn hun hr2 hcnt hc2 hsl hlen
        go_wp2_with fail
        go_loop [46] (fun sj => ∃ j : Nat, sj = .int .i64 j ∧ j ≤ xs.length) (fun sj => xs.length - (intOf sj).toNat)
        case atStart => exact ⟨0, rfl, Nat.zero_le _⟩
        case round =>
          obtain ⟨j, rfl, hj⟩ := hrel
          by_cases hjx : j < xs.length
          · obtain ⟨g, c3, hA, _, hg⟩ := Own2.out.form (by omega)
            obtain ⟨rfl, rfl⟩ : A = some ⟨g, 0, none⟩ ∧ c2 = c3 := by simpa using hA
            clear hA
            have xc := List.getElem?_eq_getElem hjx
            obtain ⟨x, hx⟩ : ∃ x, xs[j] = x := ⟨_, rfl⟩
            rw [hx] at xc
            have xle := Hxn.out x (mem_of_get xc)
            have dc : w2.cell? ⟨g, j, none⟩ = some (.int .i64 x) := by
              rw [Own2.out.cellAt _ (by omega), List.getElem?_map, xc]; rfl
            have j1 : (0 : Int) ≤ (j : Int) := by omega
            have j2 : (j : Int) < (xs.length : Int) := by omega
            clear xc hx
            go_wp2_with fail
            go_round
            case rel => exact ⟨j + 1, by go_num, by omega⟩
            case measure => simp [intOf]; omega
          · obtain rfl : j = xs.length := by omega
            have hSl : S'.length ≤ 65536 := by have := Hlen.out; omega
            have q1 : ((xs.length : Int) == (xs.length : Int)) = true := by simp
            rcases Classical.em (S' = []) with hS | hS
            · subst hS
              have hxk : xs.length = k := by have := Hlen.out; simpa using this
              have q2 : ((0 : Int) == (k : Int) - (xs.length : Int)) = true := beq_iff_eq.2 (by omega)
              have q3 : decide (xs.length < k) = false := decide_eq_false (by omega)
              clear hxk
              go_wp2_with fail
              refine (I64.next_no _ _ 100 k _ A2.out).mono ?_
              rintro e w3 ⟨rfl, rfl⟩
              go_wp2_with fail
              refine (I64.len_any _ _ 100 k [] _ A2.out hSl).mono ?_
              rintro e w4 ⟨rfl, rfl⟩
              go_wp2_with fail
              refine (works_any _).mono ?_
              rintro e w5 ⟨rfl, b5⟩
              have B5 := Lib.hid ((F2.out.toBelow (Nat.le_refl _)).trans (b5.mono F2.out.size))
              clear b5
              go_wp2_with fail
              go_ret
              exact ⟨rfl, B5.out⟩
            · obtain ⟨i, t, hf⟩ := exists_first S' hS
              have hdue := Hun.out t (mem_of_get hf.get)
              have hSp : 0 < S'.length := List.length_pos_iff.2 hS
              have q2 : ((S'.length : Int) == (k : Int) - (xs.length : Int)) = true := beq_iff_eq.2 (by have := Hlen.out; omega)
              have q3 : decide (xs.length < k) = true := decide_eq_true (by have := Hlen.out; omega)
              have Hf := Lib.hid hf
              clear hf hS
              go_wp2_with fail
              refine (I64.next_yes _ _ 100 k S' _ A2.out Hr2.out i t Hf.out hSl).mono ?_
              rintro e w3 ⟨rfl, rfl⟩
              go_wp2_with fail
              refine (I64.len_any _ _ 100 k S' _ A2.out hSl).mono ?_
              rintro e w4 ⟨rfl, rfl⟩
              go_wp2_with fail
              refine (works_any _).mono ?_
              rintro e w5 ⟨rfl, b5⟩
              have B5 := Lib.hid ((F2.out.toBelow (Nat.le_refl _)).trans (b5.mono F2.out.size))
              clear b5
              go_wp2_with fail
              go_ret
              exact ⟨rfl, B5.out⟩
end Go.Proofs.Ytcicnanchikpjaa.Agenda
