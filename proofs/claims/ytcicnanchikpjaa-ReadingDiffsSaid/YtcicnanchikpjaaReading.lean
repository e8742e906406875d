/- Contracts of package reading and of its reference: each for every input. -/
import Derived.Test.YtcicnanchikpjaaHopsLaws
namespace Go.Proofs.Ytcicnanchikpjaa.Reading
open Go.Proofs.Ytcicnanchikpjaa.Arith Go.Proofs.Ytcicnanchikpjaa.Span Go.Proofs.Ytcicnanchikpjaa.Hops
open Go.RowKit (wrap64 Below intOf)

def timeB (x : Int) : Bool := decide (0 ≤ x ∧ x ≤ 1152921504606846976)
theorem timeB_iff {x : Int} : timeB x = true ↔ 0 ≤ x ∧ x ≤ 1152921504606846976 := by simp [timeB]
theorem timeB_not {x : Int} (h : ¬ (0 ≤ x ∧ x ≤ 1152921504606846976)) : timeB x = false := by simpa [timeB] using h
theorem timeB_yes {x : Int} (h : 0 ≤ x ∧ x ≤ 1152921504606846976) : timeB x = true := timeB_iff.2 h
set_option maxHeartbeats 1000000 in
theorem time_any (x : Int) (w : World) :
    Calls Try.prog 59 #[.int .i64 x] w fun e w' => e = .returned (.bool (timeB x)) ∧ w = w' := by
  go_enter Try.func59, Try.ntmps59
  go_wp2
  all_goals
    go_ret
    refine ⟨retb ?_, rfl⟩
    first
      | (rw [timeB, decide_eq_decide]; omega)
      | (symm; rw [timeB, decide_eq_false_iff_not]; omega)
set_option maxHeartbeats 1000000 in
theorem mgood_any (x : Int) (w : World) :
    Calls Try.prog 65 #[.int .i64 x] w fun e w' => e = .returned (.bool (timeB x)) ∧ w = w' := by
  go_enter Try.func65, Try.ntmps65
  go_wp2
  all_goals
    go_ret
    refine ⟨retb ?_, rfl⟩
    first
      | (rw [timeB, decide_eq_decide]; omega)
      | (symm; rw [timeB, decide_eq_false_iff_not]; omega)

/-- All are times. -/
def allB (zs : List Int) : Bool := zs.all timeB
theorem allB_next (zs : List Int) (k : Nat) (h : k < zs.length) : allB (zs.take (k + 1)) = (allB (zs.take k) && timeB (zs[k]?.getD 0)) := by
  rw [List.take_succ_eq_append_getElem h, allB, List.all_append]
  simp [allB, h]
theorem allB_false (zs : List Int) (k n : Nat) (hk : k < n) (hn : n ≤ zs.length) (h : timeB (zs[k]?.getD 0) = false) : allB (zs.take n) = false := by
  unfold allB
  rw [List.all_eq_false]
  refine ⟨zs[k]?.getD 0, ?_, by simp [h]⟩
  have hk' : k < zs.length := by omega
  rw [List.getElem?_eq_getElem hk']
  simp only [Option.getD_some]
  rw [List.mem_take_iff_getElem]
  exact ⟨k, by omega, rfl⟩
set_option maxHeartbeats 1000000 in
theorem all_any (b off n c : Nat) (zs : List Int) (hn : n ≤ zs.length) (hm : n ≤ 1000) (w : World) (hc : ∀ i, i < n → w.cell? ⟨b, off + i, none⟩ = some (.int .i64 (zs[i]?.getD 0))) :
    Calls Try.prog 58 #[.slice (some ⟨b, off, none⟩) n c] w fun e w' => e = .returned (.bool (allB (zs.take n))) ∧ w = w' := by
  go_enter Try.func58, Try.ntmps58
  go_wp2_with fail
  go_loop [8] (fun i => ∃ (k : Nat), k ≤ n ∧ i = .int .i64 k ∧ RowKit.Hid (allB (zs.take k) = true)) (fun i => n - (intOf i).toNat)
  case atStart => exact ⟨0, by omega, rfl, Lib.hid (by simp [allB])⟩
  case round =>
    obtain ⟨k, hk, rfl, hall⟩ := hrel
    by_cases hlt : k < n
    · obtain ⟨x, hcell, hnext, hfalse⟩ : ∃ x, w.cell? ⟨b, off + k, none⟩ = some (.int .i64 x) ∧ RowKit.Hid (allB (zs.take (k + 1)) = (allB (zs.take k) && timeB x)) ∧ RowKit.Hid (timeB x = false → allB (zs.take n) = false) :=
        ⟨_, hc k hlt, Lib.hid (allB_next zs k (by omega)), Lib.hid (allB_false zs k n hlt hn)⟩
      clear hc
      by_cases ht : timeB x = true
      · have ht' := Lib.hid ht
        go_wp2_with ((go_at_call 65); refine (mgood_any _ _).mono ?_; rintro e w' ⟨rfl, rfl⟩; rw [ht'.out])
        go_round
        case rel => exact ⟨k + 1, by omega, by go_num, Lib.hid (by rw [hnext.out, hall.out, ht'.out]; rfl)⟩
        case measure => simp [intOf]; omega
      · have ht' := Lib.hid (by simpa using ht : timeB x = false)
        clear ht
        go_wp2_with ((go_at_call 65); refine (mgood_any _ _).mono ?_; rintro e w' ⟨rfl, rfl⟩; rw [ht'.out])
        go_ret
        exact ⟨retb (hfalse.out ht'.out).symm, rfl⟩
    · obtain rfl : k = n := by omega
      go_wp2_with fail
      go_ret
      exact ⟨retb hall.out.symm, rfl⟩

def all3 (x y z : Int) : Bool := timeB x && (timeB y && timeB z)
def all2 (x y : Int) : Bool := timeB x && timeB y
theorem all_three (x y z : Int) (w : World) (b : Nat) (hb : b = w.heap.size) :
    Calls Try.prog 58 #[.slice (some ⟨b, 0, none⟩) 3 3] (w.alloc (.cells #[.int .i64 x, .int .i64 y, .int .i64 z] 2)) fun e w' => e = .returned (.bool (all3 x y z)) ∧ w.alloc (.cells #[.int .i64 x, .int .i64 y, .int .i64 z] 2) = w' := by
  have h := all_any b 0 3 3 [x, y, z] (by simp) (by omega) (w.alloc (.cells #[.int .i64 x, .int .i64 y, .int .i64 z] 2)) (by
    intro i hi
    rw [World.cell?_alloc_at _ _ _ _ (by simpa using hb)]
    rcases (by omega : i = 0 ∨ i = 1 ∨ i = 2) with rfl | rfl | rfl <;> rfl)
  have e : allB (List.take 3 [x, y, z]) = all3 x y z := by simp [allB, all3]
  rw [e] at h
  exact h
theorem all_two (x y : Int) (w : World) (b : Nat) (hb : b = w.heap.size) :
    Calls Try.prog 58 #[.slice (some ⟨b, 0, none⟩) 2 2] (w.alloc (.cells #[.int .i64 x, .int .i64 y] 2)) fun e w' => e = .returned (.bool (all2 x y)) ∧ w.alloc (.cells #[.int .i64 x, .int .i64 y] 2) = w' := by
  have h := all_any b 0 2 2 [x, y] (by simp) (by omega) (w.alloc (.cells #[.int .i64 x, .int .i64 y] 2)) (by
    intro i hi
    rw [World.cell?_alloc_at _ _ _ _ (by simpa using hb)]
    rcases (by omega : i = 0 ∨ i = 1) with rfl | rfl <;> rfl)
  have e : allB (List.take 2 [x, y]) = all2 x y := by simp [allB, all2]
  rw [e] at h
  exact h
theorem all_one (x : Int) (w : World) (b : Nat) (hb : b = w.heap.size) :
    Calls Try.prog 58 #[.slice (some ⟨b, 0, none⟩) 1 1] (w.alloc (.cells #[.int .i64 x] 2)) fun e w' => e = .returned (.bool (timeB x)) ∧ w.alloc (.cells #[.int .i64 x] 2) = w' := by
  have h := all_any b 0 1 1 [x] (by simp) (by omega) (w.alloc (.cells #[.int .i64 x] 2)) (by
    intro i hi
    rw [World.cell?_alloc_at _ _ _ _ (by simpa using hb)]
    obtain rfl : i = 0 := by omega
    rfl)
  have e : allB (List.take 1 [x]) = timeB x := by simp [allB]
  rw [e] at h
  exact h

def estOk (v s n : Int) : Bool := decide ((0 ≤ v ∧ v ≤ 1152921504606846976) ∧ (0 ≤ s ∧ s ≤ 1152921504606846976) ∧ (0 ≤ n ∧ n ≤ 1152921504606846976) ∧ s ≤ n ∧ v + (n - s) / 2 ≤ 1152921504606846976)
def est (v s n : Int) : Int := if estOk v s n then v + (n - s) / 2 else 0
theorem est_yes {v s n : Int} (h : estOk v s n = true) : est v s n = v + (n - s) / 2 := by rw [est, h]; rfl
theorem est_no {v s n : Int} (h : estOk v s n = false) : est v s n = 0 := by rw [est, h]; rfl
theorem below_1 (w : World) (o : Obj) : Below w.heap.size w (w.alloc o) := (Below.refl _ _).alloc (Nat.le_refl _) _
theorem below_2 (w : World) (o p : Obj) : Below w.heap.size w ((w.alloc o).alloc p) := (below_1 w o).alloc (by simp) _
set_option maxHeartbeats 1000000 in
theorem estimate_any (v s n : Int) (w : World) :
    Calls Try.prog 42 #[.int .i64 v, .int .i64 s, .int .i64 n] w fun e w' => e = .returned (.tuple #[.int .i64 (est v s n), .bool (estOk v s n)]) ∧ Below w.heap.size w w' := by
  by_cases h3 : all3 v s n = true
  · have h3' := Lib.hid h3
    have hr : (0 ≤ v ∧ v ≤ 1152921504606846976) ∧ (0 ≤ s ∧ s ≤ 1152921504606846976) ∧ (0 ≤ n ∧ n ≤ 1152921504606846976) := by
      simp only [all3, Bool.and_eq_true] at h3
      exact ⟨timeB_iff.1 h3.1, timeB_iff.1 h3.2.1, timeB_iff.1 h3.2.2⟩
    clear h3
    by_cases hsn : s ≤ n
    · by_cases ht : timeB (v + (n - s) / 2) = true
      · have ht' := Lib.hid ht
        have ht2 := timeB_iff.1 ht
        have hok : estOk v s n = true := by rw [estOk, decide_eq_true_iff]; omega
        have hok' := Lib.hid hok
        clear ht hok
        go_enter Try.func42, Try.ntmps42
        go_wp2_with fail
        refine (all_three v s n _ _ rfl).mono ?_
        rintro e w1 ⟨rfl, rfl⟩
        rw [h3'.out]
        go_wp2_with fail
        refine (all_one _ _ _ (by simp)).mono ?_
        rintro e w1 ⟨rfl, rfl⟩
        rw [ht'.out]
        go_wp2_with fail
        go_ret2
        exact ⟨ret2 (est_yes hok'.out).symm hok'.out.symm, below_2 _ _ _⟩
      · have ht' := Lib.hid (by simpa using ht : timeB (v + (n - s) / 2) = false)
        have hok : estOk v s n = false := by
          rw [estOk, decide_eq_false_iff_not]
          intro c
          exact ht (timeB_yes (by omega))
        have hok' := Lib.hid hok
        clear ht hok
        go_enter Try.func42, Try.ntmps42
        go_wp2_with fail
        refine (all_three v s n _ _ rfl).mono ?_
        rintro e w1 ⟨rfl, rfl⟩
        rw [h3'.out]
        go_wp2_with fail
        refine (all_one _ _ _ (by simp)).mono ?_
        rintro e w1 ⟨rfl, rfl⟩
        rw [ht'.out]
        go_wp2_with fail
        go_ret2
        exact ⟨ret2 (est_no hok'.out).symm hok'.out.symm, below_2 _ _ _⟩
    · have hok' := Lib.hid (by rw [estOk, decide_eq_false_iff_not]; omega : estOk v s n = false)
      go_enter Try.func42, Try.ntmps42
      go_wp2_with fail
      refine (all_three v s n _ _ rfl).mono ?_
      rintro e w1 ⟨rfl, rfl⟩
      rw [h3'.out]
      go_wp2_with fail
      go_ret2
      exact ⟨ret2 (est_no hok'.out).symm hok'.out.symm, below_1 _ _⟩
  · have h3' := Lib.hid (by simpa using h3 : all3 v s n = false)
    have hok' := Lib.hid (by
      rw [estOk, decide_eq_false_iff_not]
      intro c
      refine h3 ?_
      rw [all3, timeB_yes c.1, timeB_yes c.2.1, timeB_yes c.2.2.1]; rfl : estOk v s n = false)
    clear h3
    go_enter Try.func42, Try.ntmps42
    go_wp2_with fail
    refine (all_three v s n _ _ rfl).mono ?_
    rintro e w1 ⟨rfl, rfl⟩
    rw [h3'.out]
    go_wp2_with fail
    go_ret2
    exact ⟨ret2 (est_no hok'.out).symm hok'.out.symm, below_1 _ _⟩

set_option maxHeartbeats 1000000 in
theorem restimate_any (v s n : Int) (w : World) :
    Calls Try.prog 43 #[.int .i64 v, .int .i64 s, .int .i64 n] w fun e w' => e = .returned (.tuple #[.int .i64 (est v s n), .bool (estOk v s n)]) ∧ w = w' := by
  by_cases h1 : 0 ≤ v ∧ v ≤ 1152921504606846976
  · have t1 := Lib.hid (timeB_yes h1)
    by_cases h2 : 0 ≤ s ∧ s ≤ 1152921504606846976
    · have t2 := Lib.hid (timeB_yes h2)
      by_cases h3 : 0 ≤ n ∧ n ≤ 1152921504606846976
      · have t3 := Lib.hid (timeB_yes h3)
        by_cases h4 : s ≤ n
        · by_cases h5 : v + (n - s) / 2 ≤ 1152921504606846976
          · have t5 := Lib.hid (timeB_yes (x := v + (n - s) / 2) (by omega))
            have hok' := Lib.hid (by rw [estOk, decide_eq_true_iff]; exact ⟨h1, h2, h3, h4, h5⟩ : estOk v s n = true)
            go_enter Try.func43, Try.ntmps43
            go_wp2_with fail
            refine (time_any _ _).mono ?_
            rintro e w1 ⟨rfl, rfl⟩
            rw [t1.out]
            go_wp2_with fail
            refine (time_any _ _).mono ?_
            rintro e w1 ⟨rfl, rfl⟩
            rw [t2.out]
            go_wp2_with fail
            refine (time_any _ _).mono ?_
            rintro e w1 ⟨rfl, rfl⟩
            rw [t3.out]
            go_wp2_with fail
            refine (time_any _ _).mono ?_
            rintro e w1 ⟨rfl, rfl⟩
            rw [t5.out]
            go_wp2_with fail
            go_ret2
            exact ⟨ret2 (est_yes hok'.out).symm hok'.out.symm, rfl⟩
          · have t5 := Lib.hid (timeB_not (x := v + (n - s) / 2) (by omega))
            have hok' := Lib.hid (by rw [estOk, decide_eq_false_iff_not]; omega : estOk v s n = false)
            go_enter Try.func43, Try.ntmps43
            go_wp2_with fail
            refine (time_any _ _).mono ?_
            rintro e w1 ⟨rfl, rfl⟩
            rw [t1.out]
            go_wp2_with fail
            refine (time_any _ _).mono ?_
            rintro e w1 ⟨rfl, rfl⟩
            rw [t2.out]
            go_wp2_with fail
            refine (time_any _ _).mono ?_
            rintro e w1 ⟨rfl, rfl⟩
            rw [t3.out]
            go_wp2_with fail
            refine (time_any _ _).mono ?_
            rintro e w1 ⟨rfl, rfl⟩
            rw [t5.out]
            go_wp2_with fail
            go_ret2
            exact ⟨ret2 (est_no hok'.out).symm hok'.out.symm, rfl⟩
        · have hok' := Lib.hid (by rw [estOk, decide_eq_false_iff_not]; omega : estOk v s n = false)
          go_enter Try.func43, Try.ntmps43
          go_wp2_with fail
          refine (time_any _ _).mono ?_
          rintro e w1 ⟨rfl, rfl⟩
          rw [t1.out]
          go_wp2_with fail
          refine (time_any _ _).mono ?_
          rintro e w1 ⟨rfl, rfl⟩
          rw [t2.out]
          go_wp2_with fail
          refine (time_any _ _).mono ?_
          rintro e w1 ⟨rfl, rfl⟩
          rw [t3.out]
          go_wp2_with fail
          go_ret2
          exact ⟨ret2 (est_no hok'.out).symm hok'.out.symm, rfl⟩
      · have t3 := Lib.hid (timeB_not h3)
        have hok' := Lib.hid (by rw [estOk, decide_eq_false_iff_not]; exact fun c => h3 c.2.2.1 : estOk v s n = false)
        clear h3
        go_enter Try.func43, Try.ntmps43
        go_wp2_with fail
        refine (time_any _ _).mono ?_
        rintro e w1 ⟨rfl, rfl⟩
        rw [t1.out]
        go_wp2_with fail
        refine (time_any _ _).mono ?_
        rintro e w1 ⟨rfl, rfl⟩
        rw [t2.out]
        go_wp2_with fail
        refine (time_any _ _).mono ?_
        rintro e w1 ⟨rfl, rfl⟩
        rw [t3.out]
        go_wp2_with fail
        go_ret2
        exact ⟨ret2 (est_no hok'.out).symm hok'.out.symm, rfl⟩
    · have t2 := Lib.hid (timeB_not h2)
      have hok' := Lib.hid (by rw [estOk, decide_eq_false_iff_not]; exact fun c => h2 c.2.1 : estOk v s n = false)
      clear h2
      go_enter Try.func43, Try.ntmps43
      go_wp2_with fail
      refine (time_any _ _).mono ?_
      rintro e w1 ⟨rfl, rfl⟩
      rw [t1.out]
      go_wp2_with fail
      refine (time_any _ _).mono ?_
      rintro e w1 ⟨rfl, rfl⟩
      rw [t2.out]
      go_wp2_with fail
      go_ret2
      exact ⟨ret2 (est_no hok'.out).symm hok'.out.symm, rfl⟩
  · have t1 := Lib.hid (timeB_not h1)
    have hok' := Lib.hid (by rw [estOk, decide_eq_false_iff_not]; exact fun c => h1 c.1 : estOk v s n = false)
    clear h1
    go_enter Try.func43, Try.ntmps43
    go_wp2_with fail
    refine (time_any _ _).mono ?_
    rintro e w1 ⟨rfl, rfl⟩
    rw [t1.out]
    go_wp2_with fail
    go_ret2
    exact ⟨ret2 (est_no hok'.out).symm hok'.out.symm, rfl⟩
end Go.Proofs.Ytcicnanchikpjaa.Reading
