/- The document's agenda: New and First, walked. -/
import Derived.Test.YtcicnanchikpjaaAgendaF
import Derived.Test.YtcicnanchikpjaaTake
import Derived.Deep.RegionHeld3
namespace Go.Proofs.Ytcicnanchikpjaa.Heap
open Go.RowKit
open Go.Proofs.Ytcicnanchikpjaa.RF
set_option linter.unusedVariables false
set_option linter.unusedSimpArgs false

/-- A thing as the document keeps it. -/
def tc (t : Th Int) : List Value := [.int .i64 t.due, .int .i64 t.x]
def tf (S : List (Th Int)) : List Value := (S.map tc).flatten
theorem tc_all (S : List (Th Int)) : ∀ x ∈ S.map tc, x.length = 2 := fun x hx => by
  obtain ⟨t, _, rfl⟩ := List.mem_map.1 hx
  rfl
theorem tf_len (S : List (Th Int)) : (tf S).length = S.length * 2 := by
  have := flat_len (tc_all S)
  simpa [tf] using this
theorem tf_at {S : List (Th Int)} {i : Nat} {t : Th Int} (h : S[i]? = some t) : (tf S)[i * 2]? = some (.int .i64 t.due) ∧ (tf S)[i * 2 + 1]? = some (.int .i64 t.x) := by
  have h1 : (S.map tc)[i]? = some (tc t) := by rw [List.getElem?_map, h]; rfl
  have a0 := flat_get (k := 0) (tc_all S) h1 (by omega)
  have a1 := flat_get (k := 1) (tc_all S) h1 (by omega)
  exact ⟨a0, a1⟩
theorem tf_append (S T : List (Th Int)) : tf (S ++ T) = tf S ++ tf T := by simp [tf]
theorem tf_one (t : Th Int) : tf [t] = tc t := by simp [tf]
/-- A list of the document's things lies. -/
structure TAt (w : World) (a : Option Addr) (cap : Nat) (S : List (Th Int)) : Prop where
  le : S.length ≤ cap
  max : cap ≤ maxLen
  at_ : (a = none ∧ cap = 0) ∨ ∃ b, a = some ⟨b, 0, none⟩ ∧ b < w.heap.size ∧ (∀ (j : Nat) (u : Value), (tf S)[j]? = some u → w.cell? ⟨b, j, none⟩ = some u) ∧ ∃ cur, Blk w b 54 cur
theorem TAt.below {w w' : World} {a : Option Addr} {cap : Nat} {S : List (Th Int)} (h : TAt w a cap S) (k : Below w.heap.size w w') : TAt w' a cap S := by
  refine ⟨h.le, h.max, ?_⟩
  rcases h.at_ with c | ⟨b, h1, h2, h3, cur, hcur⟩
  · exact .inl c
  · exact .inr ⟨b, h1, Nat.lt_of_lt_of_le h2 k.size, fun j u hu => (k.cell (p := ⟨b, j, none⟩) h2).trans (h3 j u hu), cur, hcur.below k hcur.lt⟩
theorem TAt.get {w : World} {a : Option Addr} {cap : Nat} {S : List (Th Int)} (h : TAt w a cap S) {i : Nat} {t : Th Int} (hi : S[i]? = some t) : ∃ b, a = some ⟨b, 0, none⟩ ∧ b < w.heap.size ∧ w.cell? ⟨b, i * 2, none⟩ = some (.int .i64 t.due) ∧ w.cell? ⟨b, i * 2 + 1, none⟩ = some (.int .i64 t.x) := by
  have hl := lt_of_get hi
  rcases h.at_ with ⟨_, c⟩ | ⟨b, h1, h2, h3, _⟩
  · have := h.le; omega
  · exact ⟨b, h1, h2, h3 _ _ (tf_at hi).1, h3 _ _ (tf_at hi).2⟩
theorem results_agg {P : Program} {fn : Func} {a : Tmp} {t : TypeId} {tmps : Array Value} {w : World} {b : Nat} {cs : List Value} {d : TypeDesc} (h : fn.results = #[.cell a t]) (ha : tmps.getD a undef = .pointer (some ⟨b, 0, none⟩))
    (hu : P.underlying t = some d) (hd : d.isRow = true) (hi : (P.info? t).map (·.size) = some cs.length) (hc : w.rangeAt b 0 cs) :
    (results fn tmps).run P w = .ok (.agg cs.toArray) w := by
  have hl := run_loadVar_mid (P := P) w b 0 t cs d hc hu hd hi
  have hp : (asAddr (.pointer (some ⟨b, 0, none⟩) : Value)).run P w = .ok ⟨b, 0, none⟩ w := by simp [asAddr]
  rw [Array.getD_eq_getD_getElem?] at ha
  simp [results, h, ha, Sem.run_bind, hl, hp]
theorem results_agg1 {P : Program} {fn : Func} {a s : Tmp} {t : TypeId} {tmps : Array Value} {w : World} {b : Nat} {cs : List Value} {d : TypeDesc} (h : fn.results = #[.cell a t, .tmp s]) (ha : tmps.getD a undef = .pointer (some ⟨b, 0, none⟩))
    (hu : P.underlying t = some d) (hd : d.isRow = true) (hi : (P.info? t).map (·.size) = some cs.length) (hc : w.rangeAt b 0 cs) :
    (results fn tmps).run P w = .ok (.tuple #[.agg cs.toArray, tmps.getD s undef]) w := by
  have hl := run_loadVar_mid (P := P) w b 0 t cs d hc hu hd hi
  have hp : (asAddr (.pointer (some ⟨b, 0, none⟩) : Value)).run P w = .ok ⟨b, 0, none⟩ w := by simp [asAddr]
  rw [Array.getD_eq_getD_getElem?] at ha
  simp [results, h, ha, Sem.run_bind, hl, hp]
theorem results_agg2 {P : Program} {fn : Func} {a s s' : Tmp} {t : TypeId} {tmps : Array Value} {w : World} {b : Nat} {cs : List Value} {d : TypeDesc} (h : fn.results = #[.cell a t, .tmp s, .tmp s']) (ha : tmps.getD a undef = .pointer (some ⟨b, 0, none⟩))
    (hu : P.underlying t = some d) (hd : d.isRow = true) (hi : (P.info? t).map (·.size) = some cs.length) (hc : w.rangeAt b 0 cs) :
    (results fn tmps).run P w = .ok (.tuple #[.agg cs.toArray, tmps.getD s undef, tmps.getD s' undef]) w := by
  have hl := run_loadVar_mid (P := P) w b 0 t cs d hc hu hd hi
  have hp : (asAddr (.pointer (some ⟨b, 0, none⟩) : Value)).run P w = .ok ⟨b, 0, none⟩ w := by simp [asAddr]
  rw [Array.getD_eq_getD_getElem?] at ha
  simp [results, h, ha, Sem.run_bind, hl, hp]
theorem rng2 {w : World} {b : Nat} {c0 c1 : Value} (h0 : w.cell? ⟨b, 0, none⟩ = some c0) (h1 : w.cell? ⟨b, 1, none⟩ = some c1) : w.rangeAt b 0 [c0, c1] := by
  intro j v hj
  rcases j with _ | _ | j <;> simp at hj <;> subst hj <;> simpa
theorem rng_blk {w : World} {b : Nat} {t : TypeId} {c0 c1 : Value} (h : Blk w b t #[c0, c1]) : w.rangeAt b 0 [c0, c1] := rng2 (h.cell 0) (h.cell 1)
set_option maxRecDepth 100000 in
set_option maxHeartbeats 2000000 in
theorem refnew_any (m : Int) (w : World) (hm : -9223372036854775808 ≤ m ∧ m ≤ 9223372036854775807) :
    Calls Try.prog 25 #[.int .i64 m] w fun e w' => e = .returned (.agg #[.slice none 0 0, .int .i64 (min (max m 0) 65536)]) ∧ Below w.heap.size w w' := by
  have fin : ∀ k : Int, (w.alloc (.cells #[.slice none 0 0, .int .i64 k] 43)).rangeAt w.heap.size 0 [.slice none 0 0, .int .i64 k] := fun k => rng_blk (Blk.new w _ _)
  have fb : ∀ o, Below w.heap.size w (w.alloc o) := fun o => (Below.refl _ w).alloc (Nat.le_refl _) o
  by_cases h0 : m < 0
  · have e : min (max m 0) 65536 = 0 := by omega
    rw [e]
    go_enter Try.func25, Try.ntmps25
    go_wp2
    refine bodyPost_ret (results_agg (b := w.heap.size) Try.results25 rfl (d := _) rfl (by kernel_rfl) (by kernel_rfl) (fin _)) rfl ⟨rfl, fb _⟩
  · by_cases h1 : 65536 < m
    · have e : min (max m 0) 65536 = 65536 := by omega
      rw [e]
      go_enter Try.func25, Try.ntmps25
      go_wp2
      refine bodyPost_ret (results_agg (b := w.heap.size) Try.results25 rfl (d := _) rfl (by kernel_rfl) (by kernel_rfl) (fin _)) rfl ⟨rfl, fb _⟩
    · have e : min (max m 0) 65536 = m := by omega
      have Em := Lib.hid e
      rw [e]
      clear e
      go_enter Try.func25, Try.ntmps25
      go_wp2
      refine bodyPost_ret (results_agg (b := w.heap.size) Try.results25 rfl (d := _) rfl (by kernel_rfl) (by kernel_rfl) (fin _)) rfl ⟨rfl, fb _⟩
/-- Where the first one stands, of the first k. -/
def FirstTo (S : List (Th Int)) (k : Nat) (at_ : Int) : Prop := (k = 0 ∧ at_ = -1) ∨ ∃ (i : Nat) (t : Th Int), at_ = (i : Int) ∧ i < k ∧ First (S.take k) i t
set_option maxRecDepth 100000 in
set_option maxHeartbeats 4000000 in
theorem reffirst_any (most : Int) (a : Option Addr) (cap : Nat) (S : List (Th Int)) (w : World) (h : TAt w a cap S) (hS : S.length ≤ 65536) :
    Calls Try.prog 29 #[.agg #[.slice a S.length cap, .int .i64 most]] w fun e w' => ∃ p : Int, e = .returned (.int .i64 p) ∧ FirstTo S S.length p ∧ Below w.heap.size w w' := by
  obtain ⟨W, hW⟩ : ∃ W, w.alloc (.cells #[.slice a S.length cap, .int .i64 most] 43) = W := ⟨_, rfl⟩
  have bW : Blk W w.heap.size 43 #[.slice a S.length cap, .int .i64 most] := by rw [← hW]; exact Blk.new w _ _
  have lW : Below w.heap.size w W := by rw [← hW]; exact (Below.refl _ w).alloc (Nat.le_refl _) _
  have HW := Lib.hid hW
  have Hb := Lib.hid bW
  have HA := Lib.hid (h.below lW)
  clear hW bW h
  go_enter Try.func29, Try.ntmps29
  go_wp2_with (rw [HW.out])
  clear HW
  go_loopw [3, 4] (fun v3 v4 wr => ∃ (p : Int) (k : Nat), v3 = .int .i64 p ∧ v4 = .int .i64 k ∧ k ≤ S.length ∧ FirstTo S k p ∧ Below W.heap.size W wr) (fun _ v4 _ => match v4 with | .int _ k => S.length - k.toNat | _ => 0)
  case atStart => exact ⟨-1, 0, rfl, rfl, Nat.zero_le _, .inl ⟨rfl, rfl⟩, Below.refl _ _⟩
  case round =>
    obtain ⟨p, k, rfl, rfl, hk, hF, lR⟩ := hrel
    have c0 := (Hb.out.below lR Hb.out.lt).cell 0
    simp at c0
    by_cases hlt : k < S.length
    · obtain ⟨t, ht⟩ : ∃ t, S[k]? = some t := ⟨_, List.getElem?_eq_getElem hlt⟩
      obtain ⟨b, rfl, hb, e0, _⟩ := (HA.out.below lR).get ht
      have hsn : S.take (k + 1) = S.take k ++ [t] := by rw [List.take_add_one, ht]; rfl
      have l3 : (0 : Int) ≤ (k : Int) := by omega
      have l4 : (k : Int) < (S.length : Int) := by omega
      rcases hF with ⟨rfl, rfl⟩ | ⟨i, u, rfl, hik, hf⟩
      · have hf1 : First (S.take 1) 0 t := by
          rw [hsn]; exact first_one t
        have HF := Lib.hid hf1
        have HSS := Lib.hid (show (wr.cell? ⟨w.heap.size, 0, none⟩ = some (.slice (some ⟨b, 0, none⟩) S.length cap)) from ((Hb.out.below lR Hb.out.lt).cell 0))
        clear hsn hf1 e0 ht
        go_wp2_with fail
        go_cut [28] (fun s28 V => s28 = .bool true ∧ V = wr.drew)
        case first =>
          refine wp_region_noPanic ?_
          refine wp_region_held_drew (S := fun w' => w'.cell? ⟨w.heap.size, 0, none⟩ = some (.slice (some ⟨b, 0, none⟩) S.length cap)) (by kernel_rfl) HSS.out (fun hHeld => ?_)
          refine Take.take (i := 0) (oi := _) (t := 12) (v := ?v1) rfl (by kernel_rfl) (by kernel_rfl) (by kernel_rfl) (by kernel_rfl) (fun _ _ _ h => h) (by kernel_rfl) ?hy1 (by assumption) ?_
          case hy1 => (intro w hSw; (try dsimp only at hSw); go_simp; try with_reducible rfl)
          try simp only [Act.put, List.setIfInBounds_toArray, List.set_cons_zero, List.set_cons_succ]
          refine Take.take (i := 1) (oi := _) (t := 13) (v := ?v2) rfl (by kernel_rfl) (by kernel_rfl) (by kernel_rfl) (by kernel_rfl) (fun _ _ _ h => h) (by kernel_rfl) ?hy2 (by assumption) ?_
          case hy2 => (intro w hSw; (try dsimp only at hSw); go_simp; try with_reducible rfl)
          try simp only [Act.put, List.setIfInBounds_toArray, List.set_cons_zero, List.set_cons_succ]
          refine Take.take (i := 2) (oi := _) (t := 14) (v := ?v3) rfl (by kernel_rfl) (by kernel_rfl) (by kernel_rfl) (by kernel_rfl) (fun _ _ _ h => h) (by kernel_rfl) ?hy3 (by assumption) ?_
          case hy3 => (intro w hSw; (try dsimp only at hSw); go_simp; try with_reducible rfl)
          try simp only [Act.put, List.setIfInBounds_toArray, List.set_cons_zero, List.set_cons_succ]
          refine Take.skip (i := 3) (t := 15) (g := 2) (b := false) (by kernel_rfl) (by kernel_rfl) (by kernel_rfl) (by kernel_rfl) (fun _ _ _ h => h) (by kernel_rfl) (by assumption) ?_
          try simp only [Act.put, List.setIfInBounds_toArray, List.set_cons_zero, List.set_cons_succ]
          refine Take.skip (i := 4) (t := 16) (g := 2) (b := false) (by kernel_rfl) (by kernel_rfl) (by kernel_rfl) (by kernel_rfl) (fun _ _ _ h => h) (by kernel_rfl) (by assumption) ?_
          try simp only [Act.put, List.setIfInBounds_toArray, List.set_cons_zero, List.set_cons_succ]
          refine Take.skip (i := 5) (t := 17) (g := 2) (b := false) (by kernel_rfl) (by kernel_rfl) (by kernel_rfl) (by kernel_rfl) (fun _ _ _ h => h) (by kernel_rfl) (by assumption) ?_
          try simp only [Act.put, List.setIfInBounds_toArray, List.set_cons_zero, List.set_cons_succ]
          refine Take.skip (i := 6) (t := 18) (g := 2) (b := false) (by kernel_rfl) (by kernel_rfl) (by kernel_rfl) (by kernel_rfl) (fun _ _ _ h => h) (by kernel_rfl) (by assumption) ?_
          try simp only [Act.put, List.setIfInBounds_toArray, List.set_cons_zero, List.set_cons_succ]
          refine Take.skip (i := 7) (t := 19) (g := 2) (b := false) (by kernel_rfl) (by kernel_rfl) (by kernel_rfl) (by kernel_rfl) (fun _ _ _ h => h) (by kernel_rfl) (by assumption) ?_
          try simp only [Act.put, List.setIfInBounds_toArray, List.set_cons_zero, List.set_cons_succ]
          refine Take.skip (i := 8) (t := 20) (g := 2) (b := false) (by kernel_rfl) (by kernel_rfl) (by kernel_rfl) (by kernel_rfl) (fun _ _ _ h => h) (by kernel_rfl) (by assumption) ?_
          try simp only [Act.put, List.setIfInBounds_toArray, List.set_cons_zero, List.set_cons_succ]
          refine Take.skip (i := 9) (t := 21) (g := 2) (b := false) (by kernel_rfl) (by kernel_rfl) (by kernel_rfl) (by kernel_rfl) (fun _ _ _ h => h) (by kernel_rfl) (by assumption) ?_
          try simp only [Act.put, List.setIfInBounds_toArray, List.set_cons_zero, List.set_cons_succ]
          refine Take.skip (i := 10) (t := 22) (g := 2) (b := false) (by kernel_rfl) (by kernel_rfl) (by kernel_rfl) (by kernel_rfl) (fun _ _ _ h => h) (by kernel_rfl) (by assumption) ?_
          try simp only [Act.put, List.setIfInBounds_toArray, List.set_cons_zero, List.set_cons_succ]
          refine Take.skip (i := 11) (t := 23) (g := 2) (b := false) (by kernel_rfl) (by kernel_rfl) (by kernel_rfl) (by kernel_rfl) (fun _ _ _ h => h) (by kernel_rfl) (by assumption) ?_
          try simp only [Act.put, List.setIfInBounds_toArray, List.set_cons_zero, List.set_cons_succ]
          refine Take.skip (i := 12) (t := 24) (g := 2) (b := false) (by kernel_rfl) (by kernel_rfl) (by kernel_rfl) (by kernel_rfl) (fun _ _ _ h => h) (by kernel_rfl) (by assumption) ?_
          try simp only [Act.put, List.setIfInBounds_toArray, List.set_cons_zero, List.set_cons_succ]
          refine Take.skip (i := 13) (t := 25) (g := 2) (b := false) (by kernel_rfl) (by kernel_rfl) (by kernel_rfl) (by kernel_rfl) (fun _ _ _ h => h) (by kernel_rfl) (by assumption) ?_
          try simp only [Act.put, List.setIfInBounds_toArray, List.set_cons_zero, List.set_cons_succ]
          refine Take.skip (i := 14) (t := 26) (g := 2) (b := false) (by kernel_rfl) (by kernel_rfl) (by kernel_rfl) (by kernel_rfl) (fun _ _ _ h => h) (by kernel_rfl) (by assumption) ?_
          try simp only [Act.put, List.setIfInBounds_toArray, List.set_cons_zero, List.set_cons_succ]
          refine Take.skip (i := 15) (t := 27) (g := 2) (b := false) (by kernel_rfl) (by kernel_rfl) (by kernel_rfl) (by kernel_rfl) (fun _ _ _ h => h) (by kernel_rfl) (by assumption) ?_
          try simp only [Act.put, List.setIfInBounds_toArray, List.set_cons_zero, List.set_cons_succ]
          refine Take.take (i := 16) (oi := _) (t := 28) (v := ?v4) rfl (by kernel_rfl) (by kernel_rfl) (by kernel_rfl) (by kernel_rfl) (fun _ _ _ h => h) (by kernel_rfl) ?hy4 (by assumption) ?_
          case hy4 => (intro w hSw; (try dsimp only at hSw); go_simp; try with_reducible rfl)
          try simp only [Act.put, List.setIfInBounds_toArray, List.set_cons_zero, List.set_cons_succ]
          refine wpAnyH_done (by kernel_rfl) ?_ _
          refine NoPanic.normal ?_
          go_wp2_with fail
          go_meet
          exact ⟨rfl, rfl⟩
        case rest =>
          obtain ⟨rfl, rfl⟩ := hcut
          go_wp2_with fail
          go_round
          case rel => exact ⟨0, 1, rfl, rfl, hlt, .inr ⟨0, t, rfl, by omega, HF.out⟩, lR.drew⟩
          case measure => simp; omega
      · have hu : S[i]? = some u := by
          have := hf.get
          rwa [List.getElem?_take, if_pos hik] at this
        obtain ⟨b', hb', _, e1, _⟩ := (HA.out.below lR).get hu
        obtain rfl : b = b' := by simpa using hb'
        have l5 : (0 : Int) ≤ (i : Int) := by omega
        have l6 : (i : Int) < (S.length : Int) := by omega
        have hmk := hf.mk_snoc (x := t)
        rw [← hsn, List.length_take, Nat.min_eq_left hk] at hmk
        have HSS := Lib.hid (show (wr.cell? ⟨w.heap.size, 0, none⟩ = some (.slice (some ⟨b, 0, none⟩) S.length cap) ∧ wr.cell? ⟨b, k * 2, none⟩ = some (.int .i64 t.due) ∧ wr.cell? ⟨b, i * 2, none⟩ = some (.int .i64 u.due)) from ⟨((Hb.out.below lR Hb.out.lt).cell 0), e0, e1⟩)
        have Hmk := Lib.hid hmk
        have Hht := Lib.hid ht
        clear hsn hmk e0 e1 hu hf ht
        go_wp2_with fail
        by_cases hdu : t.due < u.due
        · go_cut [28] (fun s28 V => s28 = .bool true ∧ V = wr.drew)
          case first =>
            refine wp_region_noPanic ?_
            refine wp_region_held_drew (S := fun w' => w'.cell? ⟨w.heap.size, 0, none⟩ = some (.slice (some ⟨b, 0, none⟩) S.length cap) ∧ w'.cell? ⟨b, k * 2, none⟩ = some (.int .i64 t.due) ∧ w'.cell? ⟨b, i * 2, none⟩ = some (.int .i64 u.due)) (by kernel_rfl) HSS.out (fun hHeld => ?_)
            refine Take.take (i := 0) (oi := _) (t := 12) (v := ?v5) rfl (by kernel_rfl) (by kernel_rfl) (by kernel_rfl) (by kernel_rfl) (fun _ _ _ h => h) (by kernel_rfl) ?hy5 (by assumption) ?_
            case hy5 => (intro w hSw; (try dsimp only at hSw); go_simp; try with_reducible rfl)
            try simp only [Act.put, List.setIfInBounds_toArray, List.set_cons_zero, List.set_cons_succ]
            refine Take.take (i := 1) (oi := _) (t := 13) (v := ?v6) rfl (by kernel_rfl) (by kernel_rfl) (by kernel_rfl) (by kernel_rfl) (fun _ _ _ h => h) (by kernel_rfl) ?hy6 (by assumption) ?_
            case hy6 => (intro w hSw; (try dsimp only at hSw); go_simp; try with_reducible rfl)
            try simp only [Act.put, List.setIfInBounds_toArray, List.set_cons_zero, List.set_cons_succ]
            refine Take.take (i := 2) (oi := _) (t := 14) (v := ?v7) rfl (by kernel_rfl) (by kernel_rfl) (by kernel_rfl) (by kernel_rfl) (fun _ _ _ h => h) (by kernel_rfl) ?hy7 (by assumption) ?_
            case hy7 => (intro w hSw; (try dsimp only at hSw); go_simp; try with_reducible rfl)
            try simp only [Act.put, List.setIfInBounds_toArray, List.set_cons_zero, List.set_cons_succ]
            refine Take.take (i := 3) (oi := _) (t := 15) (v := ?v8) rfl (by kernel_rfl) (by kernel_rfl) (by kernel_rfl) (by kernel_rfl) (fun _ _ _ h => h) (by kernel_rfl) ?hy8 (by assumption) ?_
            case hy8 => (intro w hSw; (try dsimp only at hSw); go_simp; try with_reducible rfl)
            try simp only [Act.put, List.setIfInBounds_toArray, List.set_cons_zero, List.set_cons_succ]
            refine Take.take (i := 4) (oi := _) (t := 16) (v := ?v9) rfl (by kernel_rfl) (by kernel_rfl) (by kernel_rfl) (by kernel_rfl) (fun _ _ _ h => h) (by kernel_rfl) ?hy9 (by assumption) ?_
            case hy9 => (intro w hSw; (try dsimp only at hSw); go_simp; try with_reducible rfl)
            try simp only [Act.put, List.setIfInBounds_toArray, List.set_cons_zero, List.set_cons_succ]
            refine Take.take (i := 5) (oi := _) (t := 17) (v := ?v10) rfl (by kernel_rfl) (by kernel_rfl) (by kernel_rfl) (by kernel_rfl) (fun _ _ _ h => h) (by kernel_rfl) ?hy10 (by assumption) ?_
            case hy10 => (intro w hSw; (try dsimp only at hSw); go_simp; try with_reducible rfl)
            try simp only [Act.put, List.setIfInBounds_toArray, List.set_cons_zero, List.set_cons_succ]
            refine Take.take (i := 6) (oi := _) (t := 18) (v := ?v11) rfl (by kernel_rfl) (by kernel_rfl) (by kernel_rfl) (by kernel_rfl) (fun _ _ _ h => h) (by kernel_rfl) ?hy11 (by assumption) ?_
            case hy11 => (intro w hSw; (try dsimp only at hSw); go_simp; try with_reducible rfl)
            try simp only [Act.put, List.setIfInBounds_toArray, List.set_cons_zero, List.set_cons_succ]
            refine Take.take (i := 7) (oi := _) (t := 19) (v := ?v12) rfl (by kernel_rfl) (by kernel_rfl) (by kernel_rfl) (by kernel_rfl) (fun _ _ _ h => h) (by kernel_rfl) ?hy12 (by assumption) ?_
            case hy12 => (intro w hSw; (try dsimp only at hSw); go_simp; try with_reducible rfl)
            try simp only [Act.put, List.setIfInBounds_toArray, List.set_cons_zero, List.set_cons_succ]
            refine Take.take (i := 8) (oi := _) (t := 20) (v := ?v13) rfl (by kernel_rfl) (by kernel_rfl) (by kernel_rfl) (by kernel_rfl) (fun _ _ _ h => h) (by kernel_rfl) ?hy13 (by assumption) ?_
            case hy13 => (intro w hSw; (try dsimp only at hSw); go_simp; try with_reducible rfl)
            try simp only [Act.put, List.setIfInBounds_toArray, List.set_cons_zero, List.set_cons_succ]
            refine Take.take (i := 9) (oi := _) (t := 21) (v := ?v14) rfl (by kernel_rfl) (by kernel_rfl) (by kernel_rfl) (by kernel_rfl) (fun _ _ _ h => h) (by kernel_rfl) ?hy14 (by assumption) ?_
            case hy14 => (intro w hSw; (try dsimp only at hSw); go_simp; try with_reducible rfl)
            try simp only [Act.put, List.setIfInBounds_toArray, List.set_cons_zero, List.set_cons_succ]
            refine Take.take (i := 10) (oi := _) (t := 22) (v := ?v15) rfl (by kernel_rfl) (by kernel_rfl) (by kernel_rfl) (by kernel_rfl) (fun _ _ _ h => h) (by kernel_rfl) ?hy15 (by assumption) ?_
            case hy15 => (intro w hSw; (try dsimp only at hSw); go_simp; try with_reducible rfl)
            try simp only [Act.put, List.setIfInBounds_toArray, List.set_cons_zero, List.set_cons_succ]
            refine Take.take (i := 11) (oi := _) (t := 23) (v := ?v16) rfl (by kernel_rfl) (by kernel_rfl) (by kernel_rfl) (by kernel_rfl) (fun _ _ _ h => h) (by kernel_rfl) ?hy16 (by assumption) ?_
            case hy16 => (intro w hSw; (try dsimp only at hSw); go_simp; try with_reducible rfl)
            try simp only [Act.put, List.setIfInBounds_toArray, List.set_cons_zero, List.set_cons_succ]
            refine Take.take (i := 12) (oi := _) (t := 24) (v := ?v17) rfl (by kernel_rfl) (by kernel_rfl) (by kernel_rfl) (by kernel_rfl) (fun _ _ _ h => h) (by kernel_rfl) ?hy17 (by assumption) ?_
            case hy17 => (intro w hSw; (try dsimp only at hSw); go_simp; try with_reducible rfl)
            try simp only [Act.put, List.setIfInBounds_toArray, List.set_cons_zero, List.set_cons_succ]
            refine Take.take (i := 13) (oi := _) (t := 25) (v := ?v18) rfl (by kernel_rfl) (by kernel_rfl) (by kernel_rfl) (by kernel_rfl) (fun _ _ _ h => h) (by kernel_rfl) ?hy18 (by assumption) ?_
            case hy18 => (intro w hSw; (try dsimp only at hSw); go_simp; try with_reducible rfl)
            try simp only [Act.put, List.setIfInBounds_toArray, List.set_cons_zero, List.set_cons_succ]
            refine Take.take (i := 14) (oi := _) (t := 26) (v := ?v19) rfl (by kernel_rfl) (by kernel_rfl) (by kernel_rfl) (by kernel_rfl) (fun _ _ _ h => h) (by kernel_rfl) ?hy19 (by assumption) ?_
            case hy19 => (intro w hSw; (try dsimp only at hSw); go_simp; try with_reducible rfl)
            try simp only [Act.put, List.setIfInBounds_toArray, List.set_cons_zero, List.set_cons_succ]
            refine Take.take (i := 15) (oi := _) (t := 27) (v := ?v20) rfl (by kernel_rfl) (by kernel_rfl) (by kernel_rfl) (by kernel_rfl) (fun _ _ _ h => h) (by kernel_rfl) ?hy20 (by assumption) ?_
            case hy20 => (intro w hSw; (try dsimp only at hSw); go_simp; try with_reducible rfl)
            try simp only [Act.put, List.setIfInBounds_toArray, List.set_cons_zero, List.set_cons_succ]
            refine Take.take (i := 16) (oi := _) (t := 28) (v := ?v21) rfl (by kernel_rfl) (by kernel_rfl) (by kernel_rfl) (by kernel_rfl) (fun _ _ _ h => h) (by kernel_rfl) ?hy21 (by assumption) ?_
            case hy21 => (intro w hSw; (try dsimp only at hSw); go_simp; try with_reducible rfl)
            try simp only [Act.put, List.setIfInBounds_toArray, List.set_cons_zero, List.set_cons_succ]
            refine wpAnyH_done (by kernel_rfl) ?_ _
            refine NoPanic.normal ?_
            go_wp2_with fail
            go_meet
            exact ⟨rfl, rfl⟩
          case rest =>
            obtain ⟨rfl, rfl⟩ := hcut
            go_wp2_with fail
            go_round
            case rel => exact ⟨k, k + 1, rfl, rfl, hlt, .inr ⟨k, t, rfl, by omega, Hmk.out.2 hdu⟩, lR.drew⟩
            case measure => simp; omega
        · go_cut [28] (fun s28 V => s28 = .bool false ∧ V = wr.drew)
          case first =>
            refine wp_region_noPanic ?_
            refine wp_region_held_drew (S := fun w' => w'.cell? ⟨w.heap.size, 0, none⟩ = some (.slice (some ⟨b, 0, none⟩) S.length cap) ∧ w'.cell? ⟨b, k * 2, none⟩ = some (.int .i64 t.due) ∧ w'.cell? ⟨b, i * 2, none⟩ = some (.int .i64 u.due)) (by kernel_rfl) HSS.out (fun hHeld => ?_)
            refine Take.take (i := 0) (oi := _) (t := 12) (v := ?v22) rfl (by kernel_rfl) (by kernel_rfl) (by kernel_rfl) (by kernel_rfl) (fun _ _ _ h => h) (by kernel_rfl) ?hy22 (by assumption) ?_
            case hy22 => (intro w hSw; (try dsimp only at hSw); go_simp; try with_reducible rfl)
            try simp only [Act.put, List.setIfInBounds_toArray, List.set_cons_zero, List.set_cons_succ]
            refine Take.take (i := 1) (oi := _) (t := 13) (v := ?v23) rfl (by kernel_rfl) (by kernel_rfl) (by kernel_rfl) (by kernel_rfl) (fun _ _ _ h => h) (by kernel_rfl) ?hy23 (by assumption) ?_
            case hy23 => (intro w hSw; (try dsimp only at hSw); go_simp; try with_reducible rfl)
            try simp only [Act.put, List.setIfInBounds_toArray, List.set_cons_zero, List.set_cons_succ]
            refine Take.take (i := 2) (oi := _) (t := 14) (v := ?v24) rfl (by kernel_rfl) (by kernel_rfl) (by kernel_rfl) (by kernel_rfl) (fun _ _ _ h => h) (by kernel_rfl) ?hy24 (by assumption) ?_
            case hy24 => (intro w hSw; (try dsimp only at hSw); go_simp; try with_reducible rfl)
            try simp only [Act.put, List.setIfInBounds_toArray, List.set_cons_zero, List.set_cons_succ]
            refine Take.take (i := 3) (oi := _) (t := 15) (v := ?v25) rfl (by kernel_rfl) (by kernel_rfl) (by kernel_rfl) (by kernel_rfl) (fun _ _ _ h => h) (by kernel_rfl) ?hy25 (by assumption) ?_
            case hy25 => (intro w hSw; (try dsimp only at hSw); go_simp; try with_reducible rfl)
            try simp only [Act.put, List.setIfInBounds_toArray, List.set_cons_zero, List.set_cons_succ]
            refine Take.take (i := 4) (oi := _) (t := 16) (v := ?v26) rfl (by kernel_rfl) (by kernel_rfl) (by kernel_rfl) (by kernel_rfl) (fun _ _ _ h => h) (by kernel_rfl) ?hy26 (by assumption) ?_
            case hy26 => (intro w hSw; (try dsimp only at hSw); go_simp; try with_reducible rfl)
            try simp only [Act.put, List.setIfInBounds_toArray, List.set_cons_zero, List.set_cons_succ]
            refine Take.take (i := 5) (oi := _) (t := 17) (v := ?v27) rfl (by kernel_rfl) (by kernel_rfl) (by kernel_rfl) (by kernel_rfl) (fun _ _ _ h => h) (by kernel_rfl) ?hy27 (by assumption) ?_
            case hy27 => (intro w hSw; (try dsimp only at hSw); go_simp; try with_reducible rfl)
            try simp only [Act.put, List.setIfInBounds_toArray, List.set_cons_zero, List.set_cons_succ]
            refine Take.take (i := 6) (oi := _) (t := 18) (v := ?v28) rfl (by kernel_rfl) (by kernel_rfl) (by kernel_rfl) (by kernel_rfl) (fun _ _ _ h => h) (by kernel_rfl) ?hy28 (by assumption) ?_
            case hy28 => (intro w hSw; (try dsimp only at hSw); go_simp; try with_reducible rfl)
            try simp only [Act.put, List.setIfInBounds_toArray, List.set_cons_zero, List.set_cons_succ]
            refine Take.take (i := 7) (oi := _) (t := 19) (v := ?v29) rfl (by kernel_rfl) (by kernel_rfl) (by kernel_rfl) (by kernel_rfl) (fun _ _ _ h => h) (by kernel_rfl) ?hy29 (by assumption) ?_
            case hy29 => (intro w hSw; (try dsimp only at hSw); go_simp; try with_reducible rfl)
            try simp only [Act.put, List.setIfInBounds_toArray, List.set_cons_zero, List.set_cons_succ]
            refine Take.take (i := 8) (oi := _) (t := 20) (v := ?v30) rfl (by kernel_rfl) (by kernel_rfl) (by kernel_rfl) (by kernel_rfl) (fun _ _ _ h => h) (by kernel_rfl) ?hy30 (by assumption) ?_
            case hy30 => (intro w hSw; (try dsimp only at hSw); go_simp; try with_reducible rfl)
            try simp only [Act.put, List.setIfInBounds_toArray, List.set_cons_zero, List.set_cons_succ]
            refine Take.take (i := 9) (oi := _) (t := 21) (v := ?v31) rfl (by kernel_rfl) (by kernel_rfl) (by kernel_rfl) (by kernel_rfl) (fun _ _ _ h => h) (by kernel_rfl) ?hy31 (by assumption) ?_
            case hy31 => (intro w hSw; (try dsimp only at hSw); go_simp; try with_reducible rfl)
            try simp only [Act.put, List.setIfInBounds_toArray, List.set_cons_zero, List.set_cons_succ]
            refine Take.take (i := 10) (oi := _) (t := 22) (v := ?v32) rfl (by kernel_rfl) (by kernel_rfl) (by kernel_rfl) (by kernel_rfl) (fun _ _ _ h => h) (by kernel_rfl) ?hy32 (by assumption) ?_
            case hy32 => (intro w hSw; (try dsimp only at hSw); go_simp; try with_reducible rfl)
            try simp only [Act.put, List.setIfInBounds_toArray, List.set_cons_zero, List.set_cons_succ]
            refine Take.take (i := 11) (oi := _) (t := 23) (v := ?v33) rfl (by kernel_rfl) (by kernel_rfl) (by kernel_rfl) (by kernel_rfl) (fun _ _ _ h => h) (by kernel_rfl) ?hy33 (by assumption) ?_
            case hy33 => (intro w hSw; (try dsimp only at hSw); go_simp; try with_reducible rfl)
            try simp only [Act.put, List.setIfInBounds_toArray, List.set_cons_zero, List.set_cons_succ]
            refine Take.take (i := 12) (oi := _) (t := 24) (v := ?v34) rfl (by kernel_rfl) (by kernel_rfl) (by kernel_rfl) (by kernel_rfl) (fun _ _ _ h => h) (by kernel_rfl) ?hy34 (by assumption) ?_
            case hy34 => (intro w hSw; (try dsimp only at hSw); go_simp; try with_reducible rfl)
            try simp only [Act.put, List.setIfInBounds_toArray, List.set_cons_zero, List.set_cons_succ]
            refine Take.take (i := 13) (oi := _) (t := 25) (v := ?v35) rfl (by kernel_rfl) (by kernel_rfl) (by kernel_rfl) (by kernel_rfl) (fun _ _ _ h => h) (by kernel_rfl) ?hy35 (by assumption) ?_
            case hy35 => (intro w hSw; (try dsimp only at hSw); go_simp; try with_reducible rfl)
            try simp only [Act.put, List.setIfInBounds_toArray, List.set_cons_zero, List.set_cons_succ]
            refine Take.take (i := 14) (oi := _) (t := 26) (v := ?v36) rfl (by kernel_rfl) (by kernel_rfl) (by kernel_rfl) (by kernel_rfl) (fun _ _ _ h => h) (by kernel_rfl) ?hy36 (by assumption) ?_
            case hy36 => (intro w hSw; (try dsimp only at hSw); go_simp; try with_reducible rfl)
            try simp only [Act.put, List.setIfInBounds_toArray, List.set_cons_zero, List.set_cons_succ]
            refine Take.take (i := 15) (oi := _) (t := 27) (v := ?v37) rfl (by kernel_rfl) (by kernel_rfl) (by kernel_rfl) (by kernel_rfl) (fun _ _ _ h => h) (by kernel_rfl) ?hy37 (by assumption) ?_
            case hy37 => (intro w hSw; (try dsimp only at hSw); go_simp; try with_reducible rfl)
            try simp only [Act.put, List.setIfInBounds_toArray, List.set_cons_zero, List.set_cons_succ]
            refine Take.take (i := 16) (oi := _) (t := 28) (v := ?v38) rfl (by kernel_rfl) (by kernel_rfl) (by kernel_rfl) (by kernel_rfl) (fun _ _ _ h => h) (by kernel_rfl) ?hy38 (by assumption) ?_
            case hy38 => (intro w hSw; (try dsimp only at hSw); go_simp; try with_reducible rfl)
            try simp only [Act.put, List.setIfInBounds_toArray, List.set_cons_zero, List.set_cons_succ]
            refine wpAnyH_done (by kernel_rfl) ?_ _
            refine NoPanic.normal ?_
            go_wp2_with fail
            go_meet
            exact ⟨rfl, rfl⟩
          case rest =>
            obtain ⟨rfl, rfl⟩ := hcut
            go_wp2_with fail
            go_round
            case rel => exact ⟨i, k + 1, rfl, rfl, hlt, .inr ⟨i, u, rfl, by omega, Hmk.out.1 (by omega)⟩, lR.drew⟩
            case measure => simp; omega
    · obtain rfl : k = S.length := by omega
      have HF := Lib.hid hF
      clear hF
      go_wp2_with fail
      go_ret
      exact ⟨p, rfl, HF.out, lW.trans (lR.mono lW.size)⟩
end Go.Proofs.Ytcicnanchikpjaa.Heap
