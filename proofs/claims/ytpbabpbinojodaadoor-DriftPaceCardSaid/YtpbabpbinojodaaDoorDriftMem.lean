/- How a note and a watch lie; the small functions of package drift and of its document. -/
import Derived.Test.YtpbabpbinojodaaDoorDriftPure
import Derived.Test.YtpbabpbinojodaaDoorDriftSpan
import Derived.Test.YtpbabpbinojodaaDoorEachLaw
import Derived.Deep.MidRow
namespace Go.Proofs.YtpbabpbinojodaaDoor.Drift
open Go.RowKit
open Go.Proofs.YtpbabpbinojodaaDoor.Arith Go.Proofs.YtpbabpbinojodaaDoor.Nodes Go.Proofs.YtpbabpbinojodaaDoor.Heap Go.Proofs.YtpbabpbinojodaaDoor.RF
set_option linter.unusedVariables false
set_option linter.unusedSimpArgs false

theorem ret_u {a b : Int} (h : a = b) : Ending.returned (.int .u64 a) = Ending.returned (.int .u64 b) := by rw [h]
theorem ret_b {a b : Bool} (h : a = b) : Ending.returned (.bool a) = Ending.returned (.bool b) := by rw [h]
/-- A note's cells. -/
def nl (T : Int) (A : List Int) (m : Nat) : List Value := .int .i64 T :: (A.map (Value.int .i64) ++ [.int .u64 m])
theorem nl_len {T : Int} {A : List Int} {m : Nat} (h : A.length = 64) : (nl T A m).length = 66 := by simp [nl, h]
theorem nl_at {T : Int} {A : List Int} {m : Nat} (h : A.length = 64) {i : Nat} (hi : i < 64) : (nl T A m)[i + 1]? = some (.int .i64 (A.getD i 0)) := by
  have hi' : i < A.length := by omega
  simp only [nl, List.getElem?_cons_succ]
  rw [List.getElem?_append_left (by simpa using hi'), List.getElem?_map, List.getD_eq_getElem?_getD, List.getElem?_eq_getElem hi']
  rfl
theorem nl_set {T : Int} {A : List Int} {m : Nat} (h : A.length = 64) : (nl T A m)[65]? = some (.int .u64 m) := by
  simp only [nl, List.getElem?_cons_succ]
  rw [List.getElem?_append_right (by simp [h])]
  simp [h]
theorem nl_put {T : Int} {A : List Int} {m : Nat} (h : A.length = 64) {i : Nat} (hi : i < 64) (x : Int) : (nl T A m).set (i + 1) (.int .i64 x) = nl T (A.set i x) m := by
  simp only [nl, List.set_cons_succ]
  rw [List.set_append_left _ _ (by simp; omega), List.map_set]
theorem nl_one (T : Int) (A : List Int) (m : Nat) : ∀ v ∈ nl T A m, v.oneCell' = true := fun v hv => by
  simp only [nl, List.mem_cons, List.mem_append, List.mem_map, List.not_mem_nil, or_false] at hv
  rcases hv with rfl | ⟨x, _, rfl⟩ | rfl <;> rfl
/-- A watch's cells. -/
structure Wt where
  eps : Int
  slow : Int
  fast : Int
  worst : Int
  tick : Int
  apart : Int
  pace : Int
def wl (c : Wt) (ns : List Value) : List Value := .int .i64 c.eps :: .int .i64 c.slow :: .int .i64 c.fast :: (ns ++ [.int .i64 c.worst, .int .i64 c.tick, .int .i64 c.apart, .int .i64 c.pace])
theorem wl_len {c : Wt} {ns : List Value} (h : ns.length = 66) : (wl c ns).length = 73 := by simp [wl, h]
theorem wl_mid {c : Wt} {ns : List Value} (h : ns.length = 66) {i : Nat} (hi : i < 66) : (wl c ns)[i + 3]? = ns[i]? := by
  simp only [wl, List.getElem?_cons_succ]
  rw [List.getElem?_append_left (by omega)]
theorem wl_worst {c : Wt} {ns : List Value} (h : ns.length = 66) : (wl c ns)[69]? = some (.int .i64 c.worst) := by
  simp only [wl, List.getElem?_cons_succ]
  rw [List.getElem?_append_right (by omega)]; simp [h]
theorem wl_tick {c : Wt} {ns : List Value} (h : ns.length = 66) : (wl c ns)[70]? = some (.int .i64 c.tick) := by
  simp only [wl, List.getElem?_cons_succ]
  rw [List.getElem?_append_right (by omega)]; simp [h]
theorem wl_apart {c : Wt} {ns : List Value} (h : ns.length = 66) : (wl c ns)[71]? = some (.int .i64 c.apart) := by
  simp only [wl, List.getElem?_cons_succ]
  rw [List.getElem?_append_right (by omega)]; simp [h]
theorem wl_pace {c : Wt} {ns : List Value} (h : ns.length = 66) : (wl c ns)[72]? = some (.int .i64 c.pace) := by
  simp only [wl, List.getElem?_cons_succ]
  rw [List.getElem?_append_right (by omega)]; simp [h]
theorem wl_put_worst {c : Wt} {ns : List Value} (h : ns.length = 66) (x : Int) : (wl c ns).set 69 (.int .i64 x) = wl { c with worst := x } ns := by
  simp only [wl, List.set_cons_succ]
  rw [List.set_append_right _ _ (by omega)]; simp [h]
theorem wl_put_tick {c : Wt} {ns : List Value} (h : ns.length = 66) (x : Int) : (wl c ns).set 70 (.int .i64 x) = wl { c with tick := x } ns := by
  simp only [wl, List.set_cons_succ]
  rw [List.set_append_right _ _ (by omega)]; simp [h]
theorem wl_put_apart {c : Wt} {ns : List Value} (h : ns.length = 66) (x : Int) : (wl c ns).set 71 (.int .i64 x) = wl { c with apart := x } ns := by
  simp only [wl, List.set_cons_succ]
  rw [List.set_append_right _ _ (by omega)]; simp [h]
theorem wl_put_pace {c : Wt} {ns : List Value} (h : ns.length = 66) (x : Int) : (wl c ns).set 72 (.int .i64 x) = wl { c with pace := x } ns := by
  simp only [wl, List.set_cons_succ]
  rw [List.set_append_right _ _ (by omega)]; simp [h]
theorem wl_puts {c : Wt} {ns ms : List Value} (h : ns.length = 66) (k : ms.length = 66) : puts (wl c ns) 3 ms = wl c ms := by
  apply List.ext_getElem?
  intro i
  have hl := wl_len (c := c) h
  rw [puts_get ms (wl c ns) 3 i (by omega)]
  by_cases h1 : 3 ≤ i ∧ i < 3 + ms.length
  · rw [if_pos h1]
    obtain ⟨j, rfl⟩ : ∃ j, i = j + 3 := ⟨i - 3, by omega⟩
    rw [wl_mid k (by omega), Nat.add_sub_cancel]
  · rw [if_neg h1]
    rcases Nat.lt_or_ge i 3 with c1 | c1
    · rcases i with _ | _ | _ | i
      · rfl
      · rfl
      · rfl
      · omega
    · obtain ⟨j, rfl⟩ : ∃ j, i = j + 3 := ⟨i - 3, by omega⟩
      simp only [wl, List.getElem?_cons_succ]
      rw [List.getElem?_append_right (by omega), List.getElem?_append_right (by omega), h, k]
/-- Many cells are set. -/
theorem blk_setCells {g : Nat} {t : TypeId} : ∀ (vs : List Value) (o : Nat) (w : World) (cs : List Value), Blk w g t cs.toArray → Blk (w.setCells g o vs) g t (puts cs o vs).toArray
  | [], o, w, cs, h => h
  | v :: vs, o, w, cs, h => by
    rw [World.setCells, puts]
    refine blk_setCells vs (o + 1) _ _ ?_
    have := h.put o v
    simpa using this
theorem off_setCells {g : Nat} {A : World} : ∀ (vs : List Value) (o : Nat) (B : World), Off (fun k => k = g) A B → Off (fun k => k = g) A (B.setCells g o vs)
  | [], o, B, h => h
  | v :: vs, o, B, h => by
    rw [World.setCells]
    exact off_setCells vs (o + 1) _ (Off.setCell (p := ⟨g, o, none⟩) h (.inl rfl) v)
theorem blk_range {w : World} {g : Nat} {t : TypeId} {cs : List Value} (h : Blk w g t cs.toArray) (o : Nat) (ns : List Value) (hn : ∀ j v, ns[j]? = some v → cs[o + j]? = some v) : w.rangeAt g o ns := fun j v hv => by
  rw [h.cell, List.getElem?_toArray]
  exact hn j v hv
theorem blk_there {w : World} {g : Nat} {t : TypeId} {cs : List Value} (h : Blk w g t cs.toArray) (o n : Nat) (hn : o + n ≤ cs.length) : w.there g o n := fun j hj => by
  refine ⟨?_, h.frozen _⟩
  rw [h.cell, List.getElem?_toArray, List.getElem?_eq_getElem (by omega)]
  rfl
/-- Numbers lie from somewhere on. -/
def Row64 (w : World) (a : Option Addr) (zs : List Int) : Prop := ∀ i, i < zs.length → ∃ b off, a = some ⟨b, off, none⟩ ∧ b < w.heap.size ∧ w.cell? ⟨b, off + i, none⟩ = some (.int .i64 (zs.getD i 0))
theorem Row64.below {w v : World} {a : Option Addr} {zs : List Int} (h : Row64 w a zs) {c : Nat} (k : Below c w v) (hc : w.heap.size ≤ c) : Row64 v a zs := fun i hi => by
  obtain ⟨b, off, e, hb, hv⟩ := h i hi
  exact ⟨b, off, e, Nat.lt_of_lt_of_le hb k.size, (k.cell (p := ⟨b, _, none⟩) (by show b < c; omega)).trans hv⟩
/-- A mask of so many bits. -/
def mask (k : Nat) : Nat := 2 ^ (min k 64) - 1
theorem mask_lt (k : Nat) : mask k < 2 ^ 64 := by
  have : 2 ^ (min k 64) ≤ 2 ^ 64 := Nat.pow_le_pow_right (by omega) (by omega)
  have : 0 < 2 ^ (min k 64) := Nat.pow_pos (by omega)
  unfold mask; omega
theorem mask_bit (k : Nat) {i : Nat} (hi : i < 64) : (mask k).testBit i = decide (i < k) := by
  unfold mask
  rw [Nat.testBit_two_pow_sub_one]
  simp; omega
theorem pow_wrap {i : Nat} (hi : i < 64) : IntKind.u64.wrap ((2 : Int) ^ i) = ((2 ^ i : Nat) : Int) := by
  have h1 : 2 ^ i < 2 ^ 64 := Nat.pow_lt_pow_right (by omega) hi
  have h2 : ((2 : Int) ^ i) = ((2 ^ i : Nat) : Int) := by simp
  rw [h2, IntKind.wrap_u64]
  obtain ⟨p, hp⟩ : ∃ p, 2 ^ i = p := ⟨_, rfl⟩
  rw [hp] at h1 ⊢
  omega
theorem bit_yes (i : Nat) (hi : i < 64) (w : World) :
    Calls Tryd.prog 29 #[.int .i64 i] w fun e w' => e = .returned (.int .u64 ((2 ^ i : Nat) : Int)) ∧ w' = w := by
  have h0 : ¬ (i : Int) < 0 := by omega
  have h1 : (i : Int) < 64 := by omega
  go_enter Tryd.func29, Tryd.ntmps29
  go_wp2
  go_ret
  exact ⟨ret_u (pow_wrap hi), rfl⟩
theorem all_any (k : Nat) (w : World) :
    Calls Tryd.prog 23 #[.int .i64 k] w fun e w' => e = .returned (.int .u64 (mask k : Nat)) ∧ w' = w := by
  by_cases h0 : 64 ≤ k
  · have e : mask k = 18446744073709551615 := by unfold mask; rw [Nat.min_eq_right h0]
    rw [e]
    have h1 : ¬ (k : Int) < 64 := by omega
    clear e
    go_enter Tryd.func23, Tryd.ntmps23
    go_wp2
    go_ret
    exact ⟨rfl, rfl⟩
  · by_cases h2 : k = 0
    · subst h2
      go_enter Tryd.func23, Tryd.ntmps23
      go_wp2
      go_ret
      exact ⟨rfl, rfl⟩
    · have e : mask k = 2 ^ k - 1 := by unfold mask; rw [Nat.min_eq_left (by omega)]
      have h3 : (k : Int) < 64 := by omega
      have h4 : ¬ (k : Int) < 1 := by omega
      have hb := Lib.hid (bit_yes k (by omega) w)
      have hp0 : 0 < 2 ^ k := Nat.pow_pos (by omega)
      have hp1 : 2 ^ k < 2 ^ 64 := Nat.pow_lt_pow_right (by omega) (by omega)
      rw [e]
      obtain ⟨p, hp⟩ : ∃ p, 2 ^ k = p := ⟨_, rfl⟩
      rw [hp] at hb hp0 hp1 ⊢
      clear hp e h0
      have hw : IntKind.u64.wrap ((p : Int) - 1) = ((p - 1 : Nat) : Int) := by rw [IntKind.wrap_u64]; omega
      go_enter Tryd.func23, Tryd.ntmps23
      go_wp2_with (go_at_call 29; refine hb.out.mono ?_; rintro e w' ⟨rfl, h⟩; rw [h]; clear h w')
      go_ret
      exact ⟨ret_u (by first | exact hw | rfl), rfl⟩
theorem time_any (x : Int) (w : World) :
    Calls Tryd.prog 22 #[.int .i64 x] w fun e w' => e = .returned (.int .i64 (tm x)) ∧ w' = w := by
  have h := Lib.hid (SpanD.clamp_any x 0 1152921504606846976 w)
  go_enter Tryd.func22, Tryd.ntmps22
  go_wp2_with (go_at_call 28; refine h.out.mono ?_; rintro e w' ⟨rfl, rfl⟩)
  go_ret
  exact ⟨rfl, rfl⟩
theorem reftime_any (x : Int) (w : World) :
    Calls Tryd.prog 16 #[.int .i64 x] w fun e w' => e = .returned (.int .i64 (tm x)) ∧ w' = w := by
  have h := Lib.hid (SpanD.rclamp_any x 0 1152921504606846976 w)
  go_enter Tryd.func16, Tryd.ntmps16
  go_wp2_with (go_at_call 10; refine h.out.mono ?_; rintro e w' ⟨rfl, rfl⟩)
  go_ret
  exact ⟨rfl, rfl⟩
theorem below_any (x a b : Int) (ha : I64 a) (hb : I64 b) (w : World) :
    Calls Tryd.prog 25 #[.int .i64 x, .int .i64 a, .int .i64 b] w fun e w' => e = .returned (.bool (if inr (a * b) then decide (x < a * b) else (decide (a < 0) == decide (b < 0)))) ∧ w' = w := by
  have h := Lib.hid (Span.mul_any a b ha hb w)
  obtain ⟨m, hm⟩ : ∃ m, a * b = m := ⟨_, rfl⟩
  rw [hm] at h ⊢
  clear hm
  by_cases c : inr m
  · rw [if_pos c]
    rw [inr_iff] at c
    have e1 := fit_of c
    have e2 := inr_of c
    rw [e1, e2] at h
    clear e1 e2
    go_enter Tryd.func25, Tryd.ntmps25
    go_wp2_with (go_at_call 32; refine h.out.mono ?_; rintro e w' ⟨rfl, rfl⟩)
    go_ret
    exact ⟨rfl, rfl⟩
  · rw [if_neg c]
    rw [inr_iff] at c
    have e1 := fit_not c
    have e2 := inr_not c
    rw [e1, e2] at h
    clear e1 e2
    go_enter Tryd.func25, Tryd.ntmps25
    go_wp2_with (go_at_call 32; refine h.out.mono ?_; rintro e w' ⟨rfl, rfl⟩)
    go_ret
    exact ⟨rfl, rfl⟩
theorem above_any (x a b : Int) (ha : I64 a) (hb : I64 b) (w : World) :
    Calls Tryd.prog 26 #[.int .i64 x, .int .i64 a, .int .i64 b] w fun e w' => e = .returned (.bool (if inr (a * b) then decide (a * b < x) else (decide (a < 0) != decide (b < 0)))) ∧ w' = w := by
  have h := Lib.hid (Span.mul_any a b ha hb w)
  obtain ⟨m, hm⟩ : ∃ m, a * b = m := ⟨_, rfl⟩
  rw [hm] at h ⊢
  clear hm
  by_cases c : inr m
  · rw [if_pos c]
    rw [inr_iff] at c
    have e1 := fit_of c
    have e2 := inr_of c
    rw [e1, e2] at h
    clear e1 e2
    go_enter Tryd.func26, Tryd.ntmps26
    go_wp2_with (go_at_call 32; refine h.out.mono ?_; rintro e w' ⟨rfl, rfl⟩)
    go_ret
    exact ⟨rfl, rfl⟩
  · rw [if_neg c]
    rw [inr_iff] at c
    have e1 := fit_not c
    have e2 := inr_not c
    rw [e1, e2] at h
    clear e1 e2
    go_enter Tryd.func26, Tryd.ntmps26
    go_wp2_with (go_at_call 32; refine h.out.mono ?_; rintro e w' ⟨rfl, rfl⟩)
    go_ret
    exact ⟨rfl, rfl⟩
end Go.Proofs.YtpbabpbinojodaaDoor.Drift
