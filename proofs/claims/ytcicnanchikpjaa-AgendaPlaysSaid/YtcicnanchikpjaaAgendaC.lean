/- An agenda's state by the things that were added to it, and what New, Next, Len, Room, Add do to it, at each type. -/
import Derived.Test.YtcicnanchikpjaaAgendaB
import Derived.OwnWalk
namespace Go.Proofs.Ytcicnanchikpjaa.Agenda
open Go.RowKit (wrap64 Below intOf)
open Go.Proofs.Ytcicnanchikpjaa.Heap Go.Proofs.Ytcicnanchikpjaa.RF
set_option linter.unusedVariables false
theorem ret_i {a c : Int} (h : a = c) : Ending.returned (.int .i64 a) = .returned (.int .i64 c) := by rw [h]
theorem ret_ib {a c : Int} {p q : Bool} (h : a = c) (h' : p = q) : Ending.returned (.tuple #[.int .i64 a, .bool p]) = .returned (.tuple #[.int .i64 c, .bool q]) := by rw [h, h']

namespace I64
/-- Block p is an agenda of at most 'most' things, the next one's number is 'no', which keeps S, told as they were added. -/
def Ag (base p : Nat) (most : Int) (no : Nat) (S : List (Th Int)) (w : World) : Prop :=
  ∃ (L : List (Th Int)) (sl : Value), Blk w p 99 #[sl, .int .i64 most, .int .u64 no] ∧ w.ownsRow base 101 3 sl L.length (flat encI L) ∧ L.Perm S ∧ Heap L ∧ base ≤ p ∧ base ≤ w.heap.size
/-- The types of an agenda's blocks. -/
abbrev ts : List TypeId := [99, 101]
theorem sl_form {base : Nat} {w : World} {sl : Value} {n : Nat} {xs : List Value} (h : w.ownsRow base 101 3 sl n xs) : ∃ A cap, sl = .slice A n cap := by
  rcases h.2 with ⟨rfl, rfl⟩ | ⟨g, cap, cur, rfl, _⟩
  · exact ⟨none, 0, rfl⟩
  · exact ⟨_, cap, rfl⟩
theorem Ag.fr {base p : Nat} {most : Int} {no : Nat} {S : List (Th Int)} {w w' : World} {b : Nat} {us : List TypeId} (h : Ag base p most no S w) (k : Fr b us w w') (h1 : us.contains 99 = false) (h2 : us.contains 101 = false) : Ag base p most no S w' := by
  obtain ⟨L, sl, hb, ho, hp, hh, h3, h4⟩ := h
  exact ⟨L, sl, k.blk hb h1, k.own ho h2, hp, hh, h3, Nat.le_trans h4 k.size⟩
theorem Ag.off {base p : Nat} {most : Int} {no : Nat} {S : List (Th Int)} {w w' : World} (h : Ag base p most no S w) (k : Off (fun _ => False) w w') : Ag base p most no S w' := h.fr (b := 0) (us := []) (Fr.of_none k) rfl rfl

theorem new_any (m : Int) (w : World) (hm : -9223372036854775808 ≤ m ∧ m ≤ 9223372036854775807) :
    Calls Try.prog 20 #[.int .i64 m] w fun e w' => e = .returned (.pointer (some ⟨w.heap.size, 0, none⟩)) ∧ Ag w.heap.size w.heap.size (min (max m 0) 65536) 0 [] w' ∧ Fr w.heap.size [] w w' := by
  have fin : ∀ k : Int, Ag w.heap.size w.heap.size k 0 [] (w.alloc (.cells #[.slice none 0 0, .int .i64 k, .int .u64 0] 99)) := fun k =>
    ⟨[], .slice none 0 0, Blk.new _ _ _, World.ownsRow_nil _ _ _ _, List.Perm.refl _, heap_nil, Nat.le_refl _, by simp⟩
  have ff : ∀ o, Fr w.heap.size [] w (w.alloc o) := fun o => (Fr.refl _ _ _).alloc o
  by_cases h0 : m < 0
  · have e : min (max m 0) 65536 = 0 := by omega
    go_enter Try.func20, Try.ntmps20
    go_wp2
    go_ret
    refine ⟨rfl, ?_, ff _⟩
    first | exact fin _ | (rw [e]; exact fin _)
  · by_cases h1 : 65536 < m
    · have e : min (max m 0) 65536 = 65536 := by omega
      go_enter Try.func20, Try.ntmps20
      go_wp2
      go_ret
      refine ⟨rfl, ?_, ff _⟩
      first | exact fin _ | (rw [e]; exact fin _)
    · have e : min (max m 0) 65536 = m := by omega
      go_enter Try.func20, Try.ntmps20
      go_wp2
      go_ret
      refine ⟨rfl, ?_, ff _⟩
      first | exact fin _ | (rw [e]; exact fin _)

set_option maxRecDepth 100000 in
theorem len_any (base p : Nat) (most : Int) (no : Nat) (S : List (Th Int)) (w : World) (h : Ag base p most no S w) (hS : S.length ≤ 65536) :
    Calls Try.prog 24 #[.pointer (some ⟨p, 0, none⟩)] w fun e w' => e = .returned (.int .i64 S.length) ∧ w = w' := by
  obtain ⟨L, sl, hb, ho, hp, _⟩ := h
  obtain ⟨A, cap, rfl⟩ := sl_form ho
  have c0 : w.cell? ⟨p, 0, none⟩ = some (.slice A L.length cap) := hb.cell 0
  have hl := Lib.hid hp.length_eq
  clear hb ho hp
  go_enter Try.func24, Try.ntmps24
  go_wp2
  go_ret
  exact ⟨ret_i (by rw [hl.out]), rfl⟩
theorem len_nil (w : World) : Calls Try.prog 24 #[.pointer none] w fun e w' => e = .returned (.int .i64 0) ∧ w = w' := by
  go_enter Try.func24, Try.ntmps24
  go_wp2
  go_ret
  exact ⟨rfl, rfl⟩
set_option maxRecDepth 100000 in
theorem room_any (base p : Nat) (most : Int) (no : Nat) (S : List (Th Int)) (w : World) (h : Ag base p most no S w) (hS : S.length ≤ 65536) (hm : 0 ≤ most ∧ most ≤ 65536) :
    Calls Try.prog 30 #[.pointer (some ⟨p, 0, none⟩)] w fun e w' => e = .returned (.int .i64 (most - S.length)) ∧ ∃ n, w' = w.drewN n := by
  obtain ⟨L, sl, hb, ho, hp, _⟩ := h
  obtain ⟨A, cap, rfl⟩ := sl_form ho
  have c0 : w.cell? ⟨p, 0, none⟩ = some (.slice A L.length cap) := hb.cell 0
  have c1 : w.cell? ⟨p, 1, none⟩ = some (.int .i64 most) := hb.cell 1
  have hl := Lib.hid hp.length_eq
  have hL : L.length ≤ 65536 := by have := hl.out; omega
  have wr : IntKind.i64.wrap (most - (L.length : Int)) = most - (L.length : Int) := IntWalk.i64_in _ (by omega)
  clear hb ho hp
  go_enter Try.func30, Try.ntmps30
  go_wp2_with fail
  go_quiet (fail)
  go_wp2_with fail
  go_ret
  exact ⟨ret_i (by rw [hl.out]), nq, rfl⟩
theorem room_nil (w : World) : Calls Try.prog 30 #[.pointer none] w fun e w' => e = .returned (.int .i64 0) ∧ w = w' := by
  go_enter Try.func30, Try.ntmps30
  go_wp2
  go_ret
  exact ⟨rfl, rfl⟩
set_option maxRecDepth 100000 in
theorem next_no (base p : Nat) (most : Int) (no : Nat) (w : World) (h : Ag base p most no [] w) :
    Calls Try.prog 23 #[.pointer (some ⟨p, 0, none⟩)] w fun e w' => e = .returned (.tuple #[.int .i64 0, .bool false]) ∧ w = w' := by
  obtain ⟨L, sl, hb, ho, hp, _⟩ := h
  obtain ⟨A, cap, rfl⟩ := sl_form ho
  obtain rfl : L = [] := List.eq_nil_of_length_eq_zero hp.length_eq
  have c0 : w.cell? ⟨p, 0, none⟩ = some (.slice A 0 cap) := hb.cell 0
  clear hb ho hp
  go_enter Try.func23, Try.ntmps23
  go_wp2
  go_ret2
  exact ⟨rfl, rfl⟩
theorem next_nil (w : World) : Calls Try.prog 23 #[.pointer none] w fun e w' => e = .returned (.tuple #[.int .i64 0, .bool false]) ∧ w = w' := by
  go_enter Try.func23, Try.ntmps23
  go_wp2
  go_ret2
  exact ⟨rfl, rfl⟩
/-- The heap's root is what comes first. -/
theorem root_at {base p : Nat} {most : Int} {no : Nat} {S : List (Th Int)} {w : World} (h : Ag base p most no S w) (hr : Rising S) {i : Nat} {t : Th Int} (hf : First S i t) :
    ∃ (L : List (Th Int)) (g cap : Nat), L[0]? = some t ∧ L.Perm S ∧ Heap L ∧ Blk w p 99 #[.slice (some ⟨g, 0, none⟩) L.length cap, .int .i64 most, .int .u64 no] ∧ w.ownsRow base 101 3 (.slice (some ⟨g, 0, none⟩) L.length cap) L.length (flat encI L) ∧ base ≤ p ∧ base ≤ w.heap.size := by
  obtain ⟨L, sl, hb, ho, hp, hh, h3, h4⟩ := h
  have l0 : 0 < L.length := by rw [hp.length_eq]; exact Nat.lt_of_le_of_lt (Nat.zero_le _) (lt_of_get hf.get)
  obtain ⟨g, cap, rfl, _⟩ := ho.form l0
  have hr0 := List.getElem?_eq_getElem l0
  have := root_first hp hr hh hr0 hf
  rw [this] at hr0
  exact ⟨L, g, cap, hr0, hp, hh, hb, ho, h3, h4⟩
set_option maxRecDepth 100000 in
theorem next_yes (base p : Nat) (most : Int) (no : Nat) (S : List (Th Int)) (w : World) (h : Ag base p most no S w) (hr : Rising S) (i : Nat) (t : Th Int) (hf : First S i t) (hS : S.length ≤ 65536) :
    Calls Try.prog 23 #[.pointer (some ⟨p, 0, none⟩)] w fun e w' => e = .returned (.tuple #[.int .i64 t.due, .bool true]) ∧ w = w' := by
  obtain ⟨L, g, cap, h0, hp, _, hb, ho, _⟩ := root_at h hr hf
  have l0 := lt_of_get h0
  have hl := hp.length_eq
  have c0 : w.cell? ⟨p, 0, none⟩ = some (.slice (some ⟨g, 0, none⟩) L.length cap) := hb.cell 0
  have c1 : w.cell? ⟨g, 0, none⟩ = some (.int .i64 t.due) := by
    rw [ho.cellAt 0 (by omega)]
    exact flat_at (m := 1) (k := 0) (enc := encI) (fun _ => rfl) h0 (by omega)
  have z : ((L.length : Int) == 0) = false := beq_eq_false_iff_ne.2 (by omega)
  have z1 : (0 : Int) < (L.length : Int) := by omega
  have z2 : L.length ≤ 65536 := by omega
  clear hb ho hp h0 hl
  go_enter Try.func23, Try.ntmps23
  go_wp2
  go_ret2
  exact ⟨rfl, rfl⟩
set_option maxRecDepth 100000 in
theorem add_full (base p : Nat) (most : Int) (no : Nat) (S : List (Th Int)) (due x : Int) (w : World) (h : Ag base p most no S w) (hS : S.length ≤ 65536) (hm : most ≤ S.length) :
    Calls Try.prog 21 #[.pointer (some ⟨p, 0, none⟩), .int .i64 due, .int .i64 x] w fun e w' => e = .returned (.int .i64 13) ∧ ∃ n, w' = w.drewN n := by
  obtain ⟨L, sl, hb, ho, hp, _⟩ := h
  obtain ⟨A, cap, rfl⟩ := sl_form ho
  have c0 : w.cell? ⟨p, 0, none⟩ = some (.slice A L.length cap) := hb.cell 0
  have c1 : w.cell? ⟨p, 1, none⟩ = some (.int .i64 most) := hb.cell 1
  have hl := hp.length_eq
  have hm' : most ≤ (L.length : Int) := by omega
  have hL : L.length ≤ 65536 := by omega
  clear hb ho hp hl
  go_enter Try.func21, Try.ntmps21
  go_wp2_with fail
  go_quiet (fail)
  go_wp2_with fail
  go_ret
  exact ⟨rfl, nq, rfl⟩
theorem add_nil (due x : Int) (w : World) : Calls Try.prog 21 #[.pointer none, .int .i64 due, .int .i64 x] w fun e w' => e = .returned (.int .i64 1) ∧ w = w' := by
  go_enter Try.func21, Try.ntmps21
  go_wp2
  go_ret
  exact ⟨rfl, rfl⟩
end I64

namespace I
/-- Block p is an agenda of at most 'most' things, the next one's number is 'no', which keeps S, told as they were added. -/
def Ag (base p : Nat) (most : Int) (no : Nat) (S : List (Th Int)) (w : World) : Prop :=
  ∃ (L : List (Th Int)) (sl : Value), Blk w p 93 #[sl, .int .i64 most, .int .u64 no] ∧ w.ownsRow base 95 3 sl L.length (flat encI L) ∧ L.Perm S ∧ Heap L ∧ base ≤ p ∧ base ≤ w.heap.size
/-- The types of an agenda's blocks. -/
abbrev ts : List TypeId := [93, 95]
theorem sl_form {base : Nat} {w : World} {sl : Value} {n : Nat} {xs : List Value} (h : w.ownsRow base 95 3 sl n xs) : ∃ A cap, sl = .slice A n cap := by
  rcases h.2 with ⟨rfl, rfl⟩ | ⟨g, cap, cur, rfl, _⟩
  · exact ⟨none, 0, rfl⟩
  · exact ⟨_, cap, rfl⟩
theorem Ag.fr {base p : Nat} {most : Int} {no : Nat} {S : List (Th Int)} {w w' : World} {b : Nat} {us : List TypeId} (h : Ag base p most no S w) (k : Fr b us w w') (h1 : us.contains 93 = false) (h2 : us.contains 95 = false) : Ag base p most no S w' := by
  obtain ⟨L, sl, hb, ho, hp, hh, h3, h4⟩ := h
  exact ⟨L, sl, k.blk hb h1, k.own ho h2, hp, hh, h3, Nat.le_trans h4 k.size⟩
theorem Ag.off {base p : Nat} {most : Int} {no : Nat} {S : List (Th Int)} {w w' : World} (h : Ag base p most no S w) (k : Off (fun _ => False) w w') : Ag base p most no S w' := h.fr (b := 0) (us := []) (Fr.of_none k) rfl rfl

theorem new_any (m : Int) (w : World) (hm : -9223372036854775808 ≤ m ∧ m ≤ 9223372036854775807) :
    Calls Try.prog 15 #[.int .i64 m] w fun e w' => e = .returned (.pointer (some ⟨w.heap.size, 0, none⟩)) ∧ Ag w.heap.size w.heap.size (min (max m 0) 65536) 0 [] w' ∧ Fr w.heap.size [] w w' := by
  have fin : ∀ k : Int, Ag w.heap.size w.heap.size k 0 [] (w.alloc (.cells #[.slice none 0 0, .int .i64 k, .int .u64 0] 93)) := fun k =>
    ⟨[], .slice none 0 0, Blk.new _ _ _, World.ownsRow_nil _ _ _ _, List.Perm.refl _, heap_nil, Nat.le_refl _, by simp⟩
  have ff : ∀ o, Fr w.heap.size [] w (w.alloc o) := fun o => (Fr.refl _ _ _).alloc o
  by_cases h0 : m < 0
  · have e : min (max m 0) 65536 = 0 := by omega
    go_enter Try.func15, Try.ntmps15
    go_wp2
    go_ret
    refine ⟨rfl, ?_, ff _⟩
    first | exact fin _ | (rw [e]; exact fin _)
  · by_cases h1 : 65536 < m
    · have e : min (max m 0) 65536 = 65536 := by omega
      go_enter Try.func15, Try.ntmps15
      go_wp2
      go_ret
      refine ⟨rfl, ?_, ff _⟩
      first | exact fin _ | (rw [e]; exact fin _)
    · have e : min (max m 0) 65536 = m := by omega
      go_enter Try.func15, Try.ntmps15
      go_wp2
      go_ret
      refine ⟨rfl, ?_, ff _⟩
      first | exact fin _ | (rw [e]; exact fin _)

set_option maxRecDepth 100000 in
theorem len_any (base p : Nat) (most : Int) (no : Nat) (S : List (Th Int)) (w : World) (h : Ag base p most no S w) (hS : S.length ≤ 65536) :
    Calls Try.prog 18 #[.pointer (some ⟨p, 0, none⟩)] w fun e w' => e = .returned (.int .i64 S.length) ∧ w = w' := by
  obtain ⟨L, sl, hb, ho, hp, _⟩ := h
  obtain ⟨A, cap, rfl⟩ := sl_form ho
  have c0 : w.cell? ⟨p, 0, none⟩ = some (.slice A L.length cap) := hb.cell 0
  have hl := Lib.hid hp.length_eq
  clear hb ho hp
  go_enter Try.func18, Try.ntmps18
  go_wp2
  go_ret
  exact ⟨ret_i (by rw [hl.out]), rfl⟩
theorem len_nil (w : World) : Calls Try.prog 18 #[.pointer none] w fun e w' => e = .returned (.int .i64 0) ∧ w = w' := by
  go_enter Try.func18, Try.ntmps18
  go_wp2
  go_ret
  exact ⟨rfl, rfl⟩
set_option maxRecDepth 100000 in
theorem room_any (base p : Nat) (most : Int) (no : Nat) (S : List (Th Int)) (w : World) (h : Ag base p most no S w) (hS : S.length ≤ 65536) (hm : 0 ≤ most ∧ most ≤ 65536) :
    Calls Try.prog 33 #[.pointer (some ⟨p, 0, none⟩)] w fun e w' => e = .returned (.int .i64 (most - S.length)) ∧ ∃ n, w' = w.drewN n := by
  obtain ⟨L, sl, hb, ho, hp, _⟩ := h
  obtain ⟨A, cap, rfl⟩ := sl_form ho
  have c0 : w.cell? ⟨p, 0, none⟩ = some (.slice A L.length cap) := hb.cell 0
  have c1 : w.cell? ⟨p, 1, none⟩ = some (.int .i64 most) := hb.cell 1
  have hl := Lib.hid hp.length_eq
  have hL : L.length ≤ 65536 := by have := hl.out; omega
  have wr : IntKind.i64.wrap (most - (L.length : Int)) = most - (L.length : Int) := IntWalk.i64_in _ (by omega)
  clear hb ho hp
  go_enter Try.func33, Try.ntmps33
  go_wp2_with fail
  go_quiet (fail)
  go_wp2_with fail
  go_ret
  exact ⟨ret_i (by rw [hl.out]), nq, rfl⟩
theorem room_nil (w : World) : Calls Try.prog 33 #[.pointer none] w fun e w' => e = .returned (.int .i64 0) ∧ w = w' := by
  go_enter Try.func33, Try.ntmps33
  go_wp2
  go_ret
  exact ⟨rfl, rfl⟩
set_option maxRecDepth 100000 in
theorem next_no (base p : Nat) (most : Int) (no : Nat) (w : World) (h : Ag base p most no [] w) :
    Calls Try.prog 31 #[.pointer (some ⟨p, 0, none⟩)] w fun e w' => e = .returned (.tuple #[.int .i64 0, .bool false]) ∧ w = w' := by
  obtain ⟨L, sl, hb, ho, hp, _⟩ := h
  obtain ⟨A, cap, rfl⟩ := sl_form ho
  obtain rfl : L = [] := List.eq_nil_of_length_eq_zero hp.length_eq
  have c0 : w.cell? ⟨p, 0, none⟩ = some (.slice A 0 cap) := hb.cell 0
  clear hb ho hp
  go_enter Try.func31, Try.ntmps31
  go_wp2
  go_ret2
  exact ⟨rfl, rfl⟩
theorem next_nil (w : World) : Calls Try.prog 31 #[.pointer none] w fun e w' => e = .returned (.tuple #[.int .i64 0, .bool false]) ∧ w = w' := by
  go_enter Try.func31, Try.ntmps31
  go_wp2
  go_ret2
  exact ⟨rfl, rfl⟩
/-- The heap's root is what comes first. -/
theorem root_at {base p : Nat} {most : Int} {no : Nat} {S : List (Th Int)} {w : World} (h : Ag base p most no S w) (hr : Rising S) {i : Nat} {t : Th Int} (hf : First S i t) :
    ∃ (L : List (Th Int)) (g cap : Nat), L[0]? = some t ∧ L.Perm S ∧ Heap L ∧ Blk w p 93 #[.slice (some ⟨g, 0, none⟩) L.length cap, .int .i64 most, .int .u64 no] ∧ w.ownsRow base 95 3 (.slice (some ⟨g, 0, none⟩) L.length cap) L.length (flat encI L) ∧ base ≤ p ∧ base ≤ w.heap.size := by
  obtain ⟨L, sl, hb, ho, hp, hh, h3, h4⟩ := h
  have l0 : 0 < L.length := by rw [hp.length_eq]; exact Nat.lt_of_le_of_lt (Nat.zero_le _) (lt_of_get hf.get)
  obtain ⟨g, cap, rfl, _⟩ := ho.form l0
  have hr0 := List.getElem?_eq_getElem l0
  have := root_first hp hr hh hr0 hf
  rw [this] at hr0
  exact ⟨L, g, cap, hr0, hp, hh, hb, ho, h3, h4⟩
set_option maxRecDepth 100000 in
theorem next_yes (base p : Nat) (most : Int) (no : Nat) (S : List (Th Int)) (w : World) (h : Ag base p most no S w) (hr : Rising S) (i : Nat) (t : Th Int) (hf : First S i t) (hS : S.length ≤ 65536) :
    Calls Try.prog 31 #[.pointer (some ⟨p, 0, none⟩)] w fun e w' => e = .returned (.tuple #[.int .i64 t.due, .bool true]) ∧ w = w' := by
  obtain ⟨L, g, cap, h0, hp, _, hb, ho, _⟩ := root_at h hr hf
  have l0 := lt_of_get h0
  have hl := hp.length_eq
  have c0 : w.cell? ⟨p, 0, none⟩ = some (.slice (some ⟨g, 0, none⟩) L.length cap) := hb.cell 0
  have c1 : w.cell? ⟨g, 0, none⟩ = some (.int .i64 t.due) := by
    rw [ho.cellAt 0 (by omega)]
    exact flat_at (m := 1) (k := 0) (enc := encI) (fun _ => rfl) h0 (by omega)
  have z : ((L.length : Int) == 0) = false := beq_eq_false_iff_ne.2 (by omega)
  have z1 : (0 : Int) < (L.length : Int) := by omega
  have z2 : L.length ≤ 65536 := by omega
  clear hb ho hp h0 hl
  go_enter Try.func31, Try.ntmps31
  go_wp2
  go_ret2
  exact ⟨rfl, rfl⟩
set_option maxRecDepth 100000 in
theorem add_full (base p : Nat) (most : Int) (no : Nat) (S : List (Th Int)) (due x : Int) (w : World) (h : Ag base p most no S w) (hS : S.length ≤ 65536) (hm : most ≤ S.length) :
    Calls Try.prog 16 #[.pointer (some ⟨p, 0, none⟩), .int .i64 due, .int .i64 x] w fun e w' => e = .returned (.int .i64 13) ∧ ∃ n, w' = w.drewN n := by
  obtain ⟨L, sl, hb, ho, hp, _⟩ := h
  obtain ⟨A, cap, rfl⟩ := sl_form ho
  have c0 : w.cell? ⟨p, 0, none⟩ = some (.slice A L.length cap) := hb.cell 0
  have c1 : w.cell? ⟨p, 1, none⟩ = some (.int .i64 most) := hb.cell 1
  have hl := hp.length_eq
  have hm' : most ≤ (L.length : Int) := by omega
  have hL : L.length ≤ 65536 := by omega
  clear hb ho hp hl
  go_enter Try.func16, Try.ntmps16
  go_wp2_with fail
  go_quiet (fail)
  go_wp2_with fail
  go_ret
  exact ⟨rfl, nq, rfl⟩
theorem add_nil (due x : Int) (w : World) : Calls Try.prog 16 #[.pointer none, .int .i64 due, .int .i64 x] w fun e w' => e = .returned (.int .i64 1) ∧ w = w' := by
  go_enter Try.func16, Try.ntmps16
  go_wp2
  go_ret
  exact ⟨rfl, rfl⟩
end I

end Go.Proofs.Ytcicnanchikpjaa.Agenda
