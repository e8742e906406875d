/- What Take does to an agenda's state, at each type. -/
import Derived.Test.YtcicnanchikpjaaAgendaD
namespace Go.Proofs.Ytcicnanchikpjaa.Agenda
open Go.RowKit (wrap64 Below intOf)
open Go.Proofs.Ytcicnanchikpjaa.Heap Go.Proofs.Ytcicnanchikpjaa.RF
set_option linter.unusedVariables false

namespace I64
set_option maxRecDepth 100000 in
set_option maxHeartbeats 4000000 in
theorem sink_nil (p cap : Nat) (A : Option Addr) (most no : Int) (w : World) (hp : Blk w p 99 #[.slice A 0 cap, .int .i64 most, .int .u64 no]) :
    Calls Try.prog 54 #[.pointer (some ⟨p, 0, none⟩), .int .i64 0] w fun e w' => (∃ v, e = .returned v) ∧ Off (fun _ => False) w w' := by
  have Hp := Lib.hid hp
  clear hp
  go_enter Try.func54, Try.ntmps54
  go_wp2
  go_loopw [1] (fun si wr => si = .int .i64 0 ∧ Off (fun _ => False) w wr) (fun _ _ => 0)
  case atStart => exact ⟨rfl, Off.refl _ _⟩
  case round =>
    obtain ⟨rfl, ho⟩ := hrel
    have Ho := Lib.hid ho
    clear ho
    obtain ⟨wo, rfl⟩ : ∃ wo : World, wo = wr := ⟨_, rfl⟩
    go_wp2_with fail
    go_loopw [15, 4] (fun sj sl wq => ∃ (j : Nat), sj = .int .i64 j ∧ sl = .int .i64 0 ∧ j ≤ 2 ∧ Off (fun _ => False) wo wq)
      (fun sj _ _ => 2 - (intOf sj).toNat)
    case atStart => exact ⟨0, rfl, rfl, by omega, Off.refl _ _⟩
    case round =>
      obtain ⟨j, rfl, rfl, hj, hoq⟩ := hrel
      have c0 : wr.cell? ⟨p, 0, none⟩ = some (.slice A 0 cap) := ((Hp.out.off Ho.out id).off hoq id).cell 0
      have Hoq := Lib.hid hoq
      clear hoq
      by_cases hj2 : j < 2
      · have ix : ∀ w : World, Sem.run Try.prog (Instr.index 109 (Value.agg #[.int .i64 1, .int .i64 2]) (.int .i64 (j : Int))) w = .ok (.int .i64 ((j : Int) + 1)) w := by
          rcases (show j = 0 ∨ j = 1 by omega) with h1 | h1
          · subst h1; exact fun _ => rfl
          · subst h1; exact fun _ => rfl
        have g1 : decide ((j : Int) + 1 < 0) = false := by simp; omega
        go_wp2_with fail
        go_quiet (fail)
        have O1 := Lib.hid (Hoq.out.drewN nq)
        go_wp2_with fail
        go_roundw
        case rel => exact ⟨j + 1, by go_num, rfl, by omega, O1.out⟩
        case measure => simp [intOf]; omega
      · obtain rfl : j = 2 := by omega
        have hfin := Lib.hid (Ho.out.trans Hoq.out)
        clear c0
        go_wp2_with fail
        refine bodyPost_ret (results_none rfl _ _ _) rfl ?_
        exact ⟨⟨_, rfl⟩, hfin.out⟩
theorem take_none (base p : Nat) (most : Int) (no : Nat) (now : Int) (w : World) (h : Ag base p most no [] w) :
    Calls Try.prog 27 #[.pointer (some ⟨p, 0, none⟩), .int .i64 now] w fun e w' => e = .returned (.tuple #[.int .i64 0, .bool false]) ∧ w = w' := by
  have H := Lib.hid h
  clear h
  go_enter Try.func27, Try.ntmps27
  go_wp2_with fail
  refine (next_no base p most no w H.out).mono ?_
  rintro e w' ⟨rfl, rfl⟩
  go_wp2_with fail
  go_ret2
  exact ⟨rfl, rfl⟩
theorem take_nil (now : Int) (w : World) : Calls Try.prog 27 #[.pointer none, .int .i64 now] w fun e w' => e = .returned (.tuple #[.int .i64 0, .bool false]) ∧ w = w' := by
  go_enter Try.func27, Try.ntmps27
  go_wp2_with fail
  refine (next_nil w).mono ?_
  rintro e w' ⟨rfl, rfl⟩
  go_wp2_with fail
  go_ret2
  exact ⟨rfl, rfl⟩
theorem take_late (base p : Nat) (most : Int) (no : Nat) (S : List (Th Int)) (now : Int) (w : World) (h : Ag base p most no S w) (hr : Rising S) (i : Nat) (t : Th Int) (hf : First S i t) (hS : S.length ≤ 65536) (hn : now < t.due) :
    Calls Try.prog 27 #[.pointer (some ⟨p, 0, none⟩), .int .i64 now] w fun e w' => e = .returned (.tuple #[.int .i64 0, .bool false]) ∧ w = w' := by
  have H := Lib.hid h
  have Hr := Lib.hid hr
  have Hf := Lib.hid hf
  clear h hr hf
  go_enter Try.func27, Try.ntmps27
  go_wp2_with fail
  refine (next_yes base p most no S w H.out Hr.out i t Hf.out hS).mono ?_
  rintro e w' ⟨rfl, rfl⟩
  go_wp2_with fail
  go_ret2
  exact ⟨rfl, rfl⟩
set_option maxRecDepth 100000 in
set_option maxHeartbeats 4000000 in
theorem take_yes (base p : Nat) (most : Int) (no : Nat) (S : List (Th Int)) (now : Int) (w : World) (h : Ag base p most no S w) (hr : Rising S) (i : Nat) (t : Th Int) (hf : First S i t) (hS : S.length ≤ 65536) (hn : t.due ≤ now) :
    Calls Try.prog 27 #[.pointer (some ⟨p, 0, none⟩), .int .i64 now] w fun e w' => e = .returned (.tuple #[.int .i64 t.x, .bool true]) ∧ Ag base p most no (S.eraseIdx i) w' ∧ Fr base ts w w' := by
  have H := Lib.hid h
  have Hr := Lib.hid hr
  have Hf := Lib.hid hf
  obtain ⟨L, g, cap, h0, hp, hh, hb, ho, h3, h4⟩ := root_at h hr hf
  obtain ⟨n, hn1⟩ : ∃ n, L.length = n + 1 := ⟨L.length - 1, by have := lt_of_get h0; omega⟩
  have hln := List.getElem?_eq_getElem (show n < L.length by omega)
  obtain ⟨z, hz⟩ : ∃ z, L[n] = z := ⟨_, rfl⟩
  rw [hz] at hln
  have hl := hp.length_eq
  have hpg := own_ne ho hb (by decide)
  have c0 : w.cell? ⟨p, 0, none⟩ = some (.slice (some ⟨g, 0, none⟩) (n + 1) cap) := by rw [← hn1]; exact hb.cell 0
  have c2 : w.cell? ⟨g, 2, none⟩ = some (.int .i64 t.x) := by
    rw [ho.cellAt 2 (by omega)]
    exact flat_at (m := 1) (i := 0) (k := 2) (enc := encI) (fun _ => rfl) h0 (by omega)
  have n1 : n + 1 ≤ 65536 := by omega
  have z1 : (0 : Int) < ((n : Int) + 1) := by omega
  have Hb := Lib.hid hb
  have Ho := Lib.hid ho
  have Hp := Lib.hid hp
  have Hh := Lib.hid hh
  have H0 := Lib.hid h0
  have Hz := Lib.hid hln
  have Hn := Lib.hid hn1
  clear h hr hf hb ho hp hh h0 hln hz hn1 hl
  go_enter Try.func27, Try.ntmps27
  go_wp2_with fail
  refine (next_yes base p most no S w H.out Hr.out i t Hf.out hS).mono ?_
  rintro e w' ⟨rfl, rfl⟩
  go_wp2_with fail
  have C := swap_any base p g cap most no L 0 n t z w Hb.out Ho.out H0.out Hz.out
  rw [show ((0 : Nat) : Int) = 0 from rfl] at C
  refine C.mono ?_
  clear C
  rintro e w2 ⟨⟨v, rfl⟩, own2, g2, s2⟩
  rw [Hn.out] at own2
  have l2 : (swp L 0 n).length = n + 1 := (swp_length L 0 n).trans Hn.out
  have B2 := Hb.out.grown g2 (by simpa using hpg)
  rw [Hn.out] at B2
  have k0 : w2.cell? ⟨p, 0, none⟩ = some (.slice (some ⟨g, 0, none⟩) (n + 1) cap) := B2.cell 0
  have f0 : w2.frozen? ⟨p, 0, none⟩ = false := B2.frozen 0
  have cell : ∀ k, k < 3 → w2.cell? ⟨g, n * 3 + k, none⟩ = (cel encI t)[k]? := fun k hk => by
    rw [own2.cellAt _ (by omega)]
    exact flat_at (m := 1) (fun _ => rfl) (by rw [swp_get H0.out Hz.out, if_pos rfl]) (by omega)
  have e0 : w2.cell? ⟨g, n * 3, none⟩ = some (.int .i64 t.due) := cell 0 (by omega)
  have e1 : w2.cell? ⟨g, n * 3 + 1, none⟩ = some (.int .u64 t.no) := cell 1 (by omega)
  have e2 : w2.cell? ⟨g, n * 3 + 2, none⟩ = some (.int .i64 t.x) := cell 2 (by omega)
  have z0 : w2.frozen? ⟨g, n * 3, none⟩ = false := own2.frozenAt _
  have z1 : w2.frozen? ⟨g, n * 3 + 1, none⟩ = false := own2.frozenAt _
  have z2 : w2.frozen? ⟨g, n * 3 + 2, none⟩ = false := own2.frozenAt _
  obtain ⟨_, _, _, hcap, hcm, _⟩ := row_blk own2
  have m1 : (n : Int) ≤ (cap : Int) := by omega
  have m0 : (0 : Int) ≤ (n : Int) := by omega
  have m2 : (n : Int) < ((n : Int) + 1) := by omega
  have m3 : cap ≤ 9223372036854775807 := hcm
  have np : p < w2.heap.size := B2.lt
  have Own2 := Lib.hid own2
  have BB2 := Lib.hid B2
  have L2 := Lib.hid l2
  have G2 := Lib.hid g2
  clear own2 B2 l2 g2 s2 cell hcap hcm c0 c2
  go_wp2_with fail
  obtain ⟨X, hX⟩ : ∃ X, (((w2.setCell ⟨g, n * 3, none⟩ (.int .i64 0)).setCell ⟨g, n * 3 + 1, none⟩ (.int .u64 0)).setCell ⟨g, n * 3 + 2, none⟩ (.int .i64 0)).setCell ⟨p, 0, none⟩ (.slice (some ⟨g, 0, none⟩) n cap) = X := ⟨_, rfl⟩
  rw [hX]
  obtain ⟨o3, g3⟩ := stored3 Own2.out (n * 3) (.int .i64 0) (.int .u64 0) (.int .i64 0)
  have B3 := BB2.out.grown g3 (by simpa using hpg)
  obtain ⟨V3, hV3⟩ : ∃ V3, ((w2.setCell ⟨g, n * 3, none⟩ (.int .i64 0)).setCell ⟨g, n * 3 + 1, none⟩ (.int .u64 0)).setCell ⟨g, n * 3 + 2, none⟩ (.int .i64 0) = V3 := ⟨_, rfl⟩
  rw [hV3] at o3 g3 B3 hX
  have q1 : puts (flat encI (swp L 0 n)) (n * 3) [.int .i64 0, .int .u64 0, .int .i64 0] = flat encI ((swp L 0 n).set n ⟨0, 0, 0⟩) := flat_put (m := 1) (enc := encI) (fun _ => rfl) (by rw [L2.out]; omega) ⟨0, 0, 0⟩
  have q2 : flat encI (cut L) = (flat encI ((swp L 0 n).set n ⟨0, 0, 0⟩)).take (n * 3) := by
    have := flat_take (m := 1) (enc := encI) (fun _ => rfl) ((swp L 0 n).set n ⟨0, 0, 0⟩) n (by rw [List.length_set, L2.out]; omega)
    rw [← this, cut, Hn.out, Nat.add_sub_cancel]
    rw [List.take_set_of_le (Nat.le_refl n)]
  rw [q1] at o3
  have o4 := row_less o3 (show n ≤ n + 1 by omega)
  rw [← q2] at o4
  have hcl : (cut L).length = n := by rw [cut_length, Hn.out]; rfl
  have oX : Off (fun k => k = p) V3 X := by rw [← hX]; exact (Off.refl (fun k => k = p) V3).setCell (p := ⟨p, 0, none⟩) (.inl rfl) _
  have o5 := own_off o4 oX (fun g' hg => by simp only [Value.ownBlock, Option.some.injEq] at hg; subst hg; exact fun c => hpg c.symm)
  have B5 : Blk X p 99 #[.slice (some ⟨g, 0, none⟩) n cap, .int .i64 most, .int .u64 no] := by rw [← hX]; exact B3.put 0 _
  have F5 : Fr base ts w X := by
    have a1 : Fr base ts w w2 := Fr.grown_own (v := .slice (some ⟨g, 0, none⟩) L.length cap) G2.out Ho.out rfl
    have a2 : Fr base ts w2 V3 := Fr.grown_own (v := .slice (some ⟨g, 0, none⟩) (n + 1) cap) g3 Own2.out rfl
    exact (a1.trans a2).trans (Fr.of_off oX fun k _ hk => by subst hk; exact ⟨h3, _, B3, rfl⟩)
  have s5 : base ≤ X.heap.size := Nat.le_trans h4 F5.size
  have hcp := (Hp.out.symm.trans (List.Perm.refl _))
  have hpe := cut_erase Hp.out H0.out Hf.out.get
  have hdn := Hh.out.down
  rw [← hcl] at B5 o5
  have BB5 := Lib.hid B5
  have OO5 := Lib.hid o5
  have FF5 := Lib.hid F5
  have Hcl := Lib.hid hcl
  have Hpe := Lib.hid hpe
  have Hdn := Lib.hid hdn
  clear hX o3 g3 B3 hV3 q1 q2 o4 hcl oX o5 B5 F5 hcp hpe hdn k0 f0 e0 e1 e2 z0 z1 z2 m1 m0 m2
  by_cases hn0 : n = 0
  · have hce : cut L = [] := List.eq_nil_of_length_eq_zero (by rw [Hcl.out, hn0])
    have B6 := BB5.out
    rw [hce] at B6
    refine (sink_nil p cap _ most no X B6).mono ?_
    rintro e w3 ⟨⟨v, rfl⟩, oo⟩
    have hfin := Lib.hid (show Ag base p most no (S.eraseIdx i) w3 ∧ Fr base ts w w3 from
      ⟨⟨cut L, _, BB5.out.off oo id, own_off OO5.out oo (fun _ _ => id), Hpe.out, by rw [hce]; exact heap_nil, h3, Nat.le_trans s5 oo.size⟩, FF5.out.trans (Fr.of_none oo)⟩)
    clear oo B6 hce
    go_wp2_with fail
    go_ret2
    exact ⟨rfl, hfin.out⟩
  · have C := sink_any base p g cap most no (cut L) 0 X BB5.out OO5.out Hdn.out (by rw [Hcl.out]; omega) (by rw [Hcl.out]; omega)
    rw [show ((0 : Nat) : Int) = 0 from rfl] at C
    refine C.mono ?_
    clear C
    rintro e w3 ⟨⟨v, rfl⟩, M, ml, mp, mh, own6, o6⟩
    have B6 := BB5.out.off o6 hpg
    rw [← ml] at B6 own6
    have hfin := Lib.hid (show Ag base p most no (S.eraseIdx i) w3 ∧ Fr base ts w w3 from
      ⟨⟨M, _, B6, own6, mp.trans Hpe.out, mh, h3, Nat.le_trans s5 o6.size⟩, FF5.out.trans (Fr.off_own o6 OO5.out rfl)⟩)
    clear ml mp mh own6 o6 B6
    go_wp2_with fail
    go_ret2
    exact ⟨rfl, hfin.out⟩
end I64

namespace I
set_option maxRecDepth 100000 in
set_option maxHeartbeats 4000000 in
theorem sink_nil (p cap : Nat) (A : Option Addr) (most no : Int) (w : World) (hp : Blk w p 93 #[.slice A 0 cap, .int .i64 most, .int .u64 no]) :
    Calls Try.prog 56 #[.pointer (some ⟨p, 0, none⟩), .int .i64 0] w fun e w' => (∃ v, e = .returned v) ∧ Off (fun _ => False) w w' := by
  have Hp := Lib.hid hp
  clear hp
  go_enter Try.func56, Try.ntmps56
  go_wp2
  go_loopw [1] (fun si wr => si = .int .i64 0 ∧ Off (fun _ => False) w wr) (fun _ _ => 0)
  case atStart => exact ⟨rfl, Off.refl _ _⟩
  case round =>
    obtain ⟨rfl, ho⟩ := hrel
    have Ho := Lib.hid ho
    clear ho
    obtain ⟨wo, rfl⟩ : ∃ wo : World, wo = wr := ⟨_, rfl⟩
    go_wp2_with fail
    go_loopw [15, 4] (fun sj sl wq => ∃ (j : Nat), sj = .int .i64 j ∧ sl = .int .i64 0 ∧ j ≤ 2 ∧ Off (fun _ => False) wo wq)
      (fun sj _ _ => 2 - (intOf sj).toNat)
    case atStart => exact ⟨0, rfl, rfl, by omega, Off.refl _ _⟩
    case round =>
      obtain ⟨j, rfl, rfl, hj, hoq⟩ := hrel
      have c0 : wr.cell? ⟨p, 0, none⟩ = some (.slice A 0 cap) := ((Hp.out.off Ho.out id).off hoq id).cell 0
      have Hoq := Lib.hid hoq
      clear hoq
      by_cases hj2 : j < 2
      · have ix : ∀ w : World, Sem.run Try.prog (Instr.index 109 (Value.agg #[.int .i64 1, .int .i64 2]) (.int .i64 (j : Int))) w = .ok (.int .i64 ((j : Int) + 1)) w := by
          rcases (show j = 0 ∨ j = 1 by omega) with h1 | h1
          · subst h1; exact fun _ => rfl
          · subst h1; exact fun _ => rfl
        have g1 : decide ((j : Int) + 1 < 0) = false := by simp; omega
        go_wp2_with fail
        go_quiet (fail)
        have O1 := Lib.hid (Hoq.out.drewN nq)
        go_wp2_with fail
        go_roundw
        case rel => exact ⟨j + 1, by go_num, rfl, by omega, O1.out⟩
        case measure => simp [intOf]; omega
      · obtain rfl : j = 2 := by omega
        have hfin := Lib.hid (Ho.out.trans Hoq.out)
        clear c0
        go_wp2_with fail
        refine bodyPost_ret (results_none rfl _ _ _) rfl ?_
        exact ⟨⟨_, rfl⟩, hfin.out⟩
theorem take_none (base p : Nat) (most : Int) (no : Nat) (now : Int) (w : World) (h : Ag base p most no [] w) :
    Calls Try.prog 32 #[.pointer (some ⟨p, 0, none⟩), .int .i64 now] w fun e w' => e = .returned (.tuple #[.int .i64 0, .bool false]) ∧ w = w' := by
  have H := Lib.hid h
  clear h
  go_enter Try.func32, Try.ntmps32
  go_wp2_with fail
  refine (next_no base p most no w H.out).mono ?_
  rintro e w' ⟨rfl, rfl⟩
  go_wp2_with fail
  go_ret2
  exact ⟨rfl, rfl⟩
theorem take_nil (now : Int) (w : World) : Calls Try.prog 32 #[.pointer none, .int .i64 now] w fun e w' => e = .returned (.tuple #[.int .i64 0, .bool false]) ∧ w = w' := by
  go_enter Try.func32, Try.ntmps32
  go_wp2_with fail
  refine (next_nil w).mono ?_
  rintro e w' ⟨rfl, rfl⟩
  go_wp2_with fail
  go_ret2
  exact ⟨rfl, rfl⟩
theorem take_late (base p : Nat) (most : Int) (no : Nat) (S : List (Th Int)) (now : Int) (w : World) (h : Ag base p most no S w) (hr : Rising S) (i : Nat) (t : Th Int) (hf : First S i t) (hS : S.length ≤ 65536) (hn : now < t.due) :
    Calls Try.prog 32 #[.pointer (some ⟨p, 0, none⟩), .int .i64 now] w fun e w' => e = .returned (.tuple #[.int .i64 0, .bool false]) ∧ w = w' := by
  have H := Lib.hid h
  have Hr := Lib.hid hr
  have Hf := Lib.hid hf
  clear h hr hf
  go_enter Try.func32, Try.ntmps32
  go_wp2_with fail
  refine (next_yes base p most no S w H.out Hr.out i t Hf.out hS).mono ?_
  rintro e w' ⟨rfl, rfl⟩
  go_wp2_with fail
  go_ret2
  exact ⟨rfl, rfl⟩
set_option maxRecDepth 100000 in
set_option maxHeartbeats 4000000 in
theorem take_yes (base p : Nat) (most : Int) (no : Nat) (S : List (Th Int)) (now : Int) (w : World) (h : Ag base p most no S w) (hr : Rising S) (i : Nat) (t : Th Int) (hf : First S i t) (hS : S.length ≤ 65536) (hn : t.due ≤ now) :
    Calls Try.prog 32 #[.pointer (some ⟨p, 0, none⟩), .int .i64 now] w fun e w' => e = .returned (.tuple #[.int .i64 t.x, .bool true]) ∧ Ag base p most no (S.eraseIdx i) w' ∧ Fr base ts w w' := by
  have H := Lib.hid h
  have Hr := Lib.hid hr
  have Hf := Lib.hid hf
  obtain ⟨L, g, cap, h0, hp, hh, hb, ho, h3, h4⟩ := root_at h hr hf
  obtain ⟨n, hn1⟩ : ∃ n, L.length = n + 1 := ⟨L.length - 1, by have := lt_of_get h0; omega⟩
  have hln := List.getElem?_eq_getElem (show n < L.length by omega)
  obtain ⟨z, hz⟩ : ∃ z, L[n] = z := ⟨_, rfl⟩
  rw [hz] at hln
  have hl := hp.length_eq
  have hpg := own_ne ho hb (by decide)
  have c0 : w.cell? ⟨p, 0, none⟩ = some (.slice (some ⟨g, 0, none⟩) (n + 1) cap) := by rw [← hn1]; exact hb.cell 0
  have c2 : w.cell? ⟨g, 2, none⟩ = some (.int .i64 t.x) := by
    rw [ho.cellAt 2 (by omega)]
    exact flat_at (m := 1) (i := 0) (k := 2) (enc := encI) (fun _ => rfl) h0 (by omega)
  have n1 : n + 1 ≤ 65536 := by omega
  have z1 : (0 : Int) < ((n : Int) + 1) := by omega
  have Hb := Lib.hid hb
  have Ho := Lib.hid ho
  have Hp := Lib.hid hp
  have Hh := Lib.hid hh
  have H0 := Lib.hid h0
  have Hz := Lib.hid hln
  have Hn := Lib.hid hn1
  clear h hr hf hb ho hp hh h0 hln hz hn1 hl
  go_enter Try.func32, Try.ntmps32
  go_wp2_with fail
  refine (next_yes base p most no S w H.out Hr.out i t Hf.out hS).mono ?_
  rintro e w' ⟨rfl, rfl⟩
  go_wp2_with fail
  have C := swap_any base p g cap most no L 0 n t z w Hb.out Ho.out H0.out Hz.out
  rw [show ((0 : Nat) : Int) = 0 from rfl] at C
  refine C.mono ?_
  clear C
  rintro e w2 ⟨⟨v, rfl⟩, own2, g2, s2⟩
  rw [Hn.out] at own2
  have l2 : (swp L 0 n).length = n + 1 := (swp_length L 0 n).trans Hn.out
  have B2 := Hb.out.grown g2 (by simpa using hpg)
  rw [Hn.out] at B2
  have k0 : w2.cell? ⟨p, 0, none⟩ = some (.slice (some ⟨g, 0, none⟩) (n + 1) cap) := B2.cell 0
  have f0 : w2.frozen? ⟨p, 0, none⟩ = false := B2.frozen 0
  have cell : ∀ k, k < 3 → w2.cell? ⟨g, n * 3 + k, none⟩ = (cel encI t)[k]? := fun k hk => by
    rw [own2.cellAt _ (by omega)]
    exact flat_at (m := 1) (fun _ => rfl) (by rw [swp_get H0.out Hz.out, if_pos rfl]) (by omega)
  have e0 : w2.cell? ⟨g, n * 3, none⟩ = some (.int .i64 t.due) := cell 0 (by omega)
  have e1 : w2.cell? ⟨g, n * 3 + 1, none⟩ = some (.int .u64 t.no) := cell 1 (by omega)
  have e2 : w2.cell? ⟨g, n * 3 + 2, none⟩ = some (.int .i64 t.x) := cell 2 (by omega)
  have z0 : w2.frozen? ⟨g, n * 3, none⟩ = false := own2.frozenAt _
  have z1 : w2.frozen? ⟨g, n * 3 + 1, none⟩ = false := own2.frozenAt _
  have z2 : w2.frozen? ⟨g, n * 3 + 2, none⟩ = false := own2.frozenAt _
  obtain ⟨_, _, _, hcap, hcm, _⟩ := row_blk own2
  have m1 : (n : Int) ≤ (cap : Int) := by omega
  have m0 : (0 : Int) ≤ (n : Int) := by omega
  have m2 : (n : Int) < ((n : Int) + 1) := by omega
  have m3 : cap ≤ 9223372036854775807 := hcm
  have np : p < w2.heap.size := B2.lt
  have Own2 := Lib.hid own2
  have BB2 := Lib.hid B2
  have L2 := Lib.hid l2
  have G2 := Lib.hid g2
  clear own2 B2 l2 g2 s2 cell hcap hcm c0 c2
  go_wp2_with fail
  obtain ⟨X, hX⟩ : ∃ X, (((w2.setCell ⟨g, n * 3, none⟩ (.int .i64 0)).setCell ⟨g, n * 3 + 1, none⟩ (.int .u64 0)).setCell ⟨g, n * 3 + 2, none⟩ (.int .i64 0)).setCell ⟨p, 0, none⟩ (.slice (some ⟨g, 0, none⟩) n cap) = X := ⟨_, rfl⟩
  rw [hX]
  obtain ⟨o3, g3⟩ := stored3 Own2.out (n * 3) (.int .i64 0) (.int .u64 0) (.int .i64 0)
  have B3 := BB2.out.grown g3 (by simpa using hpg)
  obtain ⟨V3, hV3⟩ : ∃ V3, ((w2.setCell ⟨g, n * 3, none⟩ (.int .i64 0)).setCell ⟨g, n * 3 + 1, none⟩ (.int .u64 0)).setCell ⟨g, n * 3 + 2, none⟩ (.int .i64 0) = V3 := ⟨_, rfl⟩
  rw [hV3] at o3 g3 B3 hX
  have q1 : puts (flat encI (swp L 0 n)) (n * 3) [.int .i64 0, .int .u64 0, .int .i64 0] = flat encI ((swp L 0 n).set n ⟨0, 0, 0⟩) := flat_put (m := 1) (enc := encI) (fun _ => rfl) (by rw [L2.out]; omega) ⟨0, 0, 0⟩
  have q2 : flat encI (cut L) = (flat encI ((swp L 0 n).set n ⟨0, 0, 0⟩)).take (n * 3) := by
    have := flat_take (m := 1) (enc := encI) (fun _ => rfl) ((swp L 0 n).set n ⟨0, 0, 0⟩) n (by rw [List.length_set, L2.out]; omega)
    rw [← this, cut, Hn.out, Nat.add_sub_cancel]
    rw [List.take_set_of_le (Nat.le_refl n)]
  rw [q1] at o3
  have o4 := row_less o3 (show n ≤ n + 1 by omega)
  rw [← q2] at o4
  have hcl : (cut L).length = n := by rw [cut_length, Hn.out]; rfl
  have oX : Off (fun k => k = p) V3 X := by rw [← hX]; exact (Off.refl (fun k => k = p) V3).setCell (p := ⟨p, 0, none⟩) (.inl rfl) _
  have o5 := own_off o4 oX (fun g' hg => by simp only [Value.ownBlock, Option.some.injEq] at hg; subst hg; exact fun c => hpg c.symm)
  have B5 : Blk X p 93 #[.slice (some ⟨g, 0, none⟩) n cap, .int .i64 most, .int .u64 no] := by rw [← hX]; exact B3.put 0 _
  have F5 : Fr base ts w X := by
    have a1 : Fr base ts w w2 := Fr.grown_own (v := .slice (some ⟨g, 0, none⟩) L.length cap) G2.out Ho.out rfl
    have a2 : Fr base ts w2 V3 := Fr.grown_own (v := .slice (some ⟨g, 0, none⟩) (n + 1) cap) g3 Own2.out rfl
    exact (a1.trans a2).trans (Fr.of_off oX fun k _ hk => by subst hk; exact ⟨h3, _, B3, rfl⟩)
  have s5 : base ≤ X.heap.size := Nat.le_trans h4 F5.size
  have hcp := (Hp.out.symm.trans (List.Perm.refl _))
  have hpe := cut_erase Hp.out H0.out Hf.out.get
  have hdn := Hh.out.down
  rw [← hcl] at B5 o5
  have BB5 := Lib.hid B5
  have OO5 := Lib.hid o5
  have FF5 := Lib.hid F5
  have Hcl := Lib.hid hcl
  have Hpe := Lib.hid hpe
  have Hdn := Lib.hid hdn
  clear hX o3 g3 B3 hV3 q1 q2 o4 hcl oX o5 B5 F5 hcp hpe hdn k0 f0 e0 e1 e2 z0 z1 z2 m1 m0 m2
  by_cases hn0 : n = 0
  · have hce : cut L = [] := List.eq_nil_of_length_eq_zero (by rw [Hcl.out, hn0])
    have B6 := BB5.out
    rw [hce] at B6
    refine (sink_nil p cap _ most no X B6).mono ?_
    rintro e w3 ⟨⟨v, rfl⟩, oo⟩
    have hfin := Lib.hid (show Ag base p most no (S.eraseIdx i) w3 ∧ Fr base ts w w3 from
      ⟨⟨cut L, _, BB5.out.off oo id, own_off OO5.out oo (fun _ _ => id), Hpe.out, by rw [hce]; exact heap_nil, h3, Nat.le_trans s5 oo.size⟩, FF5.out.trans (Fr.of_none oo)⟩)
    clear oo B6 hce
    go_wp2_with fail
    go_ret2
    exact ⟨rfl, hfin.out⟩
  · have C := sink_any base p g cap most no (cut L) 0 X BB5.out OO5.out Hdn.out (by rw [Hcl.out]; omega) (by rw [Hcl.out]; omega)
    rw [show ((0 : Nat) : Int) = 0 from rfl] at C
    refine C.mono ?_
    clear C
    rintro e w3 ⟨⟨v, rfl⟩, M, ml, mp, mh, own6, o6⟩
    have B6 := BB5.out.off o6 hpg
    rw [← ml] at B6 own6
    have hfin := Lib.hid (show Ag base p most no (S.eraseIdx i) w3 ∧ Fr base ts w w3 from
      ⟨⟨M, _, B6, own6, mp.trans Hpe.out, mh, h3, Nat.le_trans s5 o6.size⟩, FF5.out.trans (Fr.off_own o6 OO5.out rfl)⟩)
    clear ml mp mh own6 o6 B6
    go_wp2_with fail
    go_ret2
    exact ⟨rfl, hfin.out⟩
end I

end Go.Proofs.Ytcicnanchikpjaa.Agenda
