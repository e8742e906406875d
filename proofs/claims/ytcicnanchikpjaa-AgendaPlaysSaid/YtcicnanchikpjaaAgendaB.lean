/- The walk of an agenda's sink, at each type. -/
import Derived.Test.YtcicnanchikpjaaAgenda
namespace Go.Proofs.Ytcicnanchikpjaa.Agenda
open Go.RowKit (wrap64 Below intOf)
open Go.Proofs.Ytcicnanchikpjaa.Heap Go.Proofs.Ytcicnanchikpjaa.RF

namespace I64
set_option maxRecDepth 100000 in
set_option maxHeartbeats 8000000 in
theorem sink_any (base p g cap : Nat) (most no : Int) (L : List (Th Int)) (i : Nat) (w : World)
    (hp : Blk w p 99 #[.slice (some ⟨g, 0, none⟩) L.length cap, .int .i64 most, .int .u64 no])
    (hown : w.ownsRow base 101 3 (.slice (some ⟨g, 0, none⟩) L.length cap) L.length (flat encI L))
    (hD : Down L i) (hi : i < L.length) (hlen : L.length ≤ 100000) :
    Calls Try.prog 54 #[.pointer (some ⟨p, 0, none⟩), .int .i64 i] w fun e w' => (∃ v, e = .returned v) ∧
      ∃ M : List (Th Int), M.length = L.length ∧ M.Perm L ∧ Heap M ∧ w'.ownsRow base 101 3 (.slice (some ⟨g, 0, none⟩) L.length cap) L.length (flat encI M) ∧ Off (fun k => k = g) w w' := by
  have hpg := own_ne hown hp (by decide)
  have Hp := Lib.hid hp
  have Hown := Lib.hid hown
  clear hp hown
  go_enter Try.func54, Try.ntmps54
  go_wp2
  go_loopw [1] (fun si wr => ∃ (k : Nat) (M : List (Th Int)), si = .int .i64 k ∧ k < L.length ∧ M.length = L.length ∧ M.Perm L ∧ Down M k ∧ wr.ownsRow base 101 3 (.slice (some ⟨g, 0, none⟩) L.length cap) L.length (flat encI M) ∧ Off (fun k => k = g) w wr)
    (fun si _ => L.length - (intOf si).toNat)
  case atStart => exact ⟨i, L, rfl, hi, rfl, List.Perm.refl _, hD, Hown.out, Off.refl _ _⟩
  case round =>
    obtain ⟨k, M, rfl, hk, hM, hperm, hDn, hown, hoff⟩ := hrel
    have hp := Hp.out.off hoff hpg
    have HM := Lib.hid hM
    have hown' : wr.ownsRow base 101 3 (.slice (some ⟨g, 0, none⟩) M.length cap) M.length (flat encI M) := by rw [hM]; exact hown
    have Hown' := Lib.hid hown'
    have Hofw := Lib.hid hoff
    have HD := Lib.hid hDn
    have Hperm := Lib.hid hperm
    have Hpr := Lib.hid hp
    have hB0 := Lib.hid (Best.start (M := M) (i := k) (by omega))
    obtain ⟨d1, ed1⟩ : ∃ d : Nat, d = 2 * k + 1 := ⟨_, rfl⟩
    obtain ⟨d2, ed2⟩ : ∃ d : Nat, d = 2 * k + 2 := ⟨_, rfl⟩
    have E1 := Lib.hid (show 2 * (k : Int) + 1 = (d1 : Int) by omega)
    have E2 := Lib.hid (show 2 * (k : Int) + 2 = (d2 : Int) by omega)
    have Ed1 := Lib.hid ed1
    have Ed2 := Lib.hid ed2
    have Hk := Lib.hid hk
    clear hM hown hown' hoff hDn hperm hp ed1 ed2
    obtain ⟨wo, rfl⟩ : ∃ wo : World, wo = wr := ⟨_, rfl⟩
    go_wp2_with fail
    rw [E1.out, E2.out]
    go_loopw [15, 4] (fun sj sl wq => ∃ (j c : Nat), sj = .int .i64 j ∧ sl = .int .i64 c ∧ j ≤ 2 ∧ Best M k j c ∧ Off (fun _ => False) wo wq)
      (fun sj _ _ => 2 - (intOf sj).toNat)
    case atStart => exact ⟨0, k, rfl, rfl, by omega, hB0.out, Off.refl _ _⟩
    case round =>
      obtain ⟨j, c, rfl, rfl, hj, hBest, hoq⟩ := hrel
      have HB := Lib.hid hBest
      have hc := hBest.inr
      rw [HM.out] at hc
      have P1 := Hpr.out.off hoq id
      have c0 : wr.cell? ⟨p, 0, none⟩ = some (.slice (some ⟨g, 0, none⟩) L.length cap) := P1.cell 0
      have own1 : wr.ownsRow base 101 3 (.slice (some ⟨g, 0, none⟩) M.length cap) M.length (flat encI M) := own_off Hown'.out hoq (fun _ _ => id)
      have Own1 := Lib.hid own1
      have PP1 := Lib.hid P1
      have Hoq := Lib.hid hoq
      clear hBest P1 hoq
      by_cases hj2 : j < 2
      · obtain ⟨d, hd, hdd⟩ : ∃ d : Nat, d = 2 * k + 1 + j ∧ ((j = 0 ∧ d = d1) ∨ (j = 1 ∧ d = d2)) := ⟨_, rfl, by have := Ed1.out; have := Ed2.out; omega⟩
        have Hd := Lib.hid hd
        clear hd
        have ix : ∀ w : World, Sem.run Try.prog (Instr.index 109 (Value.agg #[.int .i64 (d1 : Int), .int .i64 (d2 : Int)]) (.int .i64 (j : Int))) w = .ok (.int .i64 (d : Int)) w := by
          rcases hdd with ⟨h1, h2⟩ | ⟨h1, h2⟩
          · subst h1; subst h2; exact fun _ => rfl
          · subst h1; subst h2; exact fun _ => rfl
        clear hdd
        by_cases hdl : d < L.length
        · have g1 : decide ((d : Int) < (L.length : Int)) = true := by simpa using hdl
          have ha := List.getElem?_eq_getElem (show d < M.length by rw [HM.out]; exact hdl)
          have hb := List.getElem?_eq_getElem (show c < M.length by rw [HM.out]; exact hc)
          obtain ⟨a, hae⟩ : ∃ a, M[d]'(by rw [HM.out]; exact hdl) = a := ⟨_, rfl⟩
          obtain ⟨b, hbe⟩ : ∃ b, M[c]'(by rw [HM.out]; exact hc) = b := ⟨_, rfl⟩
          rw [hae] at ha
          rw [hbe] at hb
          clear hae hbe
          have cell : ∀ (i k : Nat) (a : Th Int), M[i]? = some a → k < 3 → wr.cell? ⟨g, i * 3 + k, none⟩ = (cel encI a)[k]? := fun i k a h hk => by
            rw [own1.cellAt _ (by have := lt_of_get h; omega)]
            exact flat_at (m := 1) (fun _ => rfl) h (by omega)
          have i0 : wr.cell? ⟨g, d * 3, none⟩ = some (.int .i64 a.due) := cell d 0 a ha (by omega)
          have i1 : wr.cell? ⟨g, d * 3 + 1, none⟩ = some (.int .u64 a.no) := cell d 1 a ha (by omega)
          have i2 : wr.cell? ⟨g, d * 3 + 2, none⟩ = some (.int .i64 a.x) := cell d 2 a ha (by omega)
          have j0 : wr.cell? ⟨g, c * 3, none⟩ = some (.int .i64 b.due) := cell _ 0 b hb (by omega)
          have j1 : wr.cell? ⟨g, c * 3 + 1, none⟩ = some (.int .u64 b.no) := cell _ 1 b hb (by omega)
          have j2 : wr.cell? ⟨g, c * 3 + 2, none⟩ = some (.int .i64 b.x) := cell _ 2 b hb (by omega)
          have Ha := Lib.hid ha
          have Hb := Lib.hid hb
          have b1 : (0 : Int) ≤ (d : Int) := by omega
          have b2 : (d : Int) < (L.length : Int) := by omega
          have b3 : (0 : Int) ≤ (c : Int) := by omega
          have b4 : (c : Int) < (L.length : Int) := by omega
          clear cell ha hb own1
          go_wp2_with fail
          refine QT.region_tail 22 (by kernel_rfl) (by kernel_rfl) ?_
          simp only [List.take_succ_cons, List.take_zero, List.drop_succ_cons, List.drop_zero]
          repeat (any_goals (first | go_big_quiet_step (fail) | quiet_step (fail)))
          refine wpQuiet_nil ?_
          rintro _ ⟨nq, rfl⟩
          go_wp2_with fail
          refine (ahead_any _ _ _).mono ?_
          rintro e w1 ⟨rfl, o1⟩
          have O1 := Lib.hid (Hoq.out.trans ((Off.drewN (Off.refl _ _) nq).trans o1))
          clear o1 i0 i1 i2 j0 j1 j2 c0
          by_cases hf : fore a b = true
          · have nb := Lib.hid (HB.out.take (by rw [← Hd.out]; exact Ha.out) Hb.out hf)
            rw [hf]
            clear hf
            go_wp2_with fail
            go_roundw
            case rel => exact ⟨j + 1, d, by go_num, rfl, by omega, by have := nb.out; rw [← Hd.out] at this; exact this, O1.out⟩
            case measure => simp [intOf]; omega
          · have hf : fore a b = false := by simpa using hf
            have nb := Lib.hid (HB.out.keep (by rw [← Hd.out]; exact Ha.out) Hb.out hf)
            rw [hf]
            clear hf
            go_wp2_with fail
            go_roundw
            case rel => exact ⟨j + 1, c, by go_num, rfl, by omega, nb.out, O1.out⟩
            case measure => simp [intOf]; omega
        · have g1 : decide ((d : Int) < (L.length : Int)) = false := by simpa using hdl
          have nb := Lib.hid (HB.out.off (by rw [HM.out, ← Hd.out]; omega))
          clear own1
          go_wp2_with fail
          go_quiet (fail)
          have O1 := Lib.hid (Hoq.out.drewN nq)
          go_wp2_with fail
          go_roundw
          case rel => exact ⟨j + 1, c, by go_num, rfl, by omega, nb.out, O1.out⟩
          case measure => simp [intOf]; omega
      · obtain rfl : j = 2 := by omega
        clear own1
        by_cases hck : c = k
        · subst hck
          have Hfin := Lib.hid (show ∃ M : List (Th Int), M.length = L.length ∧ M.Perm L ∧ Heap M ∧ wr.ownsRow base 101 3 (.slice (some ⟨g, 0, none⟩) L.length cap) L.length (flat encI M) ∧ Off (fun k => k = g) w wr from ⟨M, HM.out, Hperm.out, HB.out.heap HD.out, by rw [← HM.out]; exact Own1.out, Hofw.out.trans Hoq.out.none⟩)
          clear c0
          go_wp2_with fail
          refine bodyPost_ret (results_none rfl _ _ _) rfl ?_
          exact ⟨⟨_, rfl⟩, Hfin.out⟩
        · have nck : ((c : Int) == (k : Int)) = false := by simp; omega
          clear c0
          have hw := HB.out.who
          have Ha := Lib.hid (List.getElem?_eq_getElem (show k < M.length by rw [HM.out]; exact Hk.out))
          have Hb := Lib.hid (List.getElem?_eq_getElem (show c < M.length by rw [HM.out]; exact hc))
          go_wp2_with fail
          refine (swap_any base p g cap most no M k c _ _ wr (by rw [HM.out]; exact PP1.out) Own1.out Ha.out Hb.out).mono ?_
          rintro e w2 ⟨⟨v, rfl⟩, own2, g2, z2⟩
          rw [HM.out] at own2
          have Own2 := Lib.hid own2
          have O2 := Lib.hid ((Hofw.out.trans Hoq.out.none).trans (off_grown g2))
          have D2 := Lib.hid (HB.out.step HD.out hck (by rw [HM.out]; exact Hk.out))
          have ml := Lib.hid ((swp_length M k c).trans HM.out)
          have mp := Lib.hid ((swp_perm M k c).trans Hperm.out)
          clear own2 g2 z2
          go_wp2_with fail
          go_roundw
          case rel => exact ⟨c, swp M k c, rfl, hc, ml.out, mp.out, D2.out, Own2.out, O2.out⟩
          case measure => simp [intOf]; omega
end I64

namespace I
set_option maxRecDepth 100000 in
set_option maxHeartbeats 8000000 in
theorem sink_any (base p g cap : Nat) (most no : Int) (L : List (Th Int)) (i : Nat) (w : World)
    (hp : Blk w p 93 #[.slice (some ⟨g, 0, none⟩) L.length cap, .int .i64 most, .int .u64 no])
    (hown : w.ownsRow base 95 3 (.slice (some ⟨g, 0, none⟩) L.length cap) L.length (flat encI L))
    (hD : Down L i) (hi : i < L.length) (hlen : L.length ≤ 100000) :
    Calls Try.prog 56 #[.pointer (some ⟨p, 0, none⟩), .int .i64 i] w fun e w' => (∃ v, e = .returned v) ∧
      ∃ M : List (Th Int), M.length = L.length ∧ M.Perm L ∧ Heap M ∧ w'.ownsRow base 95 3 (.slice (some ⟨g, 0, none⟩) L.length cap) L.length (flat encI M) ∧ Off (fun k => k = g) w w' := by
  have hpg := own_ne hown hp (by decide)
  have Hp := Lib.hid hp
  have Hown := Lib.hid hown
  clear hp hown
  go_enter Try.func56, Try.ntmps56
  go_wp2
  go_loopw [1] (fun si wr => ∃ (k : Nat) (M : List (Th Int)), si = .int .i64 k ∧ k < L.length ∧ M.length = L.length ∧ M.Perm L ∧ Down M k ∧ wr.ownsRow base 95 3 (.slice (some ⟨g, 0, none⟩) L.length cap) L.length (flat encI M) ∧ Off (fun k => k = g) w wr)
    (fun si _ => L.length - (intOf si).toNat)
  case atStart => exact ⟨i, L, rfl, hi, rfl, List.Perm.refl _, hD, Hown.out, Off.refl _ _⟩
  case round =>
    obtain ⟨k, M, rfl, hk, hM, hperm, hDn, hown, hoff⟩ := hrel
    have hp := Hp.out.off hoff hpg
    have HM := Lib.hid hM
    have hown' : wr.ownsRow base 95 3 (.slice (some ⟨g, 0, none⟩) M.length cap) M.length (flat encI M) := by rw [hM]; exact hown
    have Hown' := Lib.hid hown'
    have Hofw := Lib.hid hoff
    have HD := Lib.hid hDn
    have Hperm := Lib.hid hperm
    have Hpr := Lib.hid hp
    have hB0 := Lib.hid (Best.start (M := M) (i := k) (by omega))
    obtain ⟨d1, ed1⟩ : ∃ d : Nat, d = 2 * k + 1 := ⟨_, rfl⟩
    obtain ⟨d2, ed2⟩ : ∃ d : Nat, d = 2 * k + 2 := ⟨_, rfl⟩
    have E1 := Lib.hid (show 2 * (k : Int) + 1 = (d1 : Int) by omega)
    have E2 := Lib.hid (show 2 * (k : Int) + 2 = (d2 : Int) by omega)
    have Ed1 := Lib.hid ed1
    have Ed2 := Lib.hid ed2
    have Hk := Lib.hid hk
    clear hM hown hown' hoff hDn hperm hp ed1 ed2
    obtain ⟨wo, rfl⟩ : ∃ wo : World, wo = wr := ⟨_, rfl⟩
    go_wp2_with fail
    rw [E1.out, E2.out]
    go_loopw [15, 4] (fun sj sl wq => ∃ (j c : Nat), sj = .int .i64 j ∧ sl = .int .i64 c ∧ j ≤ 2 ∧ Best M k j c ∧ Off (fun _ => False) wo wq)
      (fun sj _ _ => 2 - (intOf sj).toNat)
    case atStart => exact ⟨0, k, rfl, rfl, by omega, hB0.out, Off.refl _ _⟩
    case round =>
      obtain ⟨j, c, rfl, rfl, hj, hBest, hoq⟩ := hrel
      have HB := Lib.hid hBest
      have hc := hBest.inr
      rw [HM.out] at hc
      have P1 := Hpr.out.off hoq id
      have c0 : wr.cell? ⟨p, 0, none⟩ = some (.slice (some ⟨g, 0, none⟩) L.length cap) := P1.cell 0
      have own1 : wr.ownsRow base 95 3 (.slice (some ⟨g, 0, none⟩) M.length cap) M.length (flat encI M) := own_off Hown'.out hoq (fun _ _ => id)
      have Own1 := Lib.hid own1
      have PP1 := Lib.hid P1
      have Hoq := Lib.hid hoq
      clear hBest P1 hoq
      by_cases hj2 : j < 2
      · obtain ⟨d, hd, hdd⟩ : ∃ d : Nat, d = 2 * k + 1 + j ∧ ((j = 0 ∧ d = d1) ∨ (j = 1 ∧ d = d2)) := ⟨_, rfl, by have := Ed1.out; have := Ed2.out; omega⟩
        have Hd := Lib.hid hd
        clear hd
        have ix : ∀ w : World, Sem.run Try.prog (Instr.index 109 (Value.agg #[.int .i64 (d1 : Int), .int .i64 (d2 : Int)]) (.int .i64 (j : Int))) w = .ok (.int .i64 (d : Int)) w := by
          rcases hdd with ⟨h1, h2⟩ | ⟨h1, h2⟩
          · subst h1; subst h2; exact fun _ => rfl
          · subst h1; subst h2; exact fun _ => rfl
        clear hdd
        by_cases hdl : d < L.length
        · have g1 : decide ((d : Int) < (L.length : Int)) = true := by simpa using hdl
          have ha := List.getElem?_eq_getElem (show d < M.length by rw [HM.out]; exact hdl)
          have hb := List.getElem?_eq_getElem (show c < M.length by rw [HM.out]; exact hc)
          obtain ⟨a, hae⟩ : ∃ a, M[d]'(by rw [HM.out]; exact hdl) = a := ⟨_, rfl⟩
          obtain ⟨b, hbe⟩ : ∃ b, M[c]'(by rw [HM.out]; exact hc) = b := ⟨_, rfl⟩
          rw [hae] at ha
          rw [hbe] at hb
          clear hae hbe
          have cell : ∀ (i k : Nat) (a : Th Int), M[i]? = some a → k < 3 → wr.cell? ⟨g, i * 3 + k, none⟩ = (cel encI a)[k]? := fun i k a h hk => by
            rw [own1.cellAt _ (by have := lt_of_get h; omega)]
            exact flat_at (m := 1) (fun _ => rfl) h (by omega)
          have i0 : wr.cell? ⟨g, d * 3, none⟩ = some (.int .i64 a.due) := cell d 0 a ha (by omega)
          have i1 : wr.cell? ⟨g, d * 3 + 1, none⟩ = some (.int .u64 a.no) := cell d 1 a ha (by omega)
          have i2 : wr.cell? ⟨g, d * 3 + 2, none⟩ = some (.int .i64 a.x) := cell d 2 a ha (by omega)
          have j0 : wr.cell? ⟨g, c * 3, none⟩ = some (.int .i64 b.due) := cell _ 0 b hb (by omega)
          have j1 : wr.cell? ⟨g, c * 3 + 1, none⟩ = some (.int .u64 b.no) := cell _ 1 b hb (by omega)
          have j2 : wr.cell? ⟨g, c * 3 + 2, none⟩ = some (.int .i64 b.x) := cell _ 2 b hb (by omega)
          have Ha := Lib.hid ha
          have Hb := Lib.hid hb
          have b1 : (0 : Int) ≤ (d : Int) := by omega
          have b2 : (d : Int) < (L.length : Int) := by omega
          have b3 : (0 : Int) ≤ (c : Int) := by omega
          have b4 : (c : Int) < (L.length : Int) := by omega
          clear cell ha hb own1
          go_wp2_with fail
          refine QT.region_tail 22 (by kernel_rfl) (by kernel_rfl) ?_
          simp only [List.take_succ_cons, List.take_zero, List.drop_succ_cons, List.drop_zero]
          repeat (any_goals (first | go_big_quiet_step (fail) | quiet_step (fail)))
          refine wpQuiet_nil ?_
          rintro _ ⟨nq, rfl⟩
          go_wp2_with fail
          refine (ahead_any _ _ _).mono ?_
          rintro e w1 ⟨rfl, o1⟩
          have O1 := Lib.hid (Hoq.out.trans ((Off.drewN (Off.refl _ _) nq).trans o1))
          clear o1 i0 i1 i2 j0 j1 j2 c0
          by_cases hf : fore a b = true
          · have nb := Lib.hid (HB.out.take (by rw [← Hd.out]; exact Ha.out) Hb.out hf)
            rw [hf]
            clear hf
            go_wp2_with fail
            go_roundw
            case rel => exact ⟨j + 1, d, by go_num, rfl, by omega, by have := nb.out; rw [← Hd.out] at this; exact this, O1.out⟩
            case measure => simp [intOf]; omega
          · have hf : fore a b = false := by simpa using hf
            have nb := Lib.hid (HB.out.keep (by rw [← Hd.out]; exact Ha.out) Hb.out hf)
            rw [hf]
            clear hf
            go_wp2_with fail
            go_roundw
            case rel => exact ⟨j + 1, c, by go_num, rfl, by omega, nb.out, O1.out⟩
            case measure => simp [intOf]; omega
        · have g1 : decide ((d : Int) < (L.length : Int)) = false := by simpa using hdl
          have nb := Lib.hid (HB.out.off (by rw [HM.out, ← Hd.out]; omega))
          clear own1
          go_wp2_with fail
          go_quiet (fail)
          have O1 := Lib.hid (Hoq.out.drewN nq)
          go_wp2_with fail
          go_roundw
          case rel => exact ⟨j + 1, c, by go_num, rfl, by omega, nb.out, O1.out⟩
          case measure => simp [intOf]; omega
      · obtain rfl : j = 2 := by omega
        clear own1
        by_cases hck : c = k
        · subst hck
          have Hfin := Lib.hid (show ∃ M : List (Th Int), M.length = L.length ∧ M.Perm L ∧ Heap M ∧ wr.ownsRow base 95 3 (.slice (some ⟨g, 0, none⟩) L.length cap) L.length (flat encI M) ∧ Off (fun k => k = g) w wr from ⟨M, HM.out, Hperm.out, HB.out.heap HD.out, by rw [← HM.out]; exact Own1.out, Hofw.out.trans Hoq.out.none⟩)
          clear c0
          go_wp2_with fail
          refine bodyPost_ret (results_none rfl _ _ _) rfl ?_
          exact ⟨⟨_, rfl⟩, Hfin.out⟩
        · have nck : ((c : Int) == (k : Int)) = false := by simp; omega
          clear c0
          have hw := HB.out.who
          have Ha := Lib.hid (List.getElem?_eq_getElem (show k < M.length by rw [HM.out]; exact Hk.out))
          have Hb := Lib.hid (List.getElem?_eq_getElem (show c < M.length by rw [HM.out]; exact hc))
          go_wp2_with fail
          refine (swap_any base p g cap most no M k c _ _ wr (by rw [HM.out]; exact PP1.out) Own1.out Ha.out Hb.out).mono ?_
          rintro e w2 ⟨⟨v, rfl⟩, own2, g2, z2⟩
          rw [HM.out] at own2
          have Own2 := Lib.hid own2
          have O2 := Lib.hid ((Hofw.out.trans Hoq.out.none).trans (off_grown g2))
          have D2 := Lib.hid (HB.out.step HD.out hck (by rw [HM.out]; exact Hk.out))
          have ml := Lib.hid ((swp_length M k c).trans HM.out)
          have mp := Lib.hid ((swp_perm M k c).trans Hperm.out)
          clear own2 g2 z2
          go_wp2_with fail
          go_roundw
          case rel => exact ⟨c, swp M k c, rfl, hc, ml.out, mp.out, D2.out, Own2.out, O2.out⟩
          case measure => simp [intOf]; omega
end I

end Go.Proofs.Ytcicnanchikpjaa.Agenda
