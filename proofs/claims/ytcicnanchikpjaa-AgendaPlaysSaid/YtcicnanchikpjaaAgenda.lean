/- The walks of package agenda at one type: swap, ahead, rise, sink, Add, Next, Take, Drain, Len, Room. -/
import Derived.Test.YtcicnanchikpjaaFlat
import Derived.Test.YtcicnanchikpjaaQuiet
import Derived.Test.YtcicnanchikpjaaChecked
import Derived.WalkKit
import Derived.WalkLawsBesides
import Derived.WalkSpells
import Derived.Lib.Hide
import Derived.Outline
import Derived.BigQuiet
import Derived.BigRegion
import Derived.Deep.QuietTactic
import Derived.Deep.RegionHeld3
import Derived.Deep.DeepCutAuto
import Derived.Laws.EntriesVeiled
namespace Go.Proofs.Ytcicnanchikpjaa.Agenda
open Go.RowKit (wrap64 Below intOf)
open Go.Proofs.Ytcicnanchikpjaa.Heap Go.Proofs.Ytcicnanchikpjaa.RF
theorem ret_b {p q : Bool} (h : p = q) : Ending.returned (.bool p) = .returned (.bool q) := by rw [h]

/-! ### the agenda of int64 -/
namespace I64
theorem ahead_any (t u : Th Int) (w : World) :
    Calls Try.prog 63 #[.agg #[.int .i64 t.due, .int .u64 t.no, .int .i64 t.x], .agg #[.int .i64 u.due, .int .u64 u.no, .int .i64 u.x]] w fun e w' => e = .returned (.bool (fore t u)) ∧ Off (fun _ => False) w w' := by
  have fin : ∀ o o', Off (fun _ => False) w ((w.alloc o).alloc o') := fun o o' => ((Off.refl _ _).alloc _).alloc _
  by_cases h1 : t.due < u.due
  · have ok := Lib.hid (fore_iff.2 (.inl h1) : fore t u = true)
    go_enter Try.func63, Try.ntmps63
    go_wp2
    go_ret
    exact ⟨ret_b ok.out.symm, fin _ _⟩
  · by_cases h2 : t.due = u.due
    · have h3 : (t.due == u.due) = true := by simpa using h2
      by_cases h4 : t.no < u.no
      · have ok := Lib.hid (fore_iff.2 (.inr ⟨h2, h4⟩) : fore t u = true)
        have h5 : decide ((t.no : Int) < (u.no : Int)) = true := by simpa using h4
        clear h2
        go_enter Try.func63, Try.ntmps63
        go_wp2
        go_ret
        exact ⟨ret_b ok.out.symm, fin _ _⟩
      · have ok := Lib.hid (fore_no.2 (by omega) : fore t u = false)
        have h5 : decide ((t.no : Int) < (u.no : Int)) = false := by simp; omega
        clear h2
        go_enter Try.func63, Try.ntmps63
        go_wp2
        go_ret
        exact ⟨ret_b ok.out.symm, fin _ _⟩
    · have h3 : (t.due == u.due) = false := by simpa using h2
      have ok := Lib.hid (fore_no.2 (by omega) : fore t u = false)
      go_enter Try.func63, Try.ntmps63
      go_wp2
      go_ret
      exact ⟨ret_b ok.out.symm, fin _ _⟩
set_option maxRecDepth 100000 in
set_option maxHeartbeats 2000000 in
theorem swap_any (base p g cap : Nat) (most no : Int) (L : List (Th Int)) (i j : Nat) (a b : Th Int) (w : World)
    (hp : Blk w p 99 #[.slice (some ⟨g, 0, none⟩) L.length cap, .int .i64 most, .int .u64 no])
    (hown : w.ownsRow base 101 3 (.slice (some ⟨g, 0, none⟩) L.length cap) L.length (flat encI L))
    (hi : L[i]? = some a) (hj : L[j]? = some b) :
    Calls Try.prog 53 #[.pointer (some ⟨p, 0, none⟩), .int .i64 i, .int .i64 j] w fun e w' => (∃ v, e = .returned v) ∧
      w'.ownsRow base 101 3 (.slice (some ⟨g, 0, none⟩) L.length cap) L.length (flat encI (swp L i j)) ∧ w.grownBy w' (some g) ∧ w'.heap.size = w.heap.size := by
  have hli := lt_of_get hi
  have hlj := lt_of_get hj
  have c0 : w.cell? ⟨p, 0, none⟩ = some (.slice (some ⟨g, 0, none⟩) L.length cap) := hp.cell 0
  have cell : ∀ (i k : Nat) (a : Th Int), L[i]? = some a → k < 3 → w.cell? ⟨g, i * 3 + k, none⟩ = (cel encI a)[k]? := fun i k a h hk => by
    rw [hown.cellAt _ (by have := lt_of_get h; omega)]
    exact flat_at (m := 1) (fun _ => rfl) h (by omega)
  have i0 : w.cell? ⟨g, i * 3, none⟩ = some (.int .i64 a.due) := cell i 0 a hi (by omega)
  have i1 : w.cell? ⟨g, i * 3 + 1, none⟩ = some (.int .u64 a.no) := cell i 1 a hi (by omega)
  have i2 : w.cell? ⟨g, i * 3 + 2, none⟩ = some (.int .i64 a.x) := cell i 2 a hi (by omega)
  have j0 : w.cell? ⟨g, j * 3, none⟩ = some (.int .i64 b.due) := cell j 0 b hj (by omega)
  have j1 : w.cell? ⟨g, j * 3 + 1, none⟩ = some (.int .u64 b.no) := cell j 1 b hj (by omega)
  have j2 : w.cell? ⟨g, j * 3 + 2, none⟩ = some (.int .i64 b.x) := cell j 2 b hj (by omega)
  have fz : ∀ k, w.frozen? ⟨g, k, none⟩ = false := fun k => hown.frozenAt k
  clear cell
  have bi : (0 : Int) ≤ (i : Int) := by omega
  have bj : (0 : Int) ≤ (j : Int) := by omega
  have bi' : (i : Int) < (L.length : Int) := by omega
  have bj' : (j : Int) < (L.length : Int) := by omega
  have Hown := Lib.hid hown
  have Hi := Lib.hid hi
  have Hj := Lib.hid hj
  clear hown hi hj hp
  go_enter Try.func53, Try.ntmps53
  go_wp2_with fail
  have fin : ∀ (e : Ending) (w' : World), (e = .returned (.tuple #[]) ∧ w' = ((((((w.setCell ⟨g, i * 3, none⟩ (.int .i64 b.due)).setCell ⟨g, i * 3 + 1, none⟩ (.int .u64 b.no)).setCell ⟨g, i * 3 + 2, none⟩ (.int .i64 b.x)).setCell ⟨g, j * 3, none⟩ (.int .i64 a.due)).setCell ⟨g, j * 3 + 1, none⟩ (.int .u64 a.no)).setCell ⟨g, j * 3 + 2, none⟩ (.int .i64 a.x)).drew) →
      (∃ v, e = .returned v) ∧ w'.ownsRow base 101 3 (.slice (some ⟨g, 0, none⟩) L.length cap) L.length (flat encI (swp L i j)) ∧ w.grownBy w' (some g) ∧ w'.heap.size = w.heap.size := by
    rintro e w' ⟨rfl, rfl⟩
    obtain ⟨o1, g1⟩ := stored3 Hown.out (i * 3) (.int .i64 b.due) (.int .u64 b.no) (.int .i64 b.x)
    obtain ⟨o2, g2⟩ := stored3 o1 (j * 3) (.int .i64 a.due) (.int .u64 a.no) (.int .i64 a.x)
    have e1 : puts (flat encI L) (i * 3) [.int .i64 b.due, .int .u64 b.no, .int .i64 b.x] = flat encI (L.set i b) := flat_put (m := 1) (enc := encI) (fun _ => rfl) hli b
    have e2 : puts (flat encI (L.set i b)) (j * 3) [.int .i64 a.due, .int .u64 a.no, .int .i64 a.x] = flat encI ((L.set i b).set j a) := flat_put (m := 1) (enc := encI) (fun _ => rfl) (by simpa using hlj) a
    rw [e1, e2] at o2
    rw [swp_eq Hi.out Hj.out]
    have g3 := g1.trans g2
    exact ⟨⟨_, rfl⟩, own_drew o2, gr_drew g3, by simp only [size_drew, size_setCell]⟩
  replace fin := Lib.hid fin
  by_cases hij : i = j
  · subst hij
    have eab : a = b := Option.some.inj (Hi.out.symm.trans Hj.out)
    subst eab
    go_region
    all_goals (go_end0; exact fin.out _ _ ⟨rfl, rfl⟩)
  · go_region
    all_goals (go_end0; exact fin.out _ _ ⟨rfl, rfl⟩)
set_option maxRecDepth 100000 in
set_option maxHeartbeats 4000000 in
theorem rise_any (base p g cap : Nat) (most no : Int) (L : List (Th Int)) (i : Nat) (w : World)
    (hp : Blk w p 99 #[.slice (some ⟨g, 0, none⟩) L.length cap, .int .i64 most, .int .u64 no])
    (hown : w.ownsRow base 101 3 (.slice (some ⟨g, 0, none⟩) L.length cap) L.length (flat encI L))
    (hU : Up L i) (hi : i < L.length) (hlen : L.length ≤ 100000) :
    Calls Try.prog 52 #[.pointer (some ⟨p, 0, none⟩), .int .i64 i] w fun e w' => (∃ v, e = .returned v) ∧
      ∃ M : List (Th Int), M.length = L.length ∧ M.Perm L ∧ Heap M ∧ w'.ownsRow base 101 3 (.slice (some ⟨g, 0, none⟩) L.length cap) L.length (flat encI M) ∧ Off (fun k => k = g) w w' := by
  have hpg := own_ne hown hp (by decide)
  have Hp := Lib.hid hp
  have Hown := Lib.hid hown
  clear hp hown
  go_enter Try.func52, Try.ntmps52
  go_wp2
  go_loopw [1] (fun si wr => ∃ (k : Nat) (M : List (Th Int)), si = .int .i64 k ∧ k < L.length ∧ M.length = L.length ∧ M.Perm L ∧ Up M k ∧ wr.ownsRow base 101 3 (.slice (some ⟨g, 0, none⟩) L.length cap) L.length (flat encI M) ∧ Off (fun k => k = g) w wr)
    (fun si _ => (intOf si).toNat)
  case atStart => exact ⟨i, L, rfl, hi, rfl, List.Perm.refl _, hU, Hown.out, Off.refl _ _⟩
  case round =>
    obtain ⟨k, M, rfl, hk, hM, hperm, hUp, hown, hoff⟩ := hrel
    have hp := Hp.out.off hoff hpg
    have c0 : wr.cell? ⟨p, 0, none⟩ = some (.slice (some ⟨g, 0, none⟩) L.length cap) := hp.cell 0
    rcases Nat.eq_zero_or_pos k with hk0 | hk0
    · subst hk0
      have Hfin := Lib.hid (show ∃ M : List (Th Int), M.length = L.length ∧ M.Perm L ∧ Heap M ∧ wr.ownsRow base 101 3 (.slice (some ⟨g, 0, none⟩) L.length cap) L.length (flat encI M) ∧ Off (fun k => k = g) w wr from ⟨M, hM, hperm, hUp.heap0, hown, hoff⟩)
      clear hM hperm hUp hown hoff
      go_wp2
      go_end0
      exact ⟨⟨_, rfl⟩, Hfin.out⟩
    · obtain ⟨u, hu⟩ : ∃ u, (k - 1) / 2 = u := ⟨_, rfl⟩
      have hu1 : 2 * u + 1 ≤ k := by omega
      have hu2 : k ≤ 2 * u + 2 := by omega
      have ha := List.getElem?_eq_getElem (show k < M.length by omega)
      have hb := List.getElem?_eq_getElem (show u < M.length by omega)
      obtain ⟨a, hae⟩ : ∃ a, M[k] = a := ⟨_, rfl⟩
      obtain ⟨b, hbe⟩ : ∃ b, M[u] = b := ⟨_, rfl⟩
      rw [hae] at ha
      rw [hbe] at hb
      clear hae hbe
      replace hu := Lib.hid hu
      have hown' : wr.ownsRow base 101 3 (.slice (some ⟨g, 0, none⟩) M.length cap) M.length (flat encI M) := by rw [hM]; exact hown
      have cell : ∀ (i k : Nat) (a : Th Int), M[i]? = some a → k < 3 → wr.cell? ⟨g, i * 3 + k, none⟩ = (cel encI a)[k]? := fun i k a h hk => by
        rw [hown'.cellAt _ (by have := lt_of_get h; omega)]
        exact flat_at (m := 1) (fun _ => rfl) h (by omega)
      have i0 : wr.cell? ⟨g, k * 3, none⟩ = some (.int .i64 a.due) := cell k 0 a ha (by omega)
      have i1 : wr.cell? ⟨g, k * 3 + 1, none⟩ = some (.int .u64 a.no) := cell k 1 a ha (by omega)
      have i2 : wr.cell? ⟨g, k * 3 + 2, none⟩ = some (.int .i64 a.x) := cell k 2 a ha (by omega)
      have j0 : wr.cell? ⟨g, u * 3, none⟩ = some (.int .i64 b.due) := cell _ 0 b hb (by omega)
      have j1 : wr.cell? ⟨g, u * 3 + 1, none⟩ = some (.int .u64 b.no) := cell _ 1 b hb (by omega)
      have j2 : wr.cell? ⟨g, u * 3 + 2, none⟩ = some (.int .i64 b.x) := cell _ 2 b hb (by omega)
      have eU := Lib.hid (show ((k : Int) - 1) / 2 = (u : Int) by omega)
      have b1 : (0 : Int) ≤ (k : Int) := by omega
      have b2 : (k : Int) < (L.length : Int) := by omega
      have b3 : (0 : Int) ≤ (u : Int) := by omega
      have b4 : (u : Int) < (L.length : Int) := by omega
      have Ha := Lib.hid ha
      have Hb := Lib.hid hb
      have HM := Lib.hid hM
      have Hown' := Lib.hid hown'
      have Hofw := Lib.hid hoff
      have HU := Lib.hid hUp
      have Hperm := Lib.hid hperm
      have Hpr := Lib.hid hp
      clear cell ha hb hM hown' hown hoff hUp hperm hp
      go_wp2_with fail
      rw [eU.out]
      refine QT.region_tail 14 (by kernel_rfl) (by kernel_rfl) ?_
      simp only [List.take_succ_cons, List.take_zero, List.drop_succ_cons, List.drop_zero]
      repeat (quiet_step (fail))
      refine wpQuiet_nil ?_
      rintro _ ⟨nq, rfl⟩
      go_wp2_with fail
      refine (ahead_any _ _ _).mono ?_
      rintro e w1 ⟨rfl, o1⟩
      have o1' : Off (fun k => k = g) wr w1 := (Off.drewN (Off.refl _ _) nq).trans o1.none
      have p1 := Hpr.out.off o1' hpg
      have own1 : w1.ownsRow base 101 3 (.slice (some ⟨g, 0, none⟩) M.length cap) M.length (flat encI M) := own_off (own_off Hown'.out (Off.drewN (Off.refl (fun _ => False) _) nq) (fun _ _ => id)) o1 (fun _ _ => id)
      by_cases hf : fore a b = true
      · rw [hf]
        have Hf := Lib.hid hf
        clear hf i0 i1 i2 j0 j1 j2 c0
        have P1 := Lib.hid p1
        have O1 := Lib.hid own1
        have O1' := Lib.hid o1'
        clear p1 own1 o1 o1'
        go_wp2_with fail
        refine (swap_any base p g cap most no M k (u) a b w1 (by rw [HM.out]; exact P1.out) O1.out Ha.out Hb.out).mono ?_
        rintro e w2 ⟨⟨v, rfl⟩, own2, g2, z2⟩
        rw [HM.out] at own2
        have Own2 := Lib.hid own2
        have O2 := Lib.hid ((Hofw.out.trans O1'.out).trans (off_grown g2))
        have U2 := Lib.hid (show Up (swp M k u) u by have := HU.out.step hk0 Ha.out (by rw [hu.out]; exact Hb.out) Hf.out; rwa [hu.out] at this)
        have hl2 : u < L.length := by omega
        have ml := Lib.hid ((swp_length M k (u)).trans HM.out)
        have mp := Lib.hid ((swp_perm M k (u)).trans Hperm.out)
        clear own2 g2 z2
        go_wp2_with fail
        go_roundw
        case rel => exact ⟨u, swp M k (u), rfl, hl2, ml.out, mp.out, U2.out, Own2.out, O2.out⟩
        case measure => simp [intOf]; omega
      · have hf : fore a b = false := by simpa using hf
        rw [hf]
        have Hfin := Lib.hid (show ∃ M : List (Th Int), M.length = L.length ∧ M.Perm L ∧ Heap M ∧ w1.ownsRow base 101 3 (.slice (some ⟨g, 0, none⟩) L.length cap) L.length (flat encI M) ∧ Off (fun k => k = g) w w1 from ⟨M, HM.out, Hperm.out, HU.out.heap Ha.out (by rw [hu.out]; exact Hb.out) hf, by rw [← HM.out]; exact own1, Hofw.out.trans o1'⟩)
        clear hf i0 i1 i2 j0 j1 j2 c0 own1 p1 o1 o1'
        go_wp2_with fail
        refine bodyPost_ret (results_none rfl _ _ _) rfl ?_
        exact ⟨⟨_, rfl⟩, Hfin.out⟩
end I64

/-! ### the agenda of int -/
namespace I
theorem ahead_any (t u : Th Int) (w : World) :
    Calls Try.prog 62 #[.agg #[.int .i64 t.due, .int .u64 t.no, .int .i64 t.x], .agg #[.int .i64 u.due, .int .u64 u.no, .int .i64 u.x]] w fun e w' => e = .returned (.bool (fore t u)) ∧ Off (fun _ => False) w w' := by
  have fin : ∀ o o', Off (fun _ => False) w ((w.alloc o).alloc o') := fun o o' => ((Off.refl _ _).alloc _).alloc _
  by_cases h1 : t.due < u.due
  · have ok := Lib.hid (fore_iff.2 (.inl h1) : fore t u = true)
    go_enter Try.func62, Try.ntmps62
    go_wp2
    go_ret
    exact ⟨ret_b ok.out.symm, fin _ _⟩
  · by_cases h2 : t.due = u.due
    · have h3 : (t.due == u.due) = true := by simpa using h2
      by_cases h4 : t.no < u.no
      · have ok := Lib.hid (fore_iff.2 (.inr ⟨h2, h4⟩) : fore t u = true)
        have h5 : decide ((t.no : Int) < (u.no : Int)) = true := by simpa using h4
        clear h2
        go_enter Try.func62, Try.ntmps62
        go_wp2
        go_ret
        exact ⟨ret_b ok.out.symm, fin _ _⟩
      · have ok := Lib.hid (fore_no.2 (by omega) : fore t u = false)
        have h5 : decide ((t.no : Int) < (u.no : Int)) = false := by simp; omega
        clear h2
        go_enter Try.func62, Try.ntmps62
        go_wp2
        go_ret
        exact ⟨ret_b ok.out.symm, fin _ _⟩
    · have h3 : (t.due == u.due) = false := by simpa using h2
      have ok := Lib.hid (fore_no.2 (by omega) : fore t u = false)
      go_enter Try.func62, Try.ntmps62
      go_wp2
      go_ret
      exact ⟨ret_b ok.out.symm, fin _ _⟩
set_option maxRecDepth 100000 in
set_option maxHeartbeats 2000000 in
theorem swap_any (base p g cap : Nat) (most no : Int) (L : List (Th Int)) (i j : Nat) (a b : Th Int) (w : World)
    (hp : Blk w p 93 #[.slice (some ⟨g, 0, none⟩) L.length cap, .int .i64 most, .int .u64 no])
    (hown : w.ownsRow base 95 3 (.slice (some ⟨g, 0, none⟩) L.length cap) L.length (flat encI L))
    (hi : L[i]? = some a) (hj : L[j]? = some b) :
    Calls Try.prog 55 #[.pointer (some ⟨p, 0, none⟩), .int .i64 i, .int .i64 j] w fun e w' => (∃ v, e = .returned v) ∧
      w'.ownsRow base 95 3 (.slice (some ⟨g, 0, none⟩) L.length cap) L.length (flat encI (swp L i j)) ∧ w.grownBy w' (some g) ∧ w'.heap.size = w.heap.size := by
  have hli := lt_of_get hi
  have hlj := lt_of_get hj
  have c0 : w.cell? ⟨p, 0, none⟩ = some (.slice (some ⟨g, 0, none⟩) L.length cap) := hp.cell 0
  have cell : ∀ (i k : Nat) (a : Th Int), L[i]? = some a → k < 3 → w.cell? ⟨g, i * 3 + k, none⟩ = (cel encI a)[k]? := fun i k a h hk => by
    rw [hown.cellAt _ (by have := lt_of_get h; omega)]
    exact flat_at (m := 1) (fun _ => rfl) h (by omega)
  have i0 : w.cell? ⟨g, i * 3, none⟩ = some (.int .i64 a.due) := cell i 0 a hi (by omega)
  have i1 : w.cell? ⟨g, i * 3 + 1, none⟩ = some (.int .u64 a.no) := cell i 1 a hi (by omega)
  have i2 : w.cell? ⟨g, i * 3 + 2, none⟩ = some (.int .i64 a.x) := cell i 2 a hi (by omega)
  have j0 : w.cell? ⟨g, j * 3, none⟩ = some (.int .i64 b.due) := cell j 0 b hj (by omega)
  have j1 : w.cell? ⟨g, j * 3 + 1, none⟩ = some (.int .u64 b.no) := cell j 1 b hj (by omega)
  have j2 : w.cell? ⟨g, j * 3 + 2, none⟩ = some (.int .i64 b.x) := cell j 2 b hj (by omega)
  have fz : ∀ k, w.frozen? ⟨g, k, none⟩ = false := fun k => hown.frozenAt k
  clear cell
  have bi : (0 : Int) ≤ (i : Int) := by omega
  have bj : (0 : Int) ≤ (j : Int) := by omega
  have bi' : (i : Int) < (L.length : Int) := by omega
  have bj' : (j : Int) < (L.length : Int) := by omega
  have Hown := Lib.hid hown
  have Hi := Lib.hid hi
  have Hj := Lib.hid hj
  clear hown hi hj hp
  go_enter Try.func55, Try.ntmps55
  go_wp2_with fail
  have fin : ∀ (e : Ending) (w' : World), (e = .returned (.tuple #[]) ∧ w' = ((((((w.setCell ⟨g, i * 3, none⟩ (.int .i64 b.due)).setCell ⟨g, i * 3 + 1, none⟩ (.int .u64 b.no)).setCell ⟨g, i * 3 + 2, none⟩ (.int .i64 b.x)).setCell ⟨g, j * 3, none⟩ (.int .i64 a.due)).setCell ⟨g, j * 3 + 1, none⟩ (.int .u64 a.no)).setCell ⟨g, j * 3 + 2, none⟩ (.int .i64 a.x)).drew) →
      (∃ v, e = .returned v) ∧ w'.ownsRow base 95 3 (.slice (some ⟨g, 0, none⟩) L.length cap) L.length (flat encI (swp L i j)) ∧ w.grownBy w' (some g) ∧ w'.heap.size = w.heap.size := by
    rintro e w' ⟨rfl, rfl⟩
    obtain ⟨o1, g1⟩ := stored3 Hown.out (i * 3) (.int .i64 b.due) (.int .u64 b.no) (.int .i64 b.x)
    obtain ⟨o2, g2⟩ := stored3 o1 (j * 3) (.int .i64 a.due) (.int .u64 a.no) (.int .i64 a.x)
    have e1 : puts (flat encI L) (i * 3) [.int .i64 b.due, .int .u64 b.no, .int .i64 b.x] = flat encI (L.set i b) := flat_put (m := 1) (enc := encI) (fun _ => rfl) hli b
    have e2 : puts (flat encI (L.set i b)) (j * 3) [.int .i64 a.due, .int .u64 a.no, .int .i64 a.x] = flat encI ((L.set i b).set j a) := flat_put (m := 1) (enc := encI) (fun _ => rfl) (by simpa using hlj) a
    rw [e1, e2] at o2
    rw [swp_eq Hi.out Hj.out]
    have g3 := g1.trans g2
    exact ⟨⟨_, rfl⟩, own_drew o2, gr_drew g3, by simp only [size_drew, size_setCell]⟩
  replace fin := Lib.hid fin
  by_cases hij : i = j
  · subst hij
    have eab : a = b := Option.some.inj (Hi.out.symm.trans Hj.out)
    subst eab
    go_region
    all_goals (go_end0; exact fin.out _ _ ⟨rfl, rfl⟩)
  · go_region
    all_goals (go_end0; exact fin.out _ _ ⟨rfl, rfl⟩)
set_option maxRecDepth 100000 in
set_option maxHeartbeats 4000000 in
theorem rise_any (base p g cap : Nat) (most no : Int) (L : List (Th Int)) (i : Nat) (w : World)
    (hp : Blk w p 93 #[.slice (some ⟨g, 0, none⟩) L.length cap, .int .i64 most, .int .u64 no])
    (hown : w.ownsRow base 95 3 (.slice (some ⟨g, 0, none⟩) L.length cap) L.length (flat encI L))
    (hU : Up L i) (hi : i < L.length) (hlen : L.length ≤ 100000) :
    Calls Try.prog 51 #[.pointer (some ⟨p, 0, none⟩), .int .i64 i] w fun e w' => (∃ v, e = .returned v) ∧
      ∃ M : List (Th Int), M.length = L.length ∧ M.Perm L ∧ Heap M ∧ w'.ownsRow base 95 3 (.slice (some ⟨g, 0, none⟩) L.length cap) L.length (flat encI M) ∧ Off (fun k => k = g) w w' := by
  have hpg := own_ne hown hp (by decide)
  have Hp := Lib.hid hp
  have Hown := Lib.hid hown
  clear hp hown
  go_enter Try.func51, Try.ntmps51
  go_wp2
  go_loopw [1] (fun si wr => ∃ (k : Nat) (M : List (Th Int)), si = .int .i64 k ∧ k < L.length ∧ M.length = L.length ∧ M.Perm L ∧ Up M k ∧ wr.ownsRow base 95 3 (.slice (some ⟨g, 0, none⟩) L.length cap) L.length (flat encI M) ∧ Off (fun k => k = g) w wr)
    (fun si _ => (intOf si).toNat)
  case atStart => exact ⟨i, L, rfl, hi, rfl, List.Perm.refl _, hU, Hown.out, Off.refl _ _⟩
  case round =>
    obtain ⟨k, M, rfl, hk, hM, hperm, hUp, hown, hoff⟩ := hrel
    have hp := Hp.out.off hoff hpg
    have c0 : wr.cell? ⟨p, 0, none⟩ = some (.slice (some ⟨g, 0, none⟩) L.length cap) := hp.cell 0
    rcases Nat.eq_zero_or_pos k with hk0 | hk0
    · subst hk0
      have Hfin := Lib.hid (show ∃ M : List (Th Int), M.length = L.length ∧ M.Perm L ∧ Heap M ∧ wr.ownsRow base 95 3 (.slice (some ⟨g, 0, none⟩) L.length cap) L.length (flat encI M) ∧ Off (fun k => k = g) w wr from ⟨M, hM, hperm, hUp.heap0, hown, hoff⟩)
      clear hM hperm hUp hown hoff
      go_wp2
      go_end0
      exact ⟨⟨_, rfl⟩, Hfin.out⟩
    · obtain ⟨u, hu⟩ : ∃ u, (k - 1) / 2 = u := ⟨_, rfl⟩
      have hu1 : 2 * u + 1 ≤ k := by omega
      have hu2 : k ≤ 2 * u + 2 := by omega
      have ha := List.getElem?_eq_getElem (show k < M.length by omega)
      have hb := List.getElem?_eq_getElem (show u < M.length by omega)
      obtain ⟨a, hae⟩ : ∃ a, M[k] = a := ⟨_, rfl⟩
      obtain ⟨b, hbe⟩ : ∃ b, M[u] = b := ⟨_, rfl⟩
      rw [hae] at ha
      rw [hbe] at hb
      clear hae hbe
      replace hu := Lib.hid hu
      have hown' : wr.ownsRow base 95 3 (.slice (some ⟨g, 0, none⟩) M.length cap) M.length (flat encI M) := by rw [hM]; exact hown
      have cell : ∀ (i k : Nat) (a : Th Int), M[i]? = some a → k < 3 → wr.cell? ⟨g, i * 3 + k, none⟩ = (cel encI a)[k]? := fun i k a h hk => by
        rw [hown'.cellAt _ (by have := lt_of_get h; omega)]
        exact flat_at (m := 1) (fun _ => rfl) h (by omega)
      have i0 : wr.cell? ⟨g, k * 3, none⟩ = some (.int .i64 a.due) := cell k 0 a ha (by omega)
      have i1 : wr.cell? ⟨g, k * 3 + 1, none⟩ = some (.int .u64 a.no) := cell k 1 a ha (by omega)
      have i2 : wr.cell? ⟨g, k * 3 + 2, none⟩ = some (.int .i64 a.x) := cell k 2 a ha (by omega)
      have j0 : wr.cell? ⟨g, u * 3, none⟩ = some (.int .i64 b.due) := cell _ 0 b hb (by omega)
      have j1 : wr.cell? ⟨g, u * 3 + 1, none⟩ = some (.int .u64 b.no) := cell _ 1 b hb (by omega)
      have j2 : wr.cell? ⟨g, u * 3 + 2, none⟩ = some (.int .i64 b.x) := cell _ 2 b hb (by omega)
      have eU := Lib.hid (show ((k : Int) - 1) / 2 = (u : Int) by omega)
      have b1 : (0 : Int) ≤ (k : Int) := by omega
      have b2 : (k : Int) < (L.length : Int) := by omega
      have b3 : (0 : Int) ≤ (u : Int) := by omega
      have b4 : (u : Int) < (L.length : Int) := by omega
      have Ha := Lib.hid ha
      have Hb := Lib.hid hb
      have HM := Lib.hid hM
      have Hown' := Lib.hid hown'
      have Hofw := Lib.hid hoff
      have HU := Lib.hid hUp
      have Hperm := Lib.hid hperm
      have Hpr := Lib.hid hp
      clear cell ha hb hM hown' hown hoff hUp hperm hp
      go_wp2_with fail
      rw [eU.out]
      refine QT.region_tail 14 (by kernel_rfl) (by kernel_rfl) ?_
      simp only [List.take_succ_cons, List.take_zero, List.drop_succ_cons, List.drop_zero]
      repeat (quiet_step (fail))
      refine wpQuiet_nil ?_
      rintro _ ⟨nq, rfl⟩
      go_wp2_with fail
      refine (ahead_any _ _ _).mono ?_
      rintro e w1 ⟨rfl, o1⟩
      have o1' : Off (fun k => k = g) wr w1 := (Off.drewN (Off.refl _ _) nq).trans o1.none
      have p1 := Hpr.out.off o1' hpg
      have own1 : w1.ownsRow base 95 3 (.slice (some ⟨g, 0, none⟩) M.length cap) M.length (flat encI M) := own_off (own_off Hown'.out (Off.drewN (Off.refl (fun _ => False) _) nq) (fun _ _ => id)) o1 (fun _ _ => id)
      by_cases hf : fore a b = true
      · rw [hf]
        have Hf := Lib.hid hf
        clear hf i0 i1 i2 j0 j1 j2 c0
        have P1 := Lib.hid p1
        have O1 := Lib.hid own1
        have O1' := Lib.hid o1'
        clear p1 own1 o1 o1'
        go_wp2_with fail
        refine (swap_any base p g cap most no M k (u) a b w1 (by rw [HM.out]; exact P1.out) O1.out Ha.out Hb.out).mono ?_
        rintro e w2 ⟨⟨v, rfl⟩, own2, g2, z2⟩
        rw [HM.out] at own2
        have Own2 := Lib.hid own2
        have O2 := Lib.hid ((Hofw.out.trans O1'.out).trans (off_grown g2))
        have U2 := Lib.hid (show Up (swp M k u) u by have := HU.out.step hk0 Ha.out (by rw [hu.out]; exact Hb.out) Hf.out; rwa [hu.out] at this)
        have hl2 : u < L.length := by omega
        have ml := Lib.hid ((swp_length M k (u)).trans HM.out)
        have mp := Lib.hid ((swp_perm M k (u)).trans Hperm.out)
        clear own2 g2 z2
        go_wp2_with fail
        go_roundw
        case rel => exact ⟨u, swp M k (u), rfl, hl2, ml.out, mp.out, U2.out, Own2.out, O2.out⟩
        case measure => simp [intOf]; omega
      · have hf : fore a b = false := by simpa using hf
        rw [hf]
        have Hfin := Lib.hid (show ∃ M : List (Th Int), M.length = L.length ∧ M.Perm L ∧ Heap M ∧ w1.ownsRow base 95 3 (.slice (some ⟨g, 0, none⟩) L.length cap) L.length (flat encI M) ∧ Off (fun k => k = g) w w1 from ⟨M, HM.out, Hperm.out, HU.out.heap Ha.out (by rw [hu.out]; exact Hb.out) hf, by rw [← HM.out]; exact own1, Hofw.out.trans o1'⟩)
        clear hf i0 i1 i2 j0 j1 j2 c0 own1 p1 o1 o1'
        go_wp2_with fail
        refine bodyPost_ret (results_none rfl _ _ _) rfl ?_
        exact ⟨⟨_, rfl⟩, Hfin.out⟩
end I

end Go.Proofs.Ytcicnanchikpjaa.Agenda
