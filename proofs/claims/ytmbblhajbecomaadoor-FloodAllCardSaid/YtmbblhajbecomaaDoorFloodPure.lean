/- A coming, as cells. -/
import Derived.Test.YtmbblhajbecomaaDoorFlat
import Derived.Test.YtmbblhajbecomaaDoorNodes
import Derived.Test.YtmbblhajbecomaaDoorQuiet
import Derived.WalkKit
import Derived.WalkLawsBesides
import Derived.WalkSpells
import Derived.Lib.Hide
import Derived.Outline
import Derived.BigQuiet
import Derived.BigRegion
import Derived.Deep.QuietTactic
import Derived.Deep.RegionHeld3
import Derived.Deep.DeepCutAuto
import Derived.Laws.EntriesVeiled
import Derived.OwnWalk
import Derived.Deep.RegionLaw
import Derived.Test.YtmbblhajbecomaaDoorJoin
namespace Go.Proofs.YtmbblhajbecomaaDoor.Heap
open Go.RowKit
set_option linter.unusedVariables false
set_option linter.unusedSimpArgs false
/-- A coming. -/
structure Arr where
  node : Int
  time : Int
  hops : Int
  frm : Int
/-- Its cells. -/
def encA (a : Arr) : List Value := [.int .i64 a.node, .int .i64 a.time, .int .i64 a.hops, .int .i64 a.frm]
/-- Six cells stored into a row, one after the other. -/
theorem stored6 {w : World} {base : Nat} {e : TypeId} {s n g cap : Nat} {xs : List Value} (h : w.ownsRow base e s (.slice (some ⟨g, 0, none⟩) n cap) n xs) (o : Nat) (u v x y z t : Value) :
    ((((((w.setCell ⟨g, o, none⟩ u).setCell ⟨g, o + 1, none⟩ v).setCell ⟨g, o + 2, none⟩ x).setCell ⟨g, o + 3, none⟩ y).setCell ⟨g, o + 4, none⟩ z).setCell ⟨g, o + 5, none⟩ t).ownsRow base e s (.slice (some ⟨g, 0, none⟩) n cap) n (puts xs o [u, v, x, y, z, t]) ∧
      w.grownBy ((((((w.setCell ⟨g, o, none⟩ u).setCell ⟨g, o + 1, none⟩ v).setCell ⟨g, o + 2, none⟩ x).setCell ⟨g, o + 3, none⟩ y).setCell ⟨g, o + 4, none⟩ z).setCell ⟨g, o + 5, none⟩ t) (some g) := by
  obtain ⟨h1, g1⟩ := stored3 h o u v x
  obtain ⟨h2, g2⟩ := stored3 h1 (o + 3) y z t
  exact ⟨h2, g1.trans g2⟩
end Go.Proofs.YtmbblhajbecomaaDoor.Heap
namespace Go.Proofs.YtmbblhajbecomaaDoor.Agenda
open Go.RowKit (wrap64 Below intOf)
open Go.Proofs.YtmbblhajbecomaaDoor.Heap Go.Proofs.YtmbblhajbecomaaDoor.RF
theorem ret_b {p q : Bool} (h : p = q) : Ending.returned (.bool p) = .returned (.bool q) := by rw [h]

/-! ### the agenda of angelus/flood.Arrival -/
namespace F
theorem ahead_any (t u : Th Arr) (w : World) :
    Calls Tryd.prog 83 #[.agg #[.int .i64 t.due, .int .u64 t.no, .int .i64 t.x.node, .int .i64 t.x.time, .int .i64 t.x.hops, .int .i64 t.x.frm], .agg #[.int .i64 u.due, .int .u64 u.no, .int .i64 u.x.node, .int .i64 u.x.time, .int .i64 u.x.hops, .int .i64 u.x.frm]] w fun e w' => e = .returned (.bool (fore t u)) ∧ Off (fun _ => False) w w' := by
  have fin : ∀ o o', Off (fun _ => False) w ((w.alloc o).alloc o') := fun o o' => ((Off.refl _ _).alloc _).alloc _
  by_cases h1 : t.due < u.due
  · have ok := Lib.hid (fore_iff.2 (.inl h1) : fore t u = true)
    go_enter Tryd.func83, Tryd.ntmps83
    go_wp2
    go_ret
    exact ⟨ret_b ok.out.symm, fin _ _⟩
  · by_cases h2 : t.due = u.due
    · have h3 : (t.due == u.due) = true := by simpa using h2
      by_cases h4 : t.no < u.no
      · have ok := Lib.hid (fore_iff.2 (.inr ⟨h2, h4⟩) : fore t u = true)
        have h5 : decide ((t.no : Int) < (u.no : Int)) = true := by simpa using h4
        clear h2
        go_enter Tryd.func83, Tryd.ntmps83
        go_wp2
        go_ret
        exact ⟨ret_b ok.out.symm, fin _ _⟩
      · have ok := Lib.hid (fore_no.2 (by omega) : fore t u = false)
        have h5 : decide ((t.no : Int) < (u.no : Int)) = false := by simp; omega
        clear h2
        go_enter Tryd.func83, Tryd.ntmps83
        go_wp2
        go_ret
        exact ⟨ret_b ok.out.symm, fin _ _⟩
    · have h3 : (t.due == u.due) = false := by simpa using h2
      have ok := Lib.hid (fore_no.2 (by omega) : fore t u = false)
      go_enter Tryd.func83, Tryd.ntmps83
      go_wp2
      go_ret
      exact ⟨ret_b ok.out.symm, fin _ _⟩
set_option maxRecDepth 100000 in
set_option maxHeartbeats 2000000 in
theorem swap_any (base p g cap : Nat) (most no : Int) (L : List (Th Arr)) (i j : Nat) (a b : Th Arr) (w : World)
    (hp : Blk w p 129 #[.slice (some ⟨g, 0, none⟩) L.length cap, .int .i64 most, .int .u64 no])
    (hown : w.ownsRow base 137 6 (.slice (some ⟨g, 0, none⟩) L.length cap) L.length (flat encA L))
    (hi : L[i]? = some a) (hj : L[j]? = some b) :
    Calls Tryd.prog 76 #[.pointer (some ⟨p, 0, none⟩), .int .i64 i, .int .i64 j] w fun e w' => (∃ v, e = .returned v) ∧
      w'.ownsRow base 137 6 (.slice (some ⟨g, 0, none⟩) L.length cap) L.length (flat encA (swp L i j)) ∧ w.grownBy w' (some g) ∧ w'.heap.size = w.heap.size := by
  have hli := lt_of_get hi
  have hlj := lt_of_get hj
  have c0 : w.cell? ⟨p, 0, none⟩ = some (.slice (some ⟨g, 0, none⟩) L.length cap) := hp.cell 0
  have cell : ∀ (i k : Nat) (a : Th Arr), L[i]? = some a → k < 6 → w.cell? ⟨g, i * 6 + k, none⟩ = (cel encA a)[k]? := fun i k a h hk => by
    rw [hown.cellAt _ (by have := lt_of_get h; omega)]
    exact flat_at (m := 4) (fun _ => rfl) h (by omega)
  have i0 : w.cell? ⟨g, i * 6, none⟩ = some (.int .i64 a.due) := cell i 0 a hi (by omega)
  have i1 : w.cell? ⟨g, i * 6 + 1, none⟩ = some (.int .u64 a.no) := cell i 1 a hi (by omega)
  have i2 : w.cell? ⟨g, i * 6 + 2, none⟩ = some (.int .i64 a.x.node) := cell i 2 a hi (by omega)
  have i3 : w.cell? ⟨g, i * 6 + 3, none⟩ = some (.int .i64 a.x.time) := cell i 3 a hi (by omega)
  have i4 : w.cell? ⟨g, i * 6 + 4, none⟩ = some (.int .i64 a.x.hops) := cell i 4 a hi (by omega)
  have i5 : w.cell? ⟨g, i * 6 + 5, none⟩ = some (.int .i64 a.x.frm) := cell i 5 a hi (by omega)
  have j0 : w.cell? ⟨g, j * 6, none⟩ = some (.int .i64 b.due) := cell j 0 b hj (by omega)
  have j1 : w.cell? ⟨g, j * 6 + 1, none⟩ = some (.int .u64 b.no) := cell j 1 b hj (by omega)
  have j2 : w.cell? ⟨g, j * 6 + 2, none⟩ = some (.int .i64 b.x.node) := cell j 2 b hj (by omega)
  have j3 : w.cell? ⟨g, j * 6 + 3, none⟩ = some (.int .i64 b.x.time) := cell j 3 b hj (by omega)
  have j4 : w.cell? ⟨g, j * 6 + 4, none⟩ = some (.int .i64 b.x.hops) := cell j 4 b hj (by omega)
  have j5 : w.cell? ⟨g, j * 6 + 5, none⟩ = some (.int .i64 b.x.frm) := cell j 5 b hj (by omega)
  have fz : ∀ k, w.frozen? ⟨g, k, none⟩ = false := fun k => hown.frozenAt k
  clear cell
  have bi : (0 : Int) ≤ (i : Int) := by omega
  have bj : (0 : Int) ≤ (j : Int) := by omega
  have bi' : (i : Int) < (L.length : Int) := by omega
  have bj' : (j : Int) < (L.length : Int) := by omega
  have Hown := Lib.hid hown
  have Hi := Lib.hid hi
  have Hj := Lib.hid hj
  clear hown hi hj hp
  go_enter Tryd.func76, Tryd.ntmps76
  go_wp2_with fail
  have fin : ∀ (e : Ending) (w' : World), (e = .returned (.tuple #[]) ∧ w' = ((((((((((((w.setCell ⟨g, i * 6, none⟩ (.int .i64 b.due)).setCell ⟨g, i * 6 + 1, none⟩ (.int .u64 b.no)).setCell ⟨g, i * 6 + 2, none⟩ (.int .i64 b.x.node)).setCell ⟨g, i * 6 + 3, none⟩ (.int .i64 b.x.time)).setCell ⟨g, i * 6 + 4, none⟩ (.int .i64 b.x.hops)).setCell ⟨g, i * 6 + 5, none⟩ (.int .i64 b.x.frm)).setCell ⟨g, j * 6, none⟩ (.int .i64 a.due)).setCell ⟨g, j * 6 + 1, none⟩ (.int .u64 a.no)).setCell ⟨g, j * 6 + 2, none⟩ (.int .i64 a.x.node)).setCell ⟨g, j * 6 + 3, none⟩ (.int .i64 a.x.time)).setCell ⟨g, j * 6 + 4, none⟩ (.int .i64 a.x.hops)).setCell ⟨g, j * 6 + 5, none⟩ (.int .i64 a.x.frm)).drew) →
      (∃ v, e = .returned v) ∧ w'.ownsRow base 137 6 (.slice (some ⟨g, 0, none⟩) L.length cap) L.length (flat encA (swp L i j)) ∧ w.grownBy w' (some g) ∧ w'.heap.size = w.heap.size := by
    rintro e w' ⟨rfl, rfl⟩
    obtain ⟨o1, g1⟩ := stored6 Hown.out (i * 6) (.int .i64 b.due) (.int .u64 b.no) (.int .i64 b.x.node) (.int .i64 b.x.time) (.int .i64 b.x.hops) (.int .i64 b.x.frm)
    obtain ⟨o2, g2⟩ := stored6 o1 (j * 6) (.int .i64 a.due) (.int .u64 a.no) (.int .i64 a.x.node) (.int .i64 a.x.time) (.int .i64 a.x.hops) (.int .i64 a.x.frm)
    have e1 : puts (flat encA L) (i * 6) [.int .i64 b.due, .int .u64 b.no, .int .i64 b.x.node, .int .i64 b.x.time, .int .i64 b.x.hops, .int .i64 b.x.frm] = flat encA (L.set i b) := flat_put (m := 4) (enc := encA) (fun _ => rfl) hli b
    have e2 : puts (flat encA (L.set i b)) (j * 6) [.int .i64 a.due, .int .u64 a.no, .int .i64 a.x.node, .int .i64 a.x.time, .int .i64 a.x.hops, .int .i64 a.x.frm] = flat encA ((L.set i b).set j a) := flat_put (m := 4) (enc := encA) (fun _ => rfl) (by simpa using hlj) a
    rw [e1, e2] at o2
    rw [swp_eq Hi.out Hj.out]
    have g3 := g1.trans g2
    exact ⟨⟨_, rfl⟩, own_drew o2, gr_drew g3, by simp only [size_drew, size_setCell]⟩
  replace fin := Lib.hid fin
  by_cases hij : i = j
  · subst hij
    have eab : a = b := Option.some.inj (Hi.out.symm.trans Hj.out)
    subst eab
    go_region
    all_goals (go_end0; exact fin.out _ _ ⟨rfl, rfl⟩)
  · go_region
    all_goals (go_end0; exact fin.out _ _ ⟨rfl, rfl⟩)
set_option maxRecDepth 100000 in
set_option maxHeartbeats 4000000 in
theorem rise_any (base p g cap : Nat) (most no : Int) (L : List (Th Arr)) (i : Nat) (w : World)
    (hp : Blk w p 129 #[.slice (some ⟨g, 0, none⟩) L.length cap, .int .i64 most, .int .u64 no])
    (hown : w.ownsRow base 137 6 (.slice (some ⟨g, 0, none⟩) L.length cap) L.length (flat encA L))
    (hU : Up L i) (hi : i < L.length) (hlen : L.length ≤ 100000) :
    Calls Tryd.prog 82 #[.pointer (some ⟨p, 0, none⟩), .int .i64 i] w fun e w' => (∃ v, e = .returned v) ∧
      ∃ M : List (Th Arr), M.length = L.length ∧ M.Perm L ∧ Heap M ∧ w'.ownsRow base 137 6 (.slice (some ⟨g, 0, none⟩) L.length cap) L.length (flat encA M) ∧ Off (fun k => k = g) w w' := by
  have hpg := own_ne hown hp (by decide)
  have Hp := Lib.hid hp
  have Hown := Lib.hid hown
  clear hp hown
  go_enter Tryd.func82, Tryd.ntmps82
  go_wp2
  go_loopw [1] (fun si wr => ∃ (k : Nat) (M : List (Th Arr)), si = .int .i64 k ∧ k < L.length ∧ M.length = L.length ∧ M.Perm L ∧ Up M k ∧ wr.ownsRow base 137 6 (.slice (some ⟨g, 0, none⟩) L.length cap) L.length (flat encA M) ∧ Off (fun k => k = g) w wr)
    (fun si _ => (intOf si).toNat)
  case atStart => exact ⟨i, L, rfl, hi, rfl, List.Perm.refl _, hU, Hown.out, Off.refl _ _⟩
  case round =>
    obtain ⟨k, M, rfl, hk, hM, hperm, hUp, hown, hoff⟩ := hrel
    have hp := Hp.out.off hoff hpg
    have c0 : wr.cell? ⟨p, 0, none⟩ = some (.slice (some ⟨g, 0, none⟩) L.length cap) := hp.cell 0
    rcases Nat.eq_zero_or_pos k with hk0 | hk0
    · subst hk0
      have Hfin := Lib.hid (show ∃ M : List (Th Arr), M.length = L.length ∧ M.Perm L ∧ Heap M ∧ wr.ownsRow base 137 6 (.slice (some ⟨g, 0, none⟩) L.length cap) L.length (flat encA M) ∧ Off (fun k => k = g) w wr from ⟨M, hM, hperm, hUp.heap0, hown, hoff⟩)
      clear hM hperm hUp hown hoff
      go_wp2
      go_end0
      exact ⟨⟨_, rfl⟩, Hfin.out⟩
    · obtain ⟨u, hu⟩ : ∃ u, (k - 1) / 2 = u := ⟨_, rfl⟩
      have hu1 : 2 * u + 1 ≤ k := by omega
      have hu2 : k ≤ 2 * u + 2 := by omega
      have ha := List.getElem?_eq_getElem (show k < M.length by omega)
      have hb := List.getElem?_eq_getElem (show u < M.length by omega)
      obtain ⟨a, hae⟩ : ∃ a, M[k] = a := ⟨_, rfl⟩
      obtain ⟨b, hbe⟩ : ∃ b, M[u] = b := ⟨_, rfl⟩
      rw [hae] at ha
      rw [hbe] at hb
      clear hae hbe
      replace hu := Lib.hid hu
      have hown' : wr.ownsRow base 137 6 (.slice (some ⟨g, 0, none⟩) M.length cap) M.length (flat encA M) := by rw [hM]; exact hown
      have cell : ∀ (i k : Nat) (a : Th Arr), M[i]? = some a → k < 6 → wr.cell? ⟨g, i * 6 + k, none⟩ = (cel encA a)[k]? := fun i k a h hk => by
        rw [hown'.cellAt _ (by have := lt_of_get h; omega)]
        exact flat_at (m := 4) (fun _ => rfl) h (by omega)
      have i0 : wr.cell? ⟨g, k * 6, none⟩ = some (.int .i64 a.due) := cell k 0 a ha (by omega)
      have i1 : wr.cell? ⟨g, k * 6 + 1, none⟩ = some (.int .u64 a.no) := cell k 1 a ha (by omega)
      have i2 : wr.cell? ⟨g, k * 6 + 2, none⟩ = some (.int .i64 a.x.node) := cell k 2 a ha (by omega)
      have i3 : wr.cell? ⟨g, k * 6 + 3, none⟩ = some (.int .i64 a.x.time) := cell k 3 a ha (by omega)
      have i4 : wr.cell? ⟨g, k * 6 + 4, none⟩ = some (.int .i64 a.x.hops) := cell k 4 a ha (by omega)
      have i5 : wr.cell? ⟨g, k * 6 + 5, none⟩ = some (.int .i64 a.x.frm) := cell k 5 a ha (by omega)
      have j0 : wr.cell? ⟨g, u * 6, none⟩ = some (.int .i64 b.due) := cell _ 0 b hb (by omega)
      have j1 : wr.cell? ⟨g, u * 6 + 1, none⟩ = some (.int .u64 b.no) := cell _ 1 b hb (by omega)
      have j2 : wr.cell? ⟨g, u * 6 + 2, none⟩ = some (.int .i64 b.x.node) := cell _ 2 b hb (by omega)
      have j3 : wr.cell? ⟨g, u * 6 + 3, none⟩ = some (.int .i64 b.x.time) := cell _ 3 b hb (by omega)
      have j4 : wr.cell? ⟨g, u * 6 + 4, none⟩ = some (.int .i64 b.x.hops) := cell _ 4 b hb (by omega)
      have j5 : wr.cell? ⟨g, u * 6 + 5, none⟩ = some (.int .i64 b.x.frm) := cell _ 5 b hb (by omega)
      have eU := Lib.hid (show ((k : Int) - 1) / 2 = (u : Int) by omega)
      have b1 : (0 : Int) ≤ (k : Int) := by omega
      have b2 : (k : Int) < (L.length : Int) := by omega
      have b3 : (0 : Int) ≤ (u : Int) := by omega
      have b4 : (u : Int) < (L.length : Int) := by omega
      have Ha := Lib.hid ha
      have Hb := Lib.hid hb
      have HM := Lib.hid hM
      have Hown' := Lib.hid hown'
      have Hofw := Lib.hid hoff
      have HU := Lib.hid hUp
      have Hperm := Lib.hid hperm
      have Hpr := Lib.hid hp
      clear cell ha hb hM hown' hown hoff hUp hperm hp
      go_wp2_with fail
      rw [eU.out]
      refine QT.region_tail 14 (by kernel_rfl) (by kernel_rfl) ?_
      simp only [List.take_succ_cons, List.take_zero, List.drop_succ_cons, List.drop_zero]
      repeat (quiet_step (fail))
      refine wpQuiet_nil ?_
      rintro _ ⟨nq, rfl⟩
      go_wp2_with fail
      refine (ahead_any _ _ _).mono ?_
      rintro e w1 ⟨rfl, o1⟩
      have o1' : Off (fun k => k = g) wr w1 := (Off.drewN (Off.refl _ _) nq).trans o1.none
      have p1 := Hpr.out.off o1' hpg
      have own1 : w1.ownsRow base 137 6 (.slice (some ⟨g, 0, none⟩) M.length cap) M.length (flat encA M) := own_off (own_off Hown'.out (Off.drewN (Off.refl (fun _ => False) _) nq) (fun _ _ => id)) o1 (fun _ _ => id)
      by_cases hf : fore a b = true
      · rw [hf]
        have Hf := Lib.hid hf
        clear hf i0 i1 i2 i3 i4 i5 j0 j1 j2 j3 j4 j5 c0
        have P1 := Lib.hid p1
        have O1 := Lib.hid own1
        have O1' := Lib.hid o1'
        clear p1 own1 o1 o1'
        go_wp2_with fail
        refine (swap_any base p g cap most no M k (u) a b w1 (by rw [HM.out]; exact P1.out) O1.out Ha.out Hb.out).mono ?_
        rintro e w2 ⟨⟨v, rfl⟩, own2, g2, z2⟩
        rw [HM.out] at own2
        have Own2 := Lib.hid own2
        have O2 := Lib.hid ((Hofw.out.trans O1'.out).trans (off_grown g2))
        have U2 := Lib.hid (show Up (swp M k u) u by have := HU.out.step hk0 Ha.out (by rw [hu.out]; exact Hb.out) Hf.out; rwa [hu.out] at this)
        have hl2 : u < L.length := by omega
        have ml := Lib.hid ((swp_length M k (u)).trans HM.out)
        have mp := Lib.hid ((swp_perm M k (u)).trans Hperm.out)
        clear own2 g2 z2
        go_wp2_with fail
        go_roundw
        case rel => exact ⟨u, swp M k (u), rfl, hl2, ml.out, mp.out, U2.out, Own2.out, O2.out⟩
        case measure => simp [intOf]; omega
      · have hf : fore a b = false := by simpa using hf
        rw [hf]
        have Hfin := Lib.hid (show ∃ M : List (Th Arr), M.length = L.length ∧ M.Perm L ∧ Heap M ∧ w1.ownsRow base 137 6 (.slice (some ⟨g, 0, none⟩) L.length cap) L.length (flat encA M) ∧ Off (fun k => k = g) w w1 from ⟨M, HM.out, Hperm.out, HU.out.heap Ha.out (by rw [hu.out]; exact Hb.out) hf, by rw [← HM.out]; exact own1, Hofw.out.trans o1'⟩)
        clear hf i0 i1 i2 i3 i4 i5 j0 j1 j2 j3 j4 j5 c0 own1 p1 o1 o1'
        go_wp2_with fail
        refine bodyPost_ret (results_none rfl _ _ _) rfl ?_
        exact ⟨⟨_, rfl⟩, Hfin.out⟩
end F

end Go.Proofs.YtmbblhajbecomaaDoor.Agenda
namespace Go.Proofs.YtmbblhajbecomaaDoor.Agenda
open Go.RowKit (wrap64 Below intOf)
open Go.Proofs.YtmbblhajbecomaaDoor.Heap Go.Proofs.YtmbblhajbecomaaDoor.RF

namespace F
set_option maxRecDepth 100000 in
set_option maxHeartbeats 8000000 in
theorem sink_any (base p g cap : Nat) (most no : Int) (L : List (Th Arr)) (i : Nat) (w : World)
    (hp : Blk w p 129 #[.slice (some ⟨g, 0, none⟩) L.length cap, .int .i64 most, .int .u64 no])
    (hown : w.ownsRow base 137 6 (.slice (some ⟨g, 0, none⟩) L.length cap) L.length (flat encA L))
    (hD : Down L i) (hi : i < L.length) (hlen : L.length ≤ 100000) :
    Calls Tryd.prog 77 #[.pointer (some ⟨p, 0, none⟩), .int .i64 i] w fun e w' => (∃ v, e = .returned v) ∧
      ∃ M : List (Th Arr), M.length = L.length ∧ M.Perm L ∧ Heap M ∧ w'.ownsRow base 137 6 (.slice (some ⟨g, 0, none⟩) L.length cap) L.length (flat encA M) ∧ Off (fun k => k = g) w w' := by
  have hpg := own_ne hown hp (by decide)
  have Hp := Lib.hid hp
  have Hown := Lib.hid hown
  clear hp hown
  go_enter Tryd.func77, Tryd.ntmps77
  go_wp2
  go_loopw [1] (fun si wr => ∃ (k : Nat) (M : List (Th Arr)), si = .int .i64 k ∧ k < L.length ∧ M.length = L.length ∧ M.Perm L ∧ Down M k ∧ wr.ownsRow base 137 6 (.slice (some ⟨g, 0, none⟩) L.length cap) L.length (flat encA M) ∧ Off (fun k => k = g) w wr)
    (fun si _ => L.length - (intOf si).toNat)
  case atStart => exact ⟨i, L, rfl, hi, rfl, List.Perm.refl _, hD, Hown.out, Off.refl _ _⟩
  case round =>
    obtain ⟨k, M, rfl, hk, hM, hperm, hDn, hown, hoff⟩ := hrel
    have hp := Hp.out.off hoff hpg
    have HM := Lib.hid hM
    have hown' : wr.ownsRow base 137 6 (.slice (some ⟨g, 0, none⟩) M.length cap) M.length (flat encA M) := by rw [hM]; exact hown
    have Hown' := Lib.hid hown'
    have Hofw := Lib.hid hoff
    have HD := Lib.hid hDn
    have Hperm := Lib.hid hperm
    have Hpr := Lib.hid hp
    have hB0 := Lib.hid (Best.start (M := M) (i := k) (by omega))
    obtain ⟨d1, ed1⟩ : ∃ d : Nat, d = 2 * k + 1 := ⟨_, rfl⟩
    obtain ⟨d2, ed2⟩ : ∃ d : Nat, d = 2 * k + 2 := ⟨_, rfl⟩
    have E1 := Lib.hid (show 2 * (k : Int) + 1 = (d1 : Int) by omega)
    have E2 := Lib.hid (show 2 * (k : Int) + 2 = (d2 : Int) by omega)
    have Ed1 := Lib.hid ed1
    have Ed2 := Lib.hid ed2
    have Hk := Lib.hid hk
    clear hM hown hown' hoff hDn hperm hp ed1 ed2
    obtain ⟨wo, rfl⟩ : ∃ wo : World, wo = wr := ⟨_, rfl⟩
    go_wp2_with fail
    rw [E1.out, E2.out]
    go_loopw [15, 4] (fun sj sl wq => ∃ (j c : Nat), sj = .int .i64 j ∧ sl = .int .i64 c ∧ j ≤ 2 ∧ Best M k j c ∧ Off (fun _ => False) wo wq)
      (fun sj _ _ => 2 - (intOf sj).toNat)
    case atStart => exact ⟨0, k, rfl, rfl, by omega, hB0.out, Off.refl _ _⟩
    case round =>
      obtain ⟨j, c, rfl, rfl, hj, hBest, hoq⟩ := hrel
      have HB := Lib.hid hBest
      have hc := hBest.inr
      rw [HM.out] at hc
      have P1 := Hpr.out.off hoq id
      have c0 : wr.cell? ⟨p, 0, none⟩ = some (.slice (some ⟨g, 0, none⟩) L.length cap) := P1.cell 0
      have own1 : wr.ownsRow base 137 6 (.slice (some ⟨g, 0, none⟩) M.length cap) M.length (flat encA M) := own_off Hown'.out hoq (fun _ _ => id)
      have Own1 := Lib.hid own1
      have PP1 := Lib.hid P1
      have Hoq := Lib.hid hoq
      clear hBest P1 hoq
      by_cases hj2 : j < 2
      · obtain ⟨d, hd, hdd⟩ : ∃ d : Nat, d = 2 * k + 1 + j ∧ ((j = 0 ∧ d = d1) ∨ (j = 1 ∧ d = d2)) := ⟨_, rfl, by have := Ed1.out; have := Ed2.out; omega⟩
        have Hd := Lib.hid hd
        clear hd
        have ix : ∀ w : World, Sem.run Tryd.prog (Instr.index 55 (Value.agg #[.int .i64 (d1 : Int), .int .i64 (d2 : Int)]) (.int .i64 (j : Int))) w = .ok (.int .i64 (d : Int)) w := by
          rcases hdd with ⟨h1, h2⟩ | ⟨h1, h2⟩
          · subst h1; subst h2; exact fun _ => rfl
          · subst h1; subst h2; exact fun _ => rfl
        clear hdd
        by_cases hdl : d < L.length
        · have g1 : decide ((d : Int) < (L.length : Int)) = true := by simpa using hdl
          have ha := List.getElem?_eq_getElem (show d < M.length by rw [HM.out]; exact hdl)
          have hb := List.getElem?_eq_getElem (show c < M.length by rw [HM.out]; exact hc)
          obtain ⟨a, hae⟩ : ∃ a, M[d]'(by rw [HM.out]; exact hdl) = a := ⟨_, rfl⟩
          obtain ⟨b, hbe⟩ : ∃ b, M[c]'(by rw [HM.out]; exact hc) = b := ⟨_, rfl⟩
          rw [hae] at ha
          rw [hbe] at hb
          clear hae hbe
          have cell : ∀ (i k : Nat) (a : Th Arr), M[i]? = some a → k < 6 → wr.cell? ⟨g, i * 6 + k, none⟩ = (cel encA a)[k]? := fun i k a h hk => by
            rw [own1.cellAt _ (by have := lt_of_get h; omega)]
            exact flat_at (m := 4) (fun _ => rfl) h (by omega)
          have i0 : wr.cell? ⟨g, d * 6, none⟩ = some (.int .i64 a.due) := cell d 0 a ha (by omega)
          have i1 : wr.cell? ⟨g, d * 6 + 1, none⟩ = some (.int .u64 a.no) := cell d 1 a ha (by omega)
          have i2 : wr.cell? ⟨g, d * 6 + 2, none⟩ = some (.int .i64 a.x.node) := cell d 2 a ha (by omega)
          have i3 : wr.cell? ⟨g, d * 6 + 3, none⟩ = some (.int .i64 a.x.time) := cell d 3 a ha (by omega)
          have i4 : wr.cell? ⟨g, d * 6 + 4, none⟩ = some (.int .i64 a.x.hops) := cell d 4 a ha (by omega)
          have i5 : wr.cell? ⟨g, d * 6 + 5, none⟩ = some (.int .i64 a.x.frm) := cell d 5 a ha (by omega)
          have j0 : wr.cell? ⟨g, c * 6, none⟩ = some (.int .i64 b.due) := cell _ 0 b hb (by omega)
          have j1 : wr.cell? ⟨g, c * 6 + 1, none⟩ = some (.int .u64 b.no) := cell _ 1 b hb (by omega)
          have j2 : wr.cell? ⟨g, c * 6 + 2, none⟩ = some (.int .i64 b.x.node) := cell _ 2 b hb (by omega)
          have j3 : wr.cell? ⟨g, c * 6 + 3, none⟩ = some (.int .i64 b.x.time) := cell _ 3 b hb (by omega)
          have j4 : wr.cell? ⟨g, c * 6 + 4, none⟩ = some (.int .i64 b.x.hops) := cell _ 4 b hb (by omega)
          have j5 : wr.cell? ⟨g, c * 6 + 5, none⟩ = some (.int .i64 b.x.frm) := cell _ 5 b hb (by omega)
          have Ha := Lib.hid ha
          have Hb := Lib.hid hb
          have b1 : (0 : Int) ≤ (d : Int) := by omega
          have b2 : (d : Int) < (L.length : Int) := by omega
          have b3 : (0 : Int) ≤ (c : Int) := by omega
          have b4 : (c : Int) < (L.length : Int) := by omega
          clear cell ha hb own1
          go_wp2_with fail
          refine QT.region_tail 22 (by kernel_rfl) (by kernel_rfl) ?_
          simp only [List.take_succ_cons, List.take_zero, List.drop_succ_cons, List.drop_zero]
          repeat (any_goals (first | go_big_quiet_step (fail) | quiet_step (fail)))
          refine wpQuiet_nil ?_
          rintro _ ⟨nq, rfl⟩
          go_wp2_with fail
          refine (ahead_any _ _ _).mono ?_
          rintro e w1 ⟨rfl, o1⟩
          have O1 := Lib.hid (Hoq.out.trans ((Off.drewN (Off.refl _ _) nq).trans o1))
          clear o1 i0 i1 i2 i3 i4 i5 j0 j1 j2 j3 j4 j5 c0
          by_cases hf : fore a b = true
          · have nb := Lib.hid (HB.out.take (by rw [← Hd.out]; exact Ha.out) Hb.out hf)
            rw [hf]
            clear hf
            go_wp2_with fail
            go_roundw
            case rel => exact ⟨j + 1, d, by go_num, rfl, by omega, by have := nb.out; rw [← Hd.out] at this; exact this, O1.out⟩
            case measure => simp [intOf]; omega
          · have hf : fore a b = false := by simpa using hf
            have nb := Lib.hid (HB.out.keep (by rw [← Hd.out]; exact Ha.out) Hb.out hf)
            rw [hf]
            clear hf
            go_wp2_with fail
            go_roundw
            case rel => exact ⟨j + 1, c, by go_num, rfl, by omega, nb.out, O1.out⟩
            case measure => simp [intOf]; omega
        · have g1 : decide ((d : Int) < (L.length : Int)) = false := by simpa using hdl
          have nb := Lib.hid (HB.out.off (by rw [HM.out, ← Hd.out]; omega))
          clear own1
          go_wp2_with fail
          go_quiet (fail)
          have O1 := Lib.hid (Hoq.out.drewN nq)
          go_wp2_with fail
          go_roundw
          case rel => exact ⟨j + 1, c, by go_num, rfl, by omega, nb.out, O1.out⟩
          case measure => simp [intOf]; omega
      · obtain rfl : j = 2 := by omega
        clear own1
        by_cases hck : c = k
        · subst hck
          have Hfin := Lib.hid (show ∃ M : List (Th Arr), M.length = L.length ∧ M.Perm L ∧ Heap M ∧ wr.ownsRow base 137 6 (.slice (some ⟨g, 0, none⟩) L.length cap) L.length (flat encA M) ∧ Off (fun k => k = g) w wr from ⟨M, HM.out, Hperm.out, HB.out.heap HD.out, by rw [← HM.out]; exact Own1.out, Hofw.out.trans Hoq.out.none⟩)
          clear c0
          go_wp2_with fail
          refine bodyPost_ret (results_none rfl _ _ _) rfl ?_
          exact ⟨⟨_, rfl⟩, Hfin.out⟩
        · have nck : ((c : Int) == (k : Int)) = false := by simp; omega
          clear c0
          have hw := HB.out.who
          have Ha := Lib.hid (List.getElem?_eq_getElem (show k < M.length by rw [HM.out]; exact Hk.out))
          have Hb := Lib.hid (List.getElem?_eq_getElem (show c < M.length by rw [HM.out]; exact hc))
          go_wp2_with fail
          refine (swap_any base p g cap most no M k c _ _ wr (by rw [HM.out]; exact PP1.out) Own1.out Ha.out Hb.out).mono ?_
          rintro e w2 ⟨⟨v, rfl⟩, own2, g2, z2⟩
          rw [HM.out] at own2
          have Own2 := Lib.hid own2
          have O2 := Lib.hid ((Hofw.out.trans Hoq.out.none).trans (off_grown g2))
          have D2 := Lib.hid (HB.out.step HD.out hck (by rw [HM.out]; exact Hk.out))
          have ml := Lib.hid ((swp_length M k c).trans HM.out)
          have mp := Lib.hid ((swp_perm M k c).trans Hperm.out)
          clear own2 g2 z2
          go_wp2_with fail
          go_roundw
          case rel => exact ⟨c, swp M k c, rfl, hc, ml.out, mp.out, D2.out, Own2.out, O2.out⟩
          case measure => simp [intOf]; omega
end F


end Go.Proofs.YtmbblhajbecomaaDoor.Agenda
namespace Go.Proofs.YtmbblhajbecomaaDoor.Agenda
open Go.RowKit (wrap64 Below intOf)
open Go.Proofs.YtmbblhajbecomaaDoor.Heap Go.Proofs.YtmbblhajbecomaaDoor.RF
set_option linter.unusedVariables false
theorem ret_i {a c : Int} (h : a = c) : Ending.returned (.int .i64 a) = .returned (.int .i64 c) := by rw [h]
theorem ret_ib {a c : Int} {p q : Bool} (h : a = c) (h' : p = q) : Ending.returned (.tuple #[.int .i64 a, .bool p]) = .returned (.tuple #[.int .i64 c, .bool q]) := by rw [h, h']

namespace F
/-- Block p is an agenda of at most 'most' things, the next one's number is 'no', which keeps S, told as they were added. -/
def Ag (base p : Nat) (most : Int) (no : Nat) (S : List (Th Arr)) (w : World) : Prop :=
  ∃ (L : List (Th Arr)) (sl : Value), Blk w p 129 #[sl, .int .i64 most, .int .u64 no] ∧ w.ownsRow base 137 6 sl L.length (flat encA L) ∧ L.Perm S ∧ Heap L ∧ base ≤ p ∧ base ≤ w.heap.size
/-- The types of an agenda's blocks. -/
abbrev ts : List TypeId := [129, 137]
theorem sl_form {base : Nat} {w : World} {sl : Value} {n : Nat} {xs : List Value} (h : w.ownsRow base 137 6 sl n xs) : ∃ A cap, sl = .slice A n cap := by
  rcases h.2 with ⟨rfl, rfl⟩ | ⟨g, cap, cur, rfl, _⟩
  · exact ⟨none, 0, rfl⟩
  · exact ⟨_, cap, rfl⟩
theorem Ag.fr {base p : Nat} {most : Int} {no : Nat} {S : List (Th Arr)} {w w' : World} {b : Nat} {us : List TypeId} (h : Ag base p most no S w) (k : Fr b us w w') (h1 : us.contains 129 = false) (h2 : us.contains 137 = false) : Ag base p most no S w' := by
  obtain ⟨L, sl, hb, ho, hp, hh, h3, h4⟩ := h
  exact ⟨L, sl, k.blk hb h1, k.own ho h2, hp, hh, h3, Nat.le_trans h4 k.size⟩
theorem Ag.off {base p : Nat} {most : Int} {no : Nat} {S : List (Th Arr)} {w w' : World} (h : Ag base p most no S w) (k : Off (fun _ => False) w w') : Ag base p most no S w' := h.fr (b := 0) (us := []) (Fr.of_none k) rfl rfl

theorem new_any (m : Int) (w : World) (hm : -9223372036854775808 ≤ m ∧ m ≤ 9223372036854775807) :
    Calls Tryd.prog 64 #[.int .i64 m] w fun e w' => e = .returned (.pointer (some ⟨w.heap.size, 0, none⟩)) ∧ Ag w.heap.size w.heap.size (min (max m 0) 65536) 0 [] w' ∧ Fr w.heap.size [] w w' := by
  have fin : ∀ k : Int, Ag w.heap.size w.heap.size k 0 [] (w.alloc (.cells #[.slice none 0 0, .int .i64 k, .int .u64 0] 129)) := fun k =>
    ⟨[], .slice none 0 0, Blk.new _ _ _, World.ownsRow_nil _ _ _ _, List.Perm.refl _, heap_nil, Nat.le_refl _, by simp⟩
  have ff : ∀ o, Fr w.heap.size [] w (w.alloc o) := fun o => (Fr.refl _ _ _).alloc o
  by_cases h0 : m < 0
  · have e : min (max m 0) 65536 = 0 := by omega
    go_enter Tryd.func64, Tryd.ntmps64
    go_wp2
    go_ret
    refine ⟨rfl, ?_, ff _⟩
    first | exact fin _ | (rw [e]; exact fin _)
  · by_cases h1 : 65536 < m
    · have e : min (max m 0) 65536 = 65536 := by omega
      go_enter Tryd.func64, Tryd.ntmps64
      go_wp2
      go_ret
      refine ⟨rfl, ?_, ff _⟩
      first | exact fin _ | (rw [e]; exact fin _)
    · have e : min (max m 0) 65536 = m := by omega
      go_enter Tryd.func64, Tryd.ntmps64
      go_wp2
      go_ret
      refine ⟨rfl, ?_, ff _⟩
      first | exact fin _ | (rw [e]; exact fin _)

set_option maxRecDepth 100000 in
theorem next_no (base p : Nat) (most : Int) (no : Nat) (w : World) (h : Ag base p most no [] w) :
    Calls Tryd.prog 66 #[.pointer (some ⟨p, 0, none⟩)] w fun e w' => e = .returned (.tuple #[.int .i64 0, .bool false]) ∧ w = w' := by
  obtain ⟨L, sl, hb, ho, hp, _⟩ := h
  obtain ⟨A, cap, rfl⟩ := sl_form ho
  obtain rfl : L = [] := List.eq_nil_of_length_eq_zero hp.length_eq
  have c0 : w.cell? ⟨p, 0, none⟩ = some (.slice A 0 cap) := hb.cell 0
  clear hb ho hp
  go_enter Tryd.func66, Tryd.ntmps66
  go_wp2
  go_ret2
  exact ⟨rfl, rfl⟩
/-- The heap's root is what comes first. -/
theorem root_at {base p : Nat} {most : Int} {no : Nat} {S : List (Th Arr)} {w : World} (h : Ag base p most no S w) (hr : Rising S) {i : Nat} {t : Th Arr} (hf : First S i t) :
    ∃ (L : List (Th Arr)) (g cap : Nat), L[0]? = some t ∧ L.Perm S ∧ Heap L ∧ Blk w p 129 #[.slice (some ⟨g, 0, none⟩) L.length cap, .int .i64 most, .int .u64 no] ∧ w.ownsRow base 137 6 (.slice (some ⟨g, 0, none⟩) L.length cap) L.length (flat encA L) ∧ base ≤ p ∧ base ≤ w.heap.size := by
  obtain ⟨L, sl, hb, ho, hp, hh, h3, h4⟩ := h
  have l0 : 0 < L.length := by rw [hp.length_eq]; exact Nat.lt_of_le_of_lt (Nat.zero_le _) (lt_of_get hf.get)
  obtain ⟨g, cap, rfl, _⟩ := ho.form l0
  have hr0 := List.getElem?_eq_getElem l0
  have := root_first hp hr hh hr0 hf
  rw [this] at hr0
  exact ⟨L, g, cap, hr0, hp, hh, hb, ho, h3, h4⟩
set_option maxRecDepth 100000 in
theorem next_yes (base p : Nat) (most : Int) (no : Nat) (S : List (Th Arr)) (w : World) (h : Ag base p most no S w) (hr : Rising S) (i : Nat) (t : Th Arr) (hf : First S i t) (hS : S.length ≤ 65536) :
    Calls Tryd.prog 66 #[.pointer (some ⟨p, 0, none⟩)] w fun e w' => e = .returned (.tuple #[.int .i64 t.due, .bool true]) ∧ w = w' := by
  obtain ⟨L, g, cap, h0, hp, _, hb, ho, _⟩ := root_at h hr hf
  have l0 := lt_of_get h0
  have hl := hp.length_eq
  have c0 : w.cell? ⟨p, 0, none⟩ = some (.slice (some ⟨g, 0, none⟩) L.length cap) := hb.cell 0
  have c1 : w.cell? ⟨g, 0, none⟩ = some (.int .i64 t.due) := by
    rw [ho.cellAt 0 (by omega)]
    exact flat_at (m := 4) (k := 0) (enc := encA) (fun _ => rfl) h0 (by omega)
  have z : ((L.length : Int) == 0) = false := beq_eq_false_iff_ne.2 (by omega)
  have z1 : (0 : Int) < (L.length : Int) := by omega
  have z2 : L.length ≤ 65536 := by omega
  clear hb ho hp h0 hl
  go_enter Tryd.func66, Tryd.ntmps66
  go_wp2
  go_ret2
  exact ⟨rfl, rfl⟩
end F


end Go.Proofs.YtmbblhajbecomaaDoor.Agenda
namespace Go.Proofs.YtmbblhajbecomaaDoor.Agenda
open Go.RowKit (wrap64 Below intOf)
open Go.Proofs.YtmbblhajbecomaaDoor.Heap Go.Proofs.YtmbblhajbecomaaDoor.RF
set_option linter.unusedVariables false
namespace F
theorem infoT : (Tryd.prog.info? 137).map (fun i => (i.zero, i.size, i.bytes)) = some (some (.agg #[.int .i64 0, .int .u64 0, .int .i64 0, .int .i64 0, .int .i64 0, .int .i64 0]), 6, 48) := by kernel_rfl
set_option maxRecDepth 100000 in
set_option maxHeartbeats 4000000 in
theorem add_any (base p : Nat) (most : Int) (no : Nat) (S : List (Th Arr)) (due : Int) (x : Arr) (w0 : World) (h0 : Ag base p most no S w0) (hm : (S.length : Int) < most) (hm2 : most ≤ 65536) (hno : no ≤ 1000000000) :
    Calls Tryd.prog 75 #[.pointer (some ⟨p, 0, none⟩), .int .i64 due, .agg #[.int .i64 x.node, .int .i64 x.time, .int .i64 x.hops, .int .i64 x.frm]] w0 fun e w' => e = .returned (.int .i64 0) ∧ Ag base p most (no + 1) (S ++ [⟨due, no, x⟩]) w' ∧ Fr base ts w0 w' := by
  obtain ⟨w, hw⟩ : ∃ w, w0.alloc (.cells #[.int .i64 x.node, .int .i64 x.time, .int .i64 x.hops, .int .i64 x.frm] 71) = w := ⟨_, rfl⟩
  have h : Ag base p most no S w := by rw [← hw]; exact h0.off ((Off.refl _ _).alloc _)
  have bX : Blk w w0.heap.size 71 #[.int .i64 x.node, .int .i64 x.time, .int .i64 x.hops, .int .i64 x.frm] := by rw [← hw]; exact Blk.new w0 _ _
  have fX : Fr base ts w0 w := by rw [← hw]; exact (Fr.refl _ _ _).alloc _
  have x0 := bX.cell 0
  have x1 := bX.cell 1
  have x2 := bX.cell 2
  have x3 := bX.cell 3
  simp at x0 x1 x2 x3
  have FX := Lib.hid fX
  have Hw := Lib.hid hw
  have zX := bX.lt
  clear hw fX bX h0
  obtain ⟨i0, hi0, hz0, hz1, hz2⟩ := info_parts infoT
  obtain ⟨L, sl, hb, ho, hp, hh, h3, h4⟩ := h
  obtain ⟨A, cap, rfl⟩ := sl_form ho
  have hplt := hb.lt
  have c0 : w.cell? ⟨p, 0, none⟩ = some (.slice A L.length cap) := hb.cell 0
  have c1 : w.cell? ⟨p, 1, none⟩ = some (.int .i64 most) := hb.cell 1
  have c2 : w.cell? ⟨p, 2, none⟩ = some (.int .u64 no) := hb.cell 2
  have f0 : w.frozen? ⟨p, 0, none⟩ = false := hb.frozen 0
  have f2 : w.frozen? ⟨p, 2, none⟩ = false := hb.frozen 2
  have hl := hp.length_eq
  have hm' : (L.length : Int) < most := by omega
  have hL : L.length ≤ 65536 := by omega
  have ag : (Value.slice A L.length cap).ownBlock ≠ some p := by
    rcases ho.2 with ⟨h', _⟩ | ⟨g', cap', cur, h', _, hg, _⟩
    · rw [h']; simp [Value.ownBlock]
    · rw [h']
      simp only [Value.ownBlock, ne_eq, Option.some.injEq]
      exact fun c => hb.ne (show Blk w g' 137 cur from hg) (by decide) c.symm
  have Hb := Lib.hid hb
  have Ho := Lib.hid ho
  have Hp := Lib.hid hp
  have Hh := Lib.hid hh
  have Hz := Lib.hid hi0
  have Hz0 := Lib.hid hz0
  have Hz1 := Lib.hid hz1
  have Hz2 := Lib.hid hz2
  clear hb ho hp hh hl hi0 hz0 hz1 hz2
  go_enter Tryd.func75, Tryd.ntmps75
  go_upto_region 1 with (fail)
  rw [Hw.out]
  clear Hw
  go_wp2_with fail
  go_quiet (fail)
  go_wp2_with fail
  obtain ⟨W, hW⟩ : ∃ W, w.drewN nq = W := ⟨_, rfl⟩
  have d0 : W.cell? ⟨p, 0, none⟩ = some (.slice A L.length cap) := by rw [← hW]; exact c0
  have d2 : W.cell? ⟨p, 2, none⟩ = some (.int .u64 no) := by rw [← hW]; exact c2
  have y0 : W.cell? ⟨w0.heap.size, 0, none⟩ = some (.int .i64 x.node) := by rw [← hW]; exact x0
  have y1 : W.cell? ⟨w0.heap.size, 1, none⟩ = some (.int .i64 x.time) := by rw [← hW]; exact x1
  have y2 : W.cell? ⟨w0.heap.size, 2, none⟩ = some (.int .i64 x.hops) := by rw [← hW]; exact x2
  have y3 : W.cell? ⟨w0.heap.size, 3, none⟩ = some (.int .i64 x.frm) := by rw [← hW]; exact x3
  have hzX : w0.heap.size < W.heap.size := by rw [← hW]; exact zX
  have e0 : W.frozen? ⟨p, 0, none⟩ = false := by rw [← hW]; exact f0
  have e2 : W.frozen? ⟨p, 2, none⟩ = false := by rw [← hW]; exact f2
  have hzW : p < W.heap.size := by rw [← hW]; exact hplt
  have hbW : base ≤ W.heap.size := by rw [← hW]; exact h4
  have HoW : RowKit.Hid (W.ownsRow base 137 6 (.slice A L.length cap) L.length (flat encA L)) := by rw [← hW]; exact Ho
  have HbW : RowKit.Hid (Blk W p 129 #[.slice A L.length cap, .int .i64 most, .int .u64 no]) := by rw [← hW]; exact Hb
  have HFr : RowKit.Hid (Fr base ts w W) := by rw [← hW]; exact (Fr.refl _ _ _).drewN _
  rw [hW]
  clear hW c0 c1 c2 f0 f2 hplt x0 x1 x2 x3 zX
  go_region_law ((refine step_append_lies _ (by rfl) _ _ _ (by rfl) base 137 i0 _ 6 48 Tryd.underlying127 Hz.out Hz0.out Hz1.out Hz2.out rfl (by omega) (.slice A L.length cap) L.length (flat encA L) (by rfl) ((HoW.out.alloc _).drew) ⟨W.heap.size, 0, none⟩ 1 1 [.int .i64 due, .int .u64 no, .int .i64 x.node, .int .i64 x.time, .int .i64 x.hops, .int .i64 x.frm] (by rfl) (by rfl) (World.news_of_block (cs := #[.int .i64 due, .int .u64 no, .int .i64 x.node, .int .i64 x.time, .int .i64 x.hops, .int .i64 x.frm]) (t := 137) (fr := (0, 0)) (heap_alloc_new W _)) (by simp [Value.oneCell']) (by omega) (by unfold maxLen; omega) (by omega) (by simp; omega) (W.heap.size + 1) (by simp) ?_; intro gg cap' w1 hown1 hgrow hat hlt; have B1 := (HbW.out.alloc _).grown (w := (W.alloc _).drew) hgrow (Ne.symm ag); have k0 := B1.cell 0; have k1 := B1.cell 1; have k2 := B1.cell 2; have z0 := B1.frozen 0; have z2 := B1.frozen 2; simp at k0 k1 k2; replace B1 := Lib.hid B1; replace hown1 := Lib.hid hown1; replace hgrow := Lib.hid hgrow; replace hat := Lib.hid hat))
  all_goals
    have hgp : p ≠ gg := by
      rcases hat.out with c | c
      · rintro rfl; exact ag c
      · omega
    go_wp2_with fail
    obtain ⟨X, hX⟩ : ∃ X, (w1.setCell ⟨p, 0, none⟩ (.slice (some ⟨gg, 0, none⟩) (L.length + 1) cap')).setCell ⟨p, 2, none⟩ (.int .u64 ((no : Int) + 1)) = X := ⟨_, rfl⟩
    have B2 : Blk X p 129 #[.slice (some ⟨gg, 0, none⟩) (L.length + 1) cap', .int .i64 most, .int .u64 ((no : Int) + 1)] := by rw [← hX]; exact (B1.out.put 0 _).put 2 _
    have oX : Off (fun k => k = p) w1 X := by rw [← hX]; exact ((Off.refl (fun k => k = p) w1).setCell (p := ⟨p, 0, none⟩) (.inl rfl) _).setCell (p := ⟨p, 2, none⟩) (.inl rfl) _
    have own2 := own_off hown1.out oX (fun g hg => by simp only [Value.ownBlock, Option.some.injEq] at hg; subst hg; exact fun c => hgp c.symm)
    rw [show flat encA L ++ [.int .i64 due, .int .u64 no, .int .i64 x.node, .int .i64 x.time, .int .i64 x.hops, .int .i64 x.frm] = flat encA (L ++ [⟨due, no, x⟩]) from (flat_snoc L ⟨due, no, x⟩).symm] at own2
    have F2 : Fr base ts w X := by
      refine ((HFr.out.trans ?_).trans (Fr.grown_own hgrow.out (own_drew (HoW.out.alloc _)) rfl)).trans (Fr.of_off oX fun k _ hk => ?_)
      · exact ((Fr.refl _ _ _).alloc _).drew
      · subst hk; exact ⟨h3, _, B1.out, rfl⟩
    have el : (L ++ [(⟨due, no, x⟩ : Th Arr)]).length = L.length + 1 := by simp
    rw [← el] at B2 own2
    first | rw [hX] | skip
    have BB2 := Lib.hid B2
    have Own2 := Lib.hid own2
    have FF2 := Lib.hid F2
    have El := Lib.hid el
    clear hX B2 own2 F2 oX k0 k1 k2 z0 z2 d0 d2 e0 e2 el
    refine (rise_any base p gg cap' most ((no : Int) + 1) (L ++ [⟨due, no, x⟩]) L.length X BB2.out Own2.out (Hh.out.add _) (by rw [El.out]; omega) (by rw [El.out]; omega)).mono ?_
    rintro e w3 ⟨⟨v, rfl⟩, M, ml, mp, mh, own3, o3⟩
    have B3 := BB2.out.off o3 hgp
    rw [← ml] at B3 own3
    have hfin := Lib.hid (show Ag base p most (no + 1) (S ++ [⟨due, no, x⟩]) w3 ∧ Fr base ts w w3 from
      ⟨⟨M, _, B3, own3, mp.trans (Hp.out.append_right _), mh, h3, by have := FF2.out.size; have := HFr.out.size; have := o3.size; omega⟩, FF2.out.trans (Fr.off_own o3 Own2.out rfl)⟩)
    clear ml mp mh own3 o3 B3
    go_wp2_with fail
    go_ret
    exact ⟨rfl, hfin.out.1, FX.out.trans hfin.out.2⟩
end F

end Go.Proofs.YtmbblhajbecomaaDoor.Agenda
namespace Go.Proofs.YtmbblhajbecomaaDoor.Agenda
open Go.RowKit (wrap64 Below intOf)
open Go.Proofs.YtmbblhajbecomaaDoor.Heap Go.Proofs.YtmbblhajbecomaaDoor.RF
set_option linter.unusedVariables false

namespace F
/-- Results: a struct's cell and a flag. -/
theorem results_cell_tmp {P : Program} {fn : Func} {a s : Tmp} {t : TypeId} {tmps : Array Value} {w : World} {b : Nat} {cs : List Value} {d : TypeDesc} (h : fn.results = #[.cell a t, .tmp s]) (ha : tmps.getD a undef = .pointer (some ⟨b, 0, none⟩))
    (hu : P.underlying t = some d) (hd : d.isRow = true) (hi : (P.info? t).map (·.size) = some cs.length) (hc : w.rangeAt b 0 cs) :
    (results fn tmps).run P w = .ok (.tuple #[.agg cs.toArray, tmps.getD s undef]) w := by
  have hl := run_loadVar_mid (P := P) w b 0 t cs d hc hu hd hi
  have hp : (asAddr (.pointer (some ⟨b, 0, none⟩) : Value)).run P w = .ok ⟨b, 0, none⟩ w := by simp [asAddr]
  rw [Array.getD_eq_getD_getElem?] at ha
  simp [results, h, ha, Sem.run_bind, hl, hp]
theorem range4 {w : World} {b : Nat} {c0 c1 c2 c3 : Value} (h0 : w.cell? ⟨b, 0, none⟩ = some c0) (h1 : w.cell? ⟨b, 1, none⟩ = some c1) (h2 : w.cell? ⟨b, 2, none⟩ = some c2) (h3 : w.cell? ⟨b, 3, none⟩ = some c3) :
    w.rangeAt b 0 [c0, c1, c2, c3] := by
  intro j v hj
  rcases j with _ | _ | _ | _ | j <;> simp at hj <;> subst hj <;> simpa
set_option maxRecDepth 100000 in
set_option maxHeartbeats 4000000 in
theorem sink_nil (p cap : Nat) (A : Option Addr) (most no : Int) (w : World) (hp : Blk w p 129 #[.slice A 0 cap, .int .i64 most, .int .u64 no]) :
    Calls Tryd.prog 77 #[.pointer (some ⟨p, 0, none⟩), .int .i64 0] w fun e w' => (∃ v, e = .returned v) ∧ Off (fun _ => False) w w' := by
  have Hp := Lib.hid hp
  clear hp
  go_enter Tryd.func77, Tryd.ntmps77
  go_wp2
  go_loopw [1] (fun si wr => si = .int .i64 0 ∧ Off (fun _ => False) w wr) (fun _ _ => 0)
  case atStart => exact ⟨rfl, Off.refl _ _⟩
  case round =>
    obtain ⟨rfl, ho⟩ := hrel
    have Ho := Lib.hid ho
    clear ho
    obtain ⟨wo, rfl⟩ : ∃ wo : World, wo = wr := ⟨_, rfl⟩
    go_wp2_with fail
    go_loopw [15, 4] (fun sj sl wq => ∃ (j : Nat), sj = .int .i64 j ∧ sl = .int .i64 0 ∧ j ≤ 2 ∧ Off (fun _ => False) wo wq)
      (fun sj _ _ => 2 - (intOf sj).toNat)
    case atStart => exact ⟨0, rfl, rfl, by omega, Off.refl _ _⟩
    case round =>
      obtain ⟨j, rfl, rfl, hj, hoq⟩ := hrel
      have c0 : wr.cell? ⟨p, 0, none⟩ = some (.slice A 0 cap) := ((Hp.out.off Ho.out id).off hoq id).cell 0
      have Hoq := Lib.hid hoq
      clear hoq
      by_cases hj2 : j < 2
      · have ix : ∀ w : World, Sem.run Tryd.prog (Instr.index 55 (Value.agg #[.int .i64 1, .int .i64 2]) (.int .i64 (j : Int))) w = .ok (.int .i64 ((j : Int) + 1)) w := by
          rcases (show j = 0 ∨ j = 1 by omega) with h1 | h1
          · subst h1; exact fun _ => rfl
          · subst h1; exact fun _ => rfl
        have g1 : decide ((j : Int) + 1 < 0) = false := by simp; omega
        go_wp2_with fail
        go_quiet (fail)
        have O1 := Lib.hid (Hoq.out.drewN nq)
        go_wp2_with fail
        go_roundw
        case rel => exact ⟨j + 1, by go_num, rfl, by omega, O1.out⟩
        case measure => simp [intOf]; omega
      · obtain rfl : j = 2 := by omega
        have hfin := Lib.hid (Ho.out.trans Hoq.out)
        clear c0
        go_wp2_with fail
        refine bodyPost_ret (results_none rfl _ _ _) rfl ?_
        exact ⟨⟨_, rfl⟩, hfin.out⟩
theorem take_end {base p : Nat} {most : Int} {no : Nat} {S : List (Th Arr)} {w0 w3 : World} {cs : Array Value} (hF : Fr base ts w0 w3) (hA : Ag base p most no S w3) (hB : Blk w3 w0.heap.size 71 cs) (hb : base ≤ w0.heap.size) (u0 u1 u2 u3 : Value) :
    Ag base p most no S ((((w3.setCell ⟨w0.heap.size, 0, none⟩ u0).setCell ⟨w0.heap.size, 1, none⟩ u1).setCell ⟨w0.heap.size, 2, none⟩ u2).setCell ⟨w0.heap.size, 3, none⟩ u3) ∧
      Fr base ts w0 ((((w3.setCell ⟨w0.heap.size, 0, none⟩ u0).setCell ⟨w0.heap.size, 1, none⟩ u1).setCell ⟨w0.heap.size, 2, none⟩ u2).setCell ⟨w0.heap.size, 3, none⟩ u3) := by
  have B1 := hB.put 0 u0
  have B2 := B1.put 1 u1
  have B3 := B2.put 2 u2
  have c : ([71] : List TypeId).contains 71 = true := by decide
  refine ⟨hA.fr (b := 0) (us := [71]) (((((Fr.refl _ _ _).put hB (Nat.zero_le _) (.inl c) 0 _).put B1 (Nat.zero_le _) (.inl c) 1 _).put B2 (Nat.zero_le _) (.inl c) 2 _).put B3 (Nat.zero_le _) (.inl c) 3 _) (by decide) (by decide), ?_⟩
  exact (((hF.put hB hb (.inr (Nat.le_refl _)) 0 _).put B1 hb (.inr (Nat.le_refl _)) 1 _).put B2 hb (.inr (Nat.le_refl _)) 2 _).put B3 hb (.inr (Nat.le_refl _)) 3 _
set_option maxRecDepth 100000 in
set_option maxHeartbeats 4000000 in
theorem take_yes (base p : Nat) (most : Int) (no : Nat) (S : List (Th Arr)) (now : Int) (w0 : World) (h00 : Ag base p most no S w0) (hr : Rising S) (i : Nat) (t : Th Arr) (hf : First S i t) (hS : S.length ≤ 65536) (hn : t.due ≤ now) :
    Calls Tryd.prog 67 #[.pointer (some ⟨p, 0, none⟩), .int .i64 now] w0 fun e w' => e = .returned (.tuple #[.agg #[.int .i64 t.x.node, .int .i64 t.x.time, .int .i64 t.x.hops, .int .i64 t.x.frm], .bool true]) ∧ Ag base p most no (S.eraseIdx i) w' ∧ Fr base ts w0 w' := by
  obtain ⟨w, hw⟩ : ∃ w, w0.alloc (.cells #[.int .i64 0, .int .i64 0, .int .i64 0, .int .i64 0] 71) = w := ⟨_, rfl⟩
  have h : Ag base p most no S w := by rw [← hw]; exact h00.off ((Off.refl _ _).alloc _)
  have bX : Blk w w0.heap.size 71 #[.int .i64 0, .int .i64 0, .int .i64 0, .int .i64 0] := by rw [← hw]; exact Blk.new w0 _ _
  have fX : Fr base ts w0 w := by rw [← hw]; exact (Fr.refl _ _ _).alloc _
  have x0 := bX.cell 0
  have x1 := bX.cell 1
  have x2 := bX.cell 2
  have x3 := bX.cell 3
  simp at x0 x1 x2 x3
  have u0 := bX.frozen 0
  have u1 := bX.frozen 1
  have u2 := bX.frozen 2
  have u3 := bX.frozen 3
  have BX := Lib.hid bX
  have FX := Lib.hid fX
  have Hw := Lib.hid hw
  have hb0 : base ≤ w0.heap.size := h00.choose_spec.choose_spec.2.2.2.2.2
  clear hw h00 bX fX
  have H := Lib.hid h
  have Hr := Lib.hid hr
  have Hf := Lib.hid hf
  obtain ⟨L, g, cap, h0, hp, hh, hb, ho, h3, h4⟩ := root_at h hr hf
  obtain ⟨n, hn1⟩ : ∃ n, L.length = n + 1 := ⟨L.length - 1, by have := lt_of_get h0; omega⟩
  have hln := List.getElem?_eq_getElem (show n < L.length by omega)
  obtain ⟨z, hz⟩ : ∃ z, L[n] = z := ⟨_, rfl⟩
  rw [hz] at hln
  have hl := hp.length_eq
  have hpg := own_ne ho hb (by decide)
  have c0 : w.cell? ⟨p, 0, none⟩ = some (.slice (some ⟨g, 0, none⟩) (n + 1) cap) := by rw [← hn1]; exact hb.cell 0
  have c2 : w.cell? ⟨g, 2, none⟩ = some (.int .i64 t.x.node) := by
    rw [ho.cellAt 2 (by omega)]
    exact flat_at (m := 4) (i := 0) (k := 2) (enc := encA) (fun _ => rfl) h0 (by omega)
  have c3 : w.cell? ⟨g, 3, none⟩ = some (.int .i64 t.x.time) := by
    rw [ho.cellAt 3 (by omega)]
    exact flat_at (m := 4) (i := 0) (k := 3) (enc := encA) (fun _ => rfl) h0 (by omega)
  have c4 : w.cell? ⟨g, 4, none⟩ = some (.int .i64 t.x.hops) := by
    rw [ho.cellAt 4 (by omega)]
    exact flat_at (m := 4) (i := 0) (k := 4) (enc := encA) (fun _ => rfl) h0 (by omega)
  have c5 : w.cell? ⟨g, 5, none⟩ = some (.int .i64 t.x.frm) := by
    rw [ho.cellAt 5 (by omega)]
    exact flat_at (m := 4) (i := 0) (k := 5) (enc := encA) (fun _ => rfl) h0 (by omega)
  have n1 : n + 1 ≤ 65536 := by omega
  have z1 : (0 : Int) < ((n : Int) + 1) := by omega
  have Hb := Lib.hid hb
  have Ho := Lib.hid ho
  have Hp := Lib.hid hp
  have Hh := Lib.hid hh
  have H0 := Lib.hid h0
  have Hz := Lib.hid hln
  have Hn := Lib.hid hn1
  clear h hr hf hb ho hp hh h0 hln hz hn1 hl
  go_enter Tryd.func67, Tryd.ntmps67
  go_upto_region 1 with (fail)
  rw [Hw.out]
  go_wp2_with fail
  refine (next_yes base p most no S w H.out Hr.out i t Hf.out hS).mono ?_
  rintro e w' ⟨rfl, rfl⟩
  go_upto_region 5 with (fail)
  obtain ⟨W, hW⟩ : ∃ W, (((w.setCell ⟨w0.heap.size, 0, none⟩ (.int .i64 t.x.node)).setCell ⟨w0.heap.size, 1, none⟩ (.int .i64 t.x.time)).setCell ⟨w0.heap.size, 2, none⟩ (.int .i64 t.x.hops)).setCell ⟨w0.heap.size, 3, none⟩ (.int .i64 t.x.frm) = W := ⟨_, rfl⟩
  rw [hW]
  have BW : Blk W w0.heap.size 71 #[.int .i64 t.x.node, .int .i64 t.x.time, .int .i64 t.x.hops, .int .i64 t.x.frm] := by rw [← hW]; exact (((BX.out.put 0 _).put 1 _).put 2 _).put 3 _
  have oW : Off (fun k => k = w0.heap.size) w W := by rw [← hW]; exact Graph.off_put (Graph.off_put (Graph.off_put (Graph.off_put (Off.refl _ _) _ _) _ _) _ _) _ _
  have np0 : p ≠ w0.heap.size := Hb.out.ne BX.out (by decide)
  have ng0 : g ≠ w0.heap.size := by rintro rfl; exact own_ne Ho.out BX.out (by decide) rfl
  replace Hb := Lib.hid (Hb.out.off oW np0)
  replace Ho := Lib.hid (own_off Ho.out oW (fun g' hg => by simp only [Value.ownBlock, Option.some.injEq] at hg; subst hg; exact ng0))
  have FW := Lib.hid (show Fr base ts w0 W from by
    rw [← hW]
    exact (((FX.out.put BX.out hb0 (.inr (Nat.le_refl _)) 0 _).put (BX.out.put 0 _) hb0 (.inr (Nat.le_refl _)) 1 _).put ((BX.out.put 0 _).put 1 _) hb0 (.inr (Nat.le_refl _)) 2 _).put (((BX.out.put 0 _).put 1 _).put 2 _) hb0 (.inr (Nat.le_refl _)) 3 _)
  have BBW := Lib.hid BW
  have d0 : W.cell? ⟨p, 0, none⟩ = some (.slice (some ⟨g, 0, none⟩) (n + 1) cap) := by rw [← Hn.out]; exact Hb.out.cell 0
  clear hW BW oW np0 ng0 c0 c2 c3 c4 c5 x0 x1 x2 x3 u0 u1 u2 u3
  go_wp2_with fail
  have C := swap_any base p g cap most no L 0 n t z W Hb.out Ho.out H0.out Hz.out
  rw [show ((0 : Nat) : Int) = 0 from rfl] at C
  refine C.mono ?_
  clear C
  rintro e w2 ⟨⟨v, rfl⟩, own2, g2, s2⟩
  rw [Hn.out] at own2
  have l2 : (swp L 0 n).length = n + 1 := (swp_length L 0 n).trans Hn.out
  have B2 := Hb.out.grown g2 (by simpa using hpg)
  rw [Hn.out] at B2
  have k0 : w2.cell? ⟨p, 0, none⟩ = some (.slice (some ⟨g, 0, none⟩) (n + 1) cap) := B2.cell 0
  have f0 : w2.frozen? ⟨p, 0, none⟩ = false := B2.frozen 0
  have cell : ∀ k, k < 6 → w2.cell? ⟨g, n * 6 + k, none⟩ = (cel encA t)[k]? := fun k hk => by
    rw [own2.cellAt _ (by omega)]
    exact flat_at (m := 4) (fun _ => rfl) (by rw [swp_get H0.out Hz.out, if_pos rfl]) (by omega)
  have e0 : w2.cell? ⟨g, n * 6, none⟩ = some (.int .i64 t.due) := cell 0 (by omega)
  have e1 : w2.cell? ⟨g, n * 6 + 1, none⟩ = some (.int .u64 t.no) := cell 1 (by omega)
  have e2 : w2.cell? ⟨g, n * 6 + 2, none⟩ = some (.int .i64 t.x.node) := cell 2 (by omega)
  have e3 : w2.cell? ⟨g, n * 6 + 3, none⟩ = some (.int .i64 t.x.time) := cell 3 (by omega)
  have e4 : w2.cell? ⟨g, n * 6 + 4, none⟩ = some (.int .i64 t.x.hops) := cell 4 (by omega)
  have e5 : w2.cell? ⟨g, n * 6 + 5, none⟩ = some (.int .i64 t.x.frm) := cell 5 (by omega)
  have z0 : w2.frozen? ⟨g, n * 6, none⟩ = false := own2.frozenAt _
  have z1 : w2.frozen? ⟨g, n * 6 + 1, none⟩ = false := own2.frozenAt _
  have z2 : w2.frozen? ⟨g, n * 6 + 2, none⟩ = false := own2.frozenAt _
  have z3 : w2.frozen? ⟨g, n * 6 + 3, none⟩ = false := own2.frozenAt _
  have z4 : w2.frozen? ⟨g, n * 6 + 4, none⟩ = false := own2.frozenAt _
  have z5 : w2.frozen? ⟨g, n * 6 + 5, none⟩ = false := own2.frozenAt _
  obtain ⟨_, _, _, hcap, hcm, _⟩ := row_blk own2
  have m1 : (n : Int) ≤ (cap : Int) := by omega
  have m0 : (0 : Int) ≤ (n : Int) := by omega
  have m2 : (n : Int) < ((n : Int) + 1) := by omega
  have m3 : cap ≤ 9223372036854775807 := hcm
  have np : p < w2.heap.size := B2.lt
  have Own2 := Lib.hid own2
  have BB2 := Lib.hid B2
  have L2 := Lib.hid l2
  have G2 := Lib.hid g2
  clear own2 B2 l2 g2 s2 cell hcap hcm d0
  go_wp2_with fail
  obtain ⟨X, hX⟩ : ∃ X, ((((((w2.setCell ⟨g, n * 6, none⟩ (.int .i64 0)).setCell ⟨g, n * 6 + 1, none⟩ (.int .u64 0)).setCell ⟨g, n * 6 + 2, none⟩ (.int .i64 0)).setCell ⟨g, n * 6 + 3, none⟩ (.int .i64 0)).setCell ⟨g, n * 6 + 4, none⟩ (.int .i64 0)).setCell ⟨g, n * 6 + 5, none⟩ (.int .i64 0)).setCell ⟨p, 0, none⟩ (.slice (some ⟨g, 0, none⟩) n cap) = X := ⟨_, rfl⟩
  rw [hX]
  obtain ⟨o3, g3⟩ := stored6 Own2.out (n * 6) (.int .i64 0) (.int .u64 0) (.int .i64 0) (.int .i64 0) (.int .i64 0) (.int .i64 0)
  have B3 := BB2.out.grown g3 (by simpa using hpg)
  obtain ⟨V3, hV3⟩ : ∃ V3, (((((w2.setCell ⟨g, n * 6, none⟩ (.int .i64 0)).setCell ⟨g, n * 6 + 1, none⟩ (.int .u64 0)).setCell ⟨g, n * 6 + 2, none⟩ (.int .i64 0)).setCell ⟨g, n * 6 + 3, none⟩ (.int .i64 0)).setCell ⟨g, n * 6 + 4, none⟩ (.int .i64 0)).setCell ⟨g, n * 6 + 5, none⟩ (.int .i64 0) = V3 := ⟨_, rfl⟩
  rw [hV3] at o3 g3 B3 hX
  have q1 : puts (flat encA (swp L 0 n)) (n * 6) [.int .i64 0, .int .u64 0, .int .i64 0, .int .i64 0, .int .i64 0, .int .i64 0] = flat encA ((swp L 0 n).set n ⟨0, 0, ⟨0, 0, 0, 0⟩⟩) := flat_put (m := 4) (enc := encA) (fun _ => rfl) (by rw [L2.out]; omega) ⟨0, 0, ⟨0, 0, 0, 0⟩⟩
  have q2 : flat encA (cut L) = (flat encA ((swp L 0 n).set n ⟨0, 0, ⟨0, 0, 0, 0⟩⟩)).take (n * 6) := by
    have := flat_take (m := 4) (enc := encA) (fun _ => rfl) ((swp L 0 n).set n ⟨0, 0, ⟨0, 0, 0, 0⟩⟩) n (by rw [List.length_set, L2.out]; omega)
    rw [← this, cut, Hn.out, Nat.add_sub_cancel]
    rw [List.take_set_of_le (Nat.le_refl n)]
  rw [q1] at o3
  have o4 := row_less o3 (show n ≤ n + 1 by omega)
  rw [← q2] at o4
  have hcl : (cut L).length = n := by rw [cut_length, Hn.out]; rfl
  have oX : Off (fun k => k = p) V3 X := by rw [← hX]; exact (Off.refl (fun k => k = p) V3).setCell (p := ⟨p, 0, none⟩) (.inl rfl) _
  have o5 := own_off o4 oX (fun g' hg => by simp only [Value.ownBlock, Option.some.injEq] at hg; subst hg; exact fun c => hpg c.symm)
  have B5 : Blk X p 129 #[.slice (some ⟨g, 0, none⟩) n cap, .int .i64 most, .int .u64 no] := by rw [← hX]; exact B3.put 0 _
  have F5 : Fr base ts W X := by
    have a1 : Fr base ts W w2 := Fr.grown_own (v := .slice (some ⟨g, 0, none⟩) L.length cap) G2.out Ho.out rfl
    have a2 : Fr base ts w2 V3 := Fr.grown_own (v := .slice (some ⟨g, 0, none⟩) (n + 1) cap) g3 Own2.out rfl
    exact (a1.trans a2).trans (Fr.of_off oX fun k _ hk => by subst hk; exact ⟨h3, _, B3, rfl⟩)
  have s5 : base ≤ X.heap.size := Nat.le_trans hb0 (Nat.le_trans FW.out.size F5.size)
  have hpe := cut_erase Hp.out H0.out Hf.out.get
  have hdn := Hh.out.down
  rw [← hcl] at B5 o5
  have BB5 := Lib.hid B5
  have OO5 := Lib.hid o5
  have FF5 := Lib.hid F5
  have Hcl := Lib.hid hcl
  have Hpe := Lib.hid hpe
  have Hdn := Lib.hid hdn
  clear hX o3 g3 B3 hV3 q1 q2 o4 hcl oX o5 B5 F5 hpe hdn k0 f0 e0 e1 e2 e3 e4 e5 z0 z1 z2 z3 z4 z5 m1 m0 m2
  have hfin : ∀ w3, Fr base ts X w3 → Ag base p most no (S.eraseIdx i) w3 → (RowKit.Hid (Fr base ts w0 w3) ∧ RowKit.Hid (Ag base p most no (S.eraseIdx i) w3) ∧ Blk w3 w0.heap.size 71 #[.int .i64 t.x.node, .int .i64 t.x.time, .int .i64 t.x.hops, .int .i64 t.x.frm]) := fun w3 f a => ⟨Lib.hid ((FW.out.trans FF5.out).trans f), Lib.hid a, f.blk (FF5.out.blk BBW.out rfl) rfl⟩
  have Hfin := Lib.hid hfin
  clear hfin
  by_cases hn0 : n = 0
  · have hce : cut L = [] := List.eq_nil_of_length_eq_zero (by rw [Hcl.out, hn0])
    have B6 := BB5.out
    rw [hce] at B6
    refine (sink_nil p cap _ most no X B6).mono ?_
    rintro e w3 ⟨⟨v, rfl⟩, oo⟩
    obtain ⟨hF, hA, hB⟩ := Hfin.out w3 (Fr.of_none oo) ⟨cut L, _, BB5.out.off oo id, own_off OO5.out oo (fun _ _ => id), Hpe.out, by rw [hce]; exact heap_nil, h3, Nat.le_trans s5 oo.size⟩
    clear oo B6 hce
    have y0 := hB.cell 0
    have y1 := hB.cell 1
    have y2 := hB.cell 2
    have y3 := hB.cell 3
    have v0 := hB.frozen 0
    have v1 := hB.frozen 1
    have v2 := hB.frozen 2
    have v3 := hB.frozen 3
    simp at y0 y1 y2 y3
    have HB := Lib.hid hB
    clear hB
    go_wp2_with fail
    refine bodyPost_ret (results_cell_tmp (b := w0.heap.size) (cs := [.int .i64 t.x.node, .int .i64 t.x.time, .int .i64 t.x.hops, .int .i64 t.x.frm]) rfl rfl (d := _) rfl (by kernel_rfl) (by kernel_rfl) (range4 ?_ ?_ ?_ ?_)) rfl ⟨rfl, ?_⟩
    rotate_left 4
    · exact take_end hF.out hA.out HB.out hb0 _ _ _ _
    all_goals go_simp
  · have C := sink_any base p g cap most no (cut L) 0 X BB5.out OO5.out Hdn.out (by rw [Hcl.out]; omega) (by rw [Hcl.out]; omega)
    rw [show ((0 : Nat) : Int) = 0 from rfl] at C
    refine C.mono ?_
    clear C
    rintro e w3 ⟨⟨v, rfl⟩, M, ml, mp, mh, own6, o6⟩
    have B6 := BB5.out.off o6 hpg
    rw [← ml] at B6 own6
    obtain ⟨hF, hA, hB⟩ := Hfin.out w3 (Fr.off_own o6 OO5.out rfl) ⟨M, _, B6, own6, mp.trans Hpe.out, mh, h3, Nat.le_trans s5 o6.size⟩
    clear ml mp mh own6 o6 B6
    have y0 := hB.cell 0
    have y1 := hB.cell 1
    have y2 := hB.cell 2
    have y3 := hB.cell 3
    have v0 := hB.frozen 0
    have v1 := hB.frozen 1
    have v2 := hB.frozen 2
    have v3 := hB.frozen 3
    simp at y0 y1 y2 y3
    have HB := Lib.hid hB
    clear hB
    go_wp2_with fail
    refine bodyPost_ret (results_cell_tmp (b := w0.heap.size) (cs := [.int .i64 t.x.node, .int .i64 t.x.time, .int .i64 t.x.hops, .int .i64 t.x.frm]) rfl rfl (d := _) rfl (by kernel_rfl) (by kernel_rfl) (range4 ?_ ?_ ?_ ?_)) rfl ⟨rfl, ?_⟩
    rotate_left 4
    · exact take_end hF.out hA.out HB.out hb0 _ _ _ _
    all_goals go_simp
end F

end Go.Proofs.YtmbblhajbecomaaDoor.Agenda
