/- The law's walk: AgendaPlays. -/
import Derived.Test.YtcicnanchikpjaaPlaysStep
import Derived.Test.YtcicnanchikpjaaAgendaWorks
import Derived.Deep.DeepCutAuto
import Derived.Deep.CutBlock
namespace Go.Proofs.Ytcicnanchikpjaa.Heap
open Go.RowKit
open Go.Proofs.Ytcicnanchikpjaa.RF
set_option linter.unusedVariables false
set_option linter.unusedSimpArgs false

theorem bdN {B : Nat} {a w : World} (h : Below B a w) (n : Nat) : Below B a (w.drewN n) := ⟨h.os, h.tape, h.output, h.size, h.block⟩
theorem bset {B n : Nat} {A W : World} (h : Below B A W) (hn : B ≤ n) (u v : Value) : Below B A ((W.setCell ⟨n, 0, none⟩ u).setCell ⟨n, 1, none⟩ v) := (h.setCell (p := ⟨n, 0, none⟩) hn u).setCell (p := ⟨n, 1, none⟩) hn v
theorem offp {A B : World} {R : Nat} (h : Off (fun k => k = R) A B) (i : Nat) (u : Value) : Off (fun k => k = R) A (B.setCell ⟨R, i, none⟩ u) := Off.setCell (p := ⟨R, i, none⟩) h (.inl rfl) u
set_option maxRecDepth 100000 in
set_option maxHeartbeats 8000000 in
theorem plays_walk (w : World) (m : Int) (hm : -9223372036854775808 ≤ m ∧ m ≤ 9223372036854775807) (la : Option Addr) (len lc : Nat) (hl : ActsIn w la len lc) :
    Calls Try.prog 5 #[.int .i64 m, .slice la len lc] w fun e w' => e = .returned (.bool true) ∧ Below w.heap.size w w' := by
  have HN := Lib.hid (Agenda.I64.new_any m w hm)
  have Hl := Lib.hid hl
  have hmax := hl.2.1
  have hlc := hl.1
  obtain ⟨most, hmost⟩ : ∃ k, min (max m 0) 65536 = k := ⟨_, rfl⟩
  have hmb : 0 ≤ most ∧ most ≤ 65536 := by omega
  have HR := Lib.hid (fun (V : World) => refnew_any m V hm)
  rw [hmost] at HN HR
  clear hmost hl
  go_enter Try.func5, Try.ntmps5
  go_wp2_with fail
  refine HN.out.mono ?_
  rintro e w1 ⟨rfl, hag, hfr⟩
  go_wp2_with fail
  refine (HR.out w1).mono ?_
  rintro e w2 ⟨rfl, b2⟩
  obtain ⟨W, hW⟩ : ∃ W, w2.alloc (.cells #[.slice none 0 0, .int .i64 most] 43) = W := ⟨_, rfl⟩
  have bW : Blk W w2.heap.size 43 #[.slice none 0 0, .int .i64 most] := by rw [← hW]; exact Blk.new w2 _ _
  have l2 : Below w1.heap.size w1 W := by rw [← hW]; exact b2.alloc b2.size _
  have lw1 : Below w.heap.size w w1 := hfr.toBelow (Nat.le_refl _)
  have lw : Below w.heap.size w W := lw1.trans (l2.mono lw1.size)
  have z2 : w1.heap.size ≤ w2.heap.size := b2.size
  have z1 : w.heap.size ≤ w1.heap.size := lw1.size
  have HB0 : RowKit.Hid (Both w.heap.size w.heap.size w2.heap.size most 0 [] none 0 W) := Lib.hid ⟨hag.fr (Fr.of_below (b := 0) (ts := []) l2) rfl rfl, bW, ⟨Nat.le_refl _, by unfold maxLen; omega, .inl ⟨rfl, rfl⟩⟩, rising_nil, fun j u hu => by simp at hu, by simp; omega⟩
  have HL0 := Lib.hid lw
  clear hag hfr b2 bW l2 lw1 lw HN HR
  go_wp2_with (rw [hW])
  clear hW
  go_loopw [7] (fun v7 wr => ∃ (i : Nat) (no : Nat) (S : List (Th Int)) (a : Option Addr) (cap : Nat), v7 = .int .i64 i ∧ i ≤ 60 ∧ i ≤ len ∧ no ≤ i ∧ RowKit.Hid (Both w.heap.size w.heap.size w2.heap.size most no S a cap wr) ∧ RowKit.Hid (Below w.heap.size w wr)) (fun v7 _ => match v7 with | .int _ i => 61 - i.toNat | _ => 0)
  case atStart => exact ⟨0, 0, [], none, 0, rfl, by omega, Nat.zero_le _, Nat.le_refl _, HB0, HL0⟩
  case round =>
    clear HB0 HL0
    obtain ⟨i, no, S, a, cap, rfl, hi, hil, hno, HB, HL⟩ := hrel
    by_cases hlt : i < len
    · by_cases h60 : i < 60
      · obtain ⟨lb, off, kd, due, xv, rfl, hlw, f0, f1, f2, k0, k1, k2⟩ := Hl.out.2.2 i hlt
        replace f0 := (HL.out.cell (p := ⟨lb, _, none⟩) hlw).trans f0
        replace f1 := (HL.out.cell (p := ⟨lb, _, none⟩) hlw).trans f1
        replace f2 := (HL.out.cell (p := ⟨lb, _, none⟩) hlw).trans f2
        have hlb : lb < wr.heap.size := Nat.lt_of_lt_of_le hlw HL.out.size
        have i1 : (0 : Int) ≤ (i : Int) := by omega
        have i2 : (i : Int) < (len : Int) := by omega
        have i3 : (i : Int) < 60 := by omega
        have k3 : 0 ≤ kd := by
          have e1 : IntKind.u8.min = 0 := by decide
          simp only [Lit.wf, e1, Bool.and_eq_true, decide_eq_true_eq] at k0
          exact k0.1
        obtain ⟨q, hq⟩ : ∃ q, kd.tmod 4 = q := ⟨_, rfl⟩
        have hq4 : q = 0 ∨ q = 1 ∨ q = 2 ∨ q = 3 := by rw [Int.tmod_eq_emod_of_nonneg k3] at hq; omega
        go_upto_block 2 with fail
        clear hq k0 k3 f0
        go_cut [] (fun V => RowKit.Hid (∃ (no' : Nat) (S' : List (Th Int)) (a' : Option Addr) (cap' : Nat), no' ≤ i + 1 ∧ Both w.heap.size w.heap.size w2.heap.size most no' S' a' cap' V ∧ Below w.heap.size w V))
        case first =>
          have HS := Lib.hid (fun (v : World) (hv : Off (fun j => j = w2.heap.size) wr v) => (show RowKit.Hid (Off (fun j => j = w2.heap.size) wr v) ∧ v.cell? ⟨lb, off + i * 3 + 1, none⟩ = some (.int .i64 due) ∧ v.cell? ⟨lb, off + i * 3 + 2, none⟩ = some (.int .i64 xv) from ⟨Lib.hid hv, (hv.cell (p := ⟨lb, _, none⟩) hlb (by show ¬ lb = w2.heap.size; omega)).trans f1, (hv.cell (p := ⟨lb, _, none⟩) hlb (by show ¬ lb = w2.heap.size; omega)).trans f2⟩))
          have g0 := HB.out.box.cell 0
          have g1 := HB.out.box.cell 1
          simp at g0 g1
          have hS60 : S.length ≤ 65536 := by have := HB.out.len; omega
          have hq5 : (q = 0 ∨ q = 1) ∨ q = 2 ∨ q = 3 := by omega
          clear hq4
          rcases hq5 with hq4 | rfl | rfl
          rotate_left
          · as_aux_lemma =>
              have HTk := Lib.hid (agtake_ex w.heap.size w.heap.size most no S due wr HB.out.ag HB.out.rise hS60)
              go_wp2_with fail
              refine HTk.out.mono ?_
              rintro e V ⟨S1, x1, was1, rfl, hag1, hfr1, hst1⟩
              have box1 := hfr1.blk HB.out.box rfl
              have row1 := HB.out.row.fr hfr1 rfl
              have lV : Below w.heap.size w V := HL.out.trans (hfr1.toBelow HL.out.size)
              have lc1 : V.cell? ⟨lb, off + i * 3 + 1, none⟩ = some (.int .i64 due) := (hfr1.cell (p := ⟨lb, _, none⟩) hlw hlb).trans f1
              have hlV : lb < V.heap.size := Nat.lt_of_lt_of_le hlb hfr1.size
              have HS24 := Lib.hid (fun (v : World) (hv : Below V.heap.size V v) => (show RowKit.Hid (Below V.heap.size V v) ∧ v.cell? ⟨w2.heap.size, 0, none⟩ = some (.slice a S.length cap) ∧ v.cell? ⟨w2.heap.size, 1, none⟩ = some (.int .i64 most) ∧ v.cell? ⟨lb, off + i * 3 + 1, none⟩ = some (.int .i64 due) from ⟨Lib.hid hv, (box1.below hv box1.lt).cell 0, (box1.below hv box1.lt).cell 1, (hv.cell (p := ⟨lb, _, none⟩) hlV).trans lc1⟩))
              have HRt := Lib.hid (fun (v : World) (hv : Below V.heap.size V v) => reftake_ex most a cap S due v (row1.below hv) hS60)
              have Hag1 := Lib.hid hag1
              have Hbox1 := Lib.hid box1
              have HlV := Lib.hid lV
              have m0 := box1.cell 0
              have m1 := box1.cell 1
              simp at m0 m1
              clear hag1 hfr1 box1 row1 lV g0 g1 f1 f2 HTk HS
              go_wp2_with fail
              refine wp_region_noPanic ?_
              refine wp_region_held_drew (S := fun w' => RowKit.Hid (Below V.heap.size V w') ∧ w'.cell? ⟨w2.heap.size, 0, none⟩ = some (.slice a S.length cap) ∧ w'.cell? ⟨w2.heap.size, 1, none⟩ = some (.int .i64 most) ∧ w'.cell? ⟨lb, off + i * 3 + 1, none⟩ = some (.int .i64 due)) (by kernel_rfl) (HS24.out _ (Below.refl _ _).drew) (fun hHeld => ?_)
              refine Take.take (i := 0) (oi := _) (t := 137) (v := ?v223) rfl (by kernel_rfl) (by kernel_rfl) (by kernel_rfl) (by kernel_rfl) (fun _ _ _ h => h) (by kernel_rfl) ?hy223 (by assumption) ?_
              case hy223 => (intro w hSw; (try dsimp only at hSw); go_simp; try with_reducible rfl)
              try simp only [Act.put, List.setIfInBounds_toArray, List.set_cons_zero, List.set_cons_succ]
              refine Take.take (i := 1) (oi := _) (t := 138) (v := ?v224) rfl (by kernel_rfl) (by kernel_rfl) (by kernel_rfl) (by kernel_rfl) (fun _ _ _ h => h) (by kernel_rfl) ?hy224 (by assumption) ?_
              case hy224 => (intro w hSw; (try dsimp only at hSw); go_simp; try with_reducible rfl)
              try simp only [Act.put, List.setIfInBounds_toArray, List.set_cons_zero, List.set_cons_succ]
              refine Take.take (i := 2) (oi := _) (t := 139) (v := ?v225) rfl (by kernel_rfl) (by kernel_rfl) (by kernel_rfl) (by kernel_rfl) (fun _ _ _ h => h) (by kernel_rfl) ?hy225 (by assumption) ?_
              case hy225 => (intro w hSw; (try dsimp only at hSw); go_simp; try with_reducible rfl)
              try simp only [Act.put, List.setIfInBounds_toArray, List.set_cons_zero, List.set_cons_succ]
              refine Take.take (i := 3) (oi := _) (t := 140) (v := ?v226) rfl (by kernel_rfl) (by kernel_rfl) (by kernel_rfl) (by kernel_rfl) (fun _ _ _ h => h) (by kernel_rfl) ?hy226 (by assumption) ?_
              case hy226 => (intro w hSw; (try dsimp only at hSw); go_simp; try with_reducible rfl)
              try simp only [Act.put, List.setIfInBounds_toArray, List.set_cons_zero, List.set_cons_succ]
              refine Take.take (i := 4) (oi := _) (t := 141) (v := ?v227) rfl (by kernel_rfl) (by kernel_rfl) (by kernel_rfl) (by kernel_rfl) (fun _ _ _ h => h) (by kernel_rfl) ?hy227 (by assumption) ?_
              case hy227 => (intro w hSw; (try dsimp only at hSw); go_simp; try with_reducible rfl)
              try simp only [Act.put, List.setIfInBounds_toArray, List.set_cons_zero, List.set_cons_succ]
              refine Take.take (i := 5) (oi := _) (t := 142) (v := ?v228) rfl (by kernel_rfl) (by kernel_rfl) (by kernel_rfl) (by kernel_rfl) (fun _ _ _ h => h) (by kernel_rfl) ?hy228 (by assumption) ?_
              case hy228 => (intro w hSw; (try dsimp only at hSw); go_simp; try with_reducible rfl)
              try simp only [Act.put, List.setIfInBounds_toArray, List.set_cons_zero, List.set_cons_succ]
              refine wpAnyH_ready (rs := [6, 11]) (by kernel_rfl) (by simp) ?_
              refine AllReadyH.cons (o := _) rfl (fun K hK => ?_) (AllReadyH.cons (o := _) rfl (fun K hK => ?_) AllReadyH.nil)
              · skip
                go_simp
                go_at_call 28
                refine (HRt.out (_) (by first | exact (Below.refl _ V).drew | exact ((Below.refl _ V).drew).alloc (Nat.le_refl _) _)).mono ?_
                rintro e w4 ⟨S', a', cap', x, was, rfl, hT4, b4, hst⟩
                obtain ⟨rfl, rfl, rfl⟩ := hst.uniq hst1
                have HB4 : RowKit.Hid (Below V.heap.size V w4) := Lib.hid (by first | exact ((Below.refl _ V).drew).trans b4 | exact (((Below.refl _ V).drew).alloc (Nat.le_refl _) _).trans (b4.mono (((Below.refl _ V).drew).alloc (Nat.le_refl _) _).size))
                have HT4 := Lib.hid hT4
                have B4 := Lib.hid b4
                have Hst := Lib.hid hst
                clear hT4 hst b4
                try dsimp only
                refine hK.out _ _ ?hS229 (fun hHeld => ?_)
                case hS229 => (refine HS24.out _ ?_; repeat (first | exact Below.refl _ _ | exact HB4.out | refine Below.drew ?_ | exact (Below.refl _ V).alloc (Nat.le_refl _) _ | exact ((Below.refl _ V).drew).alloc (Nat.le_refl _) _ | exact HB4.out.alloc HB4.out.size _ | refine bset ?_ (by first | exact Nat.le_refl _ | exact HB4.out.size) _ _))
                clear hK K
                try simp only [Act.put, List.setIfInBounds_toArray, List.set_cons_zero, List.set_cons_succ]
                refine Take.take (i := 7) (oi := _) (t := 136) (v := ?v230) rfl (by kernel_rfl) (by kernel_rfl) (by kernel_rfl) (by kernel_rfl) (fun _ _ _ h => h) (by kernel_rfl) ?hy230 (by assumption) ?_
                case hy230 => (intro w hSw; (try dsimp only at hSw); go_simp; try with_reducible rfl)
                try simp only [Act.put, List.setIfInBounds_toArray, List.set_cons_zero, List.set_cons_succ]
                refine Take.take (i := 8) (oi := _) (t := 144) (v := ?v231) rfl (by kernel_rfl) (by kernel_rfl) (by kernel_rfl) (by kernel_rfl) (fun _ _ _ h => h) (by kernel_rfl) ?hy231 (by assumption) ?_
                case hy231 => (intro w hSw; (try dsimp only at hSw); go_simp; try with_reducible rfl)
                try simp only [Act.put, List.setIfInBounds_toArray, List.set_cons_zero, List.set_cons_succ]
                refine Take.take (i := 9) (oi := _) (t := 145) (v := ?v232) rfl (by kernel_rfl) (by kernel_rfl) (by kernel_rfl) (by kernel_rfl) (fun _ _ _ h => h) (by kernel_rfl) ?hy232 (by assumption) ?_
                case hy232 => (intro w hSw; (try dsimp only at hSw); go_simp; try with_reducible rfl)
                try simp only [Act.put, List.setIfInBounds_toArray, List.set_cons_zero, List.set_cons_succ]
                refine Take.take (i := 10) (oi := _) (t := 146) (v := ?v233) rfl (by kernel_rfl) (by kernel_rfl) (by kernel_rfl) (by kernel_rfl) (fun _ _ _ h => h) (by kernel_rfl) ?hy233 (by assumption) ?_
                case hy233 => (intro w hSw; (try dsimp only at hSw); go_simp; try with_reducible rfl)
                try simp only [Act.put, List.setIfInBounds_toArray, List.set_cons_zero, List.set_cons_succ]
                refine wpAnyH_ready (rs := [11]) (by kernel_rfl) (by simp) ?_
                refine AllReadyH.cons (o := _) rfl (fun K hK => ?_) AllReadyH.nil
                go_simp
                refine hK.out _ _ ?hS234 (fun hHeld => ?_)
                case hS234 => (refine HS24.out _ ?_; repeat (first | exact Below.refl _ _ | exact HB4.out | refine Below.drew ?_ | exact (Below.refl _ V).alloc (Nat.le_refl _) _ | exact ((Below.refl _ V).drew).alloc (Nat.le_refl _) _ | exact HB4.out.alloc HB4.out.size _ | refine bset ?_ (by first | exact Nat.le_refl _ | exact HB4.out.size) _ _))
                clear hK K
                try simp only [Act.put, List.setIfInBounds_toArray, List.set_cons_zero, List.set_cons_succ]
                refine wpAnyH_ready (rs := [12]) (by kernel_rfl) (by simp) ?_
                refine AllReadyH.cons (o := _) rfl (fun K hK => ?_) AllReadyH.nil
                go_simp
                refine hK.out _ _ ?hS235 (fun hHeld => ?_)
                case hS235 => (refine HS24.out _ ?_; repeat (first | exact Below.refl _ _ | exact HB4.out | refine Below.drew ?_ | exact (Below.refl _ V).alloc (Nat.le_refl _) _ | exact ((Below.refl _ V).drew).alloc (Nat.le_refl _) _ | exact HB4.out.alloc HB4.out.size _ | refine bset ?_ (by first | exact Nat.le_refl _ | exact HB4.out.size) _ _))
                clear hK K
                try simp only [Act.put, List.setIfInBounds_toArray, List.set_cons_zero, List.set_cons_succ]
                refine Take.take (i := 13) (oi := _) (t := 13) (v := ?v236) rfl (by kernel_rfl) (by kernel_rfl) (by kernel_rfl) (by kernel_rfl) (fun _ _ _ h => h) (by kernel_rfl) ?hy236 (by assumption) ?_
                case hy236 => (intro w hSw; (try dsimp only at hSw); go_simp; try with_reducible rfl)
                try simp only [Act.put, List.setIfInBounds_toArray, List.set_cons_zero, List.set_cons_succ]
                refine Take.take (i := 14) (oi := _) (t := 14) (v := ?v237) rfl (by kernel_rfl) (by kernel_rfl) (by kernel_rfl) (by kernel_rfl) (fun _ _ _ h => h) (by kernel_rfl) ?hy237 (by assumption) ?_
                case hy237 => (intro w hSw; (try dsimp only at hSw); go_simp; try with_reducible rfl)
                try simp only [Act.put, List.setIfInBounds_toArray, List.set_cons_zero, List.set_cons_succ]
                refine wpAnyH_done (by kernel_rfl) ?_ _
                refine NoPanic.normal ?_
                obtain ⟨Y, hY⟩ : ∃ Y, w4.alloc (.cells #[.slice a' S'.length cap', .int .i64 most] 43) = Y := ⟨_, rfl⟩
                have bn : Blk Y w4.heap.size 43 #[.slice a' S'.length cap', .int .i64 most] := by rw [← hY]; exact Blk.new w4 _ _
                have tY : TAt Y a' cap' S' := by rw [← hY]; exact HT4.out.below ((Below.refl _ w4).alloc (Nat.le_refl _) _)
                have bY : Below V.heap.size V Y := by rw [← hY]; exact HB4.out.alloc HB4.out.size _
                have hset := Lib.hid (set_box Hag1.out Hbox1.out bY tY)
                have hlow := Lib.hid (bset (HlV.out.trans (bY.mono HlV.out.size)) (show w.heap.size ≤ w2.heap.size by omega) (.slice a' S'.length cap') (.int .i64 most))
                have hbx := Hbox1.out.below bY Hbox1.out.lt
                have p0 := hbx.cell 0
                have p1 := hbx.cell 1
                have p2 := hbx.frozen 0
                have p3 := hbx.frozen 1
                have p4 := bn.cell 0
                have p5 := bn.cell 1
                simp at p0 p1 p4 p5
                clear bn tY bY hbx m0 m1 lc1
                go_wp2_with (rw [hY])
                go_meet
                exact Lib.hid ⟨no, S', a', cap', by omega, ⟨hset.out.1, hset.out.2.1, hset.out.2.2, Hst.out.rise HB.out.rise, Hst.out.low HB.out.low, by have := Hst.out.len; have := HB.out.len; omega⟩, hlow.out⟩
              · skip
                go_simp
                refine hK.out _ _ ?hS238 (fun hHeld => ?_)
                case hS238 => (refine HS24.out _ ?_; repeat (first | exact Below.refl _ _ | exact HB4.out | refine Below.drew ?_ | exact (Below.refl _ V).alloc (Nat.le_refl _) _ | exact ((Below.refl _ V).drew).alloc (Nat.le_refl _) _ | exact HB4.out.alloc HB4.out.size _ | refine bset ?_ (by first | exact Nat.le_refl _ | exact HB4.out.size) _ _))
                clear hK K
                try simp only [Act.put, List.setIfInBounds_toArray, List.set_cons_zero, List.set_cons_succ]
                refine wpAnyH_ready (rs := [6]) (by kernel_rfl) (by simp) ?_
                refine AllReadyH.cons (o := _) rfl (fun K hK => ?_) AllReadyH.nil
                go_simp
                go_at_call 28
                refine (HRt.out (_) (by first | exact (Below.refl _ V).drew | exact ((Below.refl _ V).drew).alloc (Nat.le_refl _) _)).mono ?_
                rintro e w4 ⟨S', a', cap', x, was, rfl, hT4, b4, hst⟩
                obtain ⟨rfl, rfl, rfl⟩ := hst.uniq hst1
                have HB4 : RowKit.Hid (Below V.heap.size V w4) := Lib.hid (by first | exact ((Below.refl _ V).drew).trans b4 | exact (((Below.refl _ V).drew).alloc (Nat.le_refl _) _).trans (b4.mono (((Below.refl _ V).drew).alloc (Nat.le_refl _) _).size))
                have HT4 := Lib.hid hT4
                have B4 := Lib.hid b4
                have Hst := Lib.hid hst
                clear hT4 hst b4
                try dsimp only
                refine hK.out _ _ ?hS239 (fun hHeld => ?_)
                case hS239 => (refine HS24.out _ ?_; repeat (first | exact Below.refl _ _ | exact HB4.out | refine Below.drew ?_ | exact (Below.refl _ V).alloc (Nat.le_refl _) _ | exact ((Below.refl _ V).drew).alloc (Nat.le_refl _) _ | exact HB4.out.alloc HB4.out.size _ | refine bset ?_ (by first | exact Nat.le_refl _ | exact HB4.out.size) _ _))
                clear hK K
                try simp only [Act.put, List.setIfInBounds_toArray, List.set_cons_zero, List.set_cons_succ]
                refine Take.take (i := 7) (oi := _) (t := 136) (v := ?v240) rfl (by kernel_rfl) (by kernel_rfl) (by kernel_rfl) (by kernel_rfl) (fun _ _ _ h => h) (by kernel_rfl) ?hy240 (by assumption) ?_
                case hy240 => (intro w hSw; (try dsimp only at hSw); go_simp; try with_reducible rfl)
                try simp only [Act.put, List.setIfInBounds_toArray, List.set_cons_zero, List.set_cons_succ]
                refine Take.take (i := 8) (oi := _) (t := 144) (v := ?v241) rfl (by kernel_rfl) (by kernel_rfl) (by kernel_rfl) (by kernel_rfl) (fun _ _ _ h => h) (by kernel_rfl) ?hy241 (by assumption) ?_
                case hy241 => (intro w hSw; (try dsimp only at hSw); go_simp; try with_reducible rfl)
                try simp only [Act.put, List.setIfInBounds_toArray, List.set_cons_zero, List.set_cons_succ]
                refine Take.take (i := 9) (oi := _) (t := 145) (v := ?v242) rfl (by kernel_rfl) (by kernel_rfl) (by kernel_rfl) (by kernel_rfl) (fun _ _ _ h => h) (by kernel_rfl) ?hy242 (by assumption) ?_
                case hy242 => (intro w hSw; (try dsimp only at hSw); go_simp; try with_reducible rfl)
                try simp only [Act.put, List.setIfInBounds_toArray, List.set_cons_zero, List.set_cons_succ]
                refine Take.take (i := 10) (oi := _) (t := 146) (v := ?v243) rfl (by kernel_rfl) (by kernel_rfl) (by kernel_rfl) (by kernel_rfl) (fun _ _ _ h => h) (by kernel_rfl) ?hy243 (by assumption) ?_
                case hy243 => (intro w hSw; (try dsimp only at hSw); go_simp; try with_reducible rfl)
                try simp only [Act.put, List.setIfInBounds_toArray, List.set_cons_zero, List.set_cons_succ]
                have bN : Blk w4 V.heap.size 43 #[.slice none 0 0, .int .i64 0] := (show Blk (V.drew.alloc _) V.heap.size _ _ from Blk.new V _ _).below B4.out (Blk.new V.drew _ _).lt
                have n0 := bN.cell 0
                have n1 := bN.cell 1
                have n2 := bN.frozen 0
                have n3 := bN.frozen 1
                simp at n0 n1
                refine wpAnyH_ready (rs := [12]) (by kernel_rfl) (by simp) ?_
                refine AllReadyH.cons (o := _) rfl (fun K hK => ?_) AllReadyH.nil
                go_simp
                refine hK.out _ _ ?hS244 (fun hHeld => ?_)
                case hS244 => (refine HS24.out _ ?_; repeat (first | exact Below.refl _ _ | exact HB4.out | refine Below.drew ?_ | exact (Below.refl _ V).alloc (Nat.le_refl _) _ | exact ((Below.refl _ V).drew).alloc (Nat.le_refl _) _ | exact HB4.out.alloc HB4.out.size _ | refine bset ?_ (by first | exact Nat.le_refl _ | exact HB4.out.size) _ _))
                clear hK K
                try simp only [Act.put, List.setIfInBounds_toArray, List.set_cons_zero, List.set_cons_succ]
                refine Take.take (i := 13) (oi := _) (t := 13) (v := ?v245) rfl (by kernel_rfl) (by kernel_rfl) (by kernel_rfl) (by kernel_rfl) (fun _ _ _ h => h) (by kernel_rfl) ?hy245 (by assumption) ?_
                case hy245 => (intro w hSw; (try dsimp only at hSw); go_simp; try with_reducible rfl)
                try simp only [Act.put, List.setIfInBounds_toArray, List.set_cons_zero, List.set_cons_succ]
                refine Take.take (i := 14) (oi := _) (t := 14) (v := ?v246) rfl (by kernel_rfl) (by kernel_rfl) (by kernel_rfl) (by kernel_rfl) (fun _ _ _ h => h) (by kernel_rfl) ?hy246 (by assumption) ?_
                case hy246 => (intro w hSw; (try dsimp only at hSw); go_simp; try with_reducible rfl)
                try simp only [Act.put, List.setIfInBounds_toArray, List.set_cons_zero, List.set_cons_succ]
                refine wpAnyH_done (by kernel_rfl) ?_ _
                refine NoPanic.normal ?_
                clear n0 n1 n2 n3
                obtain ⟨Y, hY⟩ : ∃ Y, (w4.setCell ⟨V.heap.size, 0, none⟩ (.slice a' S'.length cap')).setCell ⟨V.heap.size, 1, none⟩ (.int .i64 most) = Y := ⟨_, rfl⟩
                have bn : Blk Y V.heap.size 43 #[.slice a' S'.length cap', .int .i64 most] := by rw [← hY]; exact (bN.put 0 _).put 1 _
                have tY : TAt Y a' cap' S' := by rw [← hY]; exact TAt.set HT4.out bN _ _
                have bY : Below V.heap.size V Y := by rw [← hY]; exact bset HB4.out (Nat.le_refl _) _ _
                have hset := Lib.hid (set_box Hag1.out Hbox1.out bY tY)
                have hlow := Lib.hid (bset (HlV.out.trans (bY.mono HlV.out.size)) (show w.heap.size ≤ w2.heap.size by omega) (.slice a' S'.length cap') (.int .i64 most))
                have hbx := Hbox1.out.below bY Hbox1.out.lt
                have p0 := hbx.cell 0
                have p1 := hbx.cell 1
                have p2 := hbx.frozen 0
                have p3 := hbx.frozen 1
                have p4 := bn.cell 0
                have p5 := bn.cell 1
                simp at p0 p1 p4 p5
                clear bn tY bY hbx m0 m1 lc1
                go_wp2_with (rw [hY])
                go_meet
                exact Lib.hid ⟨no, S', a', cap', by omega, ⟨hset.out.1, hset.out.2.1, hset.out.2.2, Hst.out.rise HB.out.rise, Hst.out.low HB.out.low, by have := Hst.out.len; have := HB.out.len; omega⟩, hlow.out⟩
          · as_aux_lemma =>
              have F1w := Lib.hid (show w.cell? ⟨lb, off + i * 3 + 1, none⟩ = some (.int .i64 due) from (HL.out.cell (p := ⟨lb, _, none⟩) hlw).symm.trans f1)
              have HDr := Lib.hid (Agenda.I64.drain_any w.heap.size w.heap.size most no S due wr HB.out.ag HB.out.rise hS60)
              go_wp2_with fail
              refine HDr.out.mono ?_
              rintro e V ⟨v, xs, S1, rfl, own1, hd1, hr1, hlen1, hag1, hfr1⟩
              obtain ⟨A, c2, rfl⟩ : ∃ A c2, v = .slice A xs.length c2 := by
                rcases own1.2 with ⟨h1, h2⟩ | ⟨g, c, cur, h1, _⟩
                · exact ⟨none, 0, by rw [h1, h2]⟩
                · exact ⟨_, c, h1⟩
              have HD0 := Lib.hid (show Dr w.heap.size w.heap.size w2.heap.size most no due S1 xs A c2 0 S a cap V from ⟨hag1, hfr1.blk HB.out.box rfl, HB.out.row.fr hfr1 rfl, (⟨own1.1, own1.2.imp id (fun ⟨g, c, cur, h1, h2, h3⟩ => ⟨g, c, cur, h1, Nat.le_trans HL.out.size h2, h3⟩)⟩ : V.ownsRow w.heap.size 2 1 (.slice A xs.length c2) xs.length (xs.map (.int .i64))), by simpa using hd1, Nat.zero_le _, HB.out.rise, HB.out.low, HB.out.len⟩)
              have HL1 := Lib.hid (HL.out.trans (hfr1.toBelow HL.out.size))
              have hxs : xs.length ≤ 65536 := by omega
              clear own1 hd1 hr1 hlen1 hag1 hfr1 HDr g0 g1 f1 f2 HS HB HL hS60
              go_wp2_with fail
              go_loopw [16] (fun sk wd => ∃ (k : Nat) (Sk : List (Th Int)) (ak : Option Addr) (ck : Nat), sk = .int .i64 k ∧ k ≤ xs.length ∧ RowKit.Hid (Dr w.heap.size w.heap.size w2.heap.size most no due S1 xs A c2 k Sk ak ck wd) ∧ RowKit.Hid (Below w.heap.size w wd)) (fun sk _ => match sk with | .int _ k => xs.length + 1 - k.toNat | _ => 0)
              case atStart => exact ⟨0, S, a, cap, rfl, Nat.zero_le _, HD0, HL1⟩
              case round =>
                clear HD0 HL1
                obtain ⟨k, Sk, ak, ck, rfl, hk, HD, HLk⟩ := hrel
                have hSk : Sk.length ≤ 65536 := by have := HD.out.len; omega
                have HS7 := Lib.hid (fun (v : World) (hv : Below wr.heap.size wr v) => (show RowKit.Hid (Below wr.heap.size wr v) ∧ v.cell? ⟨w2.heap.size, 0, none⟩ = some (.slice ak Sk.length ck) ∧ v.cell? ⟨w2.heap.size, 1, none⟩ = some (.int .i64 most) ∧ v.cell? ⟨lb, off + i * 3 + 1, none⟩ = some (.int .i64 due) from ⟨Lib.hid hv, (HD.out.box.below hv HD.out.box.lt).cell 0, (HD.out.box.below hv HD.out.box.lt).cell 1, ((HLk.out.trans (hv.mono HLk.out.size)).cell (p := ⟨lb, _, none⟩) hlw).trans F1w.out⟩))
                have HRt := Lib.hid (fun (v : World) (hv : Below wr.heap.size wr v) => reftake_ex most ak ck Sk due v (HD.out.row.below hv) hSk)
                have g0 := HD.out.box.cell 0
                have g1 := HD.out.box.cell 1
                simp at g0 g1
                go_upto_region 7 with fail
                go_cut [17, 18, 19] (fun s17 s18 s19 V' => RowKit.Hid (∃ (n : Nat) (S' : List (Th Int)) (a' : Option Addr) (cap' : Nat) (x : Int) (was : Bool), s17 = .pointer (some ⟨n, 0, none⟩) ∧ s18 = .int .i64 x ∧ s19 = .bool was ∧ Blk V' n 43 #[.slice a' S'.length cap', .int .i64 most] ∧ TAt V' a' cap' S' ∧ Below wr.heap.size wr V' ∧ wr.heap.size ≤ n ∧ Step Sk due S' x was))
                case first =>
                  refine wp_region_noPanic ?_
                  refine wp_region_held_drew (S := fun w' => RowKit.Hid (Below wr.heap.size wr w') ∧ w'.cell? ⟨w2.heap.size, 0, none⟩ = some (.slice ak Sk.length ck) ∧ w'.cell? ⟨w2.heap.size, 1, none⟩ = some (.int .i64 most) ∧ w'.cell? ⟨lb, off + i * 3 + 1, none⟩ = some (.int .i64 due)) (by kernel_rfl) (HS7.out _ (Below.refl _ _).drew) (fun hHeld => ?_)
                  refine Take.take (i := 0) (oi := _) (t := 51) (v := ?v199) rfl (by kernel_rfl) (by kernel_rfl) (by kernel_rfl) (by kernel_rfl) (fun _ _ _ h => h) (by kernel_rfl) ?hy199 (by assumption) ?_
                  case hy199 => (intro w hSw; (try dsimp only at hSw); go_simp; try with_reducible rfl)
                  try simp only [Act.put, List.setIfInBounds_toArray, List.set_cons_zero, List.set_cons_succ]
                  refine Take.take (i := 1) (oi := _) (t := 52) (v := ?v200) rfl (by kernel_rfl) (by kernel_rfl) (by kernel_rfl) (by kernel_rfl) (fun _ _ _ h => h) (by kernel_rfl) ?hy200 (by assumption) ?_
                  case hy200 => (intro w hSw; (try dsimp only at hSw); go_simp; try with_reducible rfl)
                  try simp only [Act.put, List.setIfInBounds_toArray, List.set_cons_zero, List.set_cons_succ]
                  refine Take.take (i := 2) (oi := _) (t := 53) (v := ?v201) rfl (by kernel_rfl) (by kernel_rfl) (by kernel_rfl) (by kernel_rfl) (fun _ _ _ h => h) (by kernel_rfl) ?hy201 (by assumption) ?_
                  case hy201 => (intro w hSw; (try dsimp only at hSw); go_simp; try with_reducible rfl)
                  try simp only [Act.put, List.setIfInBounds_toArray, List.set_cons_zero, List.set_cons_succ]
                  refine Take.take (i := 3) (oi := _) (t := 54) (v := ?v202) rfl (by kernel_rfl) (by kernel_rfl) (by kernel_rfl) (by kernel_rfl) (fun _ _ _ h => h) (by kernel_rfl) ?hy202 (by assumption) ?_
                  case hy202 => (intro w hSw; (try dsimp only at hSw); go_simp; try with_reducible rfl)
                  try simp only [Act.put, List.setIfInBounds_toArray, List.set_cons_zero, List.set_cons_succ]
                  refine Take.take (i := 4) (oi := _) (t := 55) (v := ?v203) rfl (by kernel_rfl) (by kernel_rfl) (by kernel_rfl) (by kernel_rfl) (fun _ _ _ h => h) (by kernel_rfl) ?hy203 (by assumption) ?_
                  case hy203 => (intro w hSw; (try dsimp only at hSw); go_simp; try with_reducible rfl)
                  try simp only [Act.put, List.setIfInBounds_toArray, List.set_cons_zero, List.set_cons_succ]
                  refine Take.take (i := 5) (oi := _) (t := 56) (v := ?v204) rfl (by kernel_rfl) (by kernel_rfl) (by kernel_rfl) (by kernel_rfl) (fun _ _ _ h => h) (by kernel_rfl) ?hy204 (by assumption) ?_
                  case hy204 => (intro w hSw; (try dsimp only at hSw); go_simp; try with_reducible rfl)
                  try simp only [Act.put, List.setIfInBounds_toArray, List.set_cons_zero, List.set_cons_succ]
                  refine wpAnyH_ready (rs := [6, 11]) (by kernel_rfl) (by simp) ?_
                  refine AllReadyH.cons (o := _) rfl (fun K hK => ?_) (AllReadyH.cons (o := _) rfl (fun K hK => ?_) AllReadyH.nil)
                  · skip
                    go_simp
                    go_at_call 28
                    refine (HRt.out (_) (by first | exact (Below.refl _ wr).drew | exact ((Below.refl _ wr).drew).alloc (Nat.le_refl _) _)).mono ?_
                    rintro e w4 ⟨S', a', cap', x, was, rfl, hT4, b4, hst⟩
                    have HB4 : RowKit.Hid (Below wr.heap.size wr w4) := Lib.hid (by first | exact ((Below.refl _ wr).drew).trans b4 | exact (((Below.refl _ wr).drew).alloc (Nat.le_refl _) _).trans (b4.mono (((Below.refl _ wr).drew).alloc (Nat.le_refl _) _).size))
                    have HT4 := Lib.hid hT4
                    have B4 := Lib.hid b4
                    have Hst := Lib.hid hst
                    clear hT4 hst b4
                    try dsimp only
                    refine hK.out _ _ ?hS205 (fun hHeld => ?_)
                    case hS205 => (refine HS7.out _ ?_; repeat (first | exact Below.refl _ _ | exact HB4.out | refine Below.drew ?_ | exact (Below.refl _ wr).alloc (Nat.le_refl _) _ | exact ((Below.refl _ wr).drew).alloc (Nat.le_refl _) _ | exact HB4.out.alloc HB4.out.size _ | refine bset ?_ (by first | exact Nat.le_refl _ | exact HB4.out.size) _ _))
                    clear hK K
                    try simp only [Act.put, List.setIfInBounds_toArray, List.set_cons_zero, List.set_cons_succ]
                    refine Take.take (i := 7) (oi := _) (t := 50) (v := ?v206) rfl (by kernel_rfl) (by kernel_rfl) (by kernel_rfl) (by kernel_rfl) (fun _ _ _ h => h) (by kernel_rfl) ?hy206 (by assumption) ?_
                    case hy206 => (intro w hSw; (try dsimp only at hSw); go_simp; try with_reducible rfl)
                    try simp only [Act.put, List.setIfInBounds_toArray, List.set_cons_zero, List.set_cons_succ]
                    refine Take.take (i := 8) (oi := _) (t := 58) (v := ?v207) rfl (by kernel_rfl) (by kernel_rfl) (by kernel_rfl) (by kernel_rfl) (fun _ _ _ h => h) (by kernel_rfl) ?hy207 (by assumption) ?_
                    case hy207 => (intro w hSw; (try dsimp only at hSw); go_simp; try with_reducible rfl)
                    try simp only [Act.put, List.setIfInBounds_toArray, List.set_cons_zero, List.set_cons_succ]
                    refine Take.take (i := 9) (oi := _) (t := 59) (v := ?v208) rfl (by kernel_rfl) (by kernel_rfl) (by kernel_rfl) (by kernel_rfl) (fun _ _ _ h => h) (by kernel_rfl) ?hy208 (by assumption) ?_
                    case hy208 => (intro w hSw; (try dsimp only at hSw); go_simp; try with_reducible rfl)
                    try simp only [Act.put, List.setIfInBounds_toArray, List.set_cons_zero, List.set_cons_succ]
                    refine Take.take (i := 10) (oi := _) (t := 60) (v := ?v209) rfl (by kernel_rfl) (by kernel_rfl) (by kernel_rfl) (by kernel_rfl) (fun _ _ _ h => h) (by kernel_rfl) ?hy209 (by assumption) ?_
                    case hy209 => (intro w hSw; (try dsimp only at hSw); go_simp; try with_reducible rfl)
                    try simp only [Act.put, List.setIfInBounds_toArray, List.set_cons_zero, List.set_cons_succ]
                    refine wpAnyH_ready (rs := [11]) (by kernel_rfl) (by simp) ?_
                    refine AllReadyH.cons (o := _) rfl (fun K hK => ?_) AllReadyH.nil
                    go_simp
                    refine hK.out _ _ ?hS210 (fun hHeld => ?_)
                    case hS210 => (refine HS7.out _ ?_; repeat (first | exact Below.refl _ _ | exact HB4.out | refine Below.drew ?_ | exact (Below.refl _ wr).alloc (Nat.le_refl _) _ | exact ((Below.refl _ wr).drew).alloc (Nat.le_refl _) _ | exact HB4.out.alloc HB4.out.size _ | refine bset ?_ (by first | exact Nat.le_refl _ | exact HB4.out.size) _ _))
                    clear hK K
                    try simp only [Act.put, List.setIfInBounds_toArray, List.set_cons_zero, List.set_cons_succ]
                    refine wpAnyH_ready (rs := [12]) (by kernel_rfl) (by simp) ?_
                    refine AllReadyH.cons (o := _) rfl (fun K hK => ?_) AllReadyH.nil
                    go_simp
                    refine hK.out _ _ ?hS211 (fun hHeld => ?_)
                    case hS211 => (refine HS7.out _ ?_; repeat (first | exact Below.refl _ _ | exact HB4.out | refine Below.drew ?_ | exact (Below.refl _ wr).alloc (Nat.le_refl _) _ | exact ((Below.refl _ wr).drew).alloc (Nat.le_refl _) _ | exact HB4.out.alloc HB4.out.size _ | refine bset ?_ (by first | exact Nat.le_refl _ | exact HB4.out.size) _ _))
                    clear hK K
                    try simp only [Act.put, List.setIfInBounds_toArray, List.set_cons_zero, List.set_cons_succ]
                    refine Take.take (i := 13) (oi := _) (t := 18) (v := ?v212) rfl (by kernel_rfl) (by kernel_rfl) (by kernel_rfl) (by kernel_rfl) (fun _ _ _ h => h) (by kernel_rfl) ?hy212 (by assumption) ?_
                    case hy212 => (intro w hSw; (try dsimp only at hSw); go_simp; try with_reducible rfl)
                    try simp only [Act.put, List.setIfInBounds_toArray, List.set_cons_zero, List.set_cons_succ]
                    refine Take.take (i := 14) (oi := _) (t := 19) (v := ?v213) rfl (by kernel_rfl) (by kernel_rfl) (by kernel_rfl) (by kernel_rfl) (fun _ _ _ h => h) (by kernel_rfl) ?hy213 (by assumption) ?_
                    case hy213 => (intro w hSw; (try dsimp only at hSw); go_simp; try with_reducible rfl)
                    try simp only [Act.put, List.setIfInBounds_toArray, List.set_cons_zero, List.set_cons_succ]
                    refine wpAnyH_done (by kernel_rfl) ?_ _
                    refine NoPanic.normal ?_
                    go_wp2_with fail
                    go_meet
                    exact Lib.hid ⟨w4.heap.size, S', a', cap', x, was, rfl, rfl, rfl, Blk.new w4 _ _, HT4.out.below ((Below.refl _ w4).alloc (Nat.le_refl _) _), HB4.out.alloc HB4.out.size _, by first | exact Nat.le_refl _ | exact HB4.out.size, Hst.out⟩
                  · skip
                    go_simp
                    refine hK.out _ _ ?hS214 (fun hHeld => ?_)
                    case hS214 => (refine HS7.out _ ?_; repeat (first | exact Below.refl _ _ | exact HB4.out | refine Below.drew ?_ | exact (Below.refl _ wr).alloc (Nat.le_refl _) _ | exact ((Below.refl _ wr).drew).alloc (Nat.le_refl _) _ | exact HB4.out.alloc HB4.out.size _ | refine bset ?_ (by first | exact Nat.le_refl _ | exact HB4.out.size) _ _))
                    clear hK K
                    try simp only [Act.put, List.setIfInBounds_toArray, List.set_cons_zero, List.set_cons_succ]
                    refine wpAnyH_ready (rs := [6]) (by kernel_rfl) (by simp) ?_
                    refine AllReadyH.cons (o := _) rfl (fun K hK => ?_) AllReadyH.nil
                    go_simp
                    go_at_call 28
                    refine (HRt.out (_) (by first | exact (Below.refl _ wr).drew | exact ((Below.refl _ wr).drew).alloc (Nat.le_refl _) _)).mono ?_
                    rintro e w4 ⟨S', a', cap', x, was, rfl, hT4, b4, hst⟩
                    have HB4 : RowKit.Hid (Below wr.heap.size wr w4) := Lib.hid (by first | exact ((Below.refl _ wr).drew).trans b4 | exact (((Below.refl _ wr).drew).alloc (Nat.le_refl _) _).trans (b4.mono (((Below.refl _ wr).drew).alloc (Nat.le_refl _) _).size))
                    have HT4 := Lib.hid hT4
                    have B4 := Lib.hid b4
                    have Hst := Lib.hid hst
                    clear hT4 hst b4
                    try dsimp only
                    refine hK.out _ _ ?hS215 (fun hHeld => ?_)
                    case hS215 => (refine HS7.out _ ?_; repeat (first | exact Below.refl _ _ | exact HB4.out | refine Below.drew ?_ | exact (Below.refl _ wr).alloc (Nat.le_refl _) _ | exact ((Below.refl _ wr).drew).alloc (Nat.le_refl _) _ | exact HB4.out.alloc HB4.out.size _ | refine bset ?_ (by first | exact Nat.le_refl _ | exact HB4.out.size) _ _))
                    clear hK K
                    try simp only [Act.put, List.setIfInBounds_toArray, List.set_cons_zero, List.set_cons_succ]
                    refine Take.take (i := 7) (oi := _) (t := 50) (v := ?v216) rfl (by kernel_rfl) (by kernel_rfl) (by kernel_rfl) (by kernel_rfl) (fun _ _ _ h => h) (by kernel_rfl) ?hy216 (by assumption) ?_
                    case hy216 => (intro w hSw; (try dsimp only at hSw); go_simp; try with_reducible rfl)
                    try simp only [Act.put, List.setIfInBounds_toArray, List.set_cons_zero, List.set_cons_succ]
                    refine Take.take (i := 8) (oi := _) (t := 58) (v := ?v217) rfl (by kernel_rfl) (by kernel_rfl) (by kernel_rfl) (by kernel_rfl) (fun _ _ _ h => h) (by kernel_rfl) ?hy217 (by assumption) ?_
                    case hy217 => (intro w hSw; (try dsimp only at hSw); go_simp; try with_reducible rfl)
                    try simp only [Act.put, List.setIfInBounds_toArray, List.set_cons_zero, List.set_cons_succ]
                    refine Take.take (i := 9) (oi := _) (t := 59) (v := ?v218) rfl (by kernel_rfl) (by kernel_rfl) (by kernel_rfl) (by kernel_rfl) (fun _ _ _ h => h) (by kernel_rfl) ?hy218 (by assumption) ?_
                    case hy218 => (intro w hSw; (try dsimp only at hSw); go_simp; try with_reducible rfl)
                    try simp only [Act.put, List.setIfInBounds_toArray, List.set_cons_zero, List.set_cons_succ]
                    refine Take.take (i := 10) (oi := _) (t := 60) (v := ?v219) rfl (by kernel_rfl) (by kernel_rfl) (by kernel_rfl) (by kernel_rfl) (fun _ _ _ h => h) (by kernel_rfl) ?hy219 (by assumption) ?_
                    case hy219 => (intro w hSw; (try dsimp only at hSw); go_simp; try with_reducible rfl)
                    try simp only [Act.put, List.setIfInBounds_toArray, List.set_cons_zero, List.set_cons_succ]
                    have bN : Blk w4 wr.heap.size 43 #[.slice none 0 0, .int .i64 0] := (show Blk (wr.drew.alloc _) wr.heap.size _ _ from Blk.new wr _ _).below B4.out (Blk.new wr.drew _ _).lt
                    have n0 := bN.cell 0
                    have n1 := bN.cell 1
                    have n2 := bN.frozen 0
                    have n3 := bN.frozen 1
                    simp at n0 n1
                    refine wpAnyH_ready (rs := [12]) (by kernel_rfl) (by simp) ?_
                    refine AllReadyH.cons (o := _) rfl (fun K hK => ?_) AllReadyH.nil
                    go_simp
                    refine hK.out _ _ ?hS220 (fun hHeld => ?_)
                    case hS220 => (refine HS7.out _ ?_; repeat (first | exact Below.refl _ _ | exact HB4.out | refine Below.drew ?_ | exact (Below.refl _ wr).alloc (Nat.le_refl _) _ | exact ((Below.refl _ wr).drew).alloc (Nat.le_refl _) _ | exact HB4.out.alloc HB4.out.size _ | refine bset ?_ (by first | exact Nat.le_refl _ | exact HB4.out.size) _ _))
                    clear hK K
                    try simp only [Act.put, List.setIfInBounds_toArray, List.set_cons_zero, List.set_cons_succ]
                    refine Take.take (i := 13) (oi := _) (t := 18) (v := ?v221) rfl (by kernel_rfl) (by kernel_rfl) (by kernel_rfl) (by kernel_rfl) (fun _ _ _ h => h) (by kernel_rfl) ?hy221 (by assumption) ?_
                    case hy221 => (intro w hSw; (try dsimp only at hSw); go_simp; try with_reducible rfl)
                    try simp only [Act.put, List.setIfInBounds_toArray, List.set_cons_zero, List.set_cons_succ]
                    refine Take.take (i := 14) (oi := _) (t := 19) (v := ?v222) rfl (by kernel_rfl) (by kernel_rfl) (by kernel_rfl) (by kernel_rfl) (fun _ _ _ h => h) (by kernel_rfl) ?hy222 (by assumption) ?_
                    case hy222 => (intro w hSw; (try dsimp only at hSw); go_simp; try with_reducible rfl)
                    try simp only [Act.put, List.setIfInBounds_toArray, List.set_cons_zero, List.set_cons_succ]
                    refine wpAnyH_done (by kernel_rfl) ?_ _
                    refine NoPanic.normal ?_
                    clear n0 n1 n2 n3
                    go_wp2_with fail
                    go_meet
                    exact Lib.hid ⟨wr.heap.size, S', a', cap', x, was, rfl, rfl, rfl, (bN.put 0 _).put 1 _, TAt.set HT4.out bN _ _, bset HB4.out (Nat.le_refl _) _ _, by first | exact Nat.le_refl _ | exact HB4.out.size, Hst.out⟩
                case rest =>
                  obtain ⟨n, S', a', cap', x, was, rfl, rfl, rfl, bn, tY, bY, hn, hst⟩ := hcut.out
                  clear HS7 HRt g0 g1
                  rcases id hst with ⟨rfl, rfl, rfl, hl⟩ | ⟨rfl, i9, t9, hf, hd9, e9, rfl⟩
                  · obtain ⟨rfl, rfl⟩ := HD.out.stop hl
                    have HBf := Lib.hid (HD.out.both bY)
                    have HLf := Lib.hid (HLk.out.trans (bY.mono HLk.out.size))
                    clear bn tY bY hn hst hl hcut
                    go_wp2_with fail
                    go_meet
                    exact Lib.hid ⟨no, _, _, _, by omega, HBf.out, HLf.out⟩
                  · obtain ⟨hk2, hx, hdr⟩ := HD.out.take hf hd9
                    rw [← e9] at hdr
                    have hD2 := HD.out.set bY tY hk2 hst hdr
                    have hbx := HD.out.box.below bY HD.out.box.lt
                    have hL2 := bset (HLk.out.trans (bY.mono HLk.out.size)) (show w.heap.size ≤ w2.heap.size by omega) (.slice a' S'.length cap') (.int .i64 most)
                    have p0 := hbx.cell 0
                    have p1 := hbx.cell 1
                    have p2 := hbx.frozen 0
                    have p3 := hbx.frozen 1
                    have p4 := bn.cell 0
                    have p5 := bn.cell 1
                    simp at p0 p1 p4 p5
                    obtain ⟨Z, hZ⟩ : ∃ Z, (wc.setCell ⟨w2.heap.size, 0, none⟩ (.slice a' S'.length cap')).setCell ⟨w2.heap.size, 1, none⟩ (.int .i64 most) = Z := ⟨_, rfl⟩
                    rw [hZ] at hD2 hL2
                    obtain ⟨g, rfl, gc⟩ := hD2.cell hk2 hx
                    have HD2 := Lib.hid hD2
                    have HL2 := Lib.hid hL2
                    have j1 : (0 : Int) ≤ (k : Int) := by omega
                    have j2 : (k : Int) < (xs.length : Int) := by omega
                    have e2 : IntKind.i64.wrap ((k : Int) + 1) = (k : Int) + 1 := IntWalk.i64_in _ (by omega)
                    clear bn tY bY hn hst hf hd9 e9 hcut hdr hx hbx hD2 hL2
                    go_wp2_with (rw [hZ])
                    go_roundw
                    case rel => exact ⟨k + 1, S', a', cap', by go_num, by omega, HD2, HL2⟩
                    case measure => simp; omega
          by_cases hfull : most ≤ (S.length : Int)
          · have HRf := Lib.hid (refadd_full most a cap S due xv wr.drew hfull)
            rcases hq4 with rfl | rfl
            · as_aux_lemma =>
                go_wp2_with fail
                refine wp_region_noPanic ?_
                refine wp_region_held_drew (S := fun w' => RowKit.Hid (Off (fun j => j = w2.heap.size) wr w') ∧ w'.cell? ⟨lb, off + i * 3 + 1, none⟩ = some (.int .i64 due) ∧ w'.cell? ⟨lb, off + i * 3 + 2, none⟩ = some (.int .i64 xv)) (by kernel_rfl) (HS.out _ (Off.drew (Off.refl _ _))) (fun hHeld => ?_)
                refine Take.take (i := 1) (oi := _) (t := 87) (v := ?v1) rfl (by kernel_rfl) (by kernel_rfl) (by kernel_rfl) (by kernel_rfl) (fun _ _ _ h => h) (by kernel_rfl) ?hy1 (by assumption) ?_
                case hy1 => (intro w hSw; (try dsimp only at hSw); go_simp; try with_reducible rfl)
                try simp only [Act.put, List.setIfInBounds_toArray, List.set_cons_zero, List.set_cons_succ]
                refine Take.take (i := 2) (oi := _) (t := 88) (v := ?v2) rfl (by kernel_rfl) (by kernel_rfl) (by kernel_rfl) (by kernel_rfl) (fun _ _ _ h => h) (by kernel_rfl) ?hy2 (by assumption) ?_
                case hy2 => (intro w hSw; (try dsimp only at hSw); go_simp; try with_reducible rfl)
                try simp only [Act.put, List.setIfInBounds_toArray, List.set_cons_zero, List.set_cons_succ]
                refine Take.take (i := 3) (oi := _) (t := 89) (v := ?v3) rfl (by kernel_rfl) (by kernel_rfl) (by kernel_rfl) (by kernel_rfl) (fun _ _ _ h => h) (by kernel_rfl) ?hy3 (by assumption) ?_
                case hy3 => (intro w hSw; (try dsimp only at hSw); go_simp; try with_reducible rfl)
                try simp only [Act.put, List.setIfInBounds_toArray, List.set_cons_zero, List.set_cons_succ]
                refine Take.take (i := 4) (oi := _) (t := 90) (v := ?v4) rfl (by kernel_rfl) (by kernel_rfl) (by kernel_rfl) (by kernel_rfl) (fun _ _ _ h => h) (by kernel_rfl) ?hy4 (by assumption) ?_
                case hy4 => (intro w hSw; (try dsimp only at hSw); go_simp; try with_reducible rfl)
                try simp only [Act.put, List.setIfInBounds_toArray, List.set_cons_zero, List.set_cons_succ]
                refine Take.take (i := 5) (oi := _) (t := 91) (v := ?v5) rfl (by kernel_rfl) (by kernel_rfl) (by kernel_rfl) (by kernel_rfl) (fun _ _ _ h => h) (by kernel_rfl) ?hy5 (by assumption) ?_
                case hy5 => (intro w hSw; (try dsimp only at hSw); go_simp; try with_reducible rfl)
                try simp only [Act.put, List.setIfInBounds_toArray, List.set_cons_zero, List.set_cons_succ]
                refine Take.take (i := 6) (oi := _) (t := 92) (v := ?v6) rfl (by kernel_rfl) (by kernel_rfl) (by kernel_rfl) (by kernel_rfl) (fun _ _ _ h => h) (by kernel_rfl) ?hy6 (by assumption) ?_
                case hy6 => (intro w hSw; (try dsimp only at hSw); go_simp; try with_reducible rfl)
                try simp only [Act.put, List.setIfInBounds_toArray, List.set_cons_zero, List.set_cons_succ]
                refine Take.take (i := 7) (oi := _) (t := 93) (v := ?v7) rfl (by kernel_rfl) (by kernel_rfl) (by kernel_rfl) (by kernel_rfl) (fun _ _ _ h => h) (by kernel_rfl) ?hy7 (by assumption) ?_
                case hy7 => (intro w hSw; (try dsimp only at hSw); go_simp; try with_reducible rfl)
                try simp only [Act.put, List.setIfInBounds_toArray, List.set_cons_zero, List.set_cons_succ]
                refine Take.take (i := 8) (oi := _) (t := 94) (v := ?v8) rfl (by kernel_rfl) (by kernel_rfl) (by kernel_rfl) (by kernel_rfl) (fun _ _ _ h => h) (by kernel_rfl) ?hy8 (by assumption) ?_
                case hy8 => (intro w hSw; (try dsimp only at hSw); go_simp; try with_reducible rfl)
                try simp only [Act.put, List.setIfInBounds_toArray, List.set_cons_zero, List.set_cons_succ]
                refine Take.take (i := 9) (oi := _) (t := 95) (v := ?v9) rfl (by kernel_rfl) (by kernel_rfl) (by kernel_rfl) (by kernel_rfl) (fun _ _ _ h => h) (by kernel_rfl) ?hy9 (by assumption) ?_
                case hy9 => (intro w hSw; (try dsimp only at hSw); go_simp; try with_reducible rfl)
                try simp only [Act.put, List.setIfInBounds_toArray, List.set_cons_zero, List.set_cons_succ]
                refine Take.take (i := 10) (oi := _) (t := 96) (v := ?v10) rfl (by kernel_rfl) (by kernel_rfl) (by kernel_rfl) (by kernel_rfl) (fun _ _ _ h => h) (by kernel_rfl) ?hy10 (by assumption) ?_
                case hy10 => (intro w hSw; (try dsimp only at hSw); go_simp; try with_reducible rfl)
                try simp only [Act.put, List.setIfInBounds_toArray, List.set_cons_zero, List.set_cons_succ]
                refine wpAnyH_ready (rs := [0]) (by kernel_rfl) (by simp) ?_
                refine AllReadyH.cons (o := _) rfl (fun K hK => ?_) AllReadyH.nil
                go_simp
                refine hK.out _ _ ?hS11 (fun hHeld => ?_)
                case hS11 => (refine HS.out _ ?_; repeat (first | exact Off.refl _ _ | exact HO4.out | refine Off.drew ?_ | refine offp ?_ _ _))
                clear hK K
                try simp only [Act.put, List.setIfInBounds_toArray, List.set_cons_zero, List.set_cons_succ]
                refine wpAnyH_ready (rs := [11]) (by kernel_rfl) (by simp) ?_
                refine AllReadyH.cons (o := _) rfl (fun K hK => ?_) AllReadyH.nil
                go_simp
                go_at_call 26
                refine HRf.out.mono ?_
                rintro e w4 ⟨rfl, b4⟩
                have HO4 : RowKit.Hid (Off (fun j => j = w2.heap.size) wr w4) := Lib.hid (Off.trans (Off.drew (Off.refl _ _)) (Off.of_below b4 (fun k h1 h2 => absurd h1 (Nat.not_lt.2 h2))))
                try dsimp only
                refine hK.out _ _ ?hS12 (fun hHeld => ?_)
                case hS12 => (refine HS.out _ ?_; repeat (first | exact Off.refl _ _ | exact HO4.out | refine Off.drew ?_ | refine offp ?_ _ _))
                clear hK K
                try simp only [Act.put, List.setIfInBounds_toArray, List.set_cons_zero, List.set_cons_succ]
                refine Take.take (i := 12) (oi := _) (t := 85) (v := ?v13) rfl (by kernel_rfl) (by kernel_rfl) (by kernel_rfl) (by kernel_rfl) (fun _ _ _ h => h) (by kernel_rfl) ?hy13 (by assumption) ?_
                case hy13 => (intro w hSw; (try dsimp only at hSw); go_simp; try with_reducible rfl)
                try simp only [Act.put, List.setIfInBounds_toArray, List.set_cons_zero, List.set_cons_succ]
                refine Take.take (i := 13) (oi := _) (t := 98) (v := ?v14) rfl (by kernel_rfl) (by kernel_rfl) (by kernel_rfl) (by kernel_rfl) (fun _ _ _ h => h) (by kernel_rfl) ?hy14 (by assumption) ?_
                case hy14 => (intro w hSw; (try dsimp only at hSw); go_simp; try with_reducible rfl)
                try simp only [Act.put, List.setIfInBounds_toArray, List.set_cons_zero, List.set_cons_succ]
                refine Take.take (i := 14) (oi := _) (t := 99) (v := ?v15) rfl (by kernel_rfl) (by kernel_rfl) (by kernel_rfl) (by kernel_rfl) (fun _ _ _ h => h) (by kernel_rfl) ?hy15 (by assumption) ?_
                case hy15 => (intro w hSw; (try dsimp only at hSw); go_simp; try with_reducible rfl)
                try simp only [Act.put, List.setIfInBounds_toArray, List.set_cons_zero, List.set_cons_succ]
                have hbx : Blk w4 w2.heap.size 43 #[.slice a S.length cap, .int .i64 most] := (blk_drew HB.out.box).below b4 HB.out.box.lt
                have g0 := hbx.cell 0
                have g1 := hbx.cell 1
                have g2 := hbx.frozen 0
                have g3 := hbx.frozen 1
                simp at g0 g1
                refine wpAnyH_ready (rs := [15]) (by kernel_rfl) (by simp) ?_
                refine AllReadyH.cons (o := _) rfl (fun K hK => ?_) AllReadyH.nil
                go_simp
                refine hK.out _ _ ?hS16 (fun hHeld => ?_)
                case hS16 => (refine HS.out _ ?_; repeat (first | exact Off.refl _ _ | exact HO4.out | refine Off.drew ?_ | refine offp ?_ _ _))
                clear hK K
                try simp only [Act.put, List.setIfInBounds_toArray, List.set_cons_zero, List.set_cons_succ]
                refine Take.take (i := 16) (oi := _) (t := 8) (v := ?v17) rfl (by kernel_rfl) (by kernel_rfl) (by kernel_rfl) (by kernel_rfl) (fun _ _ _ h => h) (by kernel_rfl) ?hy17 (by assumption) ?_
                case hy17 => (intro w hSw; (try dsimp only at hSw); go_simp; try with_reducible rfl)
                try simp only [Act.put, List.setIfInBounds_toArray, List.set_cons_zero, List.set_cons_succ]
                refine wpAnyH_done (by kernel_rfl) ?_ _
                refine NoPanic.normal ?_
                have b4' : Below wr.heap.size wr w4 := ((Below.refl _ wr).drew).trans b4
                have hT4 : TAt w4 a cap S := HB.out.row.below b4'
                have hset := HB.out.set b4' hT4
                go_wp2_with fail
                obtain ⟨V, hV⟩ : ∃ V, (w4.setCell ⟨w2.heap.size, 0, none⟩ (.slice a S.length cap)).setCell ⟨w2.heap.size, 1, none⟩ (.int .i64 most) = V := ⟨_, rfl⟩
                have oV : Off (fun j => j = w2.heap.size) wr V := by rw [← hV]; exact offp (offp HO4.out _ _) _ _
                have lV : Below w.heap.size w V := by rw [← hV]; exact ((HL.out.trans (b4'.mono HL.out.size)).setCell (p := ⟨w2.heap.size, 0, none⟩) (by show w.heap.size ≤ w2.heap.size; omega) _).setCell (p := ⟨w2.heap.size, 1, none⟩) (by show w.heap.size ≤ w2.heap.size; omega) _
                rw [hV] at hset
                rw [hV]
                clear hV g0 g1 g2 g3 hbx
                obtain ⟨ag5, box5, row5⟩ := hset
                have sV : wr.heap.size ≤ V.heap.size := oV.size
                have hVc : V.drew.cell? ⟨lb, off + i * 3 + 1, none⟩ = some (.int .i64 due) ∧ V.drew.cell? ⟨lb, off + i * 3 + 2, none⟩ = some (.int .i64 xv) := ⟨(oV.cell (p := ⟨lb, _, none⟩) hlb (by show ¬ lb = w2.heap.size; omega)).trans f1, (oV.cell (p := ⟨lb, _, none⟩) hlb (by show ¬ lb = w2.heap.size; omega)).trans f2⟩
                have HAd := Lib.hid (Agenda.I64.add_full w.heap.size w.heap.size most no S due xv V.drew (ag5.off (Off.refl _ V).drew) hS60 hfull)
                have Hbox5 := Lib.hid box5
                have Hrow5 := Lib.hid row5
                have HlV := Lib.hid lV
                have Hag4 := Lib.hid ag5
                clear ag5 box5 row5 lV
                refine wp_region_noPanic ?_
                refine wp_region_held_drew (S := fun w' => w'.cell? ⟨lb, off + i * 3 + 1, none⟩ = some (.int .i64 due) ∧ w'.cell? ⟨lb, off + i * 3 + 2, none⟩ = some (.int .i64 xv)) (by kernel_rfl) hVc (fun hHeld => ?_)
                refine Take.take (i := 0) (oi := _) (t := 100) (v := ?v18) rfl (by kernel_rfl) (by kernel_rfl) (by kernel_rfl) (by kernel_rfl) (fun _ _ _ h => h) (by kernel_rfl) ?hy18 (by assumption) ?_
                case hy18 => (intro w hSw; (try dsimp only at hSw); go_simp; try with_reducible rfl)
                try simp only [Act.put, List.setIfInBounds_toArray, List.set_cons_zero, List.set_cons_succ]
                refine Take.take (i := 1) (oi := _) (t := 101) (v := ?v19) rfl (by kernel_rfl) (by kernel_rfl) (by kernel_rfl) (by kernel_rfl) (fun _ _ _ h => h) (by kernel_rfl) ?hy19 (by assumption) ?_
                case hy19 => (intro w hSw; (try dsimp only at hSw); go_simp; try with_reducible rfl)
                try simp only [Act.put, List.setIfInBounds_toArray, List.set_cons_zero, List.set_cons_succ]
                refine Take.take (i := 2) (oi := _) (t := 102) (v := ?v20) rfl (by kernel_rfl) (by kernel_rfl) (by kernel_rfl) (by kernel_rfl) (fun _ _ _ h => h) (by kernel_rfl) ?hy20 (by assumption) ?_
                case hy20 => (intro w hSw; (try dsimp only at hSw); go_simp; try with_reducible rfl)
                try simp only [Act.put, List.setIfInBounds_toArray, List.set_cons_zero, List.set_cons_succ]
                refine Take.take (i := 3) (oi := _) (t := 103) (v := ?v21) rfl (by kernel_rfl) (by kernel_rfl) (by kernel_rfl) (by kernel_rfl) (fun _ _ _ h => h) (by kernel_rfl) ?hy21 (by assumption) ?_
                case hy21 => (intro w hSw; (try dsimp only at hSw); go_simp; try with_reducible rfl)
                try simp only [Act.put, List.setIfInBounds_toArray, List.set_cons_zero, List.set_cons_succ]
                refine Take.take (i := 4) (oi := _) (t := 104) (v := ?v22) rfl (by kernel_rfl) (by kernel_rfl) (by kernel_rfl) (by kernel_rfl) (fun _ _ _ h => h) (by kernel_rfl) ?hy22 (by assumption) ?_
                case hy22 => (intro w hSw; (try dsimp only at hSw); go_simp; try with_reducible rfl)
                try simp only [Act.put, List.setIfInBounds_toArray, List.set_cons_zero, List.set_cons_succ]
                refine Take.take (i := 5) (oi := _) (t := 105) (v := ?v23) rfl (by kernel_rfl) (by kernel_rfl) (by kernel_rfl) (by kernel_rfl) (fun _ _ _ h => h) (by kernel_rfl) ?hy23 (by assumption) ?_
                case hy23 => (intro w hSw; (try dsimp only at hSw); go_simp; try with_reducible rfl)
                try simp only [Act.put, List.setIfInBounds_toArray, List.set_cons_zero, List.set_cons_succ]
                refine Take.take (i := 6) (oi := _) (t := 106) (v := ?v24) rfl (by kernel_rfl) (by kernel_rfl) (by kernel_rfl) (by kernel_rfl) (fun _ _ _ h => h) (by kernel_rfl) ?hy24 (by assumption) ?_
                case hy24 => (intro w hSw; (try dsimp only at hSw); go_simp; try with_reducible rfl)
                try simp only [Act.put, List.setIfInBounds_toArray, List.set_cons_zero, List.set_cons_succ]
                refine Take.take (i := 7) (oi := _) (t := 107) (v := ?v25) rfl (by kernel_rfl) (by kernel_rfl) (by kernel_rfl) (by kernel_rfl) (fun _ _ _ h => h) (by kernel_rfl) ?hy25 (by assumption) ?_
                case hy25 => (intro w hSw; (try dsimp only at hSw); go_simp; try with_reducible rfl)
                try simp only [Act.put, List.setIfInBounds_toArray, List.set_cons_zero, List.set_cons_succ]
                refine Take.take (i := 8) (oi := _) (t := 108) (v := ?v26) rfl (by kernel_rfl) (by kernel_rfl) (by kernel_rfl) (by kernel_rfl) (fun _ _ _ h => h) (by kernel_rfl) ?hy26 (by assumption) ?_
                case hy26 => (intro w hSw; (try dsimp only at hSw); go_simp; try with_reducible rfl)
                try simp only [Act.put, List.setIfInBounds_toArray, List.set_cons_zero, List.set_cons_succ]
                refine Take.take (i := 9) (oi := _) (t := 109) (v := ?v27) rfl (by kernel_rfl) (by kernel_rfl) (by kernel_rfl) (by kernel_rfl) (fun _ _ _ h => h) (by kernel_rfl) ?hy27 (by assumption) ?_
                case hy27 => (intro w hSw; (try dsimp only at hSw); go_simp; try with_reducible rfl)
                try simp only [Act.put, List.setIfInBounds_toArray, List.set_cons_zero, List.set_cons_succ]
                refine Take.take (i := 10) (oi := _) (t := 110) (v := ?v28) rfl (by kernel_rfl) (by kernel_rfl) (by kernel_rfl) (by kernel_rfl) (fun _ _ _ h => h) (by kernel_rfl) ?hy28 (by assumption) ?_
                case hy28 => (intro w hSw; (try dsimp only at hSw); go_simp; try with_reducible rfl)
                try simp only [Act.put, List.setIfInBounds_toArray, List.set_cons_zero, List.set_cons_succ]
                refine wpAnyH_ready (rs := [11]) (by kernel_rfl) (by simp) ?_
                refine AllReadyH.cons (o := _) rfl (fun K hK => ?_) AllReadyH.nil
                go_simp
                go_at_call 21
                refine HAd.out.mono ?_
                rintro e w5 ⟨rfl, nn, rfl⟩
                have HK19 : (V.drew.drewN nn).cell? ⟨lb, off + i * 3 + 1, none⟩ = some (.int .i64 due) ∧ (V.drew.drewN nn).cell? ⟨lb, off + i * 3 + 2, none⟩ = some (.int .i64 xv) := hVc
                try dsimp only
                refine hK.out _ _ ?hS29 (fun hHeld => ?_)
                case hS29 => (first | assumption | exact HK19)
                clear hK K
                try simp only [Act.put, List.setIfInBounds_toArray, List.set_cons_zero, List.set_cons_succ]
                refine Take.take (i := 12) (oi := _) (t := 9) (v := ?v30) rfl (by kernel_rfl) (by kernel_rfl) (by kernel_rfl) (by kernel_rfl) (fun _ _ _ h => h) (by kernel_rfl) ?hy30 (by assumption) ?_
                case hy30 => (intro w hSw; (try dsimp only at hSw); go_simp; try with_reducible rfl)
                try simp only [Act.put, List.setIfInBounds_toArray, List.set_cons_zero, List.set_cons_succ]
                refine wpAnyH_done (by kernel_rfl) ?_ _
                refine NoPanic.normal ?_
                go_wp2_with fail
                go_meet
                have hd5 := Hag4.out
                exact Lib.hid ⟨no, S, a, cap, by omega, ⟨hd5.off ((Off.refl _ V).drewN _), Hbox5.out, Hrow5.out.below (bdN (Below.refl _ V) _), HB.out.rise, HB.out.low, HB.out.len⟩, bdN HlV.out _⟩
            · as_aux_lemma =>
                go_wp2_with fail
                refine wp_region_noPanic ?_
                refine wp_region_held_drew (S := fun w' => RowKit.Hid (Off (fun j => j = w2.heap.size) wr w') ∧ w'.cell? ⟨lb, off + i * 3 + 1, none⟩ = some (.int .i64 due) ∧ w'.cell? ⟨lb, off + i * 3 + 2, none⟩ = some (.int .i64 xv)) (by kernel_rfl) (HS.out _ (Off.drew (Off.refl _ _))) (fun hHeld => ?_)
                refine Take.take (i := 1) (oi := _) (t := 87) (v := ?v31) rfl (by kernel_rfl) (by kernel_rfl) (by kernel_rfl) (by kernel_rfl) (fun _ _ _ h => h) (by kernel_rfl) ?hy31 (by assumption) ?_
                case hy31 => (intro w hSw; (try dsimp only at hSw); go_simp; try with_reducible rfl)
                try simp only [Act.put, List.setIfInBounds_toArray, List.set_cons_zero, List.set_cons_succ]
                refine Take.take (i := 2) (oi := _) (t := 88) (v := ?v32) rfl (by kernel_rfl) (by kernel_rfl) (by kernel_rfl) (by kernel_rfl) (fun _ _ _ h => h) (by kernel_rfl) ?hy32 (by assumption) ?_
                case hy32 => (intro w hSw; (try dsimp only at hSw); go_simp; try with_reducible rfl)
                try simp only [Act.put, List.setIfInBounds_toArray, List.set_cons_zero, List.set_cons_succ]
                refine Take.take (i := 3) (oi := _) (t := 89) (v := ?v33) rfl (by kernel_rfl) (by kernel_rfl) (by kernel_rfl) (by kernel_rfl) (fun _ _ _ h => h) (by kernel_rfl) ?hy33 (by assumption) ?_
                case hy33 => (intro w hSw; (try dsimp only at hSw); go_simp; try with_reducible rfl)
                try simp only [Act.put, List.setIfInBounds_toArray, List.set_cons_zero, List.set_cons_succ]
                refine Take.take (i := 4) (oi := _) (t := 90) (v := ?v34) rfl (by kernel_rfl) (by kernel_rfl) (by kernel_rfl) (by kernel_rfl) (fun _ _ _ h => h) (by kernel_rfl) ?hy34 (by assumption) ?_
                case hy34 => (intro w hSw; (try dsimp only at hSw); go_simp; try with_reducible rfl)
                try simp only [Act.put, List.setIfInBounds_toArray, List.set_cons_zero, List.set_cons_succ]
                refine Take.take (i := 5) (oi := _) (t := 91) (v := ?v35) rfl (by kernel_rfl) (by kernel_rfl) (by kernel_rfl) (by kernel_rfl) (fun _ _ _ h => h) (by kernel_rfl) ?hy35 (by assumption) ?_
                case hy35 => (intro w hSw; (try dsimp only at hSw); go_simp; try with_reducible rfl)
                try simp only [Act.put, List.setIfInBounds_toArray, List.set_cons_zero, List.set_cons_succ]
                refine Take.take (i := 6) (oi := _) (t := 92) (v := ?v36) rfl (by kernel_rfl) (by kernel_rfl) (by kernel_rfl) (by kernel_rfl) (fun _ _ _ h => h) (by kernel_rfl) ?hy36 (by assumption) ?_
                case hy36 => (intro w hSw; (try dsimp only at hSw); go_simp; try with_reducible rfl)
                try simp only [Act.put, List.setIfInBounds_toArray, List.set_cons_zero, List.set_cons_succ]
                refine Take.take (i := 7) (oi := _) (t := 93) (v := ?v37) rfl (by kernel_rfl) (by kernel_rfl) (by kernel_rfl) (by kernel_rfl) (fun _ _ _ h => h) (by kernel_rfl) ?hy37 (by assumption) ?_
                case hy37 => (intro w hSw; (try dsimp only at hSw); go_simp; try with_reducible rfl)
                try simp only [Act.put, List.setIfInBounds_toArray, List.set_cons_zero, List.set_cons_succ]
                refine Take.take (i := 8) (oi := _) (t := 94) (v := ?v38) rfl (by kernel_rfl) (by kernel_rfl) (by kernel_rfl) (by kernel_rfl) (fun _ _ _ h => h) (by kernel_rfl) ?hy38 (by assumption) ?_
                case hy38 => (intro w hSw; (try dsimp only at hSw); go_simp; try with_reducible rfl)
                try simp only [Act.put, List.setIfInBounds_toArray, List.set_cons_zero, List.set_cons_succ]
                refine Take.take (i := 9) (oi := _) (t := 95) (v := ?v39) rfl (by kernel_rfl) (by kernel_rfl) (by kernel_rfl) (by kernel_rfl) (fun _ _ _ h => h) (by kernel_rfl) ?hy39 (by assumption) ?_
                case hy39 => (intro w hSw; (try dsimp only at hSw); go_simp; try with_reducible rfl)
                try simp only [Act.put, List.setIfInBounds_toArray, List.set_cons_zero, List.set_cons_succ]
                refine Take.take (i := 10) (oi := _) (t := 96) (v := ?v40) rfl (by kernel_rfl) (by kernel_rfl) (by kernel_rfl) (by kernel_rfl) (fun _ _ _ h => h) (by kernel_rfl) ?hy40 (by assumption) ?_
                case hy40 => (intro w hSw; (try dsimp only at hSw); go_simp; try with_reducible rfl)
                try simp only [Act.put, List.setIfInBounds_toArray, List.set_cons_zero, List.set_cons_succ]
                refine wpAnyH_ready (rs := [0]) (by kernel_rfl) (by simp) ?_
                refine AllReadyH.cons (o := _) rfl (fun K hK => ?_) AllReadyH.nil
                go_simp
                refine hK.out _ _ ?hS41 (fun hHeld => ?_)
                case hS41 => (refine HS.out _ ?_; repeat (first | exact Off.refl _ _ | exact HO4.out | refine Off.drew ?_ | refine offp ?_ _ _))
                clear hK K
                try simp only [Act.put, List.setIfInBounds_toArray, List.set_cons_zero, List.set_cons_succ]
                refine wpAnyH_ready (rs := [11]) (by kernel_rfl) (by simp) ?_
                refine AllReadyH.cons (o := _) rfl (fun K hK => ?_) AllReadyH.nil
                go_simp
                go_at_call 26
                refine HRf.out.mono ?_
                rintro e w4 ⟨rfl, b4⟩
                have HO4 : RowKit.Hid (Off (fun j => j = w2.heap.size) wr w4) := Lib.hid (Off.trans (Off.drew (Off.refl _ _)) (Off.of_below b4 (fun k h1 h2 => absurd h1 (Nat.not_lt.2 h2))))
                try dsimp only
                refine hK.out _ _ ?hS42 (fun hHeld => ?_)
                case hS42 => (refine HS.out _ ?_; repeat (first | exact Off.refl _ _ | exact HO4.out | refine Off.drew ?_ | refine offp ?_ _ _))
                clear hK K
                try simp only [Act.put, List.setIfInBounds_toArray, List.set_cons_zero, List.set_cons_succ]
                refine Take.take (i := 12) (oi := _) (t := 85) (v := ?v43) rfl (by kernel_rfl) (by kernel_rfl) (by kernel_rfl) (by kernel_rfl) (fun _ _ _ h => h) (by kernel_rfl) ?hy43 (by assumption) ?_
                case hy43 => (intro w hSw; (try dsimp only at hSw); go_simp; try with_reducible rfl)
                try simp only [Act.put, List.setIfInBounds_toArray, List.set_cons_zero, List.set_cons_succ]
                refine Take.take (i := 13) (oi := _) (t := 98) (v := ?v44) rfl (by kernel_rfl) (by kernel_rfl) (by kernel_rfl) (by kernel_rfl) (fun _ _ _ h => h) (by kernel_rfl) ?hy44 (by assumption) ?_
                case hy44 => (intro w hSw; (try dsimp only at hSw); go_simp; try with_reducible rfl)
                try simp only [Act.put, List.setIfInBounds_toArray, List.set_cons_zero, List.set_cons_succ]
                refine Take.take (i := 14) (oi := _) (t := 99) (v := ?v45) rfl (by kernel_rfl) (by kernel_rfl) (by kernel_rfl) (by kernel_rfl) (fun _ _ _ h => h) (by kernel_rfl) ?hy45 (by assumption) ?_
                case hy45 => (intro w hSw; (try dsimp only at hSw); go_simp; try with_reducible rfl)
                try simp only [Act.put, List.setIfInBounds_toArray, List.set_cons_zero, List.set_cons_succ]
                have hbx : Blk w4 w2.heap.size 43 #[.slice a S.length cap, .int .i64 most] := (blk_drew HB.out.box).below b4 HB.out.box.lt
                have g0 := hbx.cell 0
                have g1 := hbx.cell 1
                have g2 := hbx.frozen 0
                have g3 := hbx.frozen 1
                simp at g0 g1
                refine wpAnyH_ready (rs := [15]) (by kernel_rfl) (by simp) ?_
                refine AllReadyH.cons (o := _) rfl (fun K hK => ?_) AllReadyH.nil
                go_simp
                refine hK.out _ _ ?hS46 (fun hHeld => ?_)
                case hS46 => (refine HS.out _ ?_; repeat (first | exact Off.refl _ _ | exact HO4.out | refine Off.drew ?_ | refine offp ?_ _ _))
                clear hK K
                try simp only [Act.put, List.setIfInBounds_toArray, List.set_cons_zero, List.set_cons_succ]
                refine Take.take (i := 16) (oi := _) (t := 8) (v := ?v47) rfl (by kernel_rfl) (by kernel_rfl) (by kernel_rfl) (by kernel_rfl) (fun _ _ _ h => h) (by kernel_rfl) ?hy47 (by assumption) ?_
                case hy47 => (intro w hSw; (try dsimp only at hSw); go_simp; try with_reducible rfl)
                try simp only [Act.put, List.setIfInBounds_toArray, List.set_cons_zero, List.set_cons_succ]
                refine wpAnyH_done (by kernel_rfl) ?_ _
                refine NoPanic.normal ?_
                have b4' : Below wr.heap.size wr w4 := ((Below.refl _ wr).drew).trans b4
                have hT4 : TAt w4 a cap S := HB.out.row.below b4'
                have hset := HB.out.set b4' hT4
                go_wp2_with fail
                obtain ⟨V, hV⟩ : ∃ V, (w4.setCell ⟨w2.heap.size, 0, none⟩ (.slice a S.length cap)).setCell ⟨w2.heap.size, 1, none⟩ (.int .i64 most) = V := ⟨_, rfl⟩
                have oV : Off (fun j => j = w2.heap.size) wr V := by rw [← hV]; exact offp (offp HO4.out _ _) _ _
                have lV : Below w.heap.size w V := by rw [← hV]; exact ((HL.out.trans (b4'.mono HL.out.size)).setCell (p := ⟨w2.heap.size, 0, none⟩) (by show w.heap.size ≤ w2.heap.size; omega) _).setCell (p := ⟨w2.heap.size, 1, none⟩) (by show w.heap.size ≤ w2.heap.size; omega) _
                rw [hV] at hset
                rw [hV]
                clear hV g0 g1 g2 g3 hbx
                obtain ⟨ag5, box5, row5⟩ := hset
                have sV : wr.heap.size ≤ V.heap.size := oV.size
                have hVc : V.drew.cell? ⟨lb, off + i * 3 + 1, none⟩ = some (.int .i64 due) ∧ V.drew.cell? ⟨lb, off + i * 3 + 2, none⟩ = some (.int .i64 xv) := ⟨(oV.cell (p := ⟨lb, _, none⟩) hlb (by show ¬ lb = w2.heap.size; omega)).trans f1, (oV.cell (p := ⟨lb, _, none⟩) hlb (by show ¬ lb = w2.heap.size; omega)).trans f2⟩
                have HAd := Lib.hid (Agenda.I64.add_full w.heap.size w.heap.size most no S due xv V.drew (ag5.off (Off.refl _ V).drew) hS60 hfull)
                have Hbox5 := Lib.hid box5
                have Hrow5 := Lib.hid row5
                have HlV := Lib.hid lV
                have Hag4 := Lib.hid ag5
                clear ag5 box5 row5 lV
                refine wp_region_noPanic ?_
                refine wp_region_held_drew (S := fun w' => w'.cell? ⟨lb, off + i * 3 + 1, none⟩ = some (.int .i64 due) ∧ w'.cell? ⟨lb, off + i * 3 + 2, none⟩ = some (.int .i64 xv)) (by kernel_rfl) hVc (fun hHeld => ?_)
                refine Take.take (i := 0) (oi := _) (t := 100) (v := ?v48) rfl (by kernel_rfl) (by kernel_rfl) (by kernel_rfl) (by kernel_rfl) (fun _ _ _ h => h) (by kernel_rfl) ?hy48 (by assumption) ?_
                case hy48 => (intro w hSw; (try dsimp only at hSw); go_simp; try with_reducible rfl)
                try simp only [Act.put, List.setIfInBounds_toArray, List.set_cons_zero, List.set_cons_succ]
                refine Take.take (i := 1) (oi := _) (t := 101) (v := ?v49) rfl (by kernel_rfl) (by kernel_rfl) (by kernel_rfl) (by kernel_rfl) (fun _ _ _ h => h) (by kernel_rfl) ?hy49 (by assumption) ?_
                case hy49 => (intro w hSw; (try dsimp only at hSw); go_simp; try with_reducible rfl)
                try simp only [Act.put, List.setIfInBounds_toArray, List.set_cons_zero, List.set_cons_succ]
                refine Take.take (i := 2) (oi := _) (t := 102) (v := ?v50) rfl (by kernel_rfl) (by kernel_rfl) (by kernel_rfl) (by kernel_rfl) (fun _ _ _ h => h) (by kernel_rfl) ?hy50 (by assumption) ?_
                case hy50 => (intro w hSw; (try dsimp only at hSw); go_simp; try with_reducible rfl)
                try simp only [Act.put, List.setIfInBounds_toArray, List.set_cons_zero, List.set_cons_succ]
                refine Take.take (i := 3) (oi := _) (t := 103) (v := ?v51) rfl (by kernel_rfl) (by kernel_rfl) (by kernel_rfl) (by kernel_rfl) (fun _ _ _ h => h) (by kernel_rfl) ?hy51 (by assumption) ?_
                case hy51 => (intro w hSw; (try dsimp only at hSw); go_simp; try with_reducible rfl)
                try simp only [Act.put, List.setIfInBounds_toArray, List.set_cons_zero, List.set_cons_succ]
                refine Take.take (i := 4) (oi := _) (t := 104) (v := ?v52) rfl (by kernel_rfl) (by kernel_rfl) (by kernel_rfl) (by kernel_rfl) (fun _ _ _ h => h) (by kernel_rfl) ?hy52 (by assumption) ?_
                case hy52 => (intro w hSw; (try dsimp only at hSw); go_simp; try with_reducible rfl)
                try simp only [Act.put, List.setIfInBounds_toArray, List.set_cons_zero, List.set_cons_succ]
                refine Take.take (i := 5) (oi := _) (t := 105) (v := ?v53) rfl (by kernel_rfl) (by kernel_rfl) (by kernel_rfl) (by kernel_rfl) (fun _ _ _ h => h) (by kernel_rfl) ?hy53 (by assumption) ?_
                case hy53 => (intro w hSw; (try dsimp only at hSw); go_simp; try with_reducible rfl)
                try simp only [Act.put, List.setIfInBounds_toArray, List.set_cons_zero, List.set_cons_succ]
                refine Take.take (i := 6) (oi := _) (t := 106) (v := ?v54) rfl (by kernel_rfl) (by kernel_rfl) (by kernel_rfl) (by kernel_rfl) (fun _ _ _ h => h) (by kernel_rfl) ?hy54 (by assumption) ?_
                case hy54 => (intro w hSw; (try dsimp only at hSw); go_simp; try with_reducible rfl)
                try simp only [Act.put, List.setIfInBounds_toArray, List.set_cons_zero, List.set_cons_succ]
                refine Take.take (i := 7) (oi := _) (t := 107) (v := ?v55) rfl (by kernel_rfl) (by kernel_rfl) (by kernel_rfl) (by kernel_rfl) (fun _ _ _ h => h) (by kernel_rfl) ?hy55 (by assumption) ?_
                case hy55 => (intro w hSw; (try dsimp only at hSw); go_simp; try with_reducible rfl)
                try simp only [Act.put, List.setIfInBounds_toArray, List.set_cons_zero, List.set_cons_succ]
                refine Take.take (i := 8) (oi := _) (t := 108) (v := ?v56) rfl (by kernel_rfl) (by kernel_rfl) (by kernel_rfl) (by kernel_rfl) (fun _ _ _ h => h) (by kernel_rfl) ?hy56 (by assumption) ?_
                case hy56 => (intro w hSw; (try dsimp only at hSw); go_simp; try with_reducible rfl)
                try simp only [Act.put, List.setIfInBounds_toArray, List.set_cons_zero, List.set_cons_succ]
                refine Take.take (i := 9) (oi := _) (t := 109) (v := ?v57) rfl (by kernel_rfl) (by kernel_rfl) (by kernel_rfl) (by kernel_rfl) (fun _ _ _ h => h) (by kernel_rfl) ?hy57 (by assumption) ?_
                case hy57 => (intro w hSw; (try dsimp only at hSw); go_simp; try with_reducible rfl)
                try simp only [Act.put, List.setIfInBounds_toArray, List.set_cons_zero, List.set_cons_succ]
                refine Take.take (i := 10) (oi := _) (t := 110) (v := ?v58) rfl (by kernel_rfl) (by kernel_rfl) (by kernel_rfl) (by kernel_rfl) (fun _ _ _ h => h) (by kernel_rfl) ?hy58 (by assumption) ?_
                case hy58 => (intro w hSw; (try dsimp only at hSw); go_simp; try with_reducible rfl)
                try simp only [Act.put, List.setIfInBounds_toArray, List.set_cons_zero, List.set_cons_succ]
                refine wpAnyH_ready (rs := [11]) (by kernel_rfl) (by simp) ?_
                refine AllReadyH.cons (o := _) rfl (fun K hK => ?_) AllReadyH.nil
                go_simp
                go_at_call 21
                refine HAd.out.mono ?_
                rintro e w5 ⟨rfl, nn, rfl⟩
                have HK19 : (V.drew.drewN nn).cell? ⟨lb, off + i * 3 + 1, none⟩ = some (.int .i64 due) ∧ (V.drew.drewN nn).cell? ⟨lb, off + i * 3 + 2, none⟩ = some (.int .i64 xv) := hVc
                try dsimp only
                refine hK.out _ _ ?hS59 (fun hHeld => ?_)
                case hS59 => (first | assumption | exact HK19)
                clear hK K
                try simp only [Act.put, List.setIfInBounds_toArray, List.set_cons_zero, List.set_cons_succ]
                refine Take.take (i := 12) (oi := _) (t := 9) (v := ?v60) rfl (by kernel_rfl) (by kernel_rfl) (by kernel_rfl) (by kernel_rfl) (fun _ _ _ h => h) (by kernel_rfl) ?hy60 (by assumption) ?_
                case hy60 => (intro w hSw; (try dsimp only at hSw); go_simp; try with_reducible rfl)
                try simp only [Act.put, List.setIfInBounds_toArray, List.set_cons_zero, List.set_cons_succ]
                refine wpAnyH_done (by kernel_rfl) ?_ _
                refine NoPanic.normal ?_
                go_wp2_with fail
                go_meet
                have hd5 := Hag4.out
                exact Lib.hid ⟨no, S, a, cap, by omega, ⟨hd5.off ((Off.refl _ V).drewN _), Hbox5.out, Hrow5.out.below (bdN (Below.refl _ V) _), HB.out.rise, HB.out.low, HB.out.len⟩, bdN HlV.out _⟩
          · have HRa := Lib.hid (refadd_any most a cap S due xv wr.drew (HB.out.row.below ((Below.refl _ wr).drew)) hS60 hfull no)
            rcases hq4 with rfl | rfl
            · as_aux_lemma =>
                go_wp2_with fail
                refine wp_region_noPanic ?_
                refine wp_region_held_drew (S := fun w' => RowKit.Hid (Off (fun j => j = w2.heap.size) wr w') ∧ w'.cell? ⟨lb, off + i * 3 + 1, none⟩ = some (.int .i64 due) ∧ w'.cell? ⟨lb, off + i * 3 + 2, none⟩ = some (.int .i64 xv)) (by kernel_rfl) (HS.out _ (Off.drew (Off.refl _ _))) (fun hHeld => ?_)
                refine Take.take (i := 1) (oi := _) (t := 87) (v := ?v61) rfl (by kernel_rfl) (by kernel_rfl) (by kernel_rfl) (by kernel_rfl) (fun _ _ _ h => h) (by kernel_rfl) ?hy61 (by assumption) ?_
                case hy61 => (intro w hSw; (try dsimp only at hSw); go_simp; try with_reducible rfl)
                try simp only [Act.put, List.setIfInBounds_toArray, List.set_cons_zero, List.set_cons_succ]
                refine Take.take (i := 2) (oi := _) (t := 88) (v := ?v62) rfl (by kernel_rfl) (by kernel_rfl) (by kernel_rfl) (by kernel_rfl) (fun _ _ _ h => h) (by kernel_rfl) ?hy62 (by assumption) ?_
                case hy62 => (intro w hSw; (try dsimp only at hSw); go_simp; try with_reducible rfl)
                try simp only [Act.put, List.setIfInBounds_toArray, List.set_cons_zero, List.set_cons_succ]
                refine Take.take (i := 3) (oi := _) (t := 89) (v := ?v63) rfl (by kernel_rfl) (by kernel_rfl) (by kernel_rfl) (by kernel_rfl) (fun _ _ _ h => h) (by kernel_rfl) ?hy63 (by assumption) ?_
                case hy63 => (intro w hSw; (try dsimp only at hSw); go_simp; try with_reducible rfl)
                try simp only [Act.put, List.setIfInBounds_toArray, List.set_cons_zero, List.set_cons_succ]
                refine Take.take (i := 4) (oi := _) (t := 90) (v := ?v64) rfl (by kernel_rfl) (by kernel_rfl) (by kernel_rfl) (by kernel_rfl) (fun _ _ _ h => h) (by kernel_rfl) ?hy64 (by assumption) ?_
                case hy64 => (intro w hSw; (try dsimp only at hSw); go_simp; try with_reducible rfl)
                try simp only [Act.put, List.setIfInBounds_toArray, List.set_cons_zero, List.set_cons_succ]
                refine Take.take (i := 5) (oi := _) (t := 91) (v := ?v65) rfl (by kernel_rfl) (by kernel_rfl) (by kernel_rfl) (by kernel_rfl) (fun _ _ _ h => h) (by kernel_rfl) ?hy65 (by assumption) ?_
                case hy65 => (intro w hSw; (try dsimp only at hSw); go_simp; try with_reducible rfl)
                try simp only [Act.put, List.setIfInBounds_toArray, List.set_cons_zero, List.set_cons_succ]
                refine Take.take (i := 6) (oi := _) (t := 92) (v := ?v66) rfl (by kernel_rfl) (by kernel_rfl) (by kernel_rfl) (by kernel_rfl) (fun _ _ _ h => h) (by kernel_rfl) ?hy66 (by assumption) ?_
                case hy66 => (intro w hSw; (try dsimp only at hSw); go_simp; try with_reducible rfl)
                try simp only [Act.put, List.setIfInBounds_toArray, List.set_cons_zero, List.set_cons_succ]
                refine Take.take (i := 7) (oi := _) (t := 93) (v := ?v67) rfl (by kernel_rfl) (by kernel_rfl) (by kernel_rfl) (by kernel_rfl) (fun _ _ _ h => h) (by kernel_rfl) ?hy67 (by assumption) ?_
                case hy67 => (intro w hSw; (try dsimp only at hSw); go_simp; try with_reducible rfl)
                try simp only [Act.put, List.setIfInBounds_toArray, List.set_cons_zero, List.set_cons_succ]
                refine Take.take (i := 8) (oi := _) (t := 94) (v := ?v68) rfl (by kernel_rfl) (by kernel_rfl) (by kernel_rfl) (by kernel_rfl) (fun _ _ _ h => h) (by kernel_rfl) ?hy68 (by assumption) ?_
                case hy68 => (intro w hSw; (try dsimp only at hSw); go_simp; try with_reducible rfl)
                try simp only [Act.put, List.setIfInBounds_toArray, List.set_cons_zero, List.set_cons_succ]
                refine Take.take (i := 9) (oi := _) (t := 95) (v := ?v69) rfl (by kernel_rfl) (by kernel_rfl) (by kernel_rfl) (by kernel_rfl) (fun _ _ _ h => h) (by kernel_rfl) ?hy69 (by assumption) ?_
                case hy69 => (intro w hSw; (try dsimp only at hSw); go_simp; try with_reducible rfl)
                try simp only [Act.put, List.setIfInBounds_toArray, List.set_cons_zero, List.set_cons_succ]
                refine Take.take (i := 10) (oi := _) (t := 96) (v := ?v70) rfl (by kernel_rfl) (by kernel_rfl) (by kernel_rfl) (by kernel_rfl) (fun _ _ _ h => h) (by kernel_rfl) ?hy70 (by assumption) ?_
                case hy70 => (intro w hSw; (try dsimp only at hSw); go_simp; try with_reducible rfl)
                try simp only [Act.put, List.setIfInBounds_toArray, List.set_cons_zero, List.set_cons_succ]
                refine wpAnyH_ready (rs := [0]) (by kernel_rfl) (by simp) ?_
                refine AllReadyH.cons (o := _) rfl (fun K hK => ?_) AllReadyH.nil
                go_simp
                refine hK.out _ _ ?hS71 (fun hHeld => ?_)
                case hS71 => (refine HS.out _ ?_; repeat (first | exact Off.refl _ _ | exact HO4.out | refine Off.drew ?_ | refine offp ?_ _ _))
                clear hK K
                try simp only [Act.put, List.setIfInBounds_toArray, List.set_cons_zero, List.set_cons_succ]
                refine wpAnyH_ready (rs := [11]) (by kernel_rfl) (by simp) ?_
                refine AllReadyH.cons (o := _) rfl (fun K hK => ?_) AllReadyH.nil
                go_simp
                go_at_call 26
                refine HRa.out.mono ?_
                rintro e w4 ⟨b', cap', rfl, hT4, b4⟩
                have HO4 : RowKit.Hid (Off (fun j => j = w2.heap.size) wr w4) := Lib.hid (Off.trans (Off.drew (Off.refl _ _)) (Off.of_below b4 (fun k h1 h2 => absurd h1 (Nat.not_lt.2 h2))))
                try dsimp only
                refine hK.out _ _ ?hS72 (fun hHeld => ?_)
                case hS72 => (refine HS.out _ ?_; repeat (first | exact Off.refl _ _ | exact HO4.out | refine Off.drew ?_ | refine offp ?_ _ _))
                clear hK K
                try simp only [Act.put, List.setIfInBounds_toArray, List.set_cons_zero, List.set_cons_succ]
                refine Take.take (i := 12) (oi := _) (t := 85) (v := ?v73) rfl (by kernel_rfl) (by kernel_rfl) (by kernel_rfl) (by kernel_rfl) (fun _ _ _ h => h) (by kernel_rfl) ?hy73 (by assumption) ?_
                case hy73 => (intro w hSw; (try dsimp only at hSw); go_simp; try with_reducible rfl)
                try simp only [Act.put, List.setIfInBounds_toArray, List.set_cons_zero, List.set_cons_succ]
                refine Take.take (i := 13) (oi := _) (t := 98) (v := ?v74) rfl (by kernel_rfl) (by kernel_rfl) (by kernel_rfl) (by kernel_rfl) (fun _ _ _ h => h) (by kernel_rfl) ?hy74 (by assumption) ?_
                case hy74 => (intro w hSw; (try dsimp only at hSw); go_simp; try with_reducible rfl)
                try simp only [Act.put, List.setIfInBounds_toArray, List.set_cons_zero, List.set_cons_succ]
                refine Take.take (i := 14) (oi := _) (t := 99) (v := ?v75) rfl (by kernel_rfl) (by kernel_rfl) (by kernel_rfl) (by kernel_rfl) (fun _ _ _ h => h) (by kernel_rfl) ?hy75 (by assumption) ?_
                case hy75 => (intro w hSw; (try dsimp only at hSw); go_simp; try with_reducible rfl)
                try simp only [Act.put, List.setIfInBounds_toArray, List.set_cons_zero, List.set_cons_succ]
                have hbx : Blk w4 w2.heap.size 43 #[.slice a S.length cap, .int .i64 most] := (blk_drew HB.out.box).below b4 HB.out.box.lt
                have g0 := hbx.cell 0
                have g1 := hbx.cell 1
                have g2 := hbx.frozen 0
                have g3 := hbx.frozen 1
                simp at g0 g1
                refine wpAnyH_ready (rs := [15]) (by kernel_rfl) (by simp) ?_
                refine AllReadyH.cons (o := _) rfl (fun K hK => ?_) AllReadyH.nil
                go_simp
                refine hK.out _ _ ?hS76 (fun hHeld => ?_)
                case hS76 => (refine HS.out _ ?_; repeat (first | exact Off.refl _ _ | exact HO4.out | refine Off.drew ?_ | refine offp ?_ _ _))
                clear hK K
                try simp only [Act.put, List.setIfInBounds_toArray, List.set_cons_zero, List.set_cons_succ]
                refine Take.take (i := 16) (oi := _) (t := 8) (v := ?v77) rfl (by kernel_rfl) (by kernel_rfl) (by kernel_rfl) (by kernel_rfl) (fun _ _ _ h => h) (by kernel_rfl) ?hy77 (by assumption) ?_
                case hy77 => (intro w hSw; (try dsimp only at hSw); go_simp; try with_reducible rfl)
                try simp only [Act.put, List.setIfInBounds_toArray, List.set_cons_zero, List.set_cons_succ]
                refine wpAnyH_done (by kernel_rfl) ?_ _
                refine NoPanic.normal ?_
                have b4' : Below wr.heap.size wr w4 := ((Below.refl _ wr).drew).trans b4
                have hlen2 : S.length + 1 = (S ++ [(⟨due, no, xv⟩ : Th Int)]).length := by simp
                have hset := HB.out.set b4' hT4
                go_wp2_with fail
                rw [← hlen2] at hset
                have Hlen2 := Lib.hid hlen2
                clear hlen2
                obtain ⟨V, hV⟩ : ∃ V, (w4.setCell ⟨w2.heap.size, 0, none⟩ (.slice (some ⟨b', 0, none⟩) (S.length + 1) cap')).setCell ⟨w2.heap.size, 1, none⟩ (.int .i64 most) = V := ⟨_, rfl⟩
                have oV : Off (fun j => j = w2.heap.size) wr V := by rw [← hV]; exact offp (offp HO4.out _ _) _ _
                have lV : Below w.heap.size w V := by rw [← hV]; exact ((HL.out.trans (b4'.mono HL.out.size)).setCell (p := ⟨w2.heap.size, 0, none⟩) (by show w.heap.size ≤ w2.heap.size; omega) _).setCell (p := ⟨w2.heap.size, 1, none⟩) (by show w.heap.size ≤ w2.heap.size; omega) _
                rw [hV] at hset
                rw [hV]
                clear hV g0 g1 g2 g3 hbx
                obtain ⟨ag5, box5, row5⟩ := hset
                have sV : wr.heap.size ≤ V.heap.size := oV.size
                have hVc : V.drew.cell? ⟨lb, off + i * 3 + 1, none⟩ = some (.int .i64 due) ∧ V.drew.cell? ⟨lb, off + i * 3 + 2, none⟩ = some (.int .i64 xv) := ⟨(oV.cell (p := ⟨lb, _, none⟩) hlb (by show ¬ lb = w2.heap.size; omega)).trans f1, (oV.cell (p := ⟨lb, _, none⟩) hlb (by show ¬ lb = w2.heap.size; omega)).trans f2⟩
                have HAd := Lib.hid (Agenda.I64.add_any w.heap.size w.heap.size most no S due xv V.drew (ag5.off (Off.refl _ V).drew) (by omega) hmb.2 (by omega))
                have Hbox5 := Lib.hid box5
                have Hrow5 := Lib.hid row5
                have HlV := Lib.hid lV
                have Hag4 := Lib.hid ag5
                clear ag5 box5 row5 lV
                refine wp_region_noPanic ?_
                refine wp_region_held_drew (S := fun w' => w'.cell? ⟨lb, off + i * 3 + 1, none⟩ = some (.int .i64 due) ∧ w'.cell? ⟨lb, off + i * 3 + 2, none⟩ = some (.int .i64 xv)) (by kernel_rfl) hVc (fun hHeld => ?_)
                refine Take.take (i := 0) (oi := _) (t := 100) (v := ?v78) rfl (by kernel_rfl) (by kernel_rfl) (by kernel_rfl) (by kernel_rfl) (fun _ _ _ h => h) (by kernel_rfl) ?hy78 (by assumption) ?_
                case hy78 => (intro w hSw; (try dsimp only at hSw); go_simp; try with_reducible rfl)
                try simp only [Act.put, List.setIfInBounds_toArray, List.set_cons_zero, List.set_cons_succ]
                refine Take.take (i := 1) (oi := _) (t := 101) (v := ?v79) rfl (by kernel_rfl) (by kernel_rfl) (by kernel_rfl) (by kernel_rfl) (fun _ _ _ h => h) (by kernel_rfl) ?hy79 (by assumption) ?_
                case hy79 => (intro w hSw; (try dsimp only at hSw); go_simp; try with_reducible rfl)
                try simp only [Act.put, List.setIfInBounds_toArray, List.set_cons_zero, List.set_cons_succ]
                refine Take.take (i := 2) (oi := _) (t := 102) (v := ?v80) rfl (by kernel_rfl) (by kernel_rfl) (by kernel_rfl) (by kernel_rfl) (fun _ _ _ h => h) (by kernel_rfl) ?hy80 (by assumption) ?_
                case hy80 => (intro w hSw; (try dsimp only at hSw); go_simp; try with_reducible rfl)
                try simp only [Act.put, List.setIfInBounds_toArray, List.set_cons_zero, List.set_cons_succ]
                refine Take.take (i := 3) (oi := _) (t := 103) (v := ?v81) rfl (by kernel_rfl) (by kernel_rfl) (by kernel_rfl) (by kernel_rfl) (fun _ _ _ h => h) (by kernel_rfl) ?hy81 (by assumption) ?_
                case hy81 => (intro w hSw; (try dsimp only at hSw); go_simp; try with_reducible rfl)
                try simp only [Act.put, List.setIfInBounds_toArray, List.set_cons_zero, List.set_cons_succ]
                refine Take.take (i := 4) (oi := _) (t := 104) (v := ?v82) rfl (by kernel_rfl) (by kernel_rfl) (by kernel_rfl) (by kernel_rfl) (fun _ _ _ h => h) (by kernel_rfl) ?hy82 (by assumption) ?_
                case hy82 => (intro w hSw; (try dsimp only at hSw); go_simp; try with_reducible rfl)
                try simp only [Act.put, List.setIfInBounds_toArray, List.set_cons_zero, List.set_cons_succ]
                refine Take.take (i := 5) (oi := _) (t := 105) (v := ?v83) rfl (by kernel_rfl) (by kernel_rfl) (by kernel_rfl) (by kernel_rfl) (fun _ _ _ h => h) (by kernel_rfl) ?hy83 (by assumption) ?_
                case hy83 => (intro w hSw; (try dsimp only at hSw); go_simp; try with_reducible rfl)
                try simp only [Act.put, List.setIfInBounds_toArray, List.set_cons_zero, List.set_cons_succ]
                refine Take.take (i := 6) (oi := _) (t := 106) (v := ?v84) rfl (by kernel_rfl) (by kernel_rfl) (by kernel_rfl) (by kernel_rfl) (fun _ _ _ h => h) (by kernel_rfl) ?hy84 (by assumption) ?_
                case hy84 => (intro w hSw; (try dsimp only at hSw); go_simp; try with_reducible rfl)
                try simp only [Act.put, List.setIfInBounds_toArray, List.set_cons_zero, List.set_cons_succ]
                refine Take.take (i := 7) (oi := _) (t := 107) (v := ?v85) rfl (by kernel_rfl) (by kernel_rfl) (by kernel_rfl) (by kernel_rfl) (fun _ _ _ h => h) (by kernel_rfl) ?hy85 (by assumption) ?_
                case hy85 => (intro w hSw; (try dsimp only at hSw); go_simp; try with_reducible rfl)
                try simp only [Act.put, List.setIfInBounds_toArray, List.set_cons_zero, List.set_cons_succ]
                refine Take.take (i := 8) (oi := _) (t := 108) (v := ?v86) rfl (by kernel_rfl) (by kernel_rfl) (by kernel_rfl) (by kernel_rfl) (fun _ _ _ h => h) (by kernel_rfl) ?hy86 (by assumption) ?_
                case hy86 => (intro w hSw; (try dsimp only at hSw); go_simp; try with_reducible rfl)
                try simp only [Act.put, List.setIfInBounds_toArray, List.set_cons_zero, List.set_cons_succ]
                refine Take.take (i := 9) (oi := _) (t := 109) (v := ?v87) rfl (by kernel_rfl) (by kernel_rfl) (by kernel_rfl) (by kernel_rfl) (fun _ _ _ h => h) (by kernel_rfl) ?hy87 (by assumption) ?_
                case hy87 => (intro w hSw; (try dsimp only at hSw); go_simp; try with_reducible rfl)
                try simp only [Act.put, List.setIfInBounds_toArray, List.set_cons_zero, List.set_cons_succ]
                refine Take.take (i := 10) (oi := _) (t := 110) (v := ?v88) rfl (by kernel_rfl) (by kernel_rfl) (by kernel_rfl) (by kernel_rfl) (fun _ _ _ h => h) (by kernel_rfl) ?hy88 (by assumption) ?_
                case hy88 => (intro w hSw; (try dsimp only at hSw); go_simp; try with_reducible rfl)
                try simp only [Act.put, List.setIfInBounds_toArray, List.set_cons_zero, List.set_cons_succ]
                refine wpAnyH_ready (rs := [11]) (by kernel_rfl) (by simp) ?_
                refine AllReadyH.cons (o := _) rfl (fun K hK => ?_) AllReadyH.nil
                go_simp
                go_at_call 21
                refine HAd.out.mono ?_
                rintro e w5 ⟨rfl, hag5, hfr5⟩
                have HK19 : w5.cell? ⟨lb, off + i * 3 + 1, none⟩ = some (.int .i64 due) ∧ w5.cell? ⟨lb, off + i * 3 + 2, none⟩ = some (.int .i64 xv) := ⟨(hfr5.cell (p := ⟨lb, _, none⟩) hlw (Nat.lt_of_lt_of_le hlb sV)).trans hVc.1, (hfr5.cell (p := ⟨lb, _, none⟩) hlw (Nat.lt_of_lt_of_le hlb sV)).trans hVc.2⟩
                have Hag5 := Lib.hid hag5
                have Hfr5 := Lib.hid hfr5
                clear hag5 hfr5
                try dsimp only
                refine hK.out _ _ ?hS89 (fun hHeld => ?_)
                case hS89 => (first | assumption | exact HK19)
                clear hK K
                try simp only [Act.put, List.setIfInBounds_toArray, List.set_cons_zero, List.set_cons_succ]
                refine Take.take (i := 12) (oi := _) (t := 9) (v := ?v90) rfl (by kernel_rfl) (by kernel_rfl) (by kernel_rfl) (by kernel_rfl) (fun _ _ _ h => h) (by kernel_rfl) ?hy90 (by assumption) ?_
                case hy90 => (intro w hSw; (try dsimp only at hSw); go_simp; try with_reducible rfl)
                try simp only [Act.put, List.setIfInBounds_toArray, List.set_cons_zero, List.set_cons_succ]
                refine wpAnyH_done (by kernel_rfl) ?_ _
                refine NoPanic.normal ?_
                go_wp2_with fail
                go_meet
                exact Lib.hid ⟨no + 1, _, _, _, by omega, both_add Hag5.out (by rw [← Hlen2.out]; exact Hbox5.out) Hrow5.out ((Fr.refl _ _ V).drew.trans Hfr5.out) HB.out.rise HB.out.low (by omega), HlV.out.trans (((Fr.refl _ _ V).drew.trans Hfr5.out).toBelow (by have := HlV.out.size; omega))⟩
            · as_aux_lemma =>
                go_wp2_with fail
                refine wp_region_noPanic ?_
                refine wp_region_held_drew (S := fun w' => RowKit.Hid (Off (fun j => j = w2.heap.size) wr w') ∧ w'.cell? ⟨lb, off + i * 3 + 1, none⟩ = some (.int .i64 due) ∧ w'.cell? ⟨lb, off + i * 3 + 2, none⟩ = some (.int .i64 xv)) (by kernel_rfl) (HS.out _ (Off.drew (Off.refl _ _))) (fun hHeld => ?_)
                refine Take.take (i := 1) (oi := _) (t := 87) (v := ?v91) rfl (by kernel_rfl) (by kernel_rfl) (by kernel_rfl) (by kernel_rfl) (fun _ _ _ h => h) (by kernel_rfl) ?hy91 (by assumption) ?_
                case hy91 => (intro w hSw; (try dsimp only at hSw); go_simp; try with_reducible rfl)
                try simp only [Act.put, List.setIfInBounds_toArray, List.set_cons_zero, List.set_cons_succ]
                refine Take.take (i := 2) (oi := _) (t := 88) (v := ?v92) rfl (by kernel_rfl) (by kernel_rfl) (by kernel_rfl) (by kernel_rfl) (fun _ _ _ h => h) (by kernel_rfl) ?hy92 (by assumption) ?_
                case hy92 => (intro w hSw; (try dsimp only at hSw); go_simp; try with_reducible rfl)
                try simp only [Act.put, List.setIfInBounds_toArray, List.set_cons_zero, List.set_cons_succ]
                refine Take.take (i := 3) (oi := _) (t := 89) (v := ?v93) rfl (by kernel_rfl) (by kernel_rfl) (by kernel_rfl) (by kernel_rfl) (fun _ _ _ h => h) (by kernel_rfl) ?hy93 (by assumption) ?_
                case hy93 => (intro w hSw; (try dsimp only at hSw); go_simp; try with_reducible rfl)
                try simp only [Act.put, List.setIfInBounds_toArray, List.set_cons_zero, List.set_cons_succ]
                refine Take.take (i := 4) (oi := _) (t := 90) (v := ?v94) rfl (by kernel_rfl) (by kernel_rfl) (by kernel_rfl) (by kernel_rfl) (fun _ _ _ h => h) (by kernel_rfl) ?hy94 (by assumption) ?_
                case hy94 => (intro w hSw; (try dsimp only at hSw); go_simp; try with_reducible rfl)
                try simp only [Act.put, List.setIfInBounds_toArray, List.set_cons_zero, List.set_cons_succ]
                refine Take.take (i := 5) (oi := _) (t := 91) (v := ?v95) rfl (by kernel_rfl) (by kernel_rfl) (by kernel_rfl) (by kernel_rfl) (fun _ _ _ h => h) (by kernel_rfl) ?hy95 (by assumption) ?_
                case hy95 => (intro w hSw; (try dsimp only at hSw); go_simp; try with_reducible rfl)
                try simp only [Act.put, List.setIfInBounds_toArray, List.set_cons_zero, List.set_cons_succ]
                refine Take.take (i := 6) (oi := _) (t := 92) (v := ?v96) rfl (by kernel_rfl) (by kernel_rfl) (by kernel_rfl) (by kernel_rfl) (fun _ _ _ h => h) (by kernel_rfl) ?hy96 (by assumption) ?_
                case hy96 => (intro w hSw; (try dsimp only at hSw); go_simp; try with_reducible rfl)
                try simp only [Act.put, List.setIfInBounds_toArray, List.set_cons_zero, List.set_cons_succ]
                refine Take.take (i := 7) (oi := _) (t := 93) (v := ?v97) rfl (by kernel_rfl) (by kernel_rfl) (by kernel_rfl) (by kernel_rfl) (fun _ _ _ h => h) (by kernel_rfl) ?hy97 (by assumption) ?_
                case hy97 => (intro w hSw; (try dsimp only at hSw); go_simp; try with_reducible rfl)
                try simp only [Act.put, List.setIfInBounds_toArray, List.set_cons_zero, List.set_cons_succ]
                refine Take.take (i := 8) (oi := _) (t := 94) (v := ?v98) rfl (by kernel_rfl) (by kernel_rfl) (by kernel_rfl) (by kernel_rfl) (fun _ _ _ h => h) (by kernel_rfl) ?hy98 (by assumption) ?_
                case hy98 => (intro w hSw; (try dsimp only at hSw); go_simp; try with_reducible rfl)
                try simp only [Act.put, List.setIfInBounds_toArray, List.set_cons_zero, List.set_cons_succ]
                refine Take.take (i := 9) (oi := _) (t := 95) (v := ?v99) rfl (by kernel_rfl) (by kernel_rfl) (by kernel_rfl) (by kernel_rfl) (fun _ _ _ h => h) (by kernel_rfl) ?hy99 (by assumption) ?_
                case hy99 => (intro w hSw; (try dsimp only at hSw); go_simp; try with_reducible rfl)
                try simp only [Act.put, List.setIfInBounds_toArray, List.set_cons_zero, List.set_cons_succ]
                refine Take.take (i := 10) (oi := _) (t := 96) (v := ?v100) rfl (by kernel_rfl) (by kernel_rfl) (by kernel_rfl) (by kernel_rfl) (fun _ _ _ h => h) (by kernel_rfl) ?hy100 (by assumption) ?_
                case hy100 => (intro w hSw; (try dsimp only at hSw); go_simp; try with_reducible rfl)
                try simp only [Act.put, List.setIfInBounds_toArray, List.set_cons_zero, List.set_cons_succ]
                refine wpAnyH_ready (rs := [0]) (by kernel_rfl) (by simp) ?_
                refine AllReadyH.cons (o := _) rfl (fun K hK => ?_) AllReadyH.nil
                go_simp
                refine hK.out _ _ ?hS101 (fun hHeld => ?_)
                case hS101 => (refine HS.out _ ?_; repeat (first | exact Off.refl _ _ | exact HO4.out | refine Off.drew ?_ | refine offp ?_ _ _))
                clear hK K
                try simp only [Act.put, List.setIfInBounds_toArray, List.set_cons_zero, List.set_cons_succ]
                refine wpAnyH_ready (rs := [11]) (by kernel_rfl) (by simp) ?_
                refine AllReadyH.cons (o := _) rfl (fun K hK => ?_) AllReadyH.nil
                go_simp
                go_at_call 26
                refine HRa.out.mono ?_
                rintro e w4 ⟨b', cap', rfl, hT4, b4⟩
                have HO4 : RowKit.Hid (Off (fun j => j = w2.heap.size) wr w4) := Lib.hid (Off.trans (Off.drew (Off.refl _ _)) (Off.of_below b4 (fun k h1 h2 => absurd h1 (Nat.not_lt.2 h2))))
                try dsimp only
                refine hK.out _ _ ?hS102 (fun hHeld => ?_)
                case hS102 => (refine HS.out _ ?_; repeat (first | exact Off.refl _ _ | exact HO4.out | refine Off.drew ?_ | refine offp ?_ _ _))
                clear hK K
                try simp only [Act.put, List.setIfInBounds_toArray, List.set_cons_zero, List.set_cons_succ]
                refine Take.take (i := 12) (oi := _) (t := 85) (v := ?v103) rfl (by kernel_rfl) (by kernel_rfl) (by kernel_rfl) (by kernel_rfl) (fun _ _ _ h => h) (by kernel_rfl) ?hy103 (by assumption) ?_
                case hy103 => (intro w hSw; (try dsimp only at hSw); go_simp; try with_reducible rfl)
                try simp only [Act.put, List.setIfInBounds_toArray, List.set_cons_zero, List.set_cons_succ]
                refine Take.take (i := 13) (oi := _) (t := 98) (v := ?v104) rfl (by kernel_rfl) (by kernel_rfl) (by kernel_rfl) (by kernel_rfl) (fun _ _ _ h => h) (by kernel_rfl) ?hy104 (by assumption) ?_
                case hy104 => (intro w hSw; (try dsimp only at hSw); go_simp; try with_reducible rfl)
                try simp only [Act.put, List.setIfInBounds_toArray, List.set_cons_zero, List.set_cons_succ]
                refine Take.take (i := 14) (oi := _) (t := 99) (v := ?v105) rfl (by kernel_rfl) (by kernel_rfl) (by kernel_rfl) (by kernel_rfl) (fun _ _ _ h => h) (by kernel_rfl) ?hy105 (by assumption) ?_
                case hy105 => (intro w hSw; (try dsimp only at hSw); go_simp; try with_reducible rfl)
                try simp only [Act.put, List.setIfInBounds_toArray, List.set_cons_zero, List.set_cons_succ]
                have hbx : Blk w4 w2.heap.size 43 #[.slice a S.length cap, .int .i64 most] := (blk_drew HB.out.box).below b4 HB.out.box.lt
                have g0 := hbx.cell 0
                have g1 := hbx.cell 1
                have g2 := hbx.frozen 0
                have g3 := hbx.frozen 1
                simp at g0 g1
                refine wpAnyH_ready (rs := [15]) (by kernel_rfl) (by simp) ?_
                refine AllReadyH.cons (o := _) rfl (fun K hK => ?_) AllReadyH.nil
                go_simp
                refine hK.out _ _ ?hS106 (fun hHeld => ?_)
                case hS106 => (refine HS.out _ ?_; repeat (first | exact Off.refl _ _ | exact HO4.out | refine Off.drew ?_ | refine offp ?_ _ _))
                clear hK K
                try simp only [Act.put, List.setIfInBounds_toArray, List.set_cons_zero, List.set_cons_succ]
                refine Take.take (i := 16) (oi := _) (t := 8) (v := ?v107) rfl (by kernel_rfl) (by kernel_rfl) (by kernel_rfl) (by kernel_rfl) (fun _ _ _ h => h) (by kernel_rfl) ?hy107 (by assumption) ?_
                case hy107 => (intro w hSw; (try dsimp only at hSw); go_simp; try with_reducible rfl)
                try simp only [Act.put, List.setIfInBounds_toArray, List.set_cons_zero, List.set_cons_succ]
                refine wpAnyH_done (by kernel_rfl) ?_ _
                refine NoPanic.normal ?_
                have b4' : Below wr.heap.size wr w4 := ((Below.refl _ wr).drew).trans b4
                have hlen2 : S.length + 1 = (S ++ [(⟨due, no, xv⟩ : Th Int)]).length := by simp
                have hset := HB.out.set b4' hT4
                go_wp2_with fail
                rw [← hlen2] at hset
                have Hlen2 := Lib.hid hlen2
                clear hlen2
                obtain ⟨V, hV⟩ : ∃ V, (w4.setCell ⟨w2.heap.size, 0, none⟩ (.slice (some ⟨b', 0, none⟩) (S.length + 1) cap')).setCell ⟨w2.heap.size, 1, none⟩ (.int .i64 most) = V := ⟨_, rfl⟩
                have oV : Off (fun j => j = w2.heap.size) wr V := by rw [← hV]; exact offp (offp HO4.out _ _) _ _
                have lV : Below w.heap.size w V := by rw [← hV]; exact ((HL.out.trans (b4'.mono HL.out.size)).setCell (p := ⟨w2.heap.size, 0, none⟩) (by show w.heap.size ≤ w2.heap.size; omega) _).setCell (p := ⟨w2.heap.size, 1, none⟩) (by show w.heap.size ≤ w2.heap.size; omega) _
                rw [hV] at hset
                rw [hV]
                clear hV g0 g1 g2 g3 hbx
                obtain ⟨ag5, box5, row5⟩ := hset
                have sV : wr.heap.size ≤ V.heap.size := oV.size
                have hVc : V.drew.cell? ⟨lb, off + i * 3 + 1, none⟩ = some (.int .i64 due) ∧ V.drew.cell? ⟨lb, off + i * 3 + 2, none⟩ = some (.int .i64 xv) := ⟨(oV.cell (p := ⟨lb, _, none⟩) hlb (by show ¬ lb = w2.heap.size; omega)).trans f1, (oV.cell (p := ⟨lb, _, none⟩) hlb (by show ¬ lb = w2.heap.size; omega)).trans f2⟩
                have HAd := Lib.hid (Agenda.I64.add_any w.heap.size w.heap.size most no S due xv V.drew (ag5.off (Off.refl _ V).drew) (by omega) hmb.2 (by omega))
                have Hbox5 := Lib.hid box5
                have Hrow5 := Lib.hid row5
                have HlV := Lib.hid lV
                have Hag4 := Lib.hid ag5
                clear ag5 box5 row5 lV
                refine wp_region_noPanic ?_
                refine wp_region_held_drew (S := fun w' => w'.cell? ⟨lb, off + i * 3 + 1, none⟩ = some (.int .i64 due) ∧ w'.cell? ⟨lb, off + i * 3 + 2, none⟩ = some (.int .i64 xv)) (by kernel_rfl) hVc (fun hHeld => ?_)
                refine Take.take (i := 0) (oi := _) (t := 100) (v := ?v108) rfl (by kernel_rfl) (by kernel_rfl) (by kernel_rfl) (by kernel_rfl) (fun _ _ _ h => h) (by kernel_rfl) ?hy108 (by assumption) ?_
                case hy108 => (intro w hSw; (try dsimp only at hSw); go_simp; try with_reducible rfl)
                try simp only [Act.put, List.setIfInBounds_toArray, List.set_cons_zero, List.set_cons_succ]
                refine Take.take (i := 1) (oi := _) (t := 101) (v := ?v109) rfl (by kernel_rfl) (by kernel_rfl) (by kernel_rfl) (by kernel_rfl) (fun _ _ _ h => h) (by kernel_rfl) ?hy109 (by assumption) ?_
                case hy109 => (intro w hSw; (try dsimp only at hSw); go_simp; try with_reducible rfl)
                try simp only [Act.put, List.setIfInBounds_toArray, List.set_cons_zero, List.set_cons_succ]
                refine Take.take (i := 2) (oi := _) (t := 102) (v := ?v110) rfl (by kernel_rfl) (by kernel_rfl) (by kernel_rfl) (by kernel_rfl) (fun _ _ _ h => h) (by kernel_rfl) ?hy110 (by assumption) ?_
                case hy110 => (intro w hSw; (try dsimp only at hSw); go_simp; try with_reducible rfl)
                try simp only [Act.put, List.setIfInBounds_toArray, List.set_cons_zero, List.set_cons_succ]
                refine Take.take (i := 3) (oi := _) (t := 103) (v := ?v111) rfl (by kernel_rfl) (by kernel_rfl) (by kernel_rfl) (by kernel_rfl) (fun _ _ _ h => h) (by kernel_rfl) ?hy111 (by assumption) ?_
                case hy111 => (intro w hSw; (try dsimp only at hSw); go_simp; try with_reducible rfl)
                try simp only [Act.put, List.setIfInBounds_toArray, List.set_cons_zero, List.set_cons_succ]
                refine Take.take (i := 4) (oi := _) (t := 104) (v := ?v112) rfl (by kernel_rfl) (by kernel_rfl) (by kernel_rfl) (by kernel_rfl) (fun _ _ _ h => h) (by kernel_rfl) ?hy112 (by assumption) ?_
                case hy112 => (intro w hSw; (try dsimp only at hSw); go_simp; try with_reducible rfl)
                try simp only [Act.put, List.setIfInBounds_toArray, List.set_cons_zero, List.set_cons_succ]
                refine Take.take (i := 5) (oi := _) (t := 105) (v := ?v113) rfl (by kernel_rfl) (by kernel_rfl) (by kernel_rfl) (by kernel_rfl) (fun _ _ _ h => h) (by kernel_rfl) ?hy113 (by assumption) ?_
                case hy113 => (intro w hSw; (try dsimp only at hSw); go_simp; try with_reducible rfl)
                try simp only [Act.put, List.setIfInBounds_toArray, List.set_cons_zero, List.set_cons_succ]
                refine Take.take (i := 6) (oi := _) (t := 106) (v := ?v114) rfl (by kernel_rfl) (by kernel_rfl) (by kernel_rfl) (by kernel_rfl) (fun _ _ _ h => h) (by kernel_rfl) ?hy114 (by assumption) ?_
                case hy114 => (intro w hSw; (try dsimp only at hSw); go_simp; try with_reducible rfl)
                try simp only [Act.put, List.setIfInBounds_toArray, List.set_cons_zero, List.set_cons_succ]
                refine Take.take (i := 7) (oi := _) (t := 107) (v := ?v115) rfl (by kernel_rfl) (by kernel_rfl) (by kernel_rfl) (by kernel_rfl) (fun _ _ _ h => h) (by kernel_rfl) ?hy115 (by assumption) ?_
                case hy115 => (intro w hSw; (try dsimp only at hSw); go_simp; try with_reducible rfl)
                try simp only [Act.put, List.setIfInBounds_toArray, List.set_cons_zero, List.set_cons_succ]
                refine Take.take (i := 8) (oi := _) (t := 108) (v := ?v116) rfl (by kernel_rfl) (by kernel_rfl) (by kernel_rfl) (by kernel_rfl) (fun _ _ _ h => h) (by kernel_rfl) ?hy116 (by assumption) ?_
                case hy116 => (intro w hSw; (try dsimp only at hSw); go_simp; try with_reducible rfl)
                try simp only [Act.put, List.setIfInBounds_toArray, List.set_cons_zero, List.set_cons_succ]
                refine Take.take (i := 9) (oi := _) (t := 109) (v := ?v117) rfl (by kernel_rfl) (by kernel_rfl) (by kernel_rfl) (by kernel_rfl) (fun _ _ _ h => h) (by kernel_rfl) ?hy117 (by assumption) ?_
                case hy117 => (intro w hSw; (try dsimp only at hSw); go_simp; try with_reducible rfl)
                try simp only [Act.put, List.setIfInBounds_toArray, List.set_cons_zero, List.set_cons_succ]
                refine Take.take (i := 10) (oi := _) (t := 110) (v := ?v118) rfl (by kernel_rfl) (by kernel_rfl) (by kernel_rfl) (by kernel_rfl) (fun _ _ _ h => h) (by kernel_rfl) ?hy118 (by assumption) ?_
                case hy118 => (intro w hSw; (try dsimp only at hSw); go_simp; try with_reducible rfl)
                try simp only [Act.put, List.setIfInBounds_toArray, List.set_cons_zero, List.set_cons_succ]
                refine wpAnyH_ready (rs := [11]) (by kernel_rfl) (by simp) ?_
                refine AllReadyH.cons (o := _) rfl (fun K hK => ?_) AllReadyH.nil
                go_simp
                go_at_call 21
                refine HAd.out.mono ?_
                rintro e w5 ⟨rfl, hag5, hfr5⟩
                have HK19 : w5.cell? ⟨lb, off + i * 3 + 1, none⟩ = some (.int .i64 due) ∧ w5.cell? ⟨lb, off + i * 3 + 2, none⟩ = some (.int .i64 xv) := ⟨(hfr5.cell (p := ⟨lb, _, none⟩) hlw (Nat.lt_of_lt_of_le hlb sV)).trans hVc.1, (hfr5.cell (p := ⟨lb, _, none⟩) hlw (Nat.lt_of_lt_of_le hlb sV)).trans hVc.2⟩
                have Hag5 := Lib.hid hag5
                have Hfr5 := Lib.hid hfr5
                clear hag5 hfr5
                try dsimp only
                refine hK.out _ _ ?hS119 (fun hHeld => ?_)
                case hS119 => (first | assumption | exact HK19)
                clear hK K
                try simp only [Act.put, List.setIfInBounds_toArray, List.set_cons_zero, List.set_cons_succ]
                refine Take.take (i := 12) (oi := _) (t := 9) (v := ?v120) rfl (by kernel_rfl) (by kernel_rfl) (by kernel_rfl) (by kernel_rfl) (fun _ _ _ h => h) (by kernel_rfl) ?hy120 (by assumption) ?_
                case hy120 => (intro w hSw; (try dsimp only at hSw); go_simp; try with_reducible rfl)
                try simp only [Act.put, List.setIfInBounds_toArray, List.set_cons_zero, List.set_cons_succ]
                refine wpAnyH_done (by kernel_rfl) ?_ _
                refine NoPanic.normal ?_
                go_wp2_with fail
                go_meet
                exact Lib.hid ⟨no + 1, _, _, _, by omega, both_add Hag5.out (by rw [← Hlen2.out]; exact Hbox5.out) Hrow5.out ((Fr.refl _ _ V).drew.trans Hfr5.out) HB.out.rise HB.out.low (by omega), HlV.out.trans (((Fr.refl _ _ V).drew.trans Hfr5.out).toBelow (by have := HlV.out.size; omega))⟩
        case rest =>
          obtain ⟨no', S', a', cap', hno', hB', hL'⟩ := hcut.out
          have HB' := Lib.hid hB'
          have HL' := Lib.hid hL'
          have hS60 : S'.length ≤ 65536 := by have := hB'.len; omega
          have hlen' := hB'.len
          have g0 := hB'.box.cell 0
          have g1 := hB'.box.cell 1
          simp at g0 g1
          have HF := Lib.hid (reffirst_any most a' cap' S' wc hB'.row hS60)
          have e1 : IntKind.i64.wrap (most - (S'.length : Int)) = most - (S'.length : Int) := IntWalk.i64_in _ (by omega)
          have Hlt := Lib.hid hlt
          have HNx := Lib.hid (agnext_ex w.heap.size w.heap.size most no' S' wc hB'.ag hB'.rise hS60)
          clear hB' hL' hcut f1 f2 HB hq4 hlt h60 hlw hlb hlen' k1 k2
          have Hc := Lib.hid (And.intro hm (And.intro hmax (And.intro hlc (And.intro hmb (And.intro z1 (And.intro z2 (And.intro hi (And.intro hil (And.intro hno (And.intro hno' (And.intro i1 (And.intro i2 (And.intro i3 (And.intro e1 hS60))))))))))))))
          clear hm hmax hlc hmb z1 z2 hi hil hno hno' i1 i2 i3 e1 hS60
          go_upto_region 29 with fail
          refine HNx.out.mono ?_
          rintro e wx0 ⟨nx, nb, rfl, rfl, hnb⟩
          have Hnb := Lib.hid hnb
          clear hnb HNx
          go_upto_region 30 with fail
          refine HF.out.mono ?_
          rintro e wx ⟨pp, rfl, hp, b1⟩
          have Hp := Lib.hid hp
          have B1 := Lib.hid b1
          clear hp b1 HF
          go_upto_region 30 with fail
          obtain ⟨hm, hmax, hlc, hmb, z1, z2, hi, hil, hno, hno', i1, i2, i3, e1, hS60⟩ := Hc.out
          clear Hc
          have hp := Hp.out
          have hnb := Hnb.out
          have b1 := B1.out
          clear Hp Hnb B1
          rcases hnb with ⟨h0, rfl, rfl⟩ | ⟨i9, t9, hff, rfl, rfl⟩
          · have hp1 : pp = -1 := by
              subst h0
              rcases hp with ⟨_, c⟩ | ⟨i, t, _, c, _⟩
              · exact c
              · simp at c
            subst hp1
            clear hp h0
            as_aux_lemma =>
              have hbx := HB'.out.box.below b1 HB'.out.box.lt
              have HC30 : wx.cell? ⟨w2.heap.size, 0, none⟩ = some (.slice a' S'.length cap') ∧ wx.cell? ⟨w2.heap.size, 1, none⟩ = some (.int .i64 most) := ⟨hbx.cell 0, hbx.cell 1⟩
              have hag : Agenda.I64.Ag w.heap.size w.heap.size most no' S' wx := HB'.out.ag.fr (Fr.of_below (b := 0) (ts := []) b1) rfl rfl
              have HLen := Lib.hid (fun (v : World) (o : Off (fun _ => False) wx v) => Agenda.I64.len_any w.heap.size w.heap.size most no' S' v (hag.off o) hS60)
              have HRoom := Lib.hid (fun (v : World) (o : Off (fun _ => False) wx v) => Agenda.I64.room_any w.heap.size w.heap.size most no' S' v (hag.off o) hS60 hmb)
              have hBx := Lib.hid (show Both w.heap.size w.heap.size w2.heap.size most no' S' a' cap' wx from ⟨hag, hbx, HB'.out.row.below b1, HB'.out.rise, HB'.out.low, HB'.out.len⟩)
              have hLx := Lib.hid (HL'.out.trans (b1.mono HL'.out.size))
              clear g0 g1 hbx hag b1
              refine wp_region_noPanic ?_
              refine wp_region_held_drew (S := fun w' => w'.cell? ⟨w2.heap.size, 0, none⟩ = some (.slice a' S'.length cap') ∧ w'.cell? ⟨w2.heap.size, 1, none⟩ = some (.int .i64 most)) (by kernel_rfl) HC30 (fun hHeld => ?_)
              refine Take.take (i := 0) (oi := _) (t := 163) (v := ?v121) rfl (by kernel_rfl) (by kernel_rfl) (by kernel_rfl) (by kernel_rfl) (fun _ _ _ h => h) (by kernel_rfl) ?hy121 (by assumption) ?_
              case hy121 => (intro w hSw; (try dsimp only at hSw); go_simp; try with_reducible rfl)
              try simp only [Act.put, List.setIfInBounds_toArray, List.set_cons_zero, List.set_cons_succ]
              refine Take.take (i := 2) (oi := _) (t := 165) (v := ?v122) rfl (by kernel_rfl) (by kernel_rfl) (by kernel_rfl) (by kernel_rfl) (fun _ _ _ h => h) (by kernel_rfl) ?hy122 (by assumption) ?_
              case hy122 => (intro w hSw; (try dsimp only at hSw); go_simp; try with_reducible rfl)
              try simp only [Act.put, List.setIfInBounds_toArray, List.set_cons_zero, List.set_cons_succ]
              refine Take.take (i := 3) (oi := _) (t := 166) (v := ?v123) rfl (by kernel_rfl) (by kernel_rfl) (by kernel_rfl) (by kernel_rfl) (fun _ _ _ h => h) (by kernel_rfl) ?hy123 (by assumption) ?_
              case hy123 => (intro w hSw; (try dsimp only at hSw); go_simp; try with_reducible rfl)
              try simp only [Act.put, List.setIfInBounds_toArray, List.set_cons_zero, List.set_cons_succ]
              refine Take.take (i := 4) (oi := _) (t := 167) (v := ?v124) rfl (by kernel_rfl) (by kernel_rfl) (by kernel_rfl) (by kernel_rfl) (fun _ _ _ h => h) (by kernel_rfl) ?hy124 (by assumption) ?_
              case hy124 => (intro w hSw; (try dsimp only at hSw); go_simp; try with_reducible rfl)
              try simp only [Act.put, List.setIfInBounds_toArray, List.set_cons_zero, List.set_cons_succ]
              refine wpAnyH_ready (rs := [1]) (by kernel_rfl) (by simp) ?_
              refine AllReadyH.cons (o := _) rfl (fun K hK => ?_) AllReadyH.nil
              skip
              go_simp
              go_at_call 24
              refine (HLen.out _ (by repeat (first | exact Off.refl _ _ | refine Off.drew ?_ | refine Off.drewN ?_ _))).mono ?_
              rintro e w4 ⟨rfl, rfl⟩
              try dsimp only
              refine hK.out _ _ ?hS125 (fun hHeld => ?_)
              case hS125 => (first | assumption | exact HC30)
              clear hK K
              try simp only [Act.put, List.setIfInBounds_toArray, List.set_cons_zero, List.set_cons_succ]
              refine Take.take (i := 5) (oi := _) (t := 168) (v := ?v126) rfl (by kernel_rfl) (by kernel_rfl) (by kernel_rfl) (by kernel_rfl) (fun _ _ _ h => h) (by kernel_rfl) ?hy126 (by assumption) ?_
              case hy126 => (intro w hSw; (try dsimp only at hSw); go_simp; try with_reducible rfl)
              try simp only [Act.put, List.setIfInBounds_toArray, List.set_cons_zero, List.set_cons_succ]
              refine Take.take (i := 6) (oi := _) (t := 169) (v := ?v127) rfl (by kernel_rfl) (by kernel_rfl) (by kernel_rfl) (by kernel_rfl) (fun _ _ _ h => h) (by kernel_rfl) ?hy127 (by assumption) ?_
              case hy127 => (intro w hSw; (try dsimp only at hSw); go_simp; try with_reducible rfl)
              try simp only [Act.put, List.setIfInBounds_toArray, List.set_cons_zero, List.set_cons_succ]
              refine Take.take (i := 7) (oi := _) (t := 170) (v := ?v128) rfl (by kernel_rfl) (by kernel_rfl) (by kernel_rfl) (by kernel_rfl) (fun _ _ _ h => h) (by kernel_rfl) ?hy128 (by assumption) ?_
              case hy128 => (intro w hSw; (try dsimp only at hSw); go_simp; try with_reducible rfl)
              try simp only [Act.put, List.setIfInBounds_toArray, List.set_cons_zero, List.set_cons_succ]
              refine Take.take (i := 9) (oi := _) (t := 172) (v := ?v129) rfl (by kernel_rfl) (by kernel_rfl) (by kernel_rfl) (by kernel_rfl) (fun _ _ _ h => h) (by kernel_rfl) ?hy129 (by assumption) ?_
              case hy129 => (intro w hSw; (try dsimp only at hSw); go_simp; try with_reducible rfl)
              try simp only [Act.put, List.setIfInBounds_toArray, List.set_cons_zero, List.set_cons_succ]
              refine Take.take (i := 10) (oi := _) (t := 173) (v := ?v130) rfl (by kernel_rfl) (by kernel_rfl) (by kernel_rfl) (by kernel_rfl) (fun _ _ _ h => h) (by kernel_rfl) ?hy130 (by assumption) ?_
              case hy130 => (intro w hSw; (try dsimp only at hSw); go_simp; try with_reducible rfl)
              try simp only [Act.put, List.setIfInBounds_toArray, List.set_cons_zero, List.set_cons_succ]
              refine Take.take (i := 11) (oi := _) (t := 174) (v := ?v131) rfl (by kernel_rfl) (by kernel_rfl) (by kernel_rfl) (by kernel_rfl) (fun _ _ _ h => h) (by kernel_rfl) ?hy131 (by assumption) ?_
              case hy131 => (intro w hSw; (try dsimp only at hSw); go_simp; try with_reducible rfl)
              try simp only [Act.put, List.setIfInBounds_toArray, List.set_cons_zero, List.set_cons_succ]
              refine Take.take (i := 12) (oi := _) (t := 175) (v := ?v132) rfl (by kernel_rfl) (by kernel_rfl) (by kernel_rfl) (by kernel_rfl) (fun _ _ _ h => h) (by kernel_rfl) ?hy132 (by assumption) ?_
              case hy132 => (intro w hSw; (try dsimp only at hSw); go_simp; try with_reducible rfl)
              try simp only [Act.put, List.setIfInBounds_toArray, List.set_cons_zero, List.set_cons_succ]
              refine Take.take (i := 13) (oi := _) (t := 176) (v := ?v133) rfl (by kernel_rfl) (by kernel_rfl) (by kernel_rfl) (by kernel_rfl) (fun _ _ _ h => h) (by kernel_rfl) ?hy133 (by assumption) ?_
              case hy133 => (intro w hSw; (try dsimp only at hSw); go_simp; try with_reducible rfl)
              try simp only [Act.put, List.setIfInBounds_toArray, List.set_cons_zero, List.set_cons_succ]
              refine Take.take (i := 14) (oi := _) (t := 177) (v := ?v134) rfl (by kernel_rfl) (by kernel_rfl) (by kernel_rfl) (by kernel_rfl) (fun _ _ _ h => h) (by kernel_rfl) ?hy134 (by assumption) ?_
              case hy134 => (intro w hSw; (try dsimp only at hSw); go_simp; try with_reducible rfl)
              try simp only [Act.put, List.setIfInBounds_toArray, List.set_cons_zero, List.set_cons_succ]
              refine wpAnyH_ready (rs := [8]) (by kernel_rfl) (by simp) ?_
              refine AllReadyH.cons (o := _) rfl (fun K hK => ?_) AllReadyH.nil
              skip
              go_simp
              go_at_call 30
              refine (HRoom.out _ (by repeat (first | exact Off.refl _ _ | refine Off.drew ?_ | refine Off.drewN ?_ _))).mono ?_
              rintro e w4 ⟨rfl, nn, rfl⟩
              try dsimp only
              refine hK.out _ _ ?hS135 (fun hHeld => ?_)
              case hS135 => (first | assumption | exact HC30)
              clear hK K
              try simp only [Act.put, List.setIfInBounds_toArray, List.set_cons_zero, List.set_cons_succ]
              refine Take.take (i := 15) (oi := _) (t := 178) (v := ?v136) rfl (by kernel_rfl) (by kernel_rfl) (by kernel_rfl) (by kernel_rfl) (fun _ _ _ h => h) (by kernel_rfl) ?hy136 (by assumption) ?_
              case hy136 => (intro w hSw; (try dsimp only at hSw); go_simp; try with_reducible rfl)
              try simp only [Act.put, List.setIfInBounds_toArray, List.set_cons_zero, List.set_cons_succ]
              refine Take.take (i := 16) (oi := _) (t := 179) (v := ?v137) rfl (by kernel_rfl) (by kernel_rfl) (by kernel_rfl) (by kernel_rfl) (fun _ _ _ h => h) (by kernel_rfl) ?hy137 (by assumption) ?_
              case hy137 => (intro w hSw; (try dsimp only at hSw); go_simp; try with_reducible rfl)
              try simp only [Act.put, List.setIfInBounds_toArray, List.set_cons_zero, List.set_cons_succ]
              refine Take.take (i := 17) (oi := _) (t := 180) (v := ?v138) rfl (by kernel_rfl) (by kernel_rfl) (by kernel_rfl) (by kernel_rfl) (fun _ _ _ h => h) (by kernel_rfl) ?hy138 (by assumption) ?_
              case hy138 => (intro w hSw; (try dsimp only at hSw); go_simp; try with_reducible rfl)
              try simp only [Act.put, List.setIfInBounds_toArray, List.set_cons_zero, List.set_cons_succ]
              refine Take.take (i := 18) (oi := _) (t := 181) (v := ?v139) rfl (by kernel_rfl) (by kernel_rfl) (by kernel_rfl) (by kernel_rfl) (fun _ _ _ h => h) (by kernel_rfl) ?hy139 (by assumption) ?_
              case hy139 => (intro w hSw; (try dsimp only at hSw); go_simp; try with_reducible rfl)
              try simp only [Act.put, List.setIfInBounds_toArray, List.set_cons_zero, List.set_cons_succ]
              refine Take.take (i := 19) (oi := _) (t := 182) (v := ?v140) rfl (by kernel_rfl) (by kernel_rfl) (by kernel_rfl) (by kernel_rfl) (fun _ _ _ h => h) (by kernel_rfl) ?hy140 (by assumption) ?_
              case hy140 => (intro w hSw; (try dsimp only at hSw); go_simp; try with_reducible rfl)
              try simp only [Act.put, List.setIfInBounds_toArray, List.set_cons_zero, List.set_cons_succ]
              refine Take.take (i := 20) (oi := _) (t := 183) (v := ?v141) rfl (by kernel_rfl) (by kernel_rfl) (by kernel_rfl) (by kernel_rfl) (fun _ _ _ h => h) (by kernel_rfl) ?hy141 (by assumption) ?_
              case hy141 => (intro w hSw; (try dsimp only at hSw); go_simp; try with_reducible rfl)
              try simp only [Act.put, List.setIfInBounds_toArray, List.set_cons_zero, List.set_cons_succ]
              refine Take.take (i := 21) (oi := _) (t := 184) (v := ?v142) rfl (by kernel_rfl) (by kernel_rfl) (by kernel_rfl) (by kernel_rfl) (fun _ _ _ h => h) (by kernel_rfl) ?hy142 (by assumption) ?_
              case hy142 => (intro w hSw; (try dsimp only at hSw); go_simp; try with_reducible rfl)
              try simp only [Act.put, List.setIfInBounds_toArray, List.set_cons_zero, List.set_cons_succ]
              refine Take.take (i := 22) (oi := _) (t := 185) (v := ?v143) rfl (by kernel_rfl) (by kernel_rfl) (by kernel_rfl) (by kernel_rfl) (fun _ _ _ h => h) (by kernel_rfl) ?hy143 (by assumption) ?_
              case hy143 => (intro w hSw; (try dsimp only at hSw); go_simp; try with_reducible rfl)
              try simp only [Act.put, List.setIfInBounds_toArray, List.set_cons_zero, List.set_cons_succ]
              refine Take.take (i := 23) (oi := _) (t := 186) (v := ?v144) rfl (by kernel_rfl) (by kernel_rfl) (by kernel_rfl) (by kernel_rfl) (fun _ _ _ h => h) (by kernel_rfl) ?hy144 (by assumption) ?_
              case hy144 => (intro w hSw; (try dsimp only at hSw); go_simp; try with_reducible rfl)
              try simp only [Act.put, List.setIfInBounds_toArray, List.set_cons_zero, List.set_cons_succ]
              refine Take.take (i := 24) (oi := _) (t := 187) (v := ?v145) rfl (by kernel_rfl) (by kernel_rfl) (by kernel_rfl) (by kernel_rfl) (fun _ _ _ h => h) (by kernel_rfl) ?hy145 (by assumption) ?_
              case hy145 => (intro w hSw; (try dsimp only at hSw); go_simp; try with_reducible rfl)
              try simp only [Act.put, List.setIfInBounds_toArray, List.set_cons_zero, List.set_cons_succ]
              refine Take.take (i := 25) (oi := _) (t := 188) (v := ?v146) rfl (by kernel_rfl) (by kernel_rfl) (by kernel_rfl) (by kernel_rfl) (fun _ _ _ h => h) (by kernel_rfl) ?hy146 (by assumption) ?_
              case hy146 => (intro w hSw; (try dsimp only at hSw); go_simp; try with_reducible rfl)
              try simp only [Act.put, List.setIfInBounds_toArray, List.set_cons_zero, List.set_cons_succ]
              refine Take.skip (i := 26) (t := 189) (g := 25) (b := true) (by kernel_rfl) (by kernel_rfl) (by kernel_rfl) (by kernel_rfl) (fun _ _ _ h => h) (by kernel_rfl) (by assumption) ?_
              try simp only [Act.put, List.setIfInBounds_toArray, List.set_cons_zero, List.set_cons_succ]
              refine Take.skip (i := 27) (t := 190) (g := 25) (b := true) (by kernel_rfl) (by kernel_rfl) (by kernel_rfl) (by kernel_rfl) (fun _ _ _ h => h) (by kernel_rfl) (by assumption) ?_
              try simp only [Act.put, List.setIfInBounds_toArray, List.set_cons_zero, List.set_cons_succ]
              refine Take.skip (i := 28) (t := 191) (g := 25) (b := true) (by kernel_rfl) (by kernel_rfl) (by kernel_rfl) (by kernel_rfl) (fun _ _ _ h => h) (by kernel_rfl) (by assumption) ?_
              try simp only [Act.put, List.setIfInBounds_toArray, List.set_cons_zero, List.set_cons_succ]
              refine Take.skip (i := 29) (t := 192) (g := 25) (b := true) (by kernel_rfl) (by kernel_rfl) (by kernel_rfl) (by kernel_rfl) (fun _ _ _ h => h) (by kernel_rfl) (by assumption) ?_
              try simp only [Act.put, List.setIfInBounds_toArray, List.set_cons_zero, List.set_cons_succ]
              refine Take.skip (i := 30) (t := 193) (g := 25) (b := true) (by kernel_rfl) (by kernel_rfl) (by kernel_rfl) (by kernel_rfl) (fun _ _ _ h => h) (by kernel_rfl) (by assumption) ?_
              try simp only [Act.put, List.setIfInBounds_toArray, List.set_cons_zero, List.set_cons_succ]
              refine Take.skip (i := 31) (t := 194) (g := 25) (b := true) (by kernel_rfl) (by kernel_rfl) (by kernel_rfl) (by kernel_rfl) (fun _ _ _ h => h) (by kernel_rfl) (by assumption) ?_
              try simp only [Act.put, List.setIfInBounds_toArray, List.set_cons_zero, List.set_cons_succ]
              refine Take.skip (i := 32) (t := 195) (g := 25) (b := true) (by kernel_rfl) (by kernel_rfl) (by kernel_rfl) (by kernel_rfl) (fun _ _ _ h => h) (by kernel_rfl) (by assumption) ?_
              try simp only [Act.put, List.setIfInBounds_toArray, List.set_cons_zero, List.set_cons_succ]
              refine Take.skip (i := 33) (t := 196) (g := 25) (b := true) (by kernel_rfl) (by kernel_rfl) (by kernel_rfl) (by kernel_rfl) (fun _ _ _ h => h) (by kernel_rfl) (by assumption) ?_
              try simp only [Act.put, List.setIfInBounds_toArray, List.set_cons_zero, List.set_cons_succ]
              refine Take.take (i := 34) (oi := _) (t := 197) (v := ?v147) rfl (by kernel_rfl) (by kernel_rfl) (by kernel_rfl) (by kernel_rfl) (fun _ _ _ h => h) (by kernel_rfl) ?hy147 (by assumption) ?_
              case hy147 => (intro w hSw; (try dsimp only at hSw); go_simp; try with_reducible rfl)
              try simp only [Act.put, List.setIfInBounds_toArray, List.set_cons_zero, List.set_cons_succ]
              refine Take.take (i := 35) (oi := _) (t := 198) (v := ?v148) rfl (by kernel_rfl) (by kernel_rfl) (by kernel_rfl) (by kernel_rfl) (fun _ _ _ h => h) (by kernel_rfl) ?hy148 (by assumption) ?_
              case hy148 => (intro w hSw; (try dsimp only at hSw); go_simp; try with_reducible rfl)
              try simp only [Act.put, List.setIfInBounds_toArray, List.set_cons_zero, List.set_cons_succ]
              refine Take.take (i := 36) (oi := _) (t := 199) (v := ?v149) rfl (by kernel_rfl) (by kernel_rfl) (by kernel_rfl) (by kernel_rfl) (fun _ _ _ h => h) (by kernel_rfl) ?hy149 (by assumption) ?_
              case hy149 => (intro w hSw; (try dsimp only at hSw); go_simp; try with_reducible rfl)
              try simp only [Act.put, List.setIfInBounds_toArray, List.set_cons_zero, List.set_cons_succ]
              refine Take.take (i := 37) (oi := _) (t := 200) (v := ?v150) rfl (by kernel_rfl) (by kernel_rfl) (by kernel_rfl) (by kernel_rfl) (fun _ _ _ h => h) (by kernel_rfl) ?hy150 (by assumption) ?_
              case hy150 => (intro w hSw; (try dsimp only at hSw); go_simp; try with_reducible rfl)
              try simp only [Act.put, List.setIfInBounds_toArray, List.set_cons_zero, List.set_cons_succ]
              refine Take.take (i := 38) (oi := _) (t := 201) (v := ?v151) rfl (by kernel_rfl) (by kernel_rfl) (by kernel_rfl) (by kernel_rfl) (fun _ _ _ h => h) (by kernel_rfl) ?hy151 (by assumption) ?_
              case hy151 => (intro w hSw; (try dsimp only at hSw); go_simp; try with_reducible rfl)
              try simp only [Act.put, List.setIfInBounds_toArray, List.set_cons_zero, List.set_cons_succ]
              refine Take.take (i := 39) (oi := _) (t := 202) (v := ?v152) rfl (by kernel_rfl) (by kernel_rfl) (by kernel_rfl) (by kernel_rfl) (fun _ _ _ h => h) (by kernel_rfl) ?hy152 (by assumption) ?_
              case hy152 => (intro w hSw; (try dsimp only at hSw); go_simp; try with_reducible rfl)
              try simp only [Act.put, List.setIfInBounds_toArray, List.set_cons_zero, List.set_cons_succ]
              refine Take.take (i := 40) (oi := _) (t := 203) (v := ?v153) rfl (by kernel_rfl) (by kernel_rfl) (by kernel_rfl) (by kernel_rfl) (fun _ _ _ h => h) (by kernel_rfl) ?hy153 (by assumption) ?_
              case hy153 => (intro w hSw; (try dsimp only at hSw); go_simp; try with_reducible rfl)
              try simp only [Act.put, List.setIfInBounds_toArray, List.set_cons_zero, List.set_cons_succ]
              refine Take.take (i := 41) (oi := _) (t := 204) (v := ?v154) rfl (by kernel_rfl) (by kernel_rfl) (by kernel_rfl) (by kernel_rfl) (fun _ _ _ h => h) (by kernel_rfl) ?hy154 (by assumption) ?_
              case hy154 => (intro w hSw; (try dsimp only at hSw); go_simp; try with_reducible rfl)
              try simp only [Act.put, List.setIfInBounds_toArray, List.set_cons_zero, List.set_cons_succ]
              refine Take.take (i := 42) (oi := _) (t := 205) (v := ?v155) rfl (by kernel_rfl) (by kernel_rfl) (by kernel_rfl) (by kernel_rfl) (fun _ _ _ h => h) (by kernel_rfl) ?hy155 (by assumption) ?_
              case hy155 => (intro w hSw; (try dsimp only at hSw); go_simp; try with_reducible rfl)
              try simp only [Act.put, List.setIfInBounds_toArray, List.set_cons_zero, List.set_cons_succ]
              refine Take.take (i := 43) (oi := _) (t := 206) (v := ?v156) rfl (by kernel_rfl) (by kernel_rfl) (by kernel_rfl) (by kernel_rfl) (fun _ _ _ h => h) (by kernel_rfl) ?hy156 (by assumption) ?_
              case hy156 => (intro w hSw; (try dsimp only at hSw); go_simp; try with_reducible rfl)
              try simp only [Act.put, List.setIfInBounds_toArray, List.set_cons_zero, List.set_cons_succ]
              refine wpAnyH_done (by kernel_rfl) ?_ _
              refine NoPanic.normal ?_
              go_wp2_with fail
              go_round
              case rel => exact ⟨i + 1, no', S', _, cap', rfl, by omega, Hlt.out, hno', Lib.hid ⟨hBx.out.ag.off (by repeat (first | exact Off.refl _ _ | refine Off.drew ?_ | refine Off.drewN ?_ _)), hBx.out.box, hBx.out.row.below (by repeat (first | exact Below.refl _ _ | refine bdN ?_ _ | refine Below.drew ?_)), hBx.out.rise, hBx.out.low, hBx.out.len⟩, Lib.hid (by repeat (first | exact hLx.out | refine bdN ?_ _ | refine Below.drew ?_))⟩
              case measure => simp; omega
          · have h0 : S' ≠ [] := fun h => by have := hff.get; rw [h] at this; simp at this
            obtain ⟨i', t', rfl, hf'⟩ := firstTo_yes hp h0
            obtain ⟨rfl, rfl⟩ := hf'.uniq hff
            obtain ⟨rb, rfl, hrb, r0, _⟩ := (HB'.out.row.below b1).get hff.get
            have hi' := lt_of_get hff.get
            have j1 : (0 : Int) ≤ (i' : Int) := by omega
            have j2 : (i' : Int) < (S'.length : Int) := by omega
            clear hp h0 hf' hff
            as_aux_lemma =>
              have hbx := HB'.out.box.below b1 HB'.out.box.lt
              have HC30 : wx.cell? ⟨w2.heap.size, 0, none⟩ = some (.slice (some ⟨rb, 0, none⟩) S'.length cap') ∧ wx.cell? ⟨w2.heap.size, 1, none⟩ = some (.int .i64 most) ∧ wx.cell? ⟨rb, i' * 2, none⟩ = some (.int .i64 t'.due) := ⟨hbx.cell 0, hbx.cell 1, r0⟩
              have hag : Agenda.I64.Ag w.heap.size w.heap.size most no' S' wx := HB'.out.ag.fr (Fr.of_below (b := 0) (ts := []) b1) rfl rfl
              have HLen := Lib.hid (fun (v : World) (o : Off (fun _ => False) wx v) => Agenda.I64.len_any w.heap.size w.heap.size most no' S' v (hag.off o) hS60)
              have HRoom := Lib.hid (fun (v : World) (o : Off (fun _ => False) wx v) => Agenda.I64.room_any w.heap.size w.heap.size most no' S' v (hag.off o) hS60 hmb)
              have hBx := Lib.hid (show Both w.heap.size w.heap.size w2.heap.size most no' S' (some ⟨rb, 0, none⟩) cap' wx from ⟨hag, hbx, HB'.out.row.below b1, HB'.out.rise, HB'.out.low, HB'.out.len⟩)
              have hLx := Lib.hid (HL'.out.trans (b1.mono HL'.out.size))
              clear g0 g1 hbx hag b1 r0
              refine wp_region_noPanic ?_
              refine wp_region_held_drew (S := fun w' => w'.cell? ⟨w2.heap.size, 0, none⟩ = some (.slice (some ⟨rb, 0, none⟩) S'.length cap') ∧ w'.cell? ⟨w2.heap.size, 1, none⟩ = some (.int .i64 most) ∧ w'.cell? ⟨rb, i' * 2, none⟩ = some (.int .i64 t'.due)) (by kernel_rfl) HC30 (fun hHeld => ?_)
              refine Take.take (i := 0) (oi := _) (t := 163) (v := ?v157) rfl (by kernel_rfl) (by kernel_rfl) (by kernel_rfl) (by kernel_rfl) (fun _ _ _ h => h) (by kernel_rfl) ?hy157 (by assumption) ?_
              case hy157 => (intro w hSw; (try dsimp only at hSw); go_simp; try with_reducible rfl)
              try simp only [Act.put, List.setIfInBounds_toArray, List.set_cons_zero, List.set_cons_succ]
              refine Take.take (i := 2) (oi := _) (t := 165) (v := ?v158) rfl (by kernel_rfl) (by kernel_rfl) (by kernel_rfl) (by kernel_rfl) (fun _ _ _ h => h) (by kernel_rfl) ?hy158 (by assumption) ?_
              case hy158 => (intro w hSw; (try dsimp only at hSw); go_simp; try with_reducible rfl)
              try simp only [Act.put, List.setIfInBounds_toArray, List.set_cons_zero, List.set_cons_succ]
              refine Take.take (i := 3) (oi := _) (t := 166) (v := ?v159) rfl (by kernel_rfl) (by kernel_rfl) (by kernel_rfl) (by kernel_rfl) (fun _ _ _ h => h) (by kernel_rfl) ?hy159 (by assumption) ?_
              case hy159 => (intro w hSw; (try dsimp only at hSw); go_simp; try with_reducible rfl)
              try simp only [Act.put, List.setIfInBounds_toArray, List.set_cons_zero, List.set_cons_succ]
              refine Take.take (i := 4) (oi := _) (t := 167) (v := ?v160) rfl (by kernel_rfl) (by kernel_rfl) (by kernel_rfl) (by kernel_rfl) (fun _ _ _ h => h) (by kernel_rfl) ?hy160 (by assumption) ?_
              case hy160 => (intro w hSw; (try dsimp only at hSw); go_simp; try with_reducible rfl)
              try simp only [Act.put, List.setIfInBounds_toArray, List.set_cons_zero, List.set_cons_succ]
              refine wpAnyH_ready (rs := [1]) (by kernel_rfl) (by simp) ?_
              refine AllReadyH.cons (o := _) rfl (fun K hK => ?_) AllReadyH.nil
              skip
              go_simp
              go_at_call 24
              refine (HLen.out _ (by repeat (first | exact Off.refl _ _ | refine Off.drew ?_ | refine Off.drewN ?_ _))).mono ?_
              rintro e w4 ⟨rfl, rfl⟩
              try dsimp only
              refine hK.out _ _ ?hS161 (fun hHeld => ?_)
              case hS161 => (first | assumption | exact HC30)
              clear hK K
              try simp only [Act.put, List.setIfInBounds_toArray, List.set_cons_zero, List.set_cons_succ]
              refine Take.take (i := 5) (oi := _) (t := 168) (v := ?v162) rfl (by kernel_rfl) (by kernel_rfl) (by kernel_rfl) (by kernel_rfl) (fun _ _ _ h => h) (by kernel_rfl) ?hy162 (by assumption) ?_
              case hy162 => (intro w hSw; (try dsimp only at hSw); go_simp; try with_reducible rfl)
              try simp only [Act.put, List.setIfInBounds_toArray, List.set_cons_zero, List.set_cons_succ]
              refine Take.take (i := 6) (oi := _) (t := 169) (v := ?v163) rfl (by kernel_rfl) (by kernel_rfl) (by kernel_rfl) (by kernel_rfl) (fun _ _ _ h => h) (by kernel_rfl) ?hy163 (by assumption) ?_
              case hy163 => (intro w hSw; (try dsimp only at hSw); go_simp; try with_reducible rfl)
              try simp only [Act.put, List.setIfInBounds_toArray, List.set_cons_zero, List.set_cons_succ]
              refine Take.take (i := 7) (oi := _) (t := 170) (v := ?v164) rfl (by kernel_rfl) (by kernel_rfl) (by kernel_rfl) (by kernel_rfl) (fun _ _ _ h => h) (by kernel_rfl) ?hy164 (by assumption) ?_
              case hy164 => (intro w hSw; (try dsimp only at hSw); go_simp; try with_reducible rfl)
              try simp only [Act.put, List.setIfInBounds_toArray, List.set_cons_zero, List.set_cons_succ]
              refine Take.take (i := 9) (oi := _) (t := 172) (v := ?v165) rfl (by kernel_rfl) (by kernel_rfl) (by kernel_rfl) (by kernel_rfl) (fun _ _ _ h => h) (by kernel_rfl) ?hy165 (by assumption) ?_
              case hy165 => (intro w hSw; (try dsimp only at hSw); go_simp; try with_reducible rfl)
              try simp only [Act.put, List.setIfInBounds_toArray, List.set_cons_zero, List.set_cons_succ]
              refine Take.take (i := 10) (oi := _) (t := 173) (v := ?v166) rfl (by kernel_rfl) (by kernel_rfl) (by kernel_rfl) (by kernel_rfl) (fun _ _ _ h => h) (by kernel_rfl) ?hy166 (by assumption) ?_
              case hy166 => (intro w hSw; (try dsimp only at hSw); go_simp; try with_reducible rfl)
              try simp only [Act.put, List.setIfInBounds_toArray, List.set_cons_zero, List.set_cons_succ]
              refine Take.take (i := 11) (oi := _) (t := 174) (v := ?v167) rfl (by kernel_rfl) (by kernel_rfl) (by kernel_rfl) (by kernel_rfl) (fun _ _ _ h => h) (by kernel_rfl) ?hy167 (by assumption) ?_
              case hy167 => (intro w hSw; (try dsimp only at hSw); go_simp; try with_reducible rfl)
              try simp only [Act.put, List.setIfInBounds_toArray, List.set_cons_zero, List.set_cons_succ]
              refine Take.take (i := 12) (oi := _) (t := 175) (v := ?v168) rfl (by kernel_rfl) (by kernel_rfl) (by kernel_rfl) (by kernel_rfl) (fun _ _ _ h => h) (by kernel_rfl) ?hy168 (by assumption) ?_
              case hy168 => (intro w hSw; (try dsimp only at hSw); go_simp; try with_reducible rfl)
              try simp only [Act.put, List.setIfInBounds_toArray, List.set_cons_zero, List.set_cons_succ]
              refine Take.take (i := 13) (oi := _) (t := 176) (v := ?v169) rfl (by kernel_rfl) (by kernel_rfl) (by kernel_rfl) (by kernel_rfl) (fun _ _ _ h => h) (by kernel_rfl) ?hy169 (by assumption) ?_
              case hy169 => (intro w hSw; (try dsimp only at hSw); go_simp; try with_reducible rfl)
              try simp only [Act.put, List.setIfInBounds_toArray, List.set_cons_zero, List.set_cons_succ]
              refine Take.take (i := 14) (oi := _) (t := 177) (v := ?v170) rfl (by kernel_rfl) (by kernel_rfl) (by kernel_rfl) (by kernel_rfl) (fun _ _ _ h => h) (by kernel_rfl) ?hy170 (by assumption) ?_
              case hy170 => (intro w hSw; (try dsimp only at hSw); go_simp; try with_reducible rfl)
              try simp only [Act.put, List.setIfInBounds_toArray, List.set_cons_zero, List.set_cons_succ]
              refine wpAnyH_ready (rs := [8]) (by kernel_rfl) (by simp) ?_
              refine AllReadyH.cons (o := _) rfl (fun K hK => ?_) AllReadyH.nil
              skip
              go_simp
              go_at_call 30
              refine (HRoom.out _ (by repeat (first | exact Off.refl _ _ | refine Off.drew ?_ | refine Off.drewN ?_ _))).mono ?_
              rintro e w4 ⟨rfl, nn, rfl⟩
              try dsimp only
              refine hK.out _ _ ?hS171 (fun hHeld => ?_)
              case hS171 => (first | assumption | exact HC30)
              clear hK K
              try simp only [Act.put, List.setIfInBounds_toArray, List.set_cons_zero, List.set_cons_succ]
              refine Take.take (i := 15) (oi := _) (t := 178) (v := ?v172) rfl (by kernel_rfl) (by kernel_rfl) (by kernel_rfl) (by kernel_rfl) (fun _ _ _ h => h) (by kernel_rfl) ?hy172 (by assumption) ?_
              case hy172 => (intro w hSw; (try dsimp only at hSw); go_simp; try with_reducible rfl)
              try simp only [Act.put, List.setIfInBounds_toArray, List.set_cons_zero, List.set_cons_succ]
              refine Take.take (i := 16) (oi := _) (t := 179) (v := ?v173) rfl (by kernel_rfl) (by kernel_rfl) (by kernel_rfl) (by kernel_rfl) (fun _ _ _ h => h) (by kernel_rfl) ?hy173 (by assumption) ?_
              case hy173 => (intro w hSw; (try dsimp only at hSw); go_simp; try with_reducible rfl)
              try simp only [Act.put, List.setIfInBounds_toArray, List.set_cons_zero, List.set_cons_succ]
              refine Take.take (i := 17) (oi := _) (t := 180) (v := ?v174) rfl (by kernel_rfl) (by kernel_rfl) (by kernel_rfl) (by kernel_rfl) (fun _ _ _ h => h) (by kernel_rfl) ?hy174 (by assumption) ?_
              case hy174 => (intro w hSw; (try dsimp only at hSw); go_simp; try with_reducible rfl)
              try simp only [Act.put, List.setIfInBounds_toArray, List.set_cons_zero, List.set_cons_succ]
              refine Take.take (i := 18) (oi := _) (t := 181) (v := ?v175) rfl (by kernel_rfl) (by kernel_rfl) (by kernel_rfl) (by kernel_rfl) (fun _ _ _ h => h) (by kernel_rfl) ?hy175 (by assumption) ?_
              case hy175 => (intro w hSw; (try dsimp only at hSw); go_simp; try with_reducible rfl)
              try simp only [Act.put, List.setIfInBounds_toArray, List.set_cons_zero, List.set_cons_succ]
              refine Take.take (i := 19) (oi := _) (t := 182) (v := ?v176) rfl (by kernel_rfl) (by kernel_rfl) (by kernel_rfl) (by kernel_rfl) (fun _ _ _ h => h) (by kernel_rfl) ?hy176 (by assumption) ?_
              case hy176 => (intro w hSw; (try dsimp only at hSw); go_simp; try with_reducible rfl)
              try simp only [Act.put, List.setIfInBounds_toArray, List.set_cons_zero, List.set_cons_succ]
              refine Take.take (i := 20) (oi := _) (t := 183) (v := ?v177) rfl (by kernel_rfl) (by kernel_rfl) (by kernel_rfl) (by kernel_rfl) (fun _ _ _ h => h) (by kernel_rfl) ?hy177 (by assumption) ?_
              case hy177 => (intro w hSw; (try dsimp only at hSw); go_simp; try with_reducible rfl)
              try simp only [Act.put, List.setIfInBounds_toArray, List.set_cons_zero, List.set_cons_succ]
              refine Take.take (i := 21) (oi := _) (t := 184) (v := ?v178) rfl (by kernel_rfl) (by kernel_rfl) (by kernel_rfl) (by kernel_rfl) (fun _ _ _ h => h) (by kernel_rfl) ?hy178 (by assumption) ?_
              case hy178 => (intro w hSw; (try dsimp only at hSw); go_simp; try with_reducible rfl)
              try simp only [Act.put, List.setIfInBounds_toArray, List.set_cons_zero, List.set_cons_succ]
              refine Take.take (i := 22) (oi := _) (t := 185) (v := ?v179) rfl (by kernel_rfl) (by kernel_rfl) (by kernel_rfl) (by kernel_rfl) (fun _ _ _ h => h) (by kernel_rfl) ?hy179 (by assumption) ?_
              case hy179 => (intro w hSw; (try dsimp only at hSw); go_simp; try with_reducible rfl)
              try simp only [Act.put, List.setIfInBounds_toArray, List.set_cons_zero, List.set_cons_succ]
              refine Take.take (i := 23) (oi := _) (t := 186) (v := ?v180) rfl (by kernel_rfl) (by kernel_rfl) (by kernel_rfl) (by kernel_rfl) (fun _ _ _ h => h) (by kernel_rfl) ?hy180 (by assumption) ?_
              case hy180 => (intro w hSw; (try dsimp only at hSw); go_simp; try with_reducible rfl)
              try simp only [Act.put, List.setIfInBounds_toArray, List.set_cons_zero, List.set_cons_succ]
              refine Take.take (i := 24) (oi := _) (t := 187) (v := ?v181) rfl (by kernel_rfl) (by kernel_rfl) (by kernel_rfl) (by kernel_rfl) (fun _ _ _ h => h) (by kernel_rfl) ?hy181 (by assumption) ?_
              case hy181 => (intro w hSw; (try dsimp only at hSw); go_simp; try with_reducible rfl)
              try simp only [Act.put, List.setIfInBounds_toArray, List.set_cons_zero, List.set_cons_succ]
              refine Take.take (i := 25) (oi := _) (t := 188) (v := ?v182) rfl (by kernel_rfl) (by kernel_rfl) (by kernel_rfl) (by kernel_rfl) (fun _ _ _ h => h) (by kernel_rfl) ?hy182 (by assumption) ?_
              case hy182 => (intro w hSw; (try dsimp only at hSw); go_simp; try with_reducible rfl)
              try simp only [Act.put, List.setIfInBounds_toArray, List.set_cons_zero, List.set_cons_succ]
              refine Take.take (i := 26) (oi := _) (t := 189) (v := ?v183) rfl (by kernel_rfl) (by kernel_rfl) (by kernel_rfl) (by kernel_rfl) (fun _ _ _ h => h) (by kernel_rfl) ?hy183 (by assumption) ?_
              case hy183 => (intro w hSw; (try dsimp only at hSw); go_simp; try with_reducible rfl)
              try simp only [Act.put, List.setIfInBounds_toArray, List.set_cons_zero, List.set_cons_succ]
              refine Take.take (i := 27) (oi := _) (t := 190) (v := ?v184) rfl (by kernel_rfl) (by kernel_rfl) (by kernel_rfl) (by kernel_rfl) (fun _ _ _ h => h) (by kernel_rfl) ?hy184 (by assumption) ?_
              case hy184 => (intro w hSw; (try dsimp only at hSw); go_simp; try with_reducible rfl)
              try simp only [Act.put, List.setIfInBounds_toArray, List.set_cons_zero, List.set_cons_succ]
              refine Take.take (i := 28) (oi := _) (t := 191) (v := ?v185) rfl (by kernel_rfl) (by kernel_rfl) (by kernel_rfl) (by kernel_rfl) (fun _ _ _ h => h) (by kernel_rfl) ?hy185 (by assumption) ?_
              case hy185 => (intro w hSw; (try dsimp only at hSw); go_simp; try with_reducible rfl)
              try simp only [Act.put, List.setIfInBounds_toArray, List.set_cons_zero, List.set_cons_succ]
              refine Take.take (i := 29) (oi := _) (t := 192) (v := ?v186) rfl (by kernel_rfl) (by kernel_rfl) (by kernel_rfl) (by kernel_rfl) (fun _ _ _ h => h) (by kernel_rfl) ?hy186 (by assumption) ?_
              case hy186 => (intro w hSw; (try dsimp only at hSw); go_simp; try with_reducible rfl)
              try simp only [Act.put, List.setIfInBounds_toArray, List.set_cons_zero, List.set_cons_succ]
              refine Take.take (i := 30) (oi := _) (t := 193) (v := ?v187) rfl (by kernel_rfl) (by kernel_rfl) (by kernel_rfl) (by kernel_rfl) (fun _ _ _ h => h) (by kernel_rfl) ?hy187 (by assumption) ?_
              case hy187 => (intro w hSw; (try dsimp only at hSw); go_simp; try with_reducible rfl)
              try simp only [Act.put, List.setIfInBounds_toArray, List.set_cons_zero, List.set_cons_succ]
              refine Take.take (i := 31) (oi := _) (t := 194) (v := ?v188) rfl (by kernel_rfl) (by kernel_rfl) (by kernel_rfl) (by kernel_rfl) (fun _ _ _ h => h) (by kernel_rfl) ?hy188 (by assumption) ?_
              case hy188 => (intro w hSw; (try dsimp only at hSw); go_simp; try with_reducible rfl)
              try simp only [Act.put, List.setIfInBounds_toArray, List.set_cons_zero, List.set_cons_succ]
              refine Take.take (i := 32) (oi := _) (t := 195) (v := ?v189) rfl (by kernel_rfl) (by kernel_rfl) (by kernel_rfl) (by kernel_rfl) (fun _ _ _ h => h) (by kernel_rfl) ?hy189 (by assumption) ?_
              case hy189 => (intro w hSw; (try dsimp only at hSw); go_simp; try with_reducible rfl)
              try simp only [Act.put, List.setIfInBounds_toArray, List.set_cons_zero, List.set_cons_succ]
              refine Take.take (i := 33) (oi := _) (t := 196) (v := ?v190) rfl (by kernel_rfl) (by kernel_rfl) (by kernel_rfl) (by kernel_rfl) (fun _ _ _ h => h) (by kernel_rfl) ?hy190 (by assumption) ?_
              case hy190 => (intro w hSw; (try dsimp only at hSw); go_simp; try with_reducible rfl)
              try simp only [Act.put, List.setIfInBounds_toArray, List.set_cons_zero, List.set_cons_succ]
              refine Take.take (i := 34) (oi := _) (t := 197) (v := ?v191) rfl (by kernel_rfl) (by kernel_rfl) (by kernel_rfl) (by kernel_rfl) (fun _ _ _ h => h) (by kernel_rfl) ?hy191 (by assumption) ?_
              case hy191 => (intro w hSw; (try dsimp only at hSw); go_simp; try with_reducible rfl)
              try simp only [Act.put, List.setIfInBounds_toArray, List.set_cons_zero, List.set_cons_succ]
              refine Take.take (i := 35) (oi := _) (t := 198) (v := ?v192) rfl (by kernel_rfl) (by kernel_rfl) (by kernel_rfl) (by kernel_rfl) (fun _ _ _ h => h) (by kernel_rfl) ?hy192 (by assumption) ?_
              case hy192 => (intro w hSw; (try dsimp only at hSw); go_simp; try with_reducible rfl)
              try simp only [Act.put, List.setIfInBounds_toArray, List.set_cons_zero, List.set_cons_succ]
              refine Take.take (i := 36) (oi := _) (t := 199) (v := ?v193) rfl (by kernel_rfl) (by kernel_rfl) (by kernel_rfl) (by kernel_rfl) (fun _ _ _ h => h) (by kernel_rfl) ?hy193 (by assumption) ?_
              case hy193 => (intro w hSw; (try dsimp only at hSw); go_simp; try with_reducible rfl)
              try simp only [Act.put, List.setIfInBounds_toArray, List.set_cons_zero, List.set_cons_succ]
              refine Take.take (i := 37) (oi := _) (t := 200) (v := ?v194) rfl (by kernel_rfl) (by kernel_rfl) (by kernel_rfl) (by kernel_rfl) (fun _ _ _ h => h) (by kernel_rfl) ?hy194 (by assumption) ?_
              case hy194 => (intro w hSw; (try dsimp only at hSw); go_simp; try with_reducible rfl)
              try simp only [Act.put, List.setIfInBounds_toArray, List.set_cons_zero, List.set_cons_succ]
              refine Take.take (i := 38) (oi := _) (t := 201) (v := ?v195) rfl (by kernel_rfl) (by kernel_rfl) (by kernel_rfl) (by kernel_rfl) (fun _ _ _ h => h) (by kernel_rfl) ?hy195 (by assumption) ?_
              case hy195 => (intro w hSw; (try dsimp only at hSw); go_simp; try with_reducible rfl)
              try simp only [Act.put, List.setIfInBounds_toArray, List.set_cons_zero, List.set_cons_succ]
              refine Take.take (i := 39) (oi := _) (t := 202) (v := ?v196) rfl (by kernel_rfl) (by kernel_rfl) (by kernel_rfl) (by kernel_rfl) (fun _ _ _ h => h) (by kernel_rfl) ?hy196 (by assumption) ?_
              case hy196 => (intro w hSw; (try dsimp only at hSw); go_simp; try with_reducible rfl)
              try simp only [Act.put, List.setIfInBounds_toArray, List.set_cons_zero, List.set_cons_succ]
              refine Take.skip (i := 40) (t := 203) (g := 39) (b := true) (by kernel_rfl) (by kernel_rfl) (by kernel_rfl) (by kernel_rfl) (fun _ _ _ h => h) (by kernel_rfl) (by assumption) ?_
              try simp only [Act.put, List.setIfInBounds_toArray, List.set_cons_zero, List.set_cons_succ]
              refine Take.skip (i := 41) (t := 204) (g := 39) (b := true) (by kernel_rfl) (by kernel_rfl) (by kernel_rfl) (by kernel_rfl) (fun _ _ _ h => h) (by kernel_rfl) (by assumption) ?_
              try simp only [Act.put, List.setIfInBounds_toArray, List.set_cons_zero, List.set_cons_succ]
              refine Take.take (i := 42) (oi := _) (t := 205) (v := ?v197) rfl (by kernel_rfl) (by kernel_rfl) (by kernel_rfl) (by kernel_rfl) (fun _ _ _ h => h) (by kernel_rfl) ?hy197 (by assumption) ?_
              case hy197 => (intro w hSw; (try dsimp only at hSw); go_simp; try with_reducible rfl)
              try simp only [Act.put, List.setIfInBounds_toArray, List.set_cons_zero, List.set_cons_succ]
              refine Take.take (i := 43) (oi := _) (t := 206) (v := ?v198) rfl (by kernel_rfl) (by kernel_rfl) (by kernel_rfl) (by kernel_rfl) (fun _ _ _ h => h) (by kernel_rfl) ?hy198 (by assumption) ?_
              case hy198 => (intro w hSw; (try dsimp only at hSw); go_simp; try with_reducible rfl)
              try simp only [Act.put, List.setIfInBounds_toArray, List.set_cons_zero, List.set_cons_succ]
              refine wpAnyH_done (by kernel_rfl) ?_ _
              refine NoPanic.normal ?_
              go_wp2_with fail
              go_round
              case rel => exact ⟨i + 1, no', S', _, cap', rfl, by omega, Hlt.out, hno', Lib.hid ⟨hBx.out.ag.off (by repeat (first | exact Off.refl _ _ | refine Off.drew ?_ | refine Off.drewN ?_ _)), hBx.out.box, hBx.out.row.below (by repeat (first | exact Below.refl _ _ | refine bdN ?_ _ | refine Below.drew ?_)), hBx.out.rise, hBx.out.low, hBx.out.len⟩, Lib.hid (by repeat (first | exact hLx.out | refine bdN ?_ _ | refine Below.drew ?_))⟩
              case measure => simp; omega
      · have i2 : (i : Int) < (len : Int) := by omega
        have i3 : ¬ (i : Int) < 60 := by omega
        have HWk := Lib.hid (Agenda.works_any wr)
        go_wp2_with (go_at_call 19; refine HWk.out.mono ?_; rintro e w4 ⟨rfl, b4⟩)
        go_ret
        exact ⟨rfl, HL.out.trans (b4.mono HL.out.size)⟩
    · have i2 : ¬ (i : Int) < (len : Int) := by omega
      have HWk := Lib.hid (Agenda.works_any wr)
      go_wp2_with (go_at_call 19; refine HWk.out.mono ?_; rintro e w4 ⟨rfl, b4⟩)
      go_ret
      exact ⟨rfl, HL.out.trans (b4.mono HL.out.size)⟩
end Go.Proofs.Ytcicnanchikpjaa.Heap
