/- graph.Graph's Without, walked. -/
import Derived.Test.YtcangalpccppbaaDoorHasList
namespace Go.Proofs.YtcangalpccppbaaDoor.Graph
open Go.RowKit
open Go.Proofs.YtcangalpccppbaaDoor.RF Go.Proofs.YtcangalpccppbaaDoor.Heap Go.Proofs.YtcangalpccppbaaDoor.Nodes Go.Proofs.YtcangalpccppbaaDoor.Seen
set_option linter.unusedVariables false
set_option linter.unusedSimpArgs false

set_option maxRecDepth 100000 in
set_option maxHeartbeats 8000000 in
theorem gowithout_any {w : World} {G R : Nat} {near : List Nat} (hg : GraphAt w G R near) (s : Nat) (hs : s < 2 ^ 64) :
    Calls Tryd.prog 24 #[.pointer (some ⟨G, 0, none⟩), .int .u64 s] w fun e w' => ∃ G' R', e = .returned (.pointer (some ⟨G', 0, none⟩)) ∧ GraphAt w' G' R' (withoutR near s) ∧ Below w.heap.size w w' := by
  have cG0 := hg.box.cell 0
  simp at cG0
  have hfew := hg.few
  have lenI : (0 : Int) ≤ (near.length : Int) := by omega
  have hmk := run_make_row' (P := Tryd.prog) 71 38 (.int .u64 0) 8 Tryd.underlying71 infoS rfl .i64 .i64 near.length (by omega) (by omega)
  have hw0 : w.heap.size < w.heap.size + 1 := by omega
  obtain ⟨W1, hW1⟩ : ∃ W1, (w.alloc (.cells (madeCells #[.int .u64 0] near.length) 38)).alloc (.cells #[.slice (some ⟨w.heap.size, 0, none⟩) near.length near.length] 73) = W1 := ⟨_, rfl⟩
  have g1 : GraphAt W1 (w.heap.size + 1) w.heap.size (withoutTo near s 0) := by
    rw [← hW1, withoutTo_zero]
    have z1 : (w.alloc (.cells (madeCells #[.int .u64 0] near.length) 38)).heap.size = w.heap.size + 1 := by simp
    have r1 := (Blk.new w 38 (madeCells #[.int .u64 0] near.length)).alloc (.cells #[.slice (some ⟨w.heap.size, 0, none⟩) near.length near.length] 73)
    have b1 := Blk.new (w.alloc (.cells (madeCells #[.int .u64 0] near.length) 38)) 73 #[.slice (some ⟨w.heap.size, 0, none⟩) near.length near.length]
    rw [z1] at b1
    rw [made_eq] at r1 b1 ⊢
    exact ⟨by simpa using b1, by simpa using r1, fun x hx => by rw [List.mem_replicate] at hx; rw [hx.2]; decide, by simpa using hfew⟩
  have l1 : Below w.heap.size w W1 := by rw [← hW1]; exact ((Below.refl _ w).alloc (Nat.le_refl _) _).alloc (by simp) _
  have HW1 := Lib.hid hW1
  have Hg := Lib.hid hg
  have G1 := Lib.hid g1
  clear hW1 hg g1
  go_enter Tryd.func24, Tryd.ntmps24
  go_wp2_with fail
  rw [HW1.out]
  clear HW1 hmk hw0
  go_loopw [22] (fun v22 wr => ∃ k : Nat, v22 = .int .i64 k ∧ k ≤ near.length ∧ RowKit.Hid (GraphAt wr (w.heap.size + 1) w.heap.size (withoutTo near s k)) ∧ Below w.heap.size w wr) (fun v22 _ => match v22 with | .int _ k => near.length - k.toNat | _ => 0)
  case atStart => exact ⟨0, rfl, Nat.zero_le _, G1, l1⟩
  case round =>
    clear l1
    obtain ⟨k, rfl, hk, HG, lR⟩ := hrel
    by_cases hlt : k < near.length
    · have l3 : (0 : Int) ≤ (k : Int) := by omega
      have l4 : (k : Int) < (near.length : Int) := by omega
      have l5 : (k : Int) ≤ 64 := by omega
      have hr : hasR s (k : Int) = s.testBit k := by simp [hasR]; omega
      have hh := has_any s hs (k : Int) wr
      rw [hr] at hh
      have HH := Lib.hid hh
      clear hr hh
      rcases e1 : s.testBit k with _ | _
      · rw [e1] at HH
        have gR := Hg.out.below lR (Nat.le_refl _)
        obtain ⟨a, ha⟩ : ∃ a, near.getD k 0 = a := ⟨_, rfl⟩
        have ha64 := Hg.out.lt k
        rw [ha] at ha64
        have hst := withoutTo_miss e1 hlt
        rw [ha] at hst
        have c1 := HG.out.box.cell 0
        simp [withoutTo_len] at c1
        have c2 := gR.box.cell 0
        simp at c2
        have c3 := gR.at hlt
        rw [ha] at c3
        have c4 := HG.out.at (k := k) (by rw [withoutTo_len]; exact hlt)
        obtain ⟨b, hb⟩ : ∃ b, (withoutTo near s k).getD k 0 = b := ⟨_, rfl⟩
        rw [hb] at c4
        have c5 := HG.out.row.frozen k
        have hne1 := HG.out.box.ne HG.out.row (by decide)
        have hne2 : G ≠ w.heap.size := by have := Hg.out.box.lt; omega
        have hne3 : R ≠ w.heap.size := by have := Hg.out.row.lt; omega
        have hbits := bits_andNot_nat a s (by omega) (by omega)
        have hx := anotN_lt (a := a) (s := s) ha64
        obtain ⟨x, hxx⟩ : ∃ x, anotN a s = x := ⟨_, rfl⟩
        change _ = ((anotN a s : Nat) : Int) at hbits
        rw [hxx] at hbits hx hst
        have HS : ∀ v, Off (fun j => j = w.heap.size) wr v → (Off (fun j => j = w.heap.size) wr v ∧ v.cell? ⟨w.heap.size + 1, 0, none⟩ = some (.slice (some ⟨w.heap.size, 0, none⟩) near.length near.length) ∧ v.cell? ⟨G, 0, none⟩ = some (.slice (some ⟨R, 0, none⟩) near.length near.length) ∧ v.cell? ⟨R, k, none⟩ = some (.int .u64 (a : Nat))) := fun v hv => by
          refine ⟨hv, ?_, ?_, ?_⟩
          · have := (HG.out.box.off hv hne1).cell 0
            simpa [withoutTo_len] using this
          · have := (gR.box.off hv hne2).cell 0
            simpa using this
          · have h3 := (gR.row.off hv hne3).cell k
            exact h3.trans ((gR.row.cell k).symm.trans c3)
        replace HS := Lib.hid HS
        have Hst := Lib.hid hst
        have Hx := Lib.hid hx
        have HgR := Lib.hid gR
        have hl := lR.size
        clear hst hx gR ha ha64 hb hxx
        go_wp2_with (go_at_call 52; refine HH.out.mono ?_; rintro e w' ⟨rfl, h⟩; rw [h]; clear h w')
        go_region_held3 (fun v => Off (fun j => j = w.heap.size) wr v ∧ v.cell? ⟨w.heap.size + 1, 0, none⟩ = some (.slice (some ⟨w.heap.size, 0, none⟩) near.length near.length) ∧ v.cell? ⟨G, 0, none⟩ = some (.slice (some ⟨R, 0, none⟩) near.length near.length) ∧ v.cell? ⟨R, k, none⟩ = some (.int .u64 (a : Nat)))
          ((refine HS.out _ ?_; repeat (first | exact Off.refl _ _ | assumption | refine Off.drew ?_ | refine off_put ?_ _ _)))
          (fail)
        go_wp2_with fail
        go_round
        case rel => exact ⟨k + 1, rfl, hlt, Lib.hid (by rw [Hst.out]; exact (HG.out.put k x Hx.out).off (Off.drew (Off.refl (fun _ => False) _)) id id), (lR.setCell (p := ⟨w.heap.size, k, none⟩) (Nat.le_refl _) _).drew⟩
        case measure => simp; omega
      · have hst := withoutTo_hit (near := near) e1
        rw [e1] at HH
        go_wp2_with (go_at_call 52; refine HH.out.mono ?_; rintro e w' ⟨rfl, h⟩; rw [h]; clear h w')
        go_round
        case rel => exact ⟨k + 1, rfl, hlt, by rw [hst]; exact HG, lR⟩
        case measure => simp; omega
    · obtain rfl : k = near.length := by omega
      go_wp2_with fail
      go_ret
      exact ⟨_, _, rfl, HG.out, lR⟩
end Go.Proofs.YtcangalpccppbaaDoor.Graph
