/- Package nodes: the least of a set, its iterator, one bit, with, has: whatever the word. -/
import Derived.Test.YtmbblhajbecomaaDoorOnes
import Derived.Test.YtmbblhajbecomaaDoorFlat
import Derived.Test.YtmbblhajbecomaaDoorChecked
import Derived.WalkLawsBesides
import Derived.WalkSpells
import Derived.Lib.Hide
import Derived.Outline
import Derived.BigQuiet
import Derived.BigRegion
import Derived.Deep.QuietTactic
import Derived.Laws.EntriesVeiled
namespace Go.Proofs.YtmbblhajbecomaaDoor.Nodes
set_option maxRecDepth 100000
open Go.RowKit
open Go.Proofs.YtmbblhajbecomaaDoor.RF Go.Proofs.YtmbblhajbecomaaDoor.Heap
set_option linter.unusedVariables false
attribute [local go_sem] Oper.semAt_some

/-- The library's table lies. -/
def Tab (w : World) : Prop := ∀ j, j < Lib.deBruijn64tab.length → w.cell? ⟨0, j, none⟩ = some (.int .u8 (Lib.deBruijn64tab.getD j 0))
theorem Tab.same {w w' : World} (h : Tab w) (hb : w'.heap[0]? = w.heap[0]?) : Tab w' := fun j hj => (World.cell?_of_block hb).trans (h j hj)
theorem Tab.below {b : Nat} {w w' : World} (h : Tab w) (k : Below b w w') (hb : 0 < b) : Tab w' := h.same (k.block 0 hb)
theorem Tab.off {K : Nat → Prop} {w w' : World} (h : Tab w) (k : Off K w w') (hb : ¬ K 0) (h0 : 0 < w.heap.size) : Tab w' := h.same (k.block 0 h0 hb)
theorem Tab.size {w : World} (h : Tab w) : 0 < w.heap.size := by
  have := h 0 (by decide)
  rcases Nat.eq_zero_or_pos w.heap.size with c | c
  · have : w.heap[0]? = none := Array.getElem?_eq_none (by omega)
    simp [World.cell?, this] at *
  · exact c
theorem tz_core (x k idx : Nat) (w : World) (hx0 : ((x : Int) == 0) = false)
    (key : IntKind.u64.wrap (bits BinOp.and IntKind.u64 (x : Int) (IntKind.u64.wrap (-(x : Int))) * 285870213051353865) / 288230376151711744 = (idx : Int))
    (hi : idx < 64) (hk : k < 64) (hcell : w.cell? ⟨0, idx, none⟩ = some (.int .u8 k)) :
    Calls Tryd.prog 71 #[.int .u64 x] w fun e w' => e = .returned (.int .i64 k) ∧ w' = w := by
  go_enter Tryd.func71, Tryd.ntmps71
  go_wp2_with (simp only [key])
  go_ret
  exact ⟨rfl, rfl⟩
theorem tz_any (x : Nat) (hx : x < 2 ^ 64) (hx0 : x ≠ 0) (w : World) (hT : Tab w) :
    Calls Tryd.prog 71 #[.int .u64 x] w fun e w' => e = .returned (.int .i64 (Lib.ctz 64 x)) ∧ w' = w := by
  obtain ⟨hlow, hk⟩ := Lib.lowest_bit 64 x hx0 hx
  obtain ⟨hi, htab⟩ := Lib.deBruijn64_at _ hk
  have hcell := hT _ hi
  rw [htab] at hcell
  exact tz_core x _ _ w (eq0 hx0) (tz_key x _ hx hx0 hlow) hi hk hcell
theorem least_any (x : Nat) (hx : x < 2 ^ 64) (hx0 : x ≠ 0) (w : World) (hT : Tab w) :
    Calls Tryd.prog 62 #[.int .u64 x] w fun e w' => e = .returned (.int .i64 (Lib.ctz 64 x)) ∧ w' = w := by
  have hz := eq0 hx0
  go_enter Tryd.func62, Tryd.ntmps62
  go_wp2_with (go_at_call 71; refine (tz_any x hx hx0 w hT).mono ?_; rintro e w' ⟨rfl, rfl⟩)
  go_ret
  exact ⟨rfl, rfl⟩
/-- nodes.Each(s): the value; its box. -/
theorem each_any (x : Nat) (w : World) :
    Calls Tryd.prog 72 #[.int .u64 x] w fun e w' => e = .returned (.func (.func 79) #[] #[.pointer (some ⟨w.heap.size, 0, none⟩)]) ∧ w' = w.alloc (.cells #[.int .u64 x] 31) := by
  go_enter Tryd.func72, Tryd.ntmps72
  go_wp2
  go_ret
  exact ⟨rfl, rfl⟩
/-- The box's word. -/
def left (B : Nat) (W : World) : Nat := match W.cell? ⟨B, 0, none⟩ with | some (.int _ n) => (ones n.toNat).length | _ => 0
theorem left_eq {B s : Nat} {t : TypeId} {W : World} (h : Blk W B t #[.int .u64 s]) : left B W = (ones s).length := by
  have := h.cell 0
  simp only [left, this]
  simp
set_option maxRecDepth 100000 in
set_option maxHeartbeats 4000000 in
/-- THE ITERATOR: it hands over the set's members, rising; it turns its own box alone. -/
theorem each_gives (B s : Nat) (hs : s < 2 ^ 64) (W : World) (hB : Blk W B 31 #[.int .u64 s]) (hT : Tab W) (hB0 : B ≠ 0) :
    Gives Tryd.prog 79 #[.pointer (some ⟨B, 0, none⟩)] (fun i : Nat => #[.int .i64 i]) (fun A C => ∃ u, C = A.setCell ⟨B, 0, none⟩ u) (fun k => k = B ∨ k = 0) (fun xs => xs = ones s) (fun pre => pre <+: ones s) W := by
  intro l J Jx W1 hW1 hJ hJx hY h0
  refine callsIn_of_wp Tryd.func79 rfl trivial ?_ rfl
  simp only [Tryd.ntmps79, List.size_toArray, List.length_cons, List.length_nil, Nat.reduceAdd, Nat.reduceSub, Array.replicate_succ, Array.replicate_zero, List.push_toArray, List.append_toArray, List.nil_append, List.cons_append]
  have hB1 : Blk W1 B _ _ := hB.off hW1 (fun c => c)
  have hT1 : Tab W1 := hT.off hW1 (fun c => c) hT.size
  clear hB hT hW1 W
  gi_wp2
  gi_loopw [] (fun wr => ∃ (pre : List Nat) (s' : Nat), s' < 2 ^ 64 ∧ ones s = pre ++ ones s' ∧ Blk wr B 31 #[.int .u64 s'] ∧ Tab wr ∧ J pre wr)
    (fun wr => left B wr)
  case atStart =>
    exact ⟨[], s, hs, rfl, hB1, hT1, h0⟩
  case round =>
    obtain ⟨pre, s', hs', hx, hb, ht, hJs⟩ := hrel
    have cB := hb.cell 0
    have fB := hb.frozen 0
    simp at cB
    by_cases hz : s' = 0
    · subst hz
      gi_wp2
      go_end0
      exact ⟨⟨_, rfl⟩, .inl ⟨pre, by simp [hx, ones_zero], hJs⟩⟩
    · have hz0 := eq0 hz
      have ho := ones_cons hz hs'
      obtain ⟨fn, tmps, assign, body, hy, hR⟩ := (hY pre (Lib.ctz 64 s') wr hJs (by rw [hx, ho]; exact ⟨ones (s' &&& (s' - 1)), by simp⟩))
      gi_wp2
      refine ⟨trivial, rfl, (callsIn_wide.2 (least_any s' hs' hz wr ht)).mono ?_⟩
      rintro e w' ⟨rfl, rfl⟩
      gi_wp2
      refine ⟨rfl, hR.mono ?_⟩
      rintro e W3 (⟨rfl, hJ3, hz3, hk3⟩ | ⟨rfl, hJx3⟩)
      · have hb3 : Blk W3 B _ _ := (hk3 B (.inl rfl)).trans hb
        have ht3 : Tab W3 := ht.same (hk3 0 (.inr rfl))
        have cB3 := hb3.cell 0
        have fB3 := hb3.frozen 0
        simp at cB3
        have e1 := wrap_less hz hs'
        have e2 := and_less hz hs'
        have hb4 := hb3.put 0 (.int .u64 ((s' &&& (s' - 1) : Nat) : Int))
        simp at hb4
        have oB : Off (fun k => k = B) W3 (W3.setCell ⟨B, 0, none⟩ (.int .u64 ((s' &&& (s' - 1) : Nat) : Int))) := Off.setCell (p := ⟨B, 0, none⟩) (Off.refl (fun k => k = B) W3) (.inl rfl) _
        gi_wp2
        refine ⟨⟨pre ++ [Lib.ctz 64 s'], s' &&& (s' - 1), less_lt hs', by simp [hx, ho], hb4, ht3.off oB (fun c => hB0 c.symm) ht3.size, hJ _ _ _ hJ3 ⟨_, rfl⟩⟩, ?_⟩
        rw [left_eq hb4, left_eq hb, ho]; simp
      · gi_wp2
        refine bodyPost_ret (results_none rfl _ _ _) rfl ?_
        exact ⟨⟨_, rfl⟩, .inr ⟨pre ++ [Lib.ctz 64 s'], by rw [hx, ho]; exact ⟨ones (s' &&& (s' - 1)), by simp⟩, hJx3⟩⟩
end Go.Proofs.YtmbblhajbecomaaDoor.Nodes
