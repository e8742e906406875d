/- Clocks that go on by what they may are in pace: the law, walked. -/
import Derived.Test.YtpbabpbinojodaaDoorDriftPaceIn
import Derived.Deep.DeepCutAuto
import Derived.Deep.LoopGhost
namespace Go.Proofs.YtpbabpbinojodaaDoor.Drift
open Go.RowKit
open Go.Proofs.YtpbabpbinojodaaDoor.Arith Go.Proofs.YtpbabpbinojodaaDoor.Nodes Go.Proofs.YtpbabpbinojodaaDoor.Heap Go.Proofs.YtpbabpbinojodaaDoor.RF
set_option linter.unusedVariables false
set_option linter.unusedSimpArgs false
def ic (xs : List Int) : Array Value := (xs.map (Value.int .i64)).toArray
theorem ic_at {xs : List Int} {j : Nat} (h : j < xs.length) : (ic xs)[j]? = some (.int .i64 (xs.getD j 0)) := by simp [ic, h]
theorem ic_put (xs : List Int) (j : Nat) (x : Int) : (ic xs).setIfInBounds j (.int .i64 x) = ic (xs.set j x) := by simp [ic, List.map_set]
def cw (S F wo ti : Int) : Wt := ⟨4611686018427387904, S, F, wo, ti, 0, 0⟩
/-- What holds ahead of each round. -/
structure PInv (w : World) (S F : Int) (q i : Nat) (wo ti : Int) (a : Nt) (xs : List Int) (V : World) : Prop where
  at_ : WAt V q (cw S F wo ti) a
  row : Blk V (q + 1) 2 (ic xs)
  len : xs.length = 3
  ahead : Ahead S F i a xs
  rng : ∀ j, j < 3 → 0 ≤ xs.getD j 0 ∧ xs.getD j 0 ≤ 4294967295 + 510 * (i : Int)
  low : Below w.heap.size w V
theorem infoE : (Tryd.prog.info? 2).map (fun i => (i.zero, i.size, i.bytes)) = some (some (.int .i64 0), 1, 8) := by kernel_rfl
theorem own_some {W : World} {base : Nat} {e : TypeId} {s n : Nat} {v : Value} {xs : List Value} (h : W.ownsRow base e s v n xs) (hn : 0 < n) : ∃ g cap, v = .slice (some ⟨g, 0, none⟩) n cap := by
  rcases h.2 with ⟨rfl, h0⟩ | ⟨g, cap, cur, rfl, _⟩
  · omega
  · exact ⟨g, cap, rfl⟩
theorem own_row64 {W : World} {base g cap : Nat} {xs : List Int} (h : W.ownsRow base 2 1 (.slice (some ⟨g, 0, none⟩) xs.length cap) xs.length (xs.map (Value.int .i64))) : Row64 W (some ⟨g, 0, none⟩) xs := fun i hi => by
  obtain ⟨cur, hb, _, _, _, hs, ht⟩ := row_blk h
  refine ⟨g, 0, rfl, hb.lt, ?_⟩
  rw [Nat.zero_add, hb.cell]
  have h1 : (cur.toList.take (xs.length * 1))[i]? = (xs.map (Value.int .i64))[i]? := by rw [ht]
  rw [List.getElem?_take, if_pos (by omega)] at h1
  rw [← Array.getElem?_toList, h1]
  simp [hi]
theorem below_own {w0 w w' : World} {base b : Nat} {e : TypeId} {s n : Nat} {v : Value} {xs : List Value} (k : Below b w0 w) (g : w.grownBy w' v.ownBlock) (h : w.ownsRow base e s v n xs) (hb : b ≤ base) (hb2 : b ≤ w.heap.size) : Below b w0 w' :=
  ⟨g.os.trans k.os, g.tape.trans k.tape, g.output.trans k.output, Nat.le_trans k.size g.size, fun i hi => (g.block i (by omega) (fun c => by
    rcases h.2 with ⟨rfl, _⟩ | ⟨gg, cap, cur, rfl, hbb, _⟩
    · simp [Value.ownBlock] at c
    · simp only [Value.ownBlock, Option.some.injEq] at c; omega)).trans (k.block i hi)⟩
/-- While the clocks go on. -/
structure PStep (w : World) (S F : Int) (q : Nat) (wo ti : Int) (a : Nt) (xs : List Int) (k : Nat) (ys : List Int) (V : World) : Prop where
  at_ : WAt V q (cw S F wo ti) a
  row : Blk V (q + 1) 2 (ic ys)
  len : ys.length = 3
  step : ∀ j, j < 3 → (j < k → S ≤ ys.getD j 0 - xs.getD j 0 ∧ ys.getD j 0 - xs.getD j 0 ≤ F) ∧ (k ≤ j → ys.getD j 0 = xs.getD j 0)
  low : Below w.heap.size w V
theorem getD_set' {A : List Int} {i j : Nat} {x : Int} (hi : i < A.length) : (A.set i x).getD j 0 = if j = i then x else A.getD j 0 := getD_set hi
theorem PStep.more {w : World} {S F : Int} {q : Nat} {wo ti : Int} {a : Nt} {xs : List Int} {k : Nat} {ys : List Int} {V : World} (h : PStep w S F q wo ti a xs k ys V) (hk : k < 3) {x : Int} (h1 : S ≤ x - xs.getD k 0) (h2 : x - xs.getD k 0 ≤ F) (hq : w.heap.size < q) :
    PStep w S F q wo ti a xs (k + 1) (ys.set k x) (V.setCell ⟨q + 1, k, none⟩ (.int .i64 x)).drew := by
  have hl := h.len
  refine ⟨(h.at_.off (off_put (Off.refl (fun j => j = q + 1) V) rfl k (.int .i64 x)) (by omega)).drew, ?_, by simpa using hl, fun j hj => ?_, (h.low.setCell (p := ⟨q + 1, k, none⟩) (by show w.heap.size ≤ q + 1; omega) _).drew⟩
  · have := h.row.put k (.int .i64 x)
    rw [ic_put] at this
    exact this
  · rw [getD_set' (by omega)]
    by_cases c : j = k
    · subst c; rw [if_pos rfl]; exact ⟨fun _ => ⟨h1, h2⟩, fun h => by omega⟩
    · rw [if_neg c]
      exact ⟨fun h' => (h.step j hj).1 (by omega), fun h' => (h.step j hj).2 (by omega)⟩
theorem PStep.done {w : World} {S F : Int} {q i : Nat} {wo ti : Int} {xs : List Int} {ys : List Int} {V : World} (h : PStep w S F q wo ti ⟨i, xs, 7⟩ xs 3 ys V) (hr : ∀ j, j < 3 → 0 ≤ xs.getD j 0 ∧ xs.getD j 0 ≤ 4294967295 + 510 * (i : Int)) (rF : 0 ≤ S ∧ F ≤ 510) (hx : xs.length = 3) :
    PInv w S F q (i + 1) wo ti ⟨i, xs, 7⟩ ys V :=
  ⟨h.at_, h.row, h.len, .inr ⟨by omega, by show (i : Int) = ((i + 1 : Nat) : Int) - 1; omega, rfl, hx, fun j hj => ⟨((h.step j hj).1 hj).1, ((h.step j hj).1 hj).2, (hr j hj).1⟩⟩, fun j hj => by
    have := (h.step j hj).1 hj
    have := hr j hj
    omega, h.low⟩
/-- Behind Note. -/
structure PMid (w : World) (S F : Int) (q i : Nat) (wo ti : Int) (xs : List Int) (V : World) : Prop where
  at_ : WAt V q (cw S F wo ti) ⟨i, xs, 7⟩
  row : Blk V (q + 1) 2 (ic xs)
  low : Below w.heap.size w V
def PNoted (w : World) (S F : Int) (q i : Nat) (xs : List Int) (V : World) : Prop := ∃ wo ti, PMid w S F q i wo ti xs V
theorem PInv.note {w : World} {S F : Int} {q i : Nat} {wo ti : Int} {a : Nt} {xs : List Int} {wr w3 : World} {gg cap2 : Nat} (h : PInv w S F q i wo ti a xs wr) (hT : Tab wr) (k : Below wr.heap.size wr w3) (own : w3.ownsRow wr.heap.size 2 1 (.slice (some ⟨gg, 0, none⟩) (0 + 3) cap2) (0 + 3) ([] ++ xs.map (Value.int .i64)))
    (hq : w.heap.size < q) (hi : i ≤ 64) (rF : 0 ≤ F ∧ F ≤ 510) (rS : 0 ≤ S ∧ S ≤ 255) (h0 : 0 < w.heap.size) :
    Calls Tryd.prog 9 #[.pointer (some ⟨q, 0, none⟩), .int .i64 (i : Nat), .slice (some ⟨gg, 0, none⟩) 3 cap2, .int .u64 7] w3 fun r w' => r = .returned (.bool true) ∧ PNoted w S F q i xs w' := by
  have hl := h.len
  have row : Row64 w3 (some ⟨gg, 0, none⟩) xs := by
    refine own_row64 (base := wr.heap.size) (cap := cap2) ?_
    rw [hl]
    simpa using own
  have hrng : ∀ j, j < 3 → 0 ≤ xs.getD j 0 ∧ xs.getD j 0 ≤ 1152921504606846976 := fun j hj => by have := h.rng j hj; omega
  have ho := ahead_out h.ahead hl hrng (by omega) (by omega) (by omega)
  have low3 := h.low.trans (k.mono h.low.size)
  obtain ⟨T, A, m, hb, ht⟩ := h.at_.below k h.at_.lt
  have hn := note_any hb ht (i : Int) (some ⟨gg, 0, none⟩) cap2 xs 7 (by omega) (by omega) row (hT.below k hT.size) (by show I64 S; unfold I64; omega) (by show I64 F; unfold I64; omega) (by simp [cw]) (by simp [cw])
  rw [hl] at hn
  refine hn.mono ?_
  rintro r w' ⟨g, U, B, kk, hg, hB, hr, hb', hoff⟩
  have gm := hg.most
  rw [show outOf a ⟨(i : Nat), xs, 7⟩ (cw S F wo ti).slow (cw S F wo ti).fast = 0 from ho] at hr hb'
  refine ⟨by rw [hr, decide_eq_true (p := g ≤ (cw S F wo ti).eps) (by show g ≤ 4611686018427387904; omega)]; rfl, ?_⟩
  have e : ∃ wo' ti', stepW (cw S F wo ti) g U 0 = cw S F wo' ti' := ⟨_, _, by
    show Wt.mk _ _ _ _ _ _ _ = _
    rw [if_neg (show ¬ (cw S F wo ti).eps < g by show ¬ 4611686018427387904 < g; omega)]
    rfl⟩
  obtain ⟨wo', ti', e⟩ := e
  rw [e] at hb'
  exact ⟨wo', ti', ⟨U, B, kk, hb', hB⟩, (h.row.below k h.row.lt).off hoff (by omega), low3.trans (off_low hoff (by omega) low3.size)⟩
set_option maxRecDepth 100000 in
set_option maxHeartbeats 4000000 in
theorem pace_walk (w : World) (hT : Tab w) (cs0 : Array Value) (g0 : Read.Rd Tryd.prog w 42 cs0.toList) (cs1 : Array Value) (g1 : Read.Rd Tryd.prog w 43 cs1.toList) (ad : Option Addr) (len cap : Nat) (g2 : Read.Rd Tryd.prog w 44 [.slice ad len cap]) :
    Calls Tryd.prog 4 #[.agg cs0, .agg cs1, .slice ad len cap] w fun e w' => e = .returned (.bool true) ∧ Below w.heap.size w w' := by
  obtain ⟨x, y, z, rfl, hx, hy, hz⟩ := three_in g0
  obtain ⟨S, D, rfl, hS, hD⟩ := two8_in g1
  obtain ⟨hB, hlen⟩ := bys_in g2
  have hw0 := hT.size
  obtain ⟨F, hF⟩ : ∃ F, S + D = F := ⟨_, rfl⟩
  have rF : 0 ≤ F ∧ F ≤ 510 ∧ F - S = D := by omega
  obtain ⟨W0, hW0⟩ : ∃ W0, (w.alloc (.cells #[.int .u32 x, .int .u32 y, .int .u32 z] 42)).alloc (.cells #[.int .u8 S, .int .u8 D] 43) = W0 := ⟨_, rfl⟩
  have z1 : (w.alloc (.cells #[.int .u32 x, .int .u32 y, .int .u32 z] 42)).heap.size = w.heap.size + 1 := by simp
  have bL : Blk W0 w.heap.size 42 #[.int .u32 x, .int .u32 y, .int .u32 z] := by rw [← hW0]; exact (Blk.new w _ _).alloc _
  have bP : Blk W0 (w.heap.size + 1) 43 #[.int .u8 S, .int .u8 D] := by
    rw [← hW0]
    have := Blk.new (w.alloc (.cells #[.int .u32 x, .int .u32 y, .int .u32 z] 42)) 43 #[.int .u8 S, .int .u8 D]
    rwa [z1] at this
  have l0 : Below w.heap.size w W0 := by rw [← hW0]; exact ((Below.refl _ w).alloc (Nat.le_refl _) _).alloc (by simp) _
  have zW0 : W0.heap.size = w.heap.size + 2 := by rw [← hW0]; simp
  obtain ⟨V, hV⟩ : ∃ V, W0.drew.alloc (.cells (wl (cw S F 0 0) nz).toArray 52) = V := ⟨_, rfl⟩
  have HNw := new_any 4611686018427387904 S F W0.drew
  rw [show max (4611686018427387904 : Int) 0 = 4611686018427387904 by omega, show W0.drew.heap.size = w.heap.size + 2 from zW0, show w0 4611686018427387904 S F = cw S F 0 0 from rfl, hV] at HNw
  have aV : WAt V (w.heap.size + 2) (cw S F 0 0) ⟨0, [], 0⟩ := by
    rw [← hV, ← zW0]
    exact WAt.new W0.drew 4611686018427387904 S F
  have l1 : Below w.heap.size w V := by rw [← hV]; exact l0.drew.alloc (by show w.heap.size ≤ W0.heap.size; omega) _
  have zV : V.heap.size = w.heap.size + 3 := by rw [← hV]; simp [zW0]
  have lL : ∀ j, j < 3 → V.cell? ⟨w.heap.size, j, none⟩ = W0.cell? ⟨w.heap.size, j, none⟩ := fun j _ => by rw [← hV]; exact World.cell?_alloc_lt W0.drew _ _ (by show w.heap.size < W0.heap.size; omega)
  have c0 : V.cell? ⟨w.heap.size, 0, none⟩ = some (.int .u32 x) := (lL 0 (by omega)).trans (bL.cell 0)
  have c1 : V.cell? ⟨w.heap.size, 1, none⟩ = some (.int .u32 y) := (lL 1 (by omega)).trans (bL.cell 1)
  have c2 : V.cell? ⟨w.heap.size, 2, none⟩ = some (.int .u32 z) := (lL 2 (by omega)).trans (bL.cell 2)
  have p0 : W0.cell? ⟨w.heap.size + 1, 0, none⟩ = some (.int .u8 S) := bP.cell 0
  have p1 : W0.cell? ⟨w.heap.size + 1, 1, none⟩ = some (.int .u8 D) := bP.cell 1
  obtain ⟨W, hW⟩ : ∃ W, V.alloc (.cells #[.int .i64 x, .int .i64 y, .int .i64 z] 2) = W := ⟨_, rfl⟩
  have bN : Blk W (w.heap.size + 3) 2 (ic [x, y, z]) := by rw [← hW, ← zV]; exact Blk.new V 2 #[.int .i64 x, .int .i64 y, .int .i64 z]
  have aW : WAt W (w.heap.size + 2) (cw S F 0 0) ⟨0, [], 0⟩ := by rw [← hW]; exact aV.below ((Below.refl _ V).alloc (Nat.le_refl _) _) aV.lt
  have l2 : Below w.heap.size w W := by rw [← hW]; exact l1.alloc (by omega) _
  have HI0 : PInv w S F (w.heap.size + 2) 0 0 0 ⟨0, [], 0⟩ [x, y, z] W := ⟨aW, bN, rfl, .inl ⟨rfl, rfl⟩, fun j hj => by
    rcases j with _ | _ | _ | j
    · exact ⟨hx.1, by have := hx.2; show x ≤ _; omega⟩
    · exact ⟨hy.1, by have := hy.2; show y ≤ _; omega⟩
    · exact ⟨hz.1, by have := hz.2; show z ≤ _; omega⟩
    · omega, l2⟩
  have HW0 := Lib.hid hW0
  have HW := Lib.hid hW
  have HN := Lib.hid HNw
  have HB := Lib.hid hB
  have HT := Lib.hid hT
  have HI := Lib.hid HI0
  have hFw : IntKind.i64.wrap (S + D) = F := by rw [wrap64_in' (by unfold I64; omega)]; exact hF
  have wS : IntKind.i64.wrap S = S := wrap64_in' (by unfold I64; omega)
  have wD : IntKind.i64.wrap D = D := wrap64_in' (by unfold I64; omega)
  have wx : IntKind.i64.wrap x = x := wrap64_in' (by unfold I64; omega)
  have wy : IntKind.i64.wrap y = y := wrap64_in' (by unfold I64; omega)
  have wz : IntKind.i64.wrap z = z := wrap64_in' (by unfold I64; omega)
  clear g0 g1 g2 hB hT hF z1 hW0 bL bP l0 HNw hV aV l1 lL hW bN aW l2 HI0
  go_enter Tryd.func4, Tryd.ntmps4
  go_upto_region 1 with (rw [HW0.out])
  go_region_held3 (fun v => v.cell? ⟨w.heap.size + 1, 0, none⟩ = some (.int .u8 S) ∧ v.cell? ⟨w.heap.size + 1, 1, none⟩ = some (.int .u8 D)) ((go_keep; done)) (fail)
  try simp only [wS, wD, hFw]
  obtain ⟨q, hq⟩ : ∃ q, w.heap.size + 2 = q := ⟨_, rfl⟩
  rw [hq] at HI HN
  have zV' : V.heap.size = q + 1 := by omega
  clear zV
  go_upto_region 5 with (first
    | (rw [HW.out])
    | (go_at_call 6; with_reducible refine HN.out.mono ?_; rintro e w' ⟨rfl, h⟩; rw [h]; clear h w'))
  try simp only [hq]
  clear HN HW0 HW hFw wS wD wx wy wz c0 c1 c2 p0 p1 zV' zW0 hx hy hz
  have hwq : w.heap.size + 2 = q := hq
  go_loopg [11] 40 (fun n v11 wr => ∃ (i : Nat) (wo ti : Int) (a : Nt) (xs : List Int), n = 40 - i ∧ v11 = .int .i64 i ∧ i ≤ 40 ∧ i ≤ len ∧ RowKit.Hid (PInv w S F q i wo ti a xs wr))
  case atStart => exact ⟨0, 0, 0, _, _, rfl, rfl, Nat.zero_le _, Nat.zero_le _, HI⟩
  case round =>
    clear HI
    obtain ⟨i, wo, ti, a, xs, hgk, rfl, hi40, hil, HI⟩ := hrel
    have Hgk := Lib.hid hgk
    clear hgk
    have hTr : Tab wr := HT.out.below HI.out.low hw0
    by_cases hlt : i < len ∧ i < 40
    · obtain ⟨hi, h40⟩ := hlt
      have q1 : (0 : Int) ≤ (i : Int) := by omega
      have q2 : (i : Int) < (len : Int) := by omega
      have q3 : (i : Int) < 40 := by omega
      obtain ⟨i0, hi0, hz⟩ := Option.map_eq_some_iff.1 infoE
      simp only [Prod.mk.injEq] at hz
      obtain ⟨hz0, hz1, hz2⟩ := hz
      have Hi0 := Lib.hid hi0
      have Hz0 := Lib.hid hz0
      have Hz1 := Lib.hid hz1
      have Hz2 := Lib.hid hz2
      have own0 : (wr.alloc (.cells #[] 2)).ownsRow wr.heap.size 2 1 (.slice (some ⟨wr.heap.size, 0, none⟩) 0 0) 0 [] := by
        have := row_of_blk (base := wr.heap.size) (n := 0) (s := 1) (cap := 0) (Blk.new wr 2 #[]) (Nat.le_refl _) (Nat.le_refl _) (by unfold maxLen; omega) rfl
        simpa using this
      have Own0 := Lib.hid own0
      have hxl := HI.out.len
      have hnews : ∀ j u, (xs.map (Value.int .i64))[j]? = some u → (wr.alloc (.cells #[] 2)).cell? ((⟨q + 1, 0, none⟩ : Addr).add j) = some u := fun j u hu => by
        rw [show (⟨q + 1, 0, none⟩ : Addr).add j = ⟨q + 1, j, none⟩ by rw [Go.WideShapes.add_plain, Nat.zero_add], World.cell?_alloc_lt wr _ _ HI.out.row.lt, HI.out.row.cell]
        simpa [ic] using hu
      have Hnews := Lib.hid hnews
      have hl3 : (xs.map (Value.int .i64)).length = 3 * 1 := by simp [hxl]
      have hone := Lib.hid (show ∀ u ∈ xs.map (Value.int .i64), u.oneCell' = true from fun u hu => by obtain ⟨y, _, rfl⟩ := List.mem_map.1 hu; rfl)
      have HTr := Lib.hid hTr
      clear hi0 hz0 hz1 hz2 own0 hnews hTr
      go_upto_region 9 with (first
        | (at_builtin; refine wpList_append_own _ rfl _ _ 26 rfl wr.heap.size 2 i0 _ 1 8 Tryd.underlying26 Hi0.out Hz0.out Hz1.out Hz2.out rfl (by decide) _ _ _ rfl Own0.out ⟨q + 1, 0, none⟩ 3 3 (xs.map (Value.int .i64)) rfl hl3 Hnews.out hone.out (by unfold maxLen; omega) (by omega) (by simp) ?_; intro v' w3 hown3 hgrow3 _; obtain ⟨gg, cap2, rfl⟩ := own_some hown3 (by omega); have HNt := Lib.hid (HI.out.note HTr.out (below_own ((Below.refl _ wr).alloc (Nat.le_refl _) _) hgrow3 Own0.out (Nat.le_refl _) (by simp)) hown3 (by omega) (by omega) ⟨rF.1, rF.2.1⟩ hS hw0))
        | (go_at_call 9; refine HNt.out.mono ?_; rintro e V3 ⟨rfl, hmid⟩))
      obtain ⟨wo', ti', hm⟩ := hmid
      have hP0 : PStep w S F q wo' ti' ⟨i, xs, 7⟩ xs 0 xs V3 := ⟨hm.at_, hm.row, hxl, fun j hj => ⟨fun h => by omega, fun _ => rfl⟩, hm.low⟩
      have hrx := HI.out.rng
      have Hrx := Lib.hid hrx
      clear HNt hm hown3 Hnews hone Own0 Hi0 Hz0 Hz1 Hz2 hl3 hrx HTr
      go_wp2_with fail
      go_loopg [57] 3 (fun n v57 V => ∃ (k : Nat) (ys : List Int), n = 3 - k ∧ v57 = .int .i64 k ∧ k ≤ 3 ∧ RowKit.Hid (PStep w S F q wo' ti' ⟨i, xs, 7⟩ xs k ys V))
      case atStart => exact ⟨0, xs, rfl, rfl, by omega, Lib.hid hP0⟩
      case round =>
        clear hP0
        obtain ⟨k, ys, hgk2, rfl, hk3, HP⟩ := hrel
        have Hgk2 := Lib.hid hgk2
        clear hgk2
        by_cases hk : k < 3
        · have q4 : (0 : Int) ≤ (k : Int) := by omega
          have q5 : (k : Int) < 3 := by omega
          obtain ⟨b, off, r, rfl, hb, hcr, hr⟩ := HB.out i k hi hk
          have hyl := HP.out.len
          have cv : wr.cell? ⟨q + 1, k, none⟩ = some (.int .i64 (ys.getD k 0)) := by rw [HP.out.row.cell, ic_at (by omega)]
          have fv := HP.out.row.frozen k
          have hyk := (HP.out.step k hk).2 (Nat.le_refl _)
          have hrk := Hrx.out k hk
          have hst := fun m (hm0 : 0 ≤ m) (hm1 : m ≤ D) => HP.out.more hk (x := ys.getD k 0 + (S + m)) (by rw [hyk]; omega) (by rw [hyk]; omega) (by omega)
          rw [hyk] at cv hst
          obtain ⟨v, hv⟩ : ∃ v, xs.getD k 0 = v := ⟨_, rfl⟩
          rw [hv] at cv hst hrk
          obtain ⟨m, hm⟩ : ∃ m, r.tmod (D + 1) = m := ⟨_, rfl⟩
          have hm0 : 0 ≤ m := by rw [← hm]; exact Int.tmod_nonneg _ hr.1
          have hm1 : m ≤ D := by have := Int.tmod_lt_of_pos r (show 0 < D + 1 by omega); omega
          have e0 : IntKind.i64.wrap r = r := wrap64_in' (by unfold I64; omega)
          have e1 : IntKind.i64.wrap D = D := wrap64_in' (by unfold I64; omega)
          have e2 : IntKind.i64.wrap (D + 1) = D + 1 := wrap64_in' (by unfold I64; omega)
          have e3 : IntKind.i64.wrap m = m := wrap64_in' (by unfold I64; omega)
          have e4 : IntKind.i64.wrap (S + m) = S + m := wrap64_in' (by unfold I64; omega)
          have e5 : IntKind.i64.wrap (v + (S + m)) = v + (S + m) := wrap64_in' (by unfold I64; omega)
          have e6 : ¬ D + 1 = 0 := by omega
          have hst := Lib.hid (hst m hm0 hm1)
          have HS := Lib.hid (fun (U : World) (hU : Off (fun j => j = q + 1) wr U) => (show U.cell? ⟨b, off + i * 3 + k, none⟩ = some (.int .u8 r) from (hU.cell (p := ⟨b, _, none⟩) (by have := HP.out.low.size; show b < _; omega) (by show ¬ b = q + 1; omega)).trans ((HP.out.low.cell (p := ⟨b, _, none⟩) hb).trans hcr)))
          have hwr : ∀ U : World, U = U := fun _ => rfl
          clear hcr hyk hv hrk hyl hwr
          go_upto_region 12 with fail
          refine wp_region_held_drew (S := fun U => U.cell? ⟨b, off + i * 3 + k, none⟩ = some (.int .u8 r)) (by kernel_rfl) (HS.out _ (Off.refl _ _).drew) (fun hHeld => ?_)
          refine Take.take (i := 0) (oi := _) (t := 60) (v := ?v1) rfl (by kernel_rfl) (by kernel_rfl) (by kernel_rfl) (by kernel_rfl) (fun _ _ _ h => h) (by kernel_rfl) ?hy1 (by assumption) ?_
          case hy1 => (intro w hSw; (try dsimp only at hSw); go_simp; try with_reducible rfl)
          try simp only [Act.put, List.setIfInBounds_toArray, List.set_cons_zero, List.set_cons_succ]
          refine Take.take (i := 1) (oi := _) (t := 61) (v := ?v2) rfl (by kernel_rfl) (by kernel_rfl) (by kernel_rfl) (by kernel_rfl) (fun _ _ _ h => h) (by kernel_rfl) ?hy2 (by assumption) ?_
          case hy2 => (intro w hSw; (try dsimp only at hSw); go_simp; try with_reducible rfl)
          try simp only [Act.put, List.setIfInBounds_toArray, List.set_cons_zero, List.set_cons_succ]
          refine Take.take (i := 2) (oi := _) (t := 62) (v := ?v3) rfl (by kernel_rfl) (by kernel_rfl) (by kernel_rfl) (by kernel_rfl) (fun _ _ _ h => h) (by kernel_rfl) ?hy3 (by assumption) ?_
          case hy3 => (intro w hSw; (try dsimp only at hSw); go_simp; try with_reducible rfl)
          try simp only [Act.put, List.setIfInBounds_toArray, List.set_cons_zero, List.set_cons_succ]
          refine Take.take (i := 4) (oi := _) (t := 64) (v := ?v4) rfl (by kernel_rfl) (by kernel_rfl) (by kernel_rfl) (by kernel_rfl) (fun _ _ _ h => h) (by kernel_rfl) ?hy4 (by assumption) ?_
          case hy4 => (intro w hSw; (try dsimp only at hSw); go_simp; try with_reducible rfl)
          try simp only [Act.put, List.setIfInBounds_toArray, List.set_cons_zero, List.set_cons_succ]
          refine Take.take (i := 5) (oi := _) (t := 65) (v := ?v5) rfl (by kernel_rfl) (by kernel_rfl) (by kernel_rfl) (by kernel_rfl) (fun _ _ _ h => h) (by kernel_rfl) ?hy5 (by assumption) ?_
          case hy5 => (intro w hSw; (try dsimp only at hSw); go_simp; try with_reducible rfl)
          try simp only [Act.put, List.setIfInBounds_toArray, List.set_cons_zero, List.set_cons_succ]
          refine Take.take (i := 6) (oi := _) (t := 66) (v := ?v6) rfl (by kernel_rfl) (by kernel_rfl) (by kernel_rfl) (by kernel_rfl) (fun _ _ _ h => h) (by kernel_rfl) ?hy6 (by assumption) ?_
          case hy6 => (intro w hSw; (try dsimp only at hSw); go_simp; try with_reducible rfl)
          try simp only [Act.put, List.setIfInBounds_toArray, List.set_cons_zero, List.set_cons_succ]
          refine Take.take (i := 7) (oi := _) (t := 67) (v := ?v7) rfl (by kernel_rfl) (by kernel_rfl) (by kernel_rfl) (by kernel_rfl) (fun _ _ _ h => h) (by kernel_rfl) ?hy7 (by assumption) ?_
          case hy7 => (intro w hSw; (try dsimp only at hSw); go_simp; try with_reducible rfl)
          try simp only [Act.put, List.setIfInBounds_toArray, List.set_cons_zero, List.set_cons_succ]
          refine Take.take (i := 8) (oi := _) (t := 68) (v := ?v8) rfl (by kernel_rfl) (by kernel_rfl) (by kernel_rfl) (by kernel_rfl) (fun _ _ _ h => h) (by kernel_rfl) ?hy8 (by assumption) ?_
          case hy8 => (intro w hSw; (try dsimp only at hSw); go_simp; try with_reducible rfl)
          try simp only [Act.put, List.setIfInBounds_toArray, List.set_cons_zero, List.set_cons_succ]
          refine Take.take (i := 9) (oi := _) (t := 69) (v := ?v9) rfl (by kernel_rfl) (by kernel_rfl) (by kernel_rfl) (by kernel_rfl) (fun _ _ _ h => h) (by kernel_rfl) ?hy9 (by assumption) ?_
          case hy9 => (intro w hSw; (try dsimp only at hSw); go_simp; try with_reducible rfl)
          try simp only [Act.put, List.setIfInBounds_toArray, List.set_cons_zero, List.set_cons_succ]
          refine Take.take (i := 10) (oi := _) (t := 70) (v := ?v10) rfl (by kernel_rfl) (by kernel_rfl) (by kernel_rfl) (by kernel_rfl) (fun _ _ _ h => h) (by kernel_rfl) ?hy10 (by assumption) ?_
          case hy10 => (intro w hSw; (try dsimp only at hSw); go_simp; try with_reducible rfl)
          try simp only [Act.put, List.setIfInBounds_toArray, List.set_cons_zero, List.set_cons_succ]
          refine Take.take (i := 11) (oi := _) (t := 71) (v := ?v11) rfl (by kernel_rfl) (by kernel_rfl) (by kernel_rfl) (by kernel_rfl) (fun _ _ _ h => h) (by kernel_rfl) ?hy11 (by assumption) ?_
          case hy11 => (intro w hSw; (try dsimp only at hSw); go_simp; try with_reducible rfl)
          try simp only [Act.put, List.setIfInBounds_toArray, List.set_cons_zero, List.set_cons_succ]
          refine Take.take (i := 12) (oi := _) (t := 72) (v := ?v12) rfl (by kernel_rfl) (by kernel_rfl) (by kernel_rfl) (by kernel_rfl) (fun _ _ _ h => h) (by kernel_rfl) ?hy12 (by assumption) ?_
          case hy12 => (intro w hSw; (try dsimp only at hSw); go_simp; try with_reducible rfl)
          try simp only [Act.put, List.setIfInBounds_toArray, List.set_cons_zero, List.set_cons_succ]
          refine Take.take (i := 13) (oi := _) (t := 73) (v := ?v13) rfl (by kernel_rfl) (by kernel_rfl) (by kernel_rfl) (by kernel_rfl) (fun _ _ _ h => h) (by kernel_rfl) ?hy13 (by assumption) ?_
          case hy13 => (intro w hSw; (try dsimp only at hSw); go_simp; try with_reducible rfl)
          try simp only [Act.put, List.setIfInBounds_toArray, List.set_cons_zero, List.set_cons_succ]
          refine Take.take (i := 14) (oi := _) (t := 74) (v := ?v14) rfl (by kernel_rfl) (by kernel_rfl) (by kernel_rfl) (by kernel_rfl) (fun _ _ _ h => h) (by kernel_rfl) ?hy14 (by assumption) ?_
          case hy14 => (intro w hSw; (try dsimp only at hSw); go_simp; try with_reducible rfl)
          try simp only [Act.put, List.setIfInBounds_toArray, List.set_cons_zero, List.set_cons_succ]
          refine Take.take (i := 15) (oi := _) (t := 75) (v := ?v15) rfl (by kernel_rfl) (by kernel_rfl) (by kernel_rfl) (by kernel_rfl) (fun _ _ _ h => h) (by kernel_rfl) ?hy15 (by assumption) ?_
          case hy15 => (intro w hSw; (try dsimp only at hSw); go_simp; try with_reducible rfl)
          try simp only [Act.put, List.setIfInBounds_toArray, List.set_cons_zero, List.set_cons_succ]
          refine Take.take (i := 16) (oi := _) (t := 76) (v := ?v16) rfl (by kernel_rfl) (by kernel_rfl) (by kernel_rfl) (by kernel_rfl) (fun _ _ _ h => h) (by kernel_rfl) ?hy16 (by assumption) ?_
          case hy16 => (intro w hSw; (try dsimp only at hSw); go_simp; try with_reducible rfl)
          try simp only [Act.put, List.setIfInBounds_toArray, List.set_cons_zero, List.set_cons_succ]
          refine Take.take (i := 17) (oi := _) (t := 77) (v := ?v17) rfl (by kernel_rfl) (by kernel_rfl) (by kernel_rfl) (by kernel_rfl) (fun _ _ _ h => h) (by kernel_rfl) ?hy17 (by assumption) ?_
          case hy17 => (intro w hSw; (try dsimp only at hSw); go_simp; try with_reducible rfl)
          try simp only [Act.put, List.setIfInBounds_toArray, List.set_cons_zero, List.set_cons_succ]
          refine wpAnyH_ready (rs := [3]) (by kernel_rfl) (by simp) ?_
          refine AllReadyH.cons (o := _) rfl (fun K hK => ?_) AllReadyH.nil
          go_simp
          refine hK.out _ _ ?hS18 (fun hHeld => ?_)
          case hS18 => (exact HS.out _ (by first | exact (Off.refl _ _).drew | exact (off_put (Off.refl (fun j => j = q + 1) wr) rfl _ _).drew | exact off_put (Off.refl (fun j => j = q + 1) wr).drew rfl _ _))
          clear hK K
          try simp only [Act.put, List.setIfInBounds_toArray, List.set_cons_zero, List.set_cons_succ]
          refine Take.take (i := 18) (oi := _) (t := 78) (v := ?v19) rfl (by kernel_rfl) (by kernel_rfl) (by kernel_rfl) (by kernel_rfl) (fun _ _ _ h => h) (by kernel_rfl) ?hy19 (by assumption) ?_
          case hy19 => (intro w hSw; (try dsimp only at hSw); go_simp; try with_reducible rfl)
          try simp only [Act.put, List.setIfInBounds_toArray, List.set_cons_zero, List.set_cons_succ]
          refine Take.take (i := 19) (oi := _) (t := 79) (v := ?v20) rfl (by kernel_rfl) (by kernel_rfl) (by kernel_rfl) (by kernel_rfl) (fun _ _ _ h => h) (by kernel_rfl) ?hy20 (by assumption) ?_
          case hy20 => (intro w hSw; (try dsimp only at hSw); go_simp; try with_reducible rfl)
          try simp only [Act.put, List.setIfInBounds_toArray, List.set_cons_zero, List.set_cons_succ]
          refine wpAnyH_ready (rs := [20]) (by kernel_rfl) (by simp) ?_
          refine AllReadyH.cons (o := _) rfl (fun K hK => ?_) AllReadyH.nil
          go_simp
          refine hK.out _ _ ?hS21 (fun hHeld => ?_)
          case hS21 => (exact HS.out _ (by first | exact (Off.refl _ _).drew | exact (off_put (Off.refl (fun j => j = q + 1) wr) rfl _ _).drew | exact off_put (Off.refl (fun j => j = q + 1) wr).drew rfl _ _))
          clear hK K
          try simp only [Act.put, List.setIfInBounds_toArray, List.set_cons_zero, List.set_cons_succ]
          refine wpAnyH_done (by kernel_rfl) ?_ _
          go_wp2_with fail
          go_roundg (3 - (k + 1))
          case measure => have := Hgk2.out; omega
          case rel => exact ⟨k + 1, ys.set k (v + (S + m)), rfl, rfl, hk, hst⟩
        · obtain rfl : k = 3 := by omega
          have hI := Lib.hid (HP.out.done (i := i) Hrx.out (by omega) hxl)
          go_wp2_with fail
          go_roundg (40 - (i + 1))
          case measure => have := Hgk.out; omega
          case rel => exact ⟨i + 1, wo', ti', _, ys, rfl, rfl, h40, hi, hI⟩
    · have HWk := Lib.hid (fun (V : World) (k : Below wr.heap.size wr V) => works_any V (HT.out.below (HI.out.low.trans (k.mono HI.out.low.size)) hw0))
      have HC := Lib.hid HI.out.at_.count
      have HFn := Lib.hid HI.out.at_.drew.fine'
      have k1 : Below wr.heap.size wr wr.drew := (Below.refl _ wr).drew
      by_cases hlt2 : i < len
      · have h40 : ¬ (i : Int) < 40 := by omega
        have h41 : (i : Int) < (len : Int) := by omega
        go_wp2_with (first
          | (go_at_call 12; refine HC.out.mono ?_; rintro e w' ⟨rfl, h⟩; rw [h]; clear h w')
          | (go_at_call 13; refine HFn.out.mono ?_; rintro e w' ⟨rfl, h⟩; rw [h]; clear h w')
          | (go_at_call 14; refine (HWk.out _ k1).mono ?_; rintro e w2 ⟨rfl, l2⟩))
        go_ret
        exact ⟨rfl, HI.out.low.drew.trans (l2.mono HI.out.low.size)⟩
      · have h41 : ¬ (i : Int) < (len : Int) := by omega
        go_wp2_with (first
          | (go_at_call 12; refine HC.out.mono ?_; rintro e w' ⟨rfl, h⟩; rw [h]; clear h w')
          | (go_at_call 13; refine HFn.out.mono ?_; rintro e w' ⟨rfl, h⟩; rw [h]; clear h w')
          | (go_at_call 14; refine (HWk.out _ k1).mono ?_; rintro e w2 ⟨rfl, l2⟩))
        go_ret
        exact ⟨rfl, HI.out.low.drew.trans (l2.mono HI.out.low.size)⟩
end Go.Proofs.YtpbabpbinojodaaDoor.Drift
