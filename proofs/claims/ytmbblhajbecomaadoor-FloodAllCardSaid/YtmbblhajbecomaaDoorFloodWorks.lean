/- The flood laws' own: sets; the chapter's example. -/
import Derived.Test.YtmbblhajbecomaaDoorFloodRef
import Derived.Test.YtmbblhajbecomaaDoorMadeEx
import Derived.Test.YtmbblhajbecomaaDoorShapes
namespace Go.Proofs.YtmbblhajbecomaaDoor.Flood
open Go.RowKit
open Go.Proofs.YtmbblhajbecomaaDoor.RF Go.Proofs.YtmbblhajbecomaaDoor.Heap Go.Proofs.YtmbblhajbecomaaDoor.Nodes Go.Proofs.YtmbblhajbecomaaDoor.Graph Go.Proofs.YtmbblhajbecomaaDoor.Reach
set_option linter.unusedVariables false
set_option linter.unusedSimpArgs false

theorem firstA_head {x : Arr} {l : List Arr} (h : ∀ u ∈ l, x.time ≤ u.time) : FirstA (x :: l) 0 x :=
  ⟨rfl, fun j u hu => by
    rcases j with _ | j
    · simp at hu; subst hu; exact Int.le_refl _
    · exact h u (List.mem_of_getElem? (by simpa using hu)), fun j u hj => by omega⟩
def ring3 : List Nat := [6, 5, 3]
theorem ring3_new : newE 3 [] (zp (ringN 3)) = 0 := by decide
theorem ring3_near : nearOf 3 ((zp (ringN 3)).map lk) = ring3 := by decide
theorem ring3_match : Match 3 ring3 (zp (ringN 3)) := by
  have := match_new ring3_new
  rwa [ring3_near] at this
def r3 : List Arr := [⟨0, 0, 0, -1⟩, ⟨1, 1, 1, 0⟩, ⟨2, 1, 1, 0⟩]
theorem ring3_runs : Runs ring3 [] [] 0 r3 := by
  have s0 : sendsF ring3 [] [] ⟨0, 0, 0, -1⟩ = [⟨1, 1, 1, 0⟩, ⟨2, 1, 1, 0⟩] := by kernel_rfl
  have s1 : sendsF ring3 [] [] ⟨1, 1, 1, 0⟩ = [⟨2, 2, 2, 1⟩] := by kernel_rfl
  have s2 : sendsF ring3 [] [] ⟨2, 1, 1, 0⟩ = [⟨1, 2, 2, 2⟩] := by kernel_rfl
  refine .come (i := 0) (x := ⟨0, 0, 0, -1⟩) (firstA_head (by simp)) rfl ?_
  rw [s0]
  refine .come (i := 0) (x := ⟨1, 1, 1, 0⟩) (firstA_head (by simp)) rfl ?_
  rw [s1]
  refine .come (i := 0) (x := ⟨2, 1, 1, 0⟩) (firstA_head (by simp)) rfl ?_
  rw [s2]
  refine .skip (i := 0) (x := ⟨2, 2, 2, 1⟩) (firstA_head (by simp)) rfl ?_
  refine .skip (i := 0) (x := ⟨1, 2, 2, 2⟩) (firstA_head (by simp)) rfl ?_
  exact .done _
theorem delay_nil (K : Nat) (w : World) : DelayAt K w none [] := ⟨by simp, fun i r h => by simp at h⟩
theorem mute_nil (K : Nat) (w : World) : MuteAt K w none [] := ⟨by simp, fun i r h => by simp at h⟩
set_option maxRecDepth 100000 in
set_option maxHeartbeats 8000000 in
theorem floodworks_any (w : World) (hT : Tab w) :
    Calls Tryd.prog 30 #[] w fun e w' => e = .returned (.bool true) ∧ Below w.heap.size w w' := by
  have ok3 : Ok ring3 := ring3_match.ok (by omega)
  go_enter Tryd.func30, Tryd.ntmps30
  go_wp2_with fail
  refine (goring_any 3 w).mono ?_
  rintro e w1 ⟨v, rfl, hP, b1⟩
  go_wp2_with fail
  refine (new_yes 3 v (zp (ringN 3)) w1 (by omega) hP.out (by decide)).mono ?_
  rintro e w2 ⟨b2, (⟨_, G, R, rfl, g2⟩ | ⟨c, _⟩)⟩
  · rw [ring3_near] at g2
    have z1 := b1.size
    have B2 : Below w.heap.size w w2 := b1.trans (b2.mono z1)
    have T2 := hT.below B2 hT.size
    have z2 := B2.size
    clear hP b1 b2
    have HR := Lib.hid (run_any 0 w2 G R ring3 [] [] none none 0 0 0 g2 ok3 T2 (delay_nil _ _) (mute_nil _ _) (Nat.zero_le _))
    go_wp2_with fail
    refine HR.out.mono ?_
    rintro e w3 ⟨v3, r, rfl, o3, b3, _, hr⟩
    obtain rfl : r = r3 := Ends.uniq hr ring3_runs
    have B3 : Below w.heap.size w w3 := B2.trans (b3.mono z2)
    obtain ⟨g, c, rfl, _, _⟩ := o3.form (by decide)
    have c0 : w3.cell? ⟨g, 0, none⟩ = some (.int .i64 0) := o3.cellAt 0 (by decide)
    have c1 : w3.cell? ⟨g, 1, none⟩ = some (.int .i64 0) := o3.cellAt 1 (by decide)
    have c2 : w3.cell? ⟨g, 2, none⟩ = some (.int .i64 0) := o3.cellAt 2 (by decide)
    have c3 : w3.cell? ⟨g, 3, none⟩ = some (.int .i64 (-1)) := o3.cellAt 3 (by decide)
    have c4 : w3.cell? ⟨g, 4, none⟩ = some (.int .i64 1) := o3.cellAt 4 (by decide)
    have c5 : w3.cell? ⟨g, 5, none⟩ = some (.int .i64 1) := o3.cellAt 5 (by decide)
    have c6 : w3.cell? ⟨g, 6, none⟩ = some (.int .i64 1) := o3.cellAt 6 (by decide)
    have c7 : w3.cell? ⟨g, 7, none⟩ = some (.int .i64 0) := o3.cellAt 7 (by decide)
    have c8 : w3.cell? ⟨g, 8, none⟩ = some (.int .i64 2) := o3.cellAt 8 (by decide)
    have c9 : w3.cell? ⟨g, 9, none⟩ = some (.int .i64 1) := o3.cellAt 9 (by decide)
    have c10 : w3.cell? ⟨g, 10, none⟩ = some (.int .i64 1) := o3.cellAt 10 (by decide)
    have c11 : w3.cell? ⟨g, 11, none⟩ = some (.int .i64 0) := o3.cellAt 11 (by decide)
    have hl3 : r3.length = 3 := rfl
    rw [hl3]
    clear o3 b3 hr HR hl3
    go_wp2
    go_ret
    exact ⟨rfl, B3⟩
  · exact absurd ring3_new c
theorem infoSet : (Tryd.prog.info? 31).map (fun i => (i.zero, i.size, i.bytes)) = some (some (.int .u64 0), 1, 8) := by kernel_rfl
/-- Sets as cells. -/
def sc (l : List Nat) : List Value := l.map fun k : Nat => Value.int .u64 (k : Int)
theorem sc_snoc (l : List Nat) (k : Nat) : sc (l ++ [k]) = sc l ++ [.int .u64 (k : Int)] := by simp [sc]
/-- A row of sets of the call's own. -/
theorem own_mute {w : World} {base : Nat} {v : Value} {mu : List Nat} (h : w.ownsRow base 31 1 v mu.length (sc mu)) (hm : mu.length ≤ 9223372036854775807) (hs : ∀ s ∈ mu, s < 2 ^ 64) : ∃ a cap, v = .slice a mu.length cap ∧ MuteAt w.heap.size w a mu := by
  rcases h.2 with ⟨rfl, h0⟩ | ⟨g, cap, cur, rfl, hb, hg, _⟩
  · exact ⟨none, 0, by rw [h0], hm, fun i s hi => by have := lt_of_get hi; omega⟩
  · refine ⟨_, _, rfl, hm, fun i s hi => ⟨hs s (List.mem_of_getElem? hi), g, 0, rfl, (Array.getElem?_eq_some_iff.1 hg).1, ?_⟩⟩
    have := lt_of_get hi
    rw [Nat.zero_add, h.cellAt i (by omega)]
    simp [sc, hi]
/-- Sets as numbers, copied. -/
theorem sets_any (w : World) (a : Option Addr) (mu : List Nat) (cap : Nat) (h : MuteAt w.heap.size w a mu) (hmu : mu.length * 8 ≤ 140737488351232) :
    Calls Tryd.prog 51 #[.slice a mu.length cap] w fun e w' => ∃ a' cap', e = .returned (.slice a' mu.length cap') ∧ MuteAt w'.heap.size w' a' mu ∧ Below w.heap.size w w' := by
  obtain ⟨i0, hi0, hz⟩ := Option.map_eq_some_iff.1 infoSet
  simp only [Prod.mk.injEq] at hz
  obtain ⟨hz0, hz1, hz2⟩ := hz
  have Hi0 := Lib.hid hi0
  have Hz0 := Lib.hid hz0
  have Hz1 := Lib.hid hz1
  have Hz2 := Lib.hid hz2
  have H := Lib.hid h
  have hs : ∀ s ∈ mu, s < 2 ^ 64 := fun s hs => by obtain ⟨j, hj⟩ := List.mem_iff_getElem?.1 hs; exact (h.row j s hj).1
  have Hs := Lib.hid hs
  clear hi0 hz0 hz1 hz2 h hs
  go_enter Tryd.func51, Tryd.ntmps51
  go_wp2_with fail
  go_loopw [3, 8] (fun v3 v8 wr => ∃ k : Nat, v8 = .int .i64 k ∧ k ≤ mu.length ∧ RowKit.Hid (wr.ownsRow w.heap.size 31 1 v3 (mu.take k).length (sc (mu.take k))) ∧ RowKit.Hid (Below w.heap.size w wr)) (fun _ v8 _ => mu.length - (intOf v8).toNat)
  case atStart => exact ⟨0, rfl, Nat.zero_le _, Lib.hid (World.ownsRow_nil _ _ _ _), Lib.hid (Below.refl _ _)⟩
  case round =>
    obtain ⟨k, rfl, hk, Own, Low⟩ := hrel
    by_cases hlt : k < mu.length
    · obtain ⟨s, hs⟩ : ∃ s, mu[k]? = some s := ⟨_, List.getElem?_eq_getElem hlt⟩
      obtain ⟨hsl, b, off, rfl, hb, hc⟩ := H.out.row k s hs
      have c0 : wr.cell? ⟨b, off + k, none⟩ = some (.int .u64 (s : Nat)) := (Low.out.cell (p := ⟨b, off + k, none⟩) hb).trans hc
      have htk : mu.take (k + 1) = mu.take k ++ [s] := by rw [List.take_add_one, hs]; rfl
      have Htk := Lib.hid htk
      have hlk : (mu.take k).length = k := by rw [List.length_take, Nat.min_eq_left hk]
      have Own' := Own.out
      rw [hlk] at Own'
      have Own2 := Lib.hid Own'
      have j1 : (0 : Int) ≤ (k : Int) := by omega
      have j2 : (k : Int) < (mu.length : Int) := by omega
      have j3 : (mu.length : Int) ≤ 9223372036854775807 := by omega
      have lz := Low.out.size
      obtain ⟨a3, c3, rfl⟩ := own_form Own'
      clear hs hc htk Own' Own
      go_wp2_with (at_builtin; refine wpList_append_own _ rfl _ _ 91 rfl w.heap.size 31 i0 _ 1 8 Tryd.underlying91 Hi0.out Hz0.out Hz1.out Hz2.out rfl (by decide) _ k (sc (mu.take k)) rfl (Own2.out.alloc _) ⟨wr.heap.size, 0, none⟩ 1 1 [.int .u64 (s : Nat)] rfl rfl (cell_one_new _ _ _) (by simp [Value.oneCell']) (by unfold maxLen; omega) (by omega) (by simp; omega) ?_; intro v' w3 hown3 hgrow3 _)
      have low3 := Lib.hid (below_own (Low.out.alloc lz _) hgrow3 (Own2.out.alloc _) (Nat.le_refl _) (Nat.le_refl _))
      have own3 : RowKit.Hid (w3.ownsRow w.heap.size 31 1 v' (mu.take (k + 1)).length (sc (mu.take (k + 1)))) := Lib.hid (by rw [Htk.out, List.length_append, hlk, sc_snoc]; exact hown3)
      clear hown3 hgrow3
      go_wp2_with fail
      go_roundw
      case rel => exact ⟨k + 1, by go_num, hlt, own3, low3⟩
      case measure => simp [intOf]; omega
    · obtain rfl : k = mu.length := by omega
      have own := Own.out
      rw [List.take_length] at own
      have Own3 := Lib.hid own
      clear own Own
      obtain ⟨a3, c3, he⟩ := own_form Own3.out
      subst he
      go_wp2_with fail
      go_ret
      obtain ⟨a', cap', he, hm⟩ := own_mute Own3.out (by omega) Hs.out
      exact ⟨a', cap', by rw [← he]; rfl, hm, Low.out⟩
end Go.Proofs.YtmbblhajbecomaaDoor.Flood
namespace Go.Proofs.YtmbblhajbecomaaDoor.Flood
open Go.RowKit
open Go.Proofs.YtmbblhajbecomaaDoor.RF Go.Proofs.YtmbblhajbecomaaDoor.Heap Go.Proofs.YtmbblhajbecomaaDoor.Nodes Go.Proofs.YtmbblhajbecomaaDoor.Graph Go.Proofs.YtmbblhajbecomaaDoor.Reach
set_option linter.unusedVariables false
set_option linter.unusedSimpArgs false

theorem DelayAt.mono {K K' : Nat} {w : World} {a : Option Addr} {dl : List (List Int)} (h : DelayAt K w a dl) (hK : K ≤ K') : DelayAt K' w a dl :=
  ⟨h.max, fun i r hr => by
    obtain ⟨h1, b, off, ra, rc, h2, h3, h4, h5⟩ := h.row i r hr
    refine ⟨h1, b, off, ra, rc, h2, by omega, h4, fun j d hd => ?_⟩
    obtain ⟨rb, ro, h6, h7, h8⟩ := h5 j d hd
    exact ⟨rb, ro, h6, by omega, h8⟩⟩
theorem results_ttt_cell {P : Program} {fn : Func} {s1 s2 s3 a : Tmp} {t : TypeId} {tmps : Array Value} {w : World} {b : Nat} {cs : List Value} {d : TypeDesc} (h : fn.results = #[.tmp s1, .tmp s2, .tmp s3, .cell a t]) (ha : tmps.getD a undef = .pointer (some ⟨b, 0, none⟩))
    (hu : P.underlying t = some d) (hd : d.isRow = true) (hi : (P.info? t).map (·.size) = some cs.length) (hc : w.rangeAt b 0 cs) :
    (results fn tmps).run P w = .ok (.tuple #[tmps.getD s1 undef, tmps.getD s2 undef, tmps.getD s3 undef, .agg cs.toArray]) w := by
  have hl := run_loadVar_mid (P := P) w b 0 t cs d hc hu hd hi
  have hp : (asAddr (.pointer (some ⟨b, 0, none⟩) : Value)).run P w = .ok ⟨b, 0, none⟩ w := by simp [asAddr]
  rw [Array.getD_eq_getD_getElem?] at ha
  simp [results, h, ha, Sem.run_bind, hl, hp]
theorem MuteAt.mono {K K' : Nat} {w : World} {a : Option Addr} {mu : List Nat} (h : MuteAt K w a mu) (hK : K ≤ K') : MuteAt K' w a mu :=
  ⟨h.max, fun i s hs => by
    obtain ⟨h1, b, off, h2, h3, h4⟩ := h.row i s hs
    exact ⟨h1, b, off, h2, by omega, h4⟩⟩
theorem PairsFar {w : World} {v : Value} {ls : List (Int × Int)} {X : Nat} {t : TypeId} {c0 : Value} {a : Option Addr} {n c : Nat} (h : PairsAt w v ls) (hb : Blk w X t #[c0, .slice a n c]) (u0 u1 : Value) : PairsAt ((w.setCell ⟨X, 0, none⟩ u0).setCell ⟨X, 1, none⟩ u1) v ls := by
  obtain ⟨⟨a', cap, h1, h2⟩, h3⟩ := h
  refine ⟨⟨a', cap, h1, fun i p hp => ?_⟩, h3⟩
  obtain ⟨b, e1, e2, e3, e4⟩ := h2 i p hp
  have hne : b ≠ X := by
    rintro rfl
    have hl : 0 < ls.length := Nat.lt_of_le_of_lt (Nat.zero_le _) (lt_of_get hp)
    obtain ⟨b', f1, _, _, f4⟩ := h2 0 _ (List.getElem?_eq_getElem hl)
    rw [e1] at f1
    simp only [Option.some.injEq, Addr.mk.injEq, and_true] at f1
    subst f1
    have := hb.cell 1
    rw [show (0 : Nat) * 2 + 1 = 1 by omega] at f4
    rw [f4] at this
    simp at this
  have k : ((w.setCell ⟨X, 0, none⟩ u0).setCell ⟨X, 1, none⟩ u1).heap[b]? = w.heap[b]? := (Below.heap_setCell _ ⟨X, 1, none⟩ u1 b hne).trans (Below.heap_setCell w ⟨X, 0, none⟩ u0 b hne)
  exact ⟨b, e1, by rw [size_setCell, size_setCell]; exact e2, (World.cell?_of_block k).trans e3, (World.cell?_of_block k).trans e4⟩
theorem range2 {w : World} {b : Nat} {c0 c1 : Value} (h0 : w.cell? ⟨b, 0, none⟩ = some c0) (h1 : w.cell? ⟨b, 1, none⟩ = some c1) : w.rangeAt b 0 [c0, c1] := by
  intro j v hj
  rcases j with _ | _ | j <;> simp at hj <;> subst hj <;> simpa
/-- What a storm on both graphs gives. -/
def RunPost (w : World) (mu : List Nat) (dl : List (List Int)) (src : Int) (e : Ending) (w' : World) : Prop :=
  ∃ (m G R : Nat) (near : List Nat) (L : List (Int × Int)) (ha : Option Addr) (hc : Nat) (v1 v2 : Value) (r : List Arr),
    e = .returned (.tuple #[v1, v2, .pointer (some ⟨G, 0, none⟩), .agg #[.int .i64 (m : Nat), .slice ha L.length hc]]) ∧ 1 ≤ m ∧ m ≤ 10 ∧ near.length = m ∧ L.length ≤ 60 ∧ RowKit.Hid (Match m near L) ∧ RowKit.Hid (GraphAt w' G R near) ∧ RowKit.Hid (PairsAt w' (.slice ha L.length hc) L) ∧
    RowKit.Hid (w'.ownsRow w.heap.size 71 4 v1 r.length (arrC r)) ∧ RowKit.Hid (w'.ownsRow w.heap.size 70 4 v2 r.length (arrC r)) ∧ RowKit.Hid (FInv m [] r) ∧ RowKit.Hid (Runs near mu dl src r) ∧ RowKit.Hid (Below w.heap.size w w')
set_option maxRecDepth 100000 in
set_option maxHeartbeats 8000000 in
theorem lawrun_any (w : World) (hT : Tab w) (n0 : Int) (la : Option Addr) (ln lc : Nat) (ls : List (Int × Int)) (hp : PairIn w la ln lc ls) (src : Int) (dl : List (List Int)) (mu : List Nat) (da ma : Option Addr) (dc mc : Nat) (hd : DelayAt w.heap.size w da dl) (hm : MuteAt w.heap.size w ma mu) (hmu : mu.length * 8 ≤ 140737488351232) :
    Calls Tryd.prog 29 #[.agg #[.int .i64 n0, .slice la ln lc, .int .i64 src, .slice da dl.length dc, .slice ma mu.length mc]] w fun e w' => RunPost w mu dl src e w' := by
  obtain ⟨W, hW⟩ : ∃ W, (w.alloc (.cells #[.int .i64 n0, .slice la ln lc, .int .i64 src, .slice da dl.length dc, .slice ma mu.length mc] 64)).alloc (.cells #[.int .i64 0, .slice none 0 0] 27) = W := ⟨_, rfl⟩
  have z1 : (w.alloc (.cells #[.int .i64 n0, .slice la ln lc, .int .i64 src, .slice da dl.length dc, .slice ma mu.length mc] 64)).heap.size = w.heap.size + 1 := by simp
  have b0 : Blk W w.heap.size 64 #[.int .i64 n0, .slice la ln lc, .int .i64 src, .slice da dl.length dc, .slice ma mu.length mc] := by rw [← hW]; exact (Blk.new w _ _).alloc _
  have b1 : Blk W (w.heap.size + 1) 27 #[.int .i64 0, .slice none 0 0] := by
    rw [← hW]
    have := Blk.new (w.alloc (.cells #[.int .i64 n0, .slice la ln lc, .int .i64 src, .slice da dl.length dc, .slice ma mu.length mc] 64)) 27 #[.int .i64 0, .slice none 0 0]
    rwa [z1] at this
  have low : Below w.heap.size w W := by rw [← hW]; exact ((Below.refl _ w).alloc (Nat.le_refl _) _).alloc (by simp) _
  have zW : W.heap.size = w.heap.size + 2 := by rw [← hW]; simp
  have c0 := b0.cell 0
  have c1 := b0.cell 1
  simp at c0 c1
  have HMd := Lib.hid (made_ex W n0 la ln lc ls (hp.below low))
  have HW := Lib.hid hW
  clear hW z1
  go_enter Tryd.func29, Tryd.ntmps29
  go_upto_region 1 with (fail)
  rw [HW.out]
  clear HW
  go_upto_region 2 with (go_at_call 12; refine HMd.out.mono ?_; rintro e w1 ⟨l1, m, G, R, near, L, ha, hc, rfl, m1, m2, hnl, hL, HMa, HG, HP⟩)
  obtain ⟨W2, hW2⟩ : ∃ W2, w1.alloc (.cells #[.int .i64 (m : Nat), .slice ha L.length hc] 27) = W2 := ⟨_, rfl⟩
  have lw1 := l1.size
  have b7 : Blk W2 w1.heap.size 27 #[.int .i64 (m : Nat), .slice ha L.length hc] := by rw [← hW2]; exact Blk.new w1 _ _
  have l12 : Below w1.heap.size w1 W2 := by rw [← hW2]; exact (Below.refl _ _).alloc (Nat.le_refl _) _
  have l2 : Below W.heap.size W W2 := l1.trans (l12.mono lw1)
  have low2 : Below w.heap.size w W2 := low.trans (l2.mono (by omega))
  have z2 := l2.size
  have z7 := b7.lt
  have b0' := b0.below l2 b0.lt
  have b1' := b1.below l2 b1.lt
  rw [hW2]
  have HG2 : RowKit.Hid (GraphAt W2 G R near) := Lib.hid (HG.out.below l12 (Nat.le_refl _))
  have HP2 : RowKit.Hid (PairsAt W2 (.slice ha L.length hc) L) := Lib.hid (HP.out.below l12 (Nat.le_refl _))
  have ok := HMa.out.ok (by omega : m ≤ 64)
  have HSe := Lib.hid (fun V (k : Below W2.heap.size W2 V) => sets_any V ma mu mc ((hm.keep fun i hi => (k.block i (by omega)).trans (low2.block i hi)).mono (by have := k.size; omega)) hmu)
  have HRu := Lib.hid (fun V a3 c3 (k : Below W2.heap.size W2 V) (hm3 : MuteAt V.heap.size V a3 mu) => run_any V.heap.size V G R near mu dl da a3 dc c3 src (HG2.out.below k (Nat.le_refl _)) ok ((hT.below low2 hT.size).below k (by omega)) ((hd.keep fun i hi => (k.block i (by omega)).trans (low2.block i hi)).mono (by have := k.size; omega)) hm3 (Nat.le_refl _))
  have HRf := Lib.hid (fun V (k : Below W2.heap.size W2 V) => refrun_any w.heap.size V m near mu L ha hc dl da ma dc mc src HMa.out (HP2.out.below k (Nat.le_refl _)) (by omega) (by omega) HG2.out.word (hd.keep fun i hi => (k.block i (by omega)).trans (low2.block i hi)) (hm.keep fun i hi => (k.block i (by omega)).trans (low2.block i hi)) (by have := k.size; omega))
  have HS := Lib.hid (fun (V : World) (k : Below W2.heap.size W2 V) => (show V.cell? ⟨w.heap.size, 2, none⟩ = some (.int .i64 src) ∧ V.cell? ⟨w.heap.size, 3, none⟩ = some (.slice da dl.length dc) ∧ V.cell? ⟨w.heap.size, 4, none⟩ = some (.slice ma mu.length mc) ∧ V.cell? ⟨w1.heap.size, 0, none⟩ = some (.int .i64 (m : Nat)) ∧ V.cell? ⟨w1.heap.size, 1, none⟩ = some (.slice ha L.length hc) from ⟨(b0'.below k b0'.lt).cell 2, (b0'.below k b0'.lt).cell 3, (b0'.below k b0'.lt).cell 4, (b7.below k b7.lt).cell 0, (b7.below k b7.lt).cell 1⟩))
  have HDn := Lib.hid (fun (V : World) (k : Below W2.heap.size W2 V) => b1'.below k b1'.lt)
  have HS2 := Lib.hid (fun (V5 : World) (k : Below W2.heap.size W2 V5) => (show ((V5.setCell ⟨w.heap.size + 1, 0, none⟩ (.int .i64 (m : Nat))).setCell ⟨w.heap.size + 1, 1, none⟩ (.slice ha L.length hc)).cell? ⟨w.heap.size, 2, none⟩ = some (.int .i64 src) ∧ ((V5.setCell ⟨w.heap.size + 1, 0, none⟩ (.int .i64 (m : Nat))).setCell ⟨w.heap.size + 1, 1, none⟩ (.slice ha L.length hc)).cell? ⟨w.heap.size, 3, none⟩ = some (.slice da dl.length dc) ∧ ((V5.setCell ⟨w.heap.size + 1, 0, none⟩ (.int .i64 (m : Nat))).setCell ⟨w.heap.size + 1, 1, none⟩ (.slice ha L.length hc)).cell? ⟨w.heap.size, 4, none⟩ = some (.slice ma mu.length mc) ∧ ((V5.setCell ⟨w.heap.size + 1, 0, none⟩ (.int .i64 (m : Nat))).setCell ⟨w.heap.size + 1, 1, none⟩ (.slice ha L.length hc)).cell? ⟨w1.heap.size, 0, none⟩ = some (.int .i64 (m : Nat)) ∧ ((V5.setCell ⟨w.heap.size + 1, 0, none⟩ (.int .i64 (m : Nat))).setCell ⟨w.heap.size + 1, 1, none⟩ (.slice ha L.length hc)).cell? ⟨w1.heap.size, 1, none⟩ = some (.slice ha L.length hc) from by
    have q0 := ((b0'.below k b0'.lt).far (p := ⟨w.heap.size + 1, 0, none⟩) (by show w.heap.size ≠ w.heap.size + 1; omega) (.int .i64 (m : Nat))).far (p := ⟨w.heap.size + 1, 1, none⟩) (by show w.heap.size ≠ w.heap.size + 1; omega) (.slice ha L.length hc)
    have q7 := ((b7.below k b7.lt).far (p := ⟨w.heap.size + 1, 0, none⟩) (by show w1.heap.size ≠ w.heap.size + 1; omega) (.int .i64 (m : Nat))).far (p := ⟨w.heap.size + 1, 1, none⟩) (by show w1.heap.size ≠ w.heap.size + 1; omega) (.slice ha L.length hc)
    exact ⟨q0.cell 2, q0.cell 3, q0.cell 4, q7.cell 0, q7.cell 1⟩))
  have HFin : RowKit.Hid (∀ (w3 w4 w5 : World) v1 v2 r, Below W2.heap.size W2 w3 → Below W2.heap.size W2 w4 → Below w4.heap.size w4 w5 → w4.ownsRow w3.heap.size 71 4 v1 r.length (arrC r) → FInv near.length [] r → Runs near mu dl src r → w5.ownsRow (w4.heap.size + 1) 70 4 v2 r.length (arrC r) →
      RunPost w mu dl src (.returned (.tuple #[v1, v2, .pointer (some ⟨G, 0, none⟩), .agg #[.int .i64 (m : Nat), .slice ha L.length hc]])) ((w5.setCell ⟨w.heap.size + 1, 0, none⟩ (.int .i64 (m : Nat))).setCell ⟨w.heap.size + 1, 1, none⟩ (.slice ha L.length hc))) := Lib.hid fun w3 w4 w5 v1 v2 r k3 k4 k5 o4 f4 r4 o5 => by
    have k45 := k4.trans (k5.mono k4.size)
    have hb := HDn.out w5 k45
    have off : Off (fun j => j = w.heap.size + 1) w5 ((w5.setCell ⟨w.heap.size + 1, 0, none⟩ (.int .i64 (m : Nat))).setCell ⟨w.heap.size + 1, 1, none⟩ (.slice ha L.length hc)) := off_put (off_put (Off.refl _ _) _ _) _ _
    refine ⟨m, G, R, near, L, ha, hc, v1, v2, r, rfl, m1, m2, hnl, hL, HMa, Lib.hid ?_, Lib.hid ?_, Lib.hid ?_, Lib.hid ?_, Lib.hid (by rw [← hnl]; exact f4), Lib.hid r4, Lib.hid ?_⟩
    · have g5 := HG2.out.below k45 (Nat.le_refl _)
      exact ⟨g5.box.off off (g5.box.ne hb (by decide)), g5.row.off off (g5.row.ne hb (by decide)), g5.word, g5.few⟩
    · exact PairsFar (HP2.out.below k45 (Nat.le_refl _)) hb _ _
    · refine own_weak (own_off (own_below o4 k5) off fun g hg c => ?_) (by have := k3.size; omega)
      have := (own_rng o4 hg).1; have := k3.size; omega
    · refine own_weak (own_off o5 off fun g hg c => ?_) (by have := k4.size; omega)
      have := (own_rng o5 hg).1; have := k4.size; omega
    · exact ((low2.trans (k45.mono (by omega))).setCell (p := ⟨w.heap.size + 1, 0, none⟩) (by show w.heap.size ≤ w.heap.size + 1; omega) _).setCell (p := ⟨w.heap.size + 1, 1, none⟩) (by show w.heap.size ≤ w.heap.size + 1; omega) _
  clear hd hm b0 b1 b0' b1' b7 l1 l12 l2 low low2 hW2 HMd c0 c1 hT
  refine wp_region_held_drew (S := fun V => V.cell? ⟨w.heap.size, 2, none⟩ = some (.int .i64 src) ∧ V.cell? ⟨w.heap.size, 3, none⟩ = some (.slice da dl.length dc) ∧ V.cell? ⟨w.heap.size, 4, none⟩ = some (.slice ma mu.length mc) ∧ V.cell? ⟨w1.heap.size, 0, none⟩ = some (.int .i64 (m : Nat)) ∧ V.cell? ⟨w1.heap.size, 1, none⟩ = some (.slice ha L.length hc)) (by kernel_rfl) (HS.out _ (Below.refl _ _).drew) (fun hHeld => ?_)
  refine Take.take (i := 0) (oi := _) (t := 14) (v := ?v1) rfl (by kernel_rfl) (by kernel_rfl) (by kernel_rfl) (by kernel_rfl) (fun _ _ _ h => h) (by kernel_rfl) ?hy1 (by assumption) ?_
  case hy1 => (intro w hSw; (try dsimp only at hSw); go_simp; try with_reducible rfl)
  try simp only [Act.put, List.setIfInBounds_toArray, List.set_cons_zero, List.set_cons_succ]
  refine Take.take (i := 1) (oi := _) (t := 15) (v := ?v2) rfl (by kernel_rfl) (by kernel_rfl) (by kernel_rfl) (by kernel_rfl) (fun _ _ _ h => h) (by kernel_rfl) ?hy2 (by assumption) ?_
  case hy2 => (intro w hSw; (try dsimp only at hSw); go_simp; try with_reducible rfl)
  try simp only [Act.put, List.setIfInBounds_toArray, List.set_cons_zero, List.set_cons_succ]
  refine Take.take (i := 2) (oi := _) (t := 16) (v := ?v3) rfl (by kernel_rfl) (by kernel_rfl) (by kernel_rfl) (by kernel_rfl) (fun _ _ _ h => h) (by kernel_rfl) ?hy3 (by assumption) ?_
  case hy3 => (intro w hSw; (try dsimp only at hSw); go_simp; try with_reducible rfl)
  try simp only [Act.put, List.setIfInBounds_toArray, List.set_cons_zero, List.set_cons_succ]
  refine Take.take (i := 3) (oi := _) (t := 17) (v := ?v4) rfl (by kernel_rfl) (by kernel_rfl) (by kernel_rfl) (by kernel_rfl) (fun _ _ _ h => h) (by kernel_rfl) ?hy4 (by assumption) ?_
  case hy4 => (intro w hSw; (try dsimp only at hSw); go_simp; try with_reducible rfl)
  try simp only [Act.put, List.setIfInBounds_toArray, List.set_cons_zero, List.set_cons_succ]
  refine Take.take (i := 4) (oi := _) (t := 18) (v := ?v5) rfl (by kernel_rfl) (by kernel_rfl) (by kernel_rfl) (by kernel_rfl) (fun _ _ _ h => h) (by kernel_rfl) ?hy5 (by assumption) ?_
  case hy5 => (intro w hSw; (try dsimp only at hSw); go_simp; try with_reducible rfl)
  try simp only [Act.put, List.setIfInBounds_toArray, List.set_cons_zero, List.set_cons_succ]
  refine Take.take (i := 5) (oi := _) (t := 19) (v := ?v6) rfl (by kernel_rfl) (by kernel_rfl) (by kernel_rfl) (by kernel_rfl) (fun _ _ _ h => h) (by kernel_rfl) ?hy6 (by assumption) ?_
  case hy6 => (intro w hSw; (try dsimp only at hSw); go_simp; try with_reducible rfl)
  try simp only [Act.put, List.setIfInBounds_toArray, List.set_cons_zero, List.set_cons_succ]
  refine Take.take (i := 6) (oi := _) (t := 20) (v := ?v7) rfl (by kernel_rfl) (by kernel_rfl) (by kernel_rfl) (by kernel_rfl) (fun _ _ _ h => h) (by kernel_rfl) ?hy7 (by assumption) ?_
  case hy7 => (intro w hSw; (try dsimp only at hSw); go_simp; try with_reducible rfl)
  try simp only [Act.put, List.setIfInBounds_toArray, List.set_cons_zero, List.set_cons_succ]
  refine Take.take (i := 9) (oi := _) (t := 23) (v := ?v8) rfl (by kernel_rfl) (by kernel_rfl) (by kernel_rfl) (by kernel_rfl) (fun _ _ _ h => h) (by kernel_rfl) ?hy8 (by assumption) ?_
  case hy8 => (intro w hSw; (try dsimp only at hSw); go_simp; try with_reducible rfl)
  try simp only [Act.put, List.setIfInBounds_toArray, List.set_cons_zero, List.set_cons_succ]
  refine Take.take (i := 10) (oi := _) (t := 24) (v := ?v9) rfl (by kernel_rfl) (by kernel_rfl) (by kernel_rfl) (by kernel_rfl) (fun _ _ _ h => h) (by kernel_rfl) ?hy9 (by assumption) ?_
  case hy9 => (intro w hSw; (try dsimp only at hSw); go_simp; try with_reducible rfl)
  try simp only [Act.put, List.setIfInBounds_toArray, List.set_cons_zero, List.set_cons_succ]
  refine Take.take (i := 11) (oi := _) (t := 25) (v := ?v10) rfl (by kernel_rfl) (by kernel_rfl) (by kernel_rfl) (by kernel_rfl) (fun _ _ _ h => h) (by kernel_rfl) ?hy10 (by assumption) ?_
  case hy10 => (intro w hSw; (try dsimp only at hSw); go_simp; try with_reducible rfl)
  try simp only [Act.put, List.setIfInBounds_toArray, List.set_cons_zero, List.set_cons_succ]
  refine Take.take (i := 12) (oi := _) (t := 26) (v := ?v11) rfl (by kernel_rfl) (by kernel_rfl) (by kernel_rfl) (by kernel_rfl) (fun _ _ _ h => h) (by kernel_rfl) ?hy11 (by assumption) ?_
  case hy11 => (intro w hSw; (try dsimp only at hSw); go_simp; try with_reducible rfl)
  try simp only [Act.put, List.setIfInBounds_toArray, List.set_cons_zero, List.set_cons_succ]
  refine Take.take (i := 13) (oi := _) (t := 27) (v := ?v12) rfl (by kernel_rfl) (by kernel_rfl) (by kernel_rfl) (by kernel_rfl) (fun _ _ _ h => h) (by kernel_rfl) ?hy12 (by assumption) ?_
  case hy12 => (intro w hSw; (try dsimp only at hSw); go_simp; try with_reducible rfl)
  try simp only [Act.put, List.setIfInBounds_toArray, List.set_cons_zero, List.set_cons_succ]
  refine Take.take (i := 14) (oi := _) (t := 28) (v := ?v13) rfl (by kernel_rfl) (by kernel_rfl) (by kernel_rfl) (by kernel_rfl) (fun _ _ _ h => h) (by kernel_rfl) ?hy13 (by assumption) ?_
  case hy13 => (intro w hSw; (try dsimp only at hSw); go_simp; try with_reducible rfl)
  try simp only [Act.put, List.setIfInBounds_toArray, List.set_cons_zero, List.set_cons_succ]
  refine Take.take (i := 15) (oi := _) (t := 29) (v := ?v14) rfl (by kernel_rfl) (by kernel_rfl) (by kernel_rfl) (by kernel_rfl) (fun _ _ _ h => h) (by kernel_rfl) ?hy14 (by assumption) ?_
  case hy14 => (intro w hSw; (try dsimp only at hSw); go_simp; try with_reducible rfl)
  try simp only [Act.put, List.setIfInBounds_toArray, List.set_cons_zero, List.set_cons_succ]
  refine Take.take (i := 17) (oi := _) (t := 31) (v := ?v15) rfl (by kernel_rfl) (by kernel_rfl) (by kernel_rfl) (by kernel_rfl) (fun _ _ _ h => h) (by kernel_rfl) ?hy15 (by assumption) ?_
  case hy15 => (intro w hSw; (try dsimp only at hSw); go_simp; try with_reducible rfl)
  try simp only [Act.put, List.setIfInBounds_toArray, List.set_cons_zero, List.set_cons_succ]
  refine Take.take (i := 18) (oi := _) (t := 32) (v := ?v16) rfl (by kernel_rfl) (by kernel_rfl) (by kernel_rfl) (by kernel_rfl) (fun _ _ _ h => h) (by kernel_rfl) ?hy16 (by assumption) ?_
  case hy16 => (intro w hSw; (try dsimp only at hSw); go_simp; try with_reducible rfl)
  try simp only [Act.put, List.setIfInBounds_toArray, List.set_cons_zero, List.set_cons_succ]
  refine wpAnyH_ready (rs := [7]) (by kernel_rfl) (by simp) ?_
  refine AllReadyH.cons (o := _) rfl (fun K hK => ?_) AllReadyH.nil
  go_simp
  go_at_call 51
  refine (HSe.out W2.drew (Below.refl _ _).drew).mono ?_
  rintro e w3 ⟨a3, c3, rfl, m3, l3⟩
  try dsimp only
  have K3 := Lib.hid ((Below.refl _ W2).drew.trans (l3 : Below W2.heap.size W2.drew w3))
  have M3 := Lib.hid m3
  refine hK.out _ _ ?hS17 (fun hHeld => ?_)
  case hS17 => (first | exact HS.out _ K3.out | exact HS.out _ K4.out | exact HS.out _ K5.out | exact HS2.out w5 K5.out)
  clear hK K
  try simp only [Act.put, List.setIfInBounds_toArray, List.set_cons_zero, List.set_cons_succ]
  refine wpAnyH_ready (rs := [8]) (by kernel_rfl) (by simp) ?_
  refine AllReadyH.cons (o := _) rfl (fun K hK => ?_) AllReadyH.nil
  go_simp
  go_at_call 50
  refine (HRu.out w3 a3 c3 K3.out M3.out).mono ?_
  rintro e w4 ⟨v1, r, rfl, o4, l4, f4, r4⟩
  try dsimp only
  have K4 := Lib.hid (K3.out.trans (l4.mono K3.out.size))
  have O4 := Lib.hid o4
  have F4 := Lib.hid f4
  have R4 := Lib.hid r4
  refine hK.out _ _ ?hS18 (fun hHeld => ?_)
  case hS18 => (first | exact HS.out _ K3.out | exact HS.out _ K4.out | exact HS.out _ K5.out | exact HS2.out w5 K5.out)
  clear hK K
  try simp only [Act.put, List.setIfInBounds_toArray, List.set_cons_zero, List.set_cons_succ]
  refine wpAnyH_ready (rs := [16]) (by kernel_rfl) (by simp) ?_
  refine AllReadyH.cons (o := _) rfl (fun K hK => ?_) AllReadyH.nil
  go_simp
  go_at_call 52
  refine (HRf.out w4 K4.out).mono ?_
  rintro e w5 ⟨v2, r', rfl, o5, l5, r5⟩
  try dsimp only
  obtain rfl := r4.uniq r5
  have K5 := Lib.hid (K4.out.trans (l5.mono K4.out.size))
  have O5 := Lib.hid o5
  have L5 := Lib.hid l5
  have HD := Lib.hid (HDn.out w5 K5.out)
  have e0 : w5.cell? ⟨w.heap.size + 1, 0, none⟩ = some (.int .i64 0) := HD.out.cell 0
  have e1 : w5.cell? ⟨w.heap.size + 1, 1, none⟩ = some (.slice none 0 0) := HD.out.cell 1
  have e2 := HD.out.frozen 0
  have e3 := HD.out.frozen 1
  have e4 := HD.out.lt
  refine hK.out _ _ ?hS19 (fun hHeld => ?_)
  case hS19 => (first | exact HS.out _ K3.out | exact HS.out _ K4.out | exact HS.out _ K5.out | exact HS2.out w5 K5.out)
  clear hK K
  try simp only [Act.put, List.setIfInBounds_toArray, List.set_cons_zero, List.set_cons_succ]
  refine Take.take (i := 19) (oi := _) (t := 2) (v := ?v20) rfl (by kernel_rfl) (by kernel_rfl) (by kernel_rfl) (by kernel_rfl) (fun _ _ _ h => h) (by kernel_rfl) ?hy20 (by assumption) ?_
  case hy20 => (intro w hSw; (try dsimp only at hSw); go_simp; try with_reducible rfl)
  try simp only [Act.put, List.setIfInBounds_toArray, List.set_cons_zero, List.set_cons_succ]
  refine Take.take (i := 20) (oi := _) (t := 3) (v := ?v21) rfl (by kernel_rfl) (by kernel_rfl) (by kernel_rfl) (by kernel_rfl) (fun _ _ _ h => h) (by kernel_rfl) ?hy21 (by assumption) ?_
  case hy21 => (intro w hSw; (try dsimp only at hSw); go_simp; try with_reducible rfl)
  try simp only [Act.put, List.setIfInBounds_toArray, List.set_cons_zero, List.set_cons_succ]
  refine Take.take (i := 21) (oi := _) (t := 4) (v := ?v22) rfl (by kernel_rfl) (by kernel_rfl) (by kernel_rfl) (by kernel_rfl) (fun _ _ _ h => h) (by kernel_rfl) ?hy22 (by assumption) ?_
  case hy22 => (intro w hSw; (try dsimp only at hSw); go_simp; try with_reducible rfl)
  try simp only [Act.put, List.setIfInBounds_toArray, List.set_cons_zero, List.set_cons_succ]
  refine wpAnyH_ready (rs := [22]) (by kernel_rfl) (by simp) ?_
  refine AllReadyH.cons (o := _) rfl (fun K hK => ?_) AllReadyH.nil
  go_simp
  refine hK.out _ _ ?hS23 (fun hHeld => ?_)
  case hS23 => (first | exact HS.out _ K3.out | exact HS.out _ K4.out | exact HS.out _ K5.out | exact HS2.out w5 K5.out)
  clear hK K
  try simp only [Act.put, List.setIfInBounds_toArray, List.set_cons_zero, List.set_cons_succ]
  refine wpAnyH_done (by kernel_rfl) ?_ _
  go_wp2_with fail
  refine bodyPost_ret (results_ttt_cell (b := w.heap.size + 1) Tryd.results29 rfl Tryd.underlying27 (by kernel_rfl) (by kernel_rfl) (range2 (c0 := .int .i64 (m : Nat)) (c1 := .slice ha L.length hc) ?_ ?_)) rfl ?_
  · go_simp
  · go_simp
  · exact HFin.out w3 w4 w5 v1 v2 r K3.out K4.out L5.out O4.out F4.out R4.out O5.out
end Go.Proofs.YtmbblhajbecomaaDoor.Flood
