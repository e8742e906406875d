/- The document's storm: Run, walked. -/
import Derived.Test.YtmbblhajbecomaaDoorFloodRun
namespace Go.Proofs.YtmbblhajbecomaaDoor.Flood
open Go.RowKit
open Go.Proofs.YtmbblhajbecomaaDoor.RF Go.Proofs.YtmbblhajbecomaaDoor.Heap Go.Proofs.YtmbblhajbecomaaDoor.Nodes Go.Proofs.YtmbblhajbecomaaDoor.Graph Go.Proofs.YtmbblhajbecomaaDoor.Reach
set_option linter.unusedVariables false
set_option linter.unusedSimpArgs false

/-- x comes first of the first k. -/
theorem FirstA.snoc {S : List Arr} {i : Nat} {t x : Arr} (h : FirstA S i t) : (t.time ≤ x.time → FirstA (S ++ [x]) i t) ∧ (x.time < t.time → FirstA (S ++ [x]) S.length x) := by
  have li := lt_of_get h.get
  constructor
  · intro hx
    refine ⟨by rw [List.getElem?_append_left li]; exact h.get, fun j u hu => ?_, fun j u hj hu => ?_⟩
    · by_cases c : j < S.length
      · rw [List.getElem?_append_left c] at hu; exact h.le j u hu
      · have lj := lt_of_get hu
        simp at lj
        obtain rfl : j = S.length := by omega
        simp at hu; subst hu; exact hx
    · rw [List.getElem?_append_left (by omega)] at hu
      exact h.lt j u hj hu
  · intro hx
    refine ⟨by simp, fun j u hu => ?_, fun j u hj hu => ?_⟩
    · by_cases c : j < S.length
      · rw [List.getElem?_append_left c] at hu; have := h.le j u hu; omega
      · have lj := lt_of_get hu
        simp at lj
        obtain rfl : j = S.length := by omega
        simp at hu; subst hu; exact Int.le_refl _
    · rw [List.getElem?_append_left hj] at hu
      have := h.le j u hu; omega
theorem firstA_one (x : Arr) : FirstA [x] 0 x := ⟨rfl, fun j u hu => by
  rcases j with _ | j
  · simp at hu; subst hu; exact Int.le_refl _
  · simp at hu, fun j u hj => by omega⟩
def MinTo (way : List Arr) (k a : Nat) : Prop := ∃ x, FirstA (way.take k) a x
section
variable {w V V' : World} {n : Nat} {L : List (Int × Int)} {la : Option Addr} {lcap : Nat} {v9 v10 : Value} {way out : List Arr}
/-- What the document's storm keeps. -/
structure RefR (w : World) (n : Nat) (L : List (Int × Int)) (la : Option Addr) (lcap : Nat) (v9 v10 : Value) (way out : List Arr) (V : World) : Prop where
  g : Blk V w.heap.size 27 #[.int .i64 (n : Nat), .slice la L.length lcap]
  o : V.ownsRow (w.heap.size + 1) 70 4 v9 out.length (arrC out)
  y : V.ownsRow (w.heap.size + 1) 70 4 v10 way.length (arrC way)
  ne : ∀ b, v9.ownBlock = some b → v10.ownBlock ≠ some b
  low : Below w.heap.size w V
theorem own_rng {base e s n : Nat} {v : Value} {xs : List Value} (h : V.ownsRow base e s v n xs) {b : Nat} (hb : v.ownBlock = some b) : base ≤ b ∧ b < V.heap.size := by
  rcases h.2 with ⟨rfl, _⟩ | ⟨g, cap, cur, rfl, hbg, hg, _⟩
  · simp [Value.ownBlock] at hb
  · simp only [Value.ownBlock, Option.some.injEq] at hb
    subst hb
    exact ⟨hbg, (Array.getElem?_eq_some_iff.1 hg).1⟩
theorem own_grown {base e s n : Nat} {v : Value} {xs : List Value} (h : V.ownsRow base e s v n xs) {row : Option Nat} (k : V.grownBy V' row) (hn : ∀ b, v.ownBlock = some b → some b ≠ row) : V'.ownsRow base e s v n xs := by
  rcases h.2 with ⟨rfl, h0⟩ | ⟨g, cap, cur, rfl, hb, hg, rest⟩
  · exact ⟨h.1, .inl ⟨rfl, h0⟩⟩
  · exact ⟨h.1, .inr ⟨g, cap, cur, rfl, hb, (k.block g (Array.getElem?_eq_some_iff.1 hg).1 (hn g rfl)).trans hg, rest⟩⟩
theorem RefR.below (h : RefR w n L la lcap v9 v10 way out V) (k : Below V.heap.size V V') : RefR w n L la lcap v9 v10 way out V' :=
  ⟨h.g.below k h.g.lt, own_below h.o k, own_below h.y k, h.ne, h.low.trans (k.mono h.low.size)⟩
theorem RefR.app_y (h : RefR w n L la lcap v9 v10 way out V) {v : Value} {way' : List Arr} (k : V.grownBy V' v10.ownBlock) (hy : V'.ownsRow (w.heap.size + 1) 70 4 v way'.length (arrC way')) (hv : v.ownBlock = v10.ownBlock ∨ v.ownBlock = some V.heap.size) : RefR w n L la lcap v9 v way' out V' := by
  refine ⟨h.g.grown k fun e => ?_, own_grown h.o k fun b hb e => h.ne b hb e.symm, hy, fun b hb e => ?_, ?_⟩
  · have := (own_rng h.y e.symm).1; omega
  · rcases hv with hv | hv
    · rw [hv] at e; exact h.ne b hb e
    · rw [hv] at e
      have := (own_rng h.o hb).2
      simp only [Option.some.injEq] at e
      omega
  · exact below_own h.low k h.y (by omega) (Nat.le_refl _)
theorem RefR.app_o (h : RefR w n L la lcap v9 v10 way out V) {v : Value} {out' : List Arr} (k : V.grownBy V' v9.ownBlock) (hy : V'.ownsRow (w.heap.size + 1) 70 4 v out'.length (arrC out')) (hv : v.ownBlock = v9.ownBlock ∨ v.ownBlock = some V.heap.size) : RefR w n L la lcap v v10 way out' V' := by
  refine ⟨h.g.grown k fun e => ?_, hy, own_grown h.y k fun b hb e => h.ne b e.symm hb, fun b hb e => ?_, ?_⟩
  · have := (own_rng h.o e.symm).1; omega
  · rcases hv with hv | hv
    · rw [hv] at hb; exact h.ne b hb e
    · rw [hv] at hb
      have := (own_rng h.y e).2
      simp only [Option.some.injEq] at hb
      omega
  · exact below_own h.low k h.o (by omega) (Nat.le_refl _)
/-- The row of what is under way is made anew. -/
theorem RefR.fresh (h : RefR w n L la lcap v9 v10 way out V) (k : Below V.heap.size V V') {v : Value} {way' : List Arr} (hy : V'.ownsRow (w.heap.size + 1) 70 4 v way'.length (arrC way')) (hv : ∀ b, v.ownBlock = some b → V.heap.size ≤ b) : RefR w n L la lcap v9 v way' out V' := by
  have h' := h.below k
  exact ⟨h'.g, h'.o, hy, fun b hb e => by have := (own_rng h.o hb).2; have := hv b e; omega, h'.low⟩
end
theorem own_nil {V : World} {t : TypeId} {base : Nat} (hb : base ≤ V.heap.size) : (V.alloc (.cells #[] t)).ownsRow base t 4 (.slice (some ⟨V.heap.size, 0, none⟩) 0 0) 0 [] := by
  have := row_of_blk (base := base) (n := 0) (s := 4) (cap := 0) (Blk.new V t #[]) hb (Nat.le_refl _) (by unfold maxLen; omega) rfl
  simpa using this
theorem arrC_append (l m : List Arr) : arrC (l ++ m) = arrC l ++ arrC m := by simp [arrC]
theorem arrC_take {l : List Arr} {k j : Nat} {u : Value} (h : (arrC (l.take k))[j]? = some u) : (arrC l)[j]? = some u := by
  have e : arrC l = arrC (l.take k) ++ arrC (l.drop k) := by rw [← arrC_append, List.take_append_drop]
  rw [e, List.getElem?_append_left (List.getElem?_eq_some_iff.1 h).1]; exact h
theorem arrC_drop {l : List Arr} {k : Nat} (hk : k ≤ l.length) (j : Nat) : (arrC (l.drop k))[j]? = (arrC l)[k * 4 + j]? := by
  have e : arrC l = arrC (l.take k) ++ arrC (l.drop k) := by rw [← arrC_append, List.take_append_drop]
  have hl : (arrC (l.take k)).length = k * 4 := by rw [arrC_len, List.length_take, Nat.min_eq_left hk]
  rw [e, List.getElem?_append_right (by omega), hl]
  congr 1; omega
theorem arrC_one (l : List Arr) : ∀ u ∈ arrC l, u.oneCell' = true := fun u hu => by
  obtain ⟨c, hc, huc⟩ := List.mem_flatten.1 hu
  obtain ⟨x, _, rfl⟩ := List.mem_map.1 hc
  exact encA_one x u huc
theorem own_weak {V : World} {base base' : Nat} {e : TypeId} {s n : Nat} {v : Value} {xs : List Value} (h : V.ownsRow base e s v n xs) (hb : base' ≤ base) : V.ownsRow base' e s v n xs := by
  rcases h.2 with ⟨rfl, h0⟩ | ⟨g, cap, cur, rfl, hbg, rest⟩
  · exact ⟨h.1, .inl ⟨rfl, h0⟩⟩
  · exact ⟨h.1, .inr ⟨g, cap, cur, rfl, Nat.le_trans hb hbg, rest⟩⟩
theorem addr0 (g j : Nat) : (⟨g, 0, none⟩ : Addr).add j = ⟨g, j, none⟩ := by rw [Go.WideShapes.add_plain, Nat.zero_add]
theorem infoR : (Tryd.prog.info? 70).map (fun i => (i.zero, i.size, i.bytes)) = some (some (.agg #[.int .i64 0, .int .i64 0, .int .i64 0, .int .i64 0]), 4, 32) := by kernel_rfl
set_option maxRecDepth 100000 in
set_option maxHeartbeats 8000000 in
theorem refrun_any (K : Nat) (w : World) (n : Nat) (near mu : List Nat) (L : List (Int × Int)) (la : Option Addr) (lcap : Nat) (dl : List (List Int)) (da ma : Option Addr) (dc mc : Nat) (src : Int) (hM : Match n near L) (hP : PairsAt w (.slice la L.length lcap) L) (hL : L.length ≤ 65536) (hn : n ≤ 64)
    (hnl : ∀ s ∈ near, s < 2 ^ 64) (hd : DelayAt K w da dl) (hm : MuteAt K w ma mu) (hK : K ≤ w.heap.size) :
    Calls Tryd.prog 52 #[.agg #[.int .i64 (n : Nat), .slice la L.length lcap], .int .i64 src, .slice da dl.length dc, .slice ma mu.length mc] w fun e w' => ∃ v r, e = .returned v ∧ w'.ownsRow (w.heap.size + 1) 70 4 v r.length (arrC r) ∧ Below w.heap.size w w' ∧ Runs near mu dl src r := by
  have hlen := hM.len
  have ok := hM.ok hn
  have Hd := Lib.hid hd
  have Hm := Lib.hid hm
  have HP := Lib.hid hP
  have HM := Lib.hid hM
  have Hnl := Lib.hid hnl
  have hmx := hm.max
  obtain ⟨i0, hi0, hz⟩ := Option.map_eq_some_iff.1 infoR
  simp only [Prod.mk.injEq] at hz
  obtain ⟨hz0, hz1, hz2⟩ := hz
  have Hi0 := Lib.hid hi0
  have Hz0 := Lib.hid hz0
  have Hz1 := Lib.hid hz1
  have Hz2 := Lib.hid hz2
  clear hi0 hz0 hz1 hz2 hd hm hP hM hnl
  obtain ⟨W1, hW1⟩ : ∃ W, w.alloc (.cells #[.int .i64 (n : Nat), .slice la L.length lcap] 27) = W := ⟨_, rfl⟩
  have bG : Blk W1 w.heap.size 27 #[.int .i64 (n : Nat), .slice la L.length lcap] := by rw [← hW1]; exact Blk.new w _ _
  have l1 : Below w.heap.size w W1 := by rw [← hW1]; exact (Below.refl _ w).alloc (Nat.le_refl _) _
  have z1 : W1.heap.size = w.heap.size + 1 := by rw [← hW1]; simp
  obtain ⟨W3, hW3⟩ : ∃ W, (W1.alloc (.cells #[] 70)).alloc (.cells #[] 70) = W := ⟨_, rfl⟩
  have z2 : (W1.alloc (.cells #[] 70)).heap.size = W1.heap.size + 1 := by simp
  have hR3 : RefR w n L la lcap (.slice (some ⟨W1.heap.size, 0, none⟩) 0 0) (.slice (some ⟨W1.heap.size + 1, 0, none⟩) 0 0) [] [] W3 := by
    rw [← hW3]
    have k : Below (W1.alloc (.cells #[] 70)).heap.size (W1.alloc (.cells #[] 70)) ((W1.alloc (.cells #[] 70)).alloc (.cells #[] 70)) := (Below.refl _ _).alloc (Nat.le_refl _) _
    refine ⟨(bG.alloc _).alloc _, own_below (own_nil (by omega)) k, ?_, fun b hb e => ?_, (l1.alloc (by omega) _).alloc (by omega) _⟩
    · have := own_nil (V := W1.alloc (.cells #[] 70)) (t := 70) (base := w.heap.size + 1) (by omega)
      rwa [z2] at this
    · simp only [Value.ownBlock, Option.some.injEq] at hb e
      omega
  have HW1 := Lib.hid hW1
  have HW3 := Lib.hid hW3
  rw [z1] at hR3
  have HR3 := Lib.hid hR3
  have cG : W3.cell? ⟨w.heap.size, 0, none⟩ = some (.int .i64 (n : Nat)) := hR3.g.cell 0
  clear hW1 bG l1 hW3 z2 hR3
  go_enter Tryd.func52, Tryd.ntmps52
  go_upto_region 1 with (fail)
  rw [HW1.out]
  go_upto_region 2 with (fail)
  rw [HW3.out]
  clear HW1 HW3
  obtain ⟨c, hc⟩ : ∃ c, isN n src = c := ⟨_, rfl⟩
  have Hc := Lib.hid hc
  go_cut [26] from 19 to 25 (fun s26 V => s26 = .bool c ∧ RowKit.Hid (RefR w n L la lcap (.slice (some ⟨w.heap.size + 1, 0, none⟩) 0 0) (.slice (some ⟨w.heap.size + 1 + 1, 0, none⟩) 0 0) [] [] V))
  case first =>
    clear hc
    by_cases h0 : 0 ≤ src
    · have g0 : decide (0 ≤ src) = true := by simpa using h0
      have g1 := Hc.out
      unfold isN at g1
      rw [g0, Bool.true_and] at g1
      go_wp2_with fail
      all_goals
        go_meet
        first | exact ⟨rfl, HR3⟩ | exact ⟨by rw [g1], HR3⟩
    · have g0 : decide (0 ≤ src) = false := by simpa using h0
      have g1 := Hc.out
      unfold isN at g1
      rw [g0, Bool.false_and] at g1
      subst g1
      go_wp2_with fail
      all_goals
        go_meet
        exact ⟨rfl, HR3⟩
  case rest =>
    obtain ⟨rfl, HR3⟩ := hcut
    clear hc cG
    obtain ⟨W3, hW3⟩ : ∃ W, W = wc := ⟨_, rfl⟩
    subst hW3
    go_upto_if 26 with (fail)
    go_cut [10] from 27 to 31 (fun s10 V => RowKit.Hid (RefR w n L la lcap (.slice (some ⟨w.heap.size + 1, 0, none⟩) 0 0) s10 (startF n src) [] V))
    case first =>
      cases c
      · have hst : startF n src = [] := if_neg (by rw [Hc.out]; simp)
        have HR5 : RowKit.Hid (RefR w n L la lcap (.slice (some ⟨w.heap.size + 1, 0, none⟩) 0 0) (.slice (some ⟨w.heap.size + 1 + 1, 0, none⟩) 0 0) (startF n src) [] W3) := Lib.hid (by rw [hst]; exact HR3.out)
        clear hst
        go_wp2_with fail
        go_meet
        exact HR5
      · have hst : startF n src = [⟨src, 0, 0, -1⟩] := if_pos Hc.out
        have Hst := Lib.hid hst
        clear hst
        go_wp2_with (at_builtin; refine wpList_append_own_at _ rfl _ _ 66 rfl (w.heap.size + 1) 70 i0 _ 4 32 Tryd.underlying66 Hi0.out Hz0.out Hz1.out Hz2.out rfl (by decide) (.slice (some ⟨w.heap.size + 1 + 1, 0, none⟩) 0 0) 0 [] rfl (own_below HR3.out.y ((Below.refl _ _).alloc (Nat.le_refl _) _)) ⟨W3.heap.size, 0, none⟩ 1 1 (encA ⟨src, 0, 0, -1⟩) rfl rfl (World.news_of_block (cs := #[.int .i64 src, .int .i64 0, .int .i64 0, .int .i64 (-1)]) (t := 70) (fr := (0, 0)) (heap_alloc_new W3 _)) (encA_one _) (by unfold maxLen; omega) (by omega) (by have := HR3.out.low.size; simp; omega) ?_; intro v' w' own' g' _ at')
        have HR4 := Lib.hid ((HR3.out.below ((Below.refl _ _).alloc (Nat.le_refl _) _)).app_y (way' := startF n src) g' (by rw [Hst.out]; exact own') at')
        clear own' g' at'
        go_wp2_with fail
        go_meet
        exact HR4
    case rest =>
      have HRa := hcut
      clear hcut HR3
      go_wp2_with fail
      have HF0 : RowKit.Hid (FInv n (startF n src) []) := Lib.hid (by
        unfold startF
        split
        · rename_i h; simp [isN] at h; exact FInv.start h
        · exact FInv.nil n)
      have HE0 : RowKit.Hid (∀ r, Ends near mu dl (startF n src) [] r → Runs near mu dl src r) := Lib.hid (by unfold Runs; rw [hlen]; exact fun r h => h)
      go_loopg [9, 10] (muF n (startF n src) []) (fun q v9 v10 wr => ∃ way out, q = muF n way out ∧ RowKit.Hid (RefR w n L la lcap v9 v10 way out wr) ∧ RowKit.Hid (FInv n way out) ∧ RowKit.Hid (∀ r, Ends near mu dl way out r → Runs near mu dl src r))
      case atStart => exact ⟨_, _, rfl, HRa, HF0, HE0⟩
      case round =>
        clear HRa HF0 HE0
        obtain ⟨way, out, hgk, HR, HF, HE⟩ := hrel
        have Hgk := Lib.hid hgk
        clear hgk
        have lwr := HR.out.low.size
        have lgr := HR.out.g.lt
        have hfo := HF.out.few
        have hwl := HF.out.len
        have hw64 : n * out.length ≤ 64 * 64 := Nat.mul_le_mul hn (by omega)
        by_cases hw : way = []
        · subst hw
          obtain ⟨a10, cap10, rfl⟩ := own_form HR.out.y
          have HR' := HR
          clear HR
          go_wp2_with fail
          go_ret
          exact ⟨_, out, rfl, HR'.out.o, HR'.out.low, HE.out _ (.done _)⟩
        · have hpos : 0 < way.length := List.length_pos_iff.2 hw
          obtain ⟨g, cap10, rfl, hgb, hgs⟩ := HR.out.y.form hpos
          obtain ⟨_, _, _, hcap, hcm, _⟩ := row_blk HR.out.y
          have hcmax : cap10 ≤ 9223372036854775807 := hcm
          have lwz : way.length ≤ 65535 := by omega
          have hm0 : MinTo way 1 0 := by
            obtain ⟨x, r, rfl⟩ := List.exists_cons_of_ne_nil hw
            exact ⟨x, by simpa using firstA_one x⟩
          have HM0 := Lib.hid hm0
          have i1 : (0 : Int) < (way.length : Int) := by omega
          obtain ⟨wo, rfl⟩ : ∃ wo : World, wo = wr := ⟨_, rfl⟩
          clear hm0 hw hcm
          go_wp2_with fail
          go_loopw [11, 12] (fun v11 v12 wq => ∃ (a k : Nat), v11 = .int .i64 a ∧ v12 = .int .i64 k ∧ 1 ≤ k ∧ k ≤ way.length ∧ a < k ∧ RowKit.Hid (MinTo way k a) ∧ Off (fun _ => False) wo wq) (fun _ v12 _ => way.length - (intOf v12).toNat)
          case atStart => exact ⟨0, 1, rfl, rfl, by omega, hpos, by omega, HM0, Off.refl _ _⟩
          case round =>
            obtain ⟨a, k, rfl, rfl, hk1, hkl, hak, HMi, hoq⟩ := hrel
            have HRU : RowKit.Hid (RefR w n L la lcap u9 (.slice (some ⟨g, 0, none⟩) way.length cap10) way out wr) := Lib.hid (HR.out.below ⟨hoq.os, hoq.tape, hoq.output, hoq.size, fun i hi => hoq.block i hi id⟩)
            have Hoq := Lib.hid hoq
            have luz := hoq.size
            clear hoq
            by_cases hlt : k < way.length
            · obtain ⟨x, hx⟩ := HMi.out
              have hu := List.getElem?_eq_getElem hlt
              obtain ⟨u, hue⟩ : ∃ u, way[k] = u := ⟨_, rfl⟩
              rw [hue] at hu
              have hxa : way[a]? = some x := by
                have := hx.get
                rwa [List.getElem?_take, if_pos hak] at this
              obtain ⟨_, _, e1, hc⟩ := own_arr HRU.out.y
              simp only [Value.slice.injEq] at e1
              obtain ⟨b1, hb1, _, _, _, cu, _⟩ := hc k u hu
              obtain ⟨b2, hb2, _, _, _, cx, _⟩ := hc a x hxa
              rw [← e1.1] at hb1 hb2
              simp only [Option.some.injEq, Addr.mk.injEq, and_true] at hb1 hb2
              subst hb1
              subst hb2
              have htk : way.take (k + 1) = way.take k ++ [u] := by rw [List.take_add_one, hu]; rfl
              have htl : (way.take k).length = k := by rw [List.length_take]; omega
              have hn1 : x.time ≤ u.time → MinTo way (k + 1) a := fun c => ⟨x, by rw [htk]; exact hx.snoc.1 c⟩
              have hn2 : u.time < x.time → MinTo way (k + 1) k := fun c => ⟨u, by rw [htk]; have := hx.snoc.2 c; rwa [htl] at this⟩
              have Hn1 := Lib.hid hn1
              have Hn2 := Lib.hid hn2
              have j1 : (0 : Int) ≤ (k : Int) := by omega
              have j2 : (k : Int) < (way.length : Int) := by omega
              have j3 : (0 : Int) ≤ (a : Int) := by omega
              have j4 : (a : Int) < (way.length : Int) := by omega
              have j5 : (k : Int) ≤ 65535 := by omega
              clear hc e1 hx hu hue hxa htk htl hn1 hn2
              go_upto_region 9 with (fail)
              go_region_held3 (fun V => V.cell? ⟨g, k * 4 + 1, none⟩ = some (.int .i64 u.time) ∧ V.cell? ⟨g, a * 4 + 1, none⟩ = some (.int .i64 x.time)) ((go_keep; done)) (fail)
              have Hoq2 := Lib.hid (Hoq.out.drew)
              rcases hlx : decide (u.time < x.time) with _ | _
              · have hnn := Lib.hid (Hn1.out (by simpa using hlx))
                go_wp2_with fail
                go_roundw
                case rel => exact ⟨a, k + 1, rfl, by go_num, by omega, hlt, by omega, hnn, Hoq2.out⟩
                case measure => simp [intOf]; omega
              · have hnn := Lib.hid (Hn2.out (by simpa using hlx))
                go_wp2_with fail
                go_roundw
                case rel => exact ⟨k, k + 1, rfl, by go_num, by omega, hlt, by omega, hnn, Hoq2.out⟩
                case measure => simp [intOf]; omega
            · obtain rfl : k = way.length := by omega
              obtain ⟨x, hx⟩ := HMi.out
              rw [List.take_length] at hx
              have hxm := mem_of_get hx.get
              have hxN := HF.out.wayN _ hxm
              have hxT := HF.out.wayT _ hxm
              have hxH := HF.out.wayH _ hxm
              obtain ⟨_, _, e1, hc⟩ := own_arr HRU.out.y
              simp only [Value.slice.injEq] at e1
              obtain ⟨b1, hb1, _, _, x0, x1, x2, x3⟩ := hc a x hx.get
              rw [← e1.1] at hb1
              simp only [Option.some.injEq, Addr.mk.injEq, and_true] at hb1
              subst hb1
              have FA := Lib.hid hx
              have j3 : (0 : Int) ≤ (a : Int) := by omega
              have j4 : (a : Int) < (way.length : Int) := by omega
              have j5 : (a : Int) ≤ (cap10 : Int) := by omega
              obtain ⟨X, hX⟩ : ∃ X, wr.heap.size = X := ⟨_, rfl⟩
              obtain ⟨V, hV⟩ : ∃ V, wr.alloc (.cells #[.int .i64 x.node, .int .i64 x.time, .int .i64 x.hops, .int .i64 x.frm] 70) = V := ⟨_, rfl⟩
              have lVr : Below wr.heap.size wr V := by rw [← hV]; exact (Below.refl _ _).alloc (Nat.le_refl _) _
              have HRV := Lib.hid (HRU.out.below lVr)
              have BX : RowKit.Hid (Blk V X 70 #[.int .i64 x.node, .int .i64 x.time, .int .i64 x.hops, .int .i64 x.frm]) := Lib.hid (by rw [← hV, ← hX]; exact Blk.new wr _ _)
              have zV : V.heap.size = X + 1 := by rw [← hV, ← hX]; simp
              have hgX : g < X := by omega
              have hsrc : ∀ V', Below V.heap.size V V' → ∀ (j : Nat) (u : Value), (arrC way)[j]? = some u → V'.cell? ⟨g, j, none⟩ = some u := fun V' kk j u hu => by
                refine (kk.cell (p := ⟨g, j, none⟩) (by show g < V.heap.size; omega)).trans ?_
                rw [HRV.out.y.cellAt _ (by rw [← arrC_len]; exact (List.getElem?_eq_some_iff.1 hu).1), hu]
              have Hsrc := Lib.hid hsrc
              have HV := Lib.hid hV
              have HX := Lib.hid hX
              have hu9 : ∀ b, u9.ownBlock = some b → b < X := fun b hb => by have := (own_rng HRU.out.o hb).2; omega
              have Hu9 := Lib.hid hu9
              have oE := own_nil (V := V) (t := 70) (base := V.heap.size) (Nat.le_refl _)
              rw [zV] at oE
              have OE := Lib.hid oE
              clear hc e1 hx hxm hV hX lVr hsrc HMi hlt hu9 oE
              go_upto_region 12 with (fail)
              rw [HV.out, HX.out]
              clear x0 x1 x2 x3
              go_upto_region 13 with (at_builtin; refine wpList_append_own_at _ rfl _ _ 66 rfl (X + 1) 70 i0 _ 4 32 Tryd.underlying66 Hi0.out Hz0.out Hz1.out Hz2.out rfl (by decide) (.slice (some ⟨X + 1, 0, none⟩) 0 0) 0 [] rfl OE.out ⟨g, 0, none⟩ a cap10 (arrC (way.take a)) rfl (by rw [arrC_len, List.length_take, Nat.min_eq_left (by omega)]) (fun j u hu => by rw [addr0]; exact Hsrc.out _ ((Below.refl _ _).alloc (Nat.le_refl _) _) j u (arrC_take hu)) (arrC_one _) (by unfold maxLen; omega) (by omega) (by simp [zV]) ?_; intro v12 w12 own12 g12 hz12 at12)
              rw [Nat.zero_add, List.nil_append] at own12
              have l12 : Below V.heap.size V w12 := below_own ((Below.refl _ V).alloc (Nat.le_refl _) _) g12 OE.out (by omega) (Nat.le_refl _)
              have hne12 : v12 ≠ .slice none 0 0 := fun c => by have := (hz12.1 c).1; simp at this
              obtain ⟨e12, cap12, rfl, he12⟩ : ∃ e c, v12 = .slice (some ⟨e, 0, none⟩) a c ∧ X + 1 ≤ e := by
                rcases own12.2 with ⟨c, _⟩ | ⟨e, c, cur, c1, c2, _⟩
                · exact absurd c hne12
                · exact ⟨e, c, c1, c2⟩
              have OW12 := Lib.hid own12
              have L12 := Lib.hid l12
              obtain ⟨A13, hA13'⟩ : ∃ A, (if cap10 = a + 1 then (⟨g, 0, none⟩ : Addr) else ⟨g, (a + 1) * 4, none⟩) = A := ⟨_, rfl⟩
              have hA13 : (if cap10 = a + 1 then some (⟨g, 0, none⟩ : Addr) else some ⟨g, (a + 1) * 4, none⟩) = some A13 := by rw [← hA13']; split <;> rfl
              have hsrc2 : ∀ (j : Nat) (u : Value), (arrC (way.drop (a + 1)))[j]? = some u → w12.cell? (A13.add j) = some u := fun j u hu => by
                rw [← hA13']
                by_cases hcp : cap10 = a + 1
                · rw [List.drop_eq_nil_of_le (by omega)] at hu
                  simp [arrC] at hu
                · rw [if_neg hcp, Go.WideShapes.add_plain]
                  rw [arrC_drop (by omega)] at hu
                  exact Hsrc.out _ l12 _ _ hu
              have Hsrc2 := Lib.hid hsrc2
              have hel : (way.eraseIdx a).length = a + (way.length - (a + 1)) := by rw [List.length_eraseIdx, if_pos (by omega)]; omega
              have hee : arrC (way.eraseIdx a) = arrC (way.take a) ++ arrC (way.drop (a + 1)) := by rw [← arrC_append, List.eraseIdx_eq_take_drop_succ]
              have Hel := Lib.hid hel
              have Hee := Lib.hid hee
              have j6 : (a : Int) + 1 ≤ (way.length : Int) := by omega
              have j7 : (0 : Int) ≤ (a : Int) + 1 := by omega
              have j8 : (a : Int) + 1 ≤ (cap10 : Int) := by omega
              have j9 : IntKind.i64.wrap ((a : Int) + 1) = (a : Int) + 1 := IntWalk.i64_in _ (by omega)
              have z12 := l12.size
              clear own12 g12 hz12 at12 hne12 l12 hsrc2 hel hee hA13'
              go_upto_region 13 with (fail)
              go_cut [10] from 62 to 67 (fun s10 V' => RowKit.Hid (RefR w n L la lcap u9 s10 (way.eraseIdx a) out V') ∧ RowKit.Hid (Blk V' X 70 #[.int .i64 x.node, .int .i64 x.time, .int .i64 x.hops, .int .i64 x.frm]) ∧ RowKit.Hid (∀ b, s10.ownBlock = some b → X + 1 ≤ b) ∧ X + 1 ≤ V'.heap.size)
              case first =>
                go_wp2_with (at_builtin; refine wpList_append_own_at _ rfl _ _ 66 rfl (X + 1) 70 i0 _ 4 32 Tryd.underlying66 Hi0.out Hz0.out Hz1.out Hz2.out rfl (by decide) _ _ _ rfl OW12.out A13 (way.length - (a + 1)) (cap10 - (a + 1)) (arrC (way.drop (a + 1))) (by first | rfl | exact congrArg (fun z => Value.slice z (way.length - (a + 1)) (cap10 - (a + 1))) hA13) (by rw [arrC_len, List.length_drop]) Hsrc2.out (arrC_one _) (by unfold maxLen; omega) (by omega) (by omega) ?_; intro v13 w13 own13 g13 _ _)
                have l13 : Below V.heap.size V w13 := below_own L12.out g13 OW12.out (by omega) (Nat.le_refl _)
                have own13' : w13.ownsRow (X + 1) 70 4 v13 (way.eraseIdx a).length (arrC (way.eraseIdx a)) := by rw [Hee.out, Hel.out]; exact own13
                have hv13 : ∀ b, v13.ownBlock = some b → X + 1 ≤ b := fun b hb => (own_rng own13' hb).1
                have HR13 := Lib.hid (HRV.out.fresh l13 (own_weak own13' (by omega)) (fun b hb => by rw [zV]; exact hv13 b hb))
                have BX13 := Lib.hid (BX.out.below l13 (by omega))
                have Hv13 := Lib.hid hv13
                have z13 : X + 1 ≤ w13.heap.size := by have := l13.size; omega
                clear own13 g13 own13' hv13 l13
                go_wp2_with fail
                all_goals
                  go_meet
                  exact ⟨HR13, BX13, Hv13, z13⟩
              case rest =>
                obtain ⟨HR13, BX13, Hv13, z13⟩ := hcut
                obtain ⟨w13, rfl⟩ : ∃ W, W = wc := ⟨_, rfl⟩
                obtain ⟨v13, rfl⟩ : ∃ v, v = u10 := ⟨_, rfl⟩
                have HC := Lib.hid (refcame_any w13 HR13.out.o (by omega) x.node)
                have x0 : w13.cell? ⟨X, 0, none⟩ = some (.int .i64 x.node) := BX13.out.cell 0
                have x1 : w13.cell? ⟨X, 1, none⟩ = some (.int .i64 x.time) := BX13.out.cell 1
                have x2 : w13.cell? ⟨X, 2, none⟩ = some (.int .i64 x.hops) := BX13.out.cell 2
                have x3 : w13.cell? ⟨X, 3, none⟩ = some (.int .i64 x.frm) := BX13.out.cell 3
                clear Hsrc2 Hel Hee OW12 L12 OE Hsrc
                rcases hc : cameF out x.node with _ | _
                · rw [hc] at HC
                  have HF2 : RowKit.Hid (FInv n (way.eraseIdx a ++ sendsF near mu dl x) (out ++ [x])) := Lib.hid (by
                    have := FInv.come (mu := mu) (dl := dl) ok (by rw [hlen]; exact HF.out) FA.out hc
                    rwa [hlen] at this)
                  have HE2 : RowKit.Hid (∀ r, Ends near mu dl (way.eraseIdx a ++ sendsF near mu dl x) (out ++ [x]) r → Runs near mu dl src r) := Lib.hid fun r h => HE.out r (.come FA.out hc h)
                  have hmu : RowKit.Hid (muF n (way.eraseIdx a ++ sendsF near mu dl x) (out ++ [x]) < muF n way out) := Lib.hid (by
                    have := muF_come (mu := mu) (dl := dl) ok (by rw [hlen]; exact HF.out) FA.out hc
                    rwa [hlen] at this)
                  have hsr := sends_ref HM.out hn (fun s hs => by obtain ⟨j, hj⟩ := List.mem_iff_getElem?.1 hs; exact (Hm.out.row j s hj).1) Hnl.out x hxN
                  have Hsr := Lib.hid hsr
                  have hwe : (way.eraseIdx a).length ≤ 4200 := by rw [List.length_eraseIdx]; split <;> omega
                  clear hc hsr
                  go_upto_region 15 with (go_at_call 68; refine HC.out.mono ?_; rintro e w' ⟨rfl, h⟩; rw [h]; clear h w')
                  go_upto_region 16 with (at_builtin; refine wpList_append_own_at _ rfl _ _ 66 rfl (w.heap.size + 1) 70 i0 _ 4 32 Tryd.underlying66 Hi0.out Hz0.out Hz1.out Hz2.out rfl (by decide) _ _ _ rfl (own_below HR13.out.o ((Below.refl _ _).alloc (Nat.le_refl _) _)) ⟨w13.heap.size, 0, none⟩ 1 1 (encA x) rfl rfl (World.news_of_block (cs := #[.int .i64 x.node, .int .i64 x.time, .int .i64 x.hops, .int .i64 x.frm]) (t := 70) (fr := (0, 0)) (heap_alloc_new w13 _)) (encA_one _) (by unfold maxLen; omega) (by omega) (by have := HR13.out.low.size; simp; omega) ?_; intro v15 w15 own15 g15 _ at15)
                  have HR15 : RowKit.Hid (RefR w n L la lcap v15 v13 (way.eraseIdx a) (out ++ [x]) w15) := Lib.hid ((HR13.out.below ((Below.refl _ _).alloc (Nat.le_refl _) _)).app_o (out' := out ++ [x]) g15 (by rw [arrC_snoc, List.length_append]; exact own15) at15)
                  have BX15 := Lib.hid ((BX13.out.alloc (.cells #[.int .i64 x.node, .int .i64 x.time, .int .i64 x.hops, .int .i64 x.frm] 70)).grown g15 (fun e => by have := Hu9.out X e.symm; omega))
                  have y0 : w15.cell? ⟨X, 0, none⟩ = some (.int .i64 x.node) := BX15.out.cell 0
                  have hx15 : X < w15.heap.size := BX15.out.lt
                  have cg0 : w15.cell? ⟨w.heap.size, 0, none⟩ = some (.int .i64 (n : Nat)) := HR15.out.g.cell 0
                  have cg1 : w15.cell? ⟨w.heap.size, 1, none⟩ = some (.slice la L.length lcap) := HR15.out.g.cell 1
                  have HNr := Lib.hid (refnear_any n _ L x.node w15 (HP.out.below HR15.out.low (Nat.le_refl _)) hL hn)
                  clear own15 g15 at15 x0 x1 x2 x3
                  go_upto_region 17 with (go_at_call 24; refine HNr.out.mono ?_; rintro e w16 ⟨vl, rfl, ol, l16⟩)
                  obtain ⟨l, hl⟩ : ∃ l, refNear n L x.node = l := ⟨_, rfl⟩
                  rw [hl] at ol
                  rw [hl] at Hsr
                  have hln : ∀ v ∈ l, v < n := fun v hv => by
                    rw [← hl] at hv
                    unfold refNear at hv
                    exact List.mem_range.1 (List.mem_filter.1 hv).1
                  have hll : l.length ≤ n := by rw [← hl]; exact refNear_len _ _ _
                  obtain ⟨al, cl, rfl⟩ := own_form ol
                  have OL := Lib.hid ol
                  have HR16 := Lib.hid (HR15.out.below l16)
                  have BX16 := Lib.hid (BX15.out.below l16 hx15)
                  have Hln := Lib.hid hln
                  clear hl ol l16 hln cg0 cg1 y0 HR15 BX15 HR13 BX13 HNr HC
                  have hxk : ∃ kx : Nat, x.node = kx := ⟨x.node.toNat, by omega⟩
                  obtain ⟨kx, hkx⟩ := hxk
                  have Hkx := Lib.hid hkx
                  have hkn : kx < n := by omega
                  clear hkx
                  have hRl0 : RowKit.Hid (RefR w n L la lcap v15 v13 (way.eraseIdx a ++ ((l.take 0).filter (sendB mu x)).map (sendF dl x)) (out ++ [x]) w16) := Lib.hid (by simpa using HR16.out)
                  have hv13X : RowKit.Hid (v13.ownBlock ≠ some X) := Lib.hid fun e => by have := Hv13.out X e; omega
                  have hl64 : l.length ≤ 64 := by omega
                  go_wp2_with fail
                  go_loopg [10, 16] l.length (fun q v10 v16 V => ∃ (i : Nat), q = l.length - i ∧ v16 = .int .i64 i ∧ i ≤ l.length ∧ RowKit.Hid (RefR w n L la lcap v15 v10 (way.eraseIdx a ++ ((l.take i).filter (sendB mu x)).map (sendF dl x)) (out ++ [x]) V) ∧ RowKit.Hid (Blk V X 70 #[.int .i64 x.node, .int .i64 x.time, .int .i64 x.hops, .int .i64 x.frm]) ∧ RowKit.Hid (V.ownsRow w15.heap.size 3 1 (.slice al l.length cl) l.length (nc l)) ∧ RowKit.Hid (v10.ownBlock ≠ some X))
                  case atStart => exact ⟨0, rfl, rfl, Nat.zero_le _, hRl0, BX16, OL, hv13X⟩
                  case round =>
                    clear hRl0 hv13X BX16 OL HR16
                    obtain ⟨i, hgq, rfl, hil, HRq, HBq, HLq, HNq⟩ := hrel
                    have Hgq := Lib.hid hgq
                    clear hgq
                    have hz16 := HRq.out.low.size
                    by_cases hlt : i < l.length
                    · obtain ⟨v, hv⟩ : ∃ v, l[i]? = some v := ⟨_, List.getElem?_eq_getElem hlt⟩
                      have hvn := Hln.out v (List.mem_of_getElem? hv)
                      have hzx := hil
                      obtain ⟨gl, clq, he, hglb, hgls⟩ := HLq.out.form (by omega)
                      simp only [Value.slice.injEq] at he
                      obtain ⟨rfl, _, rfl⟩ := he
                      have cl0 : wr.cell? ⟨gl, i, none⟩ = some (.int .i64 (v : Nat)) := by
                        rw [HLq.out.cellAt i (by omega)]
                        simp [nc, hv]
                      have x0 : wr.cell? ⟨X, 0, none⟩ = some (.int .i64 (kx : Nat)) := by rw [← Hkx.out]; exact HBq.out.cell 0
                      have x3 : wr.cell? ⟨X, 3, none⟩ = some (.int .i64 x.frm) := HBq.out.cell 3
                      have q1 : (0 : Int) ≤ (i : Int) := by omega
                      have q2 : (i : Int) < (l.length : Int) := by omega
                      have q3 : (i : Int) ≤ 65535 := by omega
                      obtain ⟨wy, hwy⟩ : ∃ wy, (way.eraseIdx a ++ ((l.take i).filter (sendB mu x)).map (sendF dl x)) = wy := ⟨_, rfl⟩
                      have hwyl : wy.length ≤ 4300 := by
                        rw [← hwy, List.length_append, List.length_map]
                        have h1 := List.length_filter_le (sendB mu x) (l.take i)
                        rw [List.length_take] at h1
                        omega
                      have hnext : (way.eraseIdx a ++ ((l.take (i + 1)).filter (sendB mu x)).map (sendF dl x)) = if sendB mu x v = true then wy ++ [sendF dl x v] else wy := by
                        rw [List.take_add_one, hv, List.filter_append, List.map_append, ← List.append_assoc, hwy]
                        cases e : sendB mu x v <;> simp [e]
                      rw [hwy] at HRq
                      have Hnx := Lib.hid hnext
                      have HR1 := Lib.hid (HRq.out.below (Below.refl _ wr).drew)
                      have HB1 : RowKit.Hid (Blk wr.drew X 70 #[.int .i64 x.node, .int .i64 x.time, .int .i64 x.hops, .int .i64 x.frm]) := Lib.hid HBq.out
                      have HL1 : RowKit.Hid (wr.drew.ownsRow w15.heap.size 3 1 (.slice (some ⟨gl, 0, none⟩) l.length cl) l.length (nc l)) := Lib.hid HLq.out
                      have hmK : MuteAt K wr ma mu := Hm.out.keep fun j hj => HRq.out.low.block j (by omega)
                      obtain ⟨b, hsb⟩ : ∃ b, sendB mu x v = b := ⟨_, rfl⟩
                      have Hsb := Lib.hid hsb
                      have hxX := HBq.out.lt
                      have Hv := Lib.hid hv
                      clear hwy hnext hsb HRq HBq HLq hv
                      go_upto_region 20 with (fail)
                      go_cut [112] from 86 to 112 (fun s112 V' => s112 = .bool b ∧ RowKit.Hid (RefR w n L la lcap v15 u10 wy (out ++ [x]) V') ∧ RowKit.Hid (Blk V' X 70 #[.int .i64 x.node, .int .i64 x.time, .int .i64 x.hops, .int .i64 x.frm]) ∧ RowKit.Hid (V'.ownsRow w15.heap.size 3 1 (.slice (some ⟨gl, 0, none⟩) l.length cl) l.length (nc l)))
                      case first =>
                        have hS := Hsb.out
                        unfold sendB at hS
                        rw [Hkx.out, Int.toNat_natCast] at hS
                        rcases e1 : ((v : Int) != x.frm) with _ | _
                        · rw [e1, Bool.false_and] at hS
                          subst hS
                          have e2 := e1
                          clear hmK
                          refine wp_region_held_drew (S := fun w' => w'.cell? ⟨gl, i, none⟩ = some (.int .i64 (v : Nat)) ∧ w'.cell? ⟨X, 0, none⟩ = some (.int .i64 (kx : Nat)) ∧ w'.cell? ⟨X, 3, none⟩ = some (.int .i64 x.frm)) (by kernel_rfl) ⟨cl0, x0, x3⟩ (fun hHeld => ?_)
                          refine Take.take (i := 0) (oi := _) (t := 86) (v := ?v1) rfl (by kernel_rfl) (by kernel_rfl) (by kernel_rfl) (by kernel_rfl) (fun _ _ _ h => h) (by kernel_rfl) ?hy1 (by assumption) ?_
                          case hy1 => (intro w hSw; (try dsimp only at hSw); go_simp; try with_reducible rfl)
                          try simp only [Act.put, List.setIfInBounds_toArray, List.set_cons_zero, List.set_cons_succ]
                          refine Take.take (i := 1) (oi := _) (t := 87) (v := ?v2) rfl (by kernel_rfl) (by kernel_rfl) (by kernel_rfl) (by kernel_rfl) (fun _ _ _ h => h) (by kernel_rfl) ?hy2 (by assumption) ?_
                          case hy2 => (intro w hSw; (try dsimp only at hSw); go_simp; try with_reducible rfl)
                          try simp only [Act.put, List.setIfInBounds_toArray, List.set_cons_zero, List.set_cons_succ]
                          refine Take.take (i := 2) (oi := _) (t := 88) (v := ?v3) rfl (by kernel_rfl) (by kernel_rfl) (by kernel_rfl) (by kernel_rfl) (fun _ _ _ h => h) (by kernel_rfl) ?hy3 (by assumption) ?_
                          case hy3 => (intro w hSw; (try dsimp only at hSw); go_simp; try with_reducible rfl)
                          try simp only [Act.put, List.setIfInBounds_toArray, List.set_cons_zero, List.set_cons_succ]
                          refine Take.take (i := 3) (oi := _) (t := 89) (v := ?v4) rfl (by kernel_rfl) (by kernel_rfl) (by kernel_rfl) (by kernel_rfl) (fun _ _ _ h => h) (by kernel_rfl) ?hy4 (by assumption) ?_
                          case hy4 => (intro w hSw; (try dsimp only at hSw); go_simp; try with_reducible rfl)
                          try simp only [Act.put, List.setIfInBounds_toArray, List.set_cons_zero, List.set_cons_succ]
                          refine Take.take (i := 4) (oi := _) (t := 90) (v := ?v5) rfl (by kernel_rfl) (by kernel_rfl) (by kernel_rfl) (by kernel_rfl) (fun _ _ _ h => h) (by kernel_rfl) ?hy5 (by assumption) ?_
                          case hy5 => (intro w hSw; (try dsimp only at hSw); go_simp; try with_reducible rfl)
                          try simp only [Act.put, List.setIfInBounds_toArray, List.set_cons_zero, List.set_cons_succ]
                          refine Take.take (i := 5) (oi := _) (t := 91) (v := ?v6) rfl (by kernel_rfl) (by kernel_rfl) (by kernel_rfl) (by kernel_rfl) (fun _ _ _ h => h) (by kernel_rfl) ?hy6 (by assumption) ?_
                          case hy6 => (intro w hSw; (try dsimp only at hSw); go_simp; try with_reducible rfl)
                          try simp only [Act.put, List.setIfInBounds_toArray, List.set_cons_zero, List.set_cons_succ]
                          refine Take.take (i := 6) (oi := _) (t := 92) (v := ?v7) rfl (by kernel_rfl) (by kernel_rfl) (by kernel_rfl) (by kernel_rfl) (fun _ _ _ h => h) (by kernel_rfl) ?hy7 (by assumption) ?_
                          case hy7 => (intro w hSw; (try dsimp only at hSw); go_simp; try with_reducible rfl)
                          try simp only [Act.put, List.setIfInBounds_toArray, List.set_cons_zero, List.set_cons_succ]
                          refine Take.take (i := 7) (oi := _) (t := 93) (v := ?v8) rfl (by kernel_rfl) (by kernel_rfl) (by kernel_rfl) (by kernel_rfl) (fun _ _ _ h => h) (by kernel_rfl) ?hy8 (by assumption) ?_
                          case hy8 => (intro w hSw; (try dsimp only at hSw); go_simp; try with_reducible rfl)
                          try simp only [Act.put, List.setIfInBounds_toArray, List.set_cons_zero, List.set_cons_succ]
                          refine Take.skip (i := 8) (t := 94) (g := 7) (b := true) (by kernel_rfl) (by kernel_rfl) (by kernel_rfl) (by kernel_rfl) (fun _ _ _ h => h) (by kernel_rfl) (by assumption) ?_
                          try simp only [Act.put, List.setIfInBounds_toArray, List.set_cons_zero, List.set_cons_succ]
                          refine Take.skip (i := 9) (t := 95) (g := 7) (b := true) (by kernel_rfl) (by kernel_rfl) (by kernel_rfl) (by kernel_rfl) (fun _ _ _ h => h) (by kernel_rfl) (by assumption) ?_
                          try simp only [Act.put, List.setIfInBounds_toArray, List.set_cons_zero, List.set_cons_succ]
                          refine Take.skip (i := 10) (t := 96) (g := 7) (b := true) (by kernel_rfl) (by kernel_rfl) (by kernel_rfl) (by kernel_rfl) (fun _ _ _ h => h) (by kernel_rfl) (by assumption) ?_
                          try simp only [Act.put, List.setIfInBounds_toArray, List.set_cons_zero, List.set_cons_succ]
                          refine Take.skip (i := 11) (t := 97) (g := 7) (b := true) (by kernel_rfl) (by kernel_rfl) (by kernel_rfl) (by kernel_rfl) (fun _ _ _ h => h) (by kernel_rfl) (by assumption) ?_
                          try simp only [Act.put, List.setIfInBounds_toArray, List.set_cons_zero, List.set_cons_succ]
                          refine Take.skip (i := 12) (t := 98) (g := 7) (b := true) (by kernel_rfl) (by kernel_rfl) (by kernel_rfl) (by kernel_rfl) (fun _ _ _ h => h) (by kernel_rfl) (by assumption) ?_
                          try simp only [Act.put, List.setIfInBounds_toArray, List.set_cons_zero, List.set_cons_succ]
                          refine Take.skip (i := 13) (t := 99) (g := 7) (b := true) (by kernel_rfl) (by kernel_rfl) (by kernel_rfl) (by kernel_rfl) (fun _ _ _ h => h) (by kernel_rfl) (by assumption) ?_
                          try simp only [Act.put, List.setIfInBounds_toArray, List.set_cons_zero, List.set_cons_succ]
                          refine Take.skip (i := 14) (t := 100) (g := 13) (b := true) (by kernel_rfl) (by kernel_rfl) (by kernel_rfl) (by kernel_rfl) (fun _ _ _ h => h) (by kernel_rfl) (by assumption) ?_
                          try simp only [Act.put, List.setIfInBounds_toArray, List.set_cons_zero, List.set_cons_succ]
                          refine Take.skip (i := 15) (t := 101) (g := 13) (b := true) (by kernel_rfl) (by kernel_rfl) (by kernel_rfl) (by kernel_rfl) (fun _ _ _ h => h) (by kernel_rfl) (by assumption) ?_
                          try simp only [Act.put, List.setIfInBounds_toArray, List.set_cons_zero, List.set_cons_succ]
                          refine Take.skip (i := 16) (t := 102) (g := 13) (b := true) (by kernel_rfl) (by kernel_rfl) (by kernel_rfl) (by kernel_rfl) (fun _ _ _ h => h) (by kernel_rfl) (by assumption) ?_
                          try simp only [Act.put, List.setIfInBounds_toArray, List.set_cons_zero, List.set_cons_succ]
                          refine Take.skip (i := 17) (t := 103) (g := 13) (b := true) (by kernel_rfl) (by kernel_rfl) (by kernel_rfl) (by kernel_rfl) (fun _ _ _ h => h) (by kernel_rfl) (by assumption) ?_
                          try simp only [Act.put, List.setIfInBounds_toArray, List.set_cons_zero, List.set_cons_succ]
                          refine Take.skip (i := 18) (t := 104) (g := 13) (b := true) (by kernel_rfl) (by kernel_rfl) (by kernel_rfl) (by kernel_rfl) (fun _ _ _ h => h) (by kernel_rfl) (by assumption) ?_
                          try simp only [Act.put, List.setIfInBounds_toArray, List.set_cons_zero, List.set_cons_succ]
                          refine Take.skip (i := 19) (t := 105) (g := 13) (b := true) (by kernel_rfl) (by kernel_rfl) (by kernel_rfl) (by kernel_rfl) (fun _ _ _ h => h) (by kernel_rfl) (by assumption) ?_
                          try simp only [Act.put, List.setIfInBounds_toArray, List.set_cons_zero, List.set_cons_succ]
                          refine Take.skip (i := 20) (t := 106) (g := 13) (b := true) (by kernel_rfl) (by kernel_rfl) (by kernel_rfl) (by kernel_rfl) (fun _ _ _ h => h) (by kernel_rfl) (by assumption) ?_
                          try simp only [Act.put, List.setIfInBounds_toArray, List.set_cons_zero, List.set_cons_succ]
                          refine Take.skip (i := 21) (t := 107) (g := 13) (b := true) (by kernel_rfl) (by kernel_rfl) (by kernel_rfl) (by kernel_rfl) (fun _ _ _ h => h) (by kernel_rfl) (by assumption) ?_
                          try simp only [Act.put, List.setIfInBounds_toArray, List.set_cons_zero, List.set_cons_succ]
                          refine Take.skip (i := 22) (t := 108) (g := 13) (b := true) (by kernel_rfl) (by kernel_rfl) (by kernel_rfl) (by kernel_rfl) (fun _ _ _ h => h) (by kernel_rfl) (by assumption) ?_
                          try simp only [Act.put, List.setIfInBounds_toArray, List.set_cons_zero, List.set_cons_succ]
                          refine Take.skip (i := 23) (t := 109) (g := 13) (b := true) (by kernel_rfl) (by kernel_rfl) (by kernel_rfl) (by kernel_rfl) (fun _ _ _ h => h) (by kernel_rfl) (by assumption) ?_
                          try simp only [Act.put, List.setIfInBounds_toArray, List.set_cons_zero, List.set_cons_succ]
                          refine Take.skip (i := 24) (t := 110) (g := 7) (b := true) (by kernel_rfl) (by kernel_rfl) (by kernel_rfl) (by kernel_rfl) (fun _ _ _ h => h) (by kernel_rfl) (by assumption) ?_
                          try simp only [Act.put, List.setIfInBounds_toArray, List.set_cons_zero, List.set_cons_succ]
                          refine Take.skip (i := 25) (t := 111) (g := 7) (b := true) (by kernel_rfl) (by kernel_rfl) (by kernel_rfl) (by kernel_rfl) (fun _ _ _ h => h) (by kernel_rfl) (by assumption) ?_
                          try simp only [Act.put, List.setIfInBounds_toArray, List.set_cons_zero, List.set_cons_succ]
                          refine Take.take (i := 26) (oi := _) (t := 112) (v := ?v9) rfl (by kernel_rfl) (by kernel_rfl) (by kernel_rfl) (by kernel_rfl) (fun _ _ _ h => h) (by kernel_rfl) ?hy9 (by assumption) ?_
                          case hy9 => (intro w hSw; (try dsimp only at hSw); go_simp; try with_reducible rfl)
                          try simp only [Act.put, List.setIfInBounds_toArray, List.set_cons_zero, List.set_cons_succ]
                          refine wpAnyH_done (by kernel_rfl) ?_ _
                          go_wp2_with fail
                          go_meet
                          exact ⟨rfl, HR1, HB1, HL1⟩
                        · rw [e1, Bool.true_and] at hS
                          by_cases hkm : kx < mu.length
                          · obtain ⟨sm, hsm⟩ : ∃ s, mu[kx]? = some s := ⟨_, List.getElem?_eq_getElem hkm⟩
                            obtain ⟨hsl, bm, om, rfl, hbm, cm⟩ := hmK.row kx sm hsm
                            have g1 : decide ((kx : Int) < (mu.length : Int)) = true := by simpa using hkm
                            rw [g1, Bool.true_and, List.getD_eq_getElem?_getD, hsm, Option.getD_some] at hS
                            have hh : hasR sm (v : Int) = sm.testBit v := by simp [hasR]; omega
                            have hHs := fun V => refhas_any sm hsl (v : Int) V
                            rw [hh] at hHs
                            obtain ⟨tb, htb⟩ : ∃ tb, sm.testBit v = tb := ⟨_, rfl⟩
                            rw [htb] at hS hHs
                            subst hS
                            have HHs := Lib.hid hHs
                            have q4 : (kx : Int) < (mu.length : Int) := by omega
                            have q5 : (0 : Int) ≤ (kx : Int) := by omega
                            clear hmK hHs hh htb hsm
                            rcases tb with _ | _
                            · skip
                              refine wp_region_held_drew (S := fun w' => w'.cell? ⟨gl, i, none⟩ = some (.int .i64 (v : Nat)) ∧ w'.cell? ⟨X, 0, none⟩ = some (.int .i64 (kx : Nat)) ∧ w'.cell? ⟨X, 3, none⟩ = some (.int .i64 x.frm) ∧ w'.cell? ⟨bm, om + kx, none⟩ = some (.int .u64 (sm : Nat))) (by kernel_rfl) ⟨cl0, x0, x3, cm⟩ (fun hHeld => ?_)
                              refine Take.take (i := 0) (oi := _) (t := 86) (v := ?v27) rfl (by kernel_rfl) (by kernel_rfl) (by kernel_rfl) (by kernel_rfl) (fun _ _ _ h => h) (by kernel_rfl) ?hy27 (by assumption) ?_
                              case hy27 => (intro w hSw; (try dsimp only at hSw); go_simp; try with_reducible rfl)
                              try simp only [Act.put, List.setIfInBounds_toArray, List.set_cons_zero, List.set_cons_succ]
                              refine Take.take (i := 1) (oi := _) (t := 87) (v := ?v28) rfl (by kernel_rfl) (by kernel_rfl) (by kernel_rfl) (by kernel_rfl) (fun _ _ _ h => h) (by kernel_rfl) ?hy28 (by assumption) ?_
                              case hy28 => (intro w hSw; (try dsimp only at hSw); go_simp; try with_reducible rfl)
                              try simp only [Act.put, List.setIfInBounds_toArray, List.set_cons_zero, List.set_cons_succ]
                              refine Take.take (i := 2) (oi := _) (t := 88) (v := ?v29) rfl (by kernel_rfl) (by kernel_rfl) (by kernel_rfl) (by kernel_rfl) (fun _ _ _ h => h) (by kernel_rfl) ?hy29 (by assumption) ?_
                              case hy29 => (intro w hSw; (try dsimp only at hSw); go_simp; try with_reducible rfl)
                              try simp only [Act.put, List.setIfInBounds_toArray, List.set_cons_zero, List.set_cons_succ]
                              refine Take.take (i := 3) (oi := _) (t := 89) (v := ?v30) rfl (by kernel_rfl) (by kernel_rfl) (by kernel_rfl) (by kernel_rfl) (fun _ _ _ h => h) (by kernel_rfl) ?hy30 (by assumption) ?_
                              case hy30 => (intro w hSw; (try dsimp only at hSw); go_simp; try with_reducible rfl)
                              try simp only [Act.put, List.setIfInBounds_toArray, List.set_cons_zero, List.set_cons_succ]
                              refine Take.take (i := 4) (oi := _) (t := 90) (v := ?v31) rfl (by kernel_rfl) (by kernel_rfl) (by kernel_rfl) (by kernel_rfl) (fun _ _ _ h => h) (by kernel_rfl) ?hy31 (by assumption) ?_
                              case hy31 => (intro w hSw; (try dsimp only at hSw); go_simp; try with_reducible rfl)
                              try simp only [Act.put, List.setIfInBounds_toArray, List.set_cons_zero, List.set_cons_succ]
                              refine Take.take (i := 5) (oi := _) (t := 91) (v := ?v32) rfl (by kernel_rfl) (by kernel_rfl) (by kernel_rfl) (by kernel_rfl) (fun _ _ _ h => h) (by kernel_rfl) ?hy32 (by assumption) ?_
                              case hy32 => (intro w hSw; (try dsimp only at hSw); go_simp; try with_reducible rfl)
                              try simp only [Act.put, List.setIfInBounds_toArray, List.set_cons_zero, List.set_cons_succ]
                              refine Take.take (i := 6) (oi := _) (t := 92) (v := ?v33) rfl (by kernel_rfl) (by kernel_rfl) (by kernel_rfl) (by kernel_rfl) (fun _ _ _ h => h) (by kernel_rfl) ?hy33 (by assumption) ?_
                              case hy33 => (intro w hSw; (try dsimp only at hSw); go_simp; try with_reducible rfl)
                              try simp only [Act.put, List.setIfInBounds_toArray, List.set_cons_zero, List.set_cons_succ]
                              refine Take.take (i := 7) (oi := _) (t := 93) (v := ?v34) rfl (by kernel_rfl) (by kernel_rfl) (by kernel_rfl) (by kernel_rfl) (fun _ _ _ h => h) (by kernel_rfl) ?hy34 (by assumption) ?_
                              case hy34 => (intro w hSw; (try dsimp only at hSw); go_simp; try with_reducible rfl)
                              try simp only [Act.put, List.setIfInBounds_toArray, List.set_cons_zero, List.set_cons_succ]
                              refine Take.take (i := 8) (oi := _) (t := 94) (v := ?v35) rfl (by kernel_rfl) (by kernel_rfl) (by kernel_rfl) (by kernel_rfl) (fun _ _ _ h => h) (by kernel_rfl) ?hy35 (by assumption) ?_
                              case hy35 => (intro w hSw; (try dsimp only at hSw); go_simp; try with_reducible rfl)
                              try simp only [Act.put, List.setIfInBounds_toArray, List.set_cons_zero, List.set_cons_succ]
                              refine Take.take (i := 9) (oi := _) (t := 95) (v := ?v36) rfl (by kernel_rfl) (by kernel_rfl) (by kernel_rfl) (by kernel_rfl) (fun _ _ _ h => h) (by kernel_rfl) ?hy36 (by assumption) ?_
                              case hy36 => (intro w hSw; (try dsimp only at hSw); go_simp; try with_reducible rfl)
                              try simp only [Act.put, List.setIfInBounds_toArray, List.set_cons_zero, List.set_cons_succ]
                              refine Take.take (i := 10) (oi := _) (t := 96) (v := ?v37) rfl (by kernel_rfl) (by kernel_rfl) (by kernel_rfl) (by kernel_rfl) (fun _ _ _ h => h) (by kernel_rfl) ?hy37 (by assumption) ?_
                              case hy37 => (intro w hSw; (try dsimp only at hSw); go_simp; try with_reducible rfl)
                              try simp only [Act.put, List.setIfInBounds_toArray, List.set_cons_zero, List.set_cons_succ]
                              refine Take.take (i := 11) (oi := _) (t := 97) (v := ?v38) rfl (by kernel_rfl) (by kernel_rfl) (by kernel_rfl) (by kernel_rfl) (fun _ _ _ h => h) (by kernel_rfl) ?hy38 (by assumption) ?_
                              case hy38 => (intro w hSw; (try dsimp only at hSw); go_simp; try with_reducible rfl)
                              try simp only [Act.put, List.setIfInBounds_toArray, List.set_cons_zero, List.set_cons_succ]
                              refine Take.take (i := 12) (oi := _) (t := 98) (v := ?v39) rfl (by kernel_rfl) (by kernel_rfl) (by kernel_rfl) (by kernel_rfl) (fun _ _ _ h => h) (by kernel_rfl) ?hy39 (by assumption) ?_
                              case hy39 => (intro w hSw; (try dsimp only at hSw); go_simp; try with_reducible rfl)
                              try simp only [Act.put, List.setIfInBounds_toArray, List.set_cons_zero, List.set_cons_succ]
                              refine Take.take (i := 13) (oi := _) (t := 99) (v := ?v40) rfl (by kernel_rfl) (by kernel_rfl) (by kernel_rfl) (by kernel_rfl) (fun _ _ _ h => h) (by kernel_rfl) ?hy40 (by assumption) ?_
                              case hy40 => (intro w hSw; (try dsimp only at hSw); go_simp; try with_reducible rfl)
                              try simp only [Act.put, List.setIfInBounds_toArray, List.set_cons_zero, List.set_cons_succ]
                              refine Take.take (i := 14) (oi := _) (t := 100) (v := ?v41) rfl (by kernel_rfl) (by kernel_rfl) (by kernel_rfl) (by kernel_rfl) (fun _ _ _ h => h) (by kernel_rfl) ?hy41 (by assumption) ?_
                              case hy41 => (intro w hSw; (try dsimp only at hSw); go_simp; try with_reducible rfl)
                              try simp only [Act.put, List.setIfInBounds_toArray, List.set_cons_zero, List.set_cons_succ]
                              refine Take.take (i := 15) (oi := _) (t := 101) (v := ?v42) rfl (by kernel_rfl) (by kernel_rfl) (by kernel_rfl) (by kernel_rfl) (fun _ _ _ h => h) (by kernel_rfl) ?hy42 (by assumption) ?_
                              case hy42 => (intro w hSw; (try dsimp only at hSw); go_simp; try with_reducible rfl)
                              try simp only [Act.put, List.setIfInBounds_toArray, List.set_cons_zero, List.set_cons_succ]
                              refine Take.take (i := 16) (oi := _) (t := 102) (v := ?v43) rfl (by kernel_rfl) (by kernel_rfl) (by kernel_rfl) (by kernel_rfl) (fun _ _ _ h => h) (by kernel_rfl) ?hy43 (by assumption) ?_
                              case hy43 => (intro w hSw; (try dsimp only at hSw); go_simp; try with_reducible rfl)
                              try simp only [Act.put, List.setIfInBounds_toArray, List.set_cons_zero, List.set_cons_succ]
                              refine Take.take (i := 17) (oi := _) (t := 103) (v := ?v44) rfl (by kernel_rfl) (by kernel_rfl) (by kernel_rfl) (by kernel_rfl) (fun _ _ _ h => h) (by kernel_rfl) ?hy44 (by assumption) ?_
                              case hy44 => (intro w hSw; (try dsimp only at hSw); go_simp; try with_reducible rfl)
                              try simp only [Act.put, List.setIfInBounds_toArray, List.set_cons_zero, List.set_cons_succ]
                              refine Take.take (i := 18) (oi := _) (t := 104) (v := ?v45) rfl (by kernel_rfl) (by kernel_rfl) (by kernel_rfl) (by kernel_rfl) (fun _ _ _ h => h) (by kernel_rfl) ?hy45 (by assumption) ?_
                              case hy45 => (intro w hSw; (try dsimp only at hSw); go_simp; try with_reducible rfl)
                              try simp only [Act.put, List.setIfInBounds_toArray, List.set_cons_zero, List.set_cons_succ]
                              refine Take.take (i := 19) (oi := _) (t := 105) (v := ?v46) rfl (by kernel_rfl) (by kernel_rfl) (by kernel_rfl) (by kernel_rfl) (fun _ _ _ h => h) (by kernel_rfl) ?hy46 (by assumption) ?_
                              case hy46 => (intro w hSw; (try dsimp only at hSw); go_simp; try with_reducible rfl)
                              try simp only [Act.put, List.setIfInBounds_toArray, List.set_cons_zero, List.set_cons_succ]
                              refine Take.take (i := 20) (oi := _) (t := 106) (v := ?v47) rfl (by kernel_rfl) (by kernel_rfl) (by kernel_rfl) (by kernel_rfl) (fun _ _ _ h => h) (by kernel_rfl) ?hy47 (by assumption) ?_
                              case hy47 => (intro w hSw; (try dsimp only at hSw); go_simp; try with_reducible rfl)
                              try simp only [Act.put, List.setIfInBounds_toArray, List.set_cons_zero, List.set_cons_succ]
                              refine Take.take (i := 21) (oi := _) (t := 107) (v := ?v48) rfl (by kernel_rfl) (by kernel_rfl) (by kernel_rfl) (by kernel_rfl) (fun _ _ _ h => h) (by kernel_rfl) ?hy48 (by assumption) ?_
                              case hy48 => (intro w hSw; (try dsimp only at hSw); go_simp; try with_reducible rfl)
                              try simp only [Act.put, List.setIfInBounds_toArray, List.set_cons_zero, List.set_cons_succ]
                              refine Take.take (i := 22) (oi := _) (t := 108) (v := ?v49) rfl (by kernel_rfl) (by kernel_rfl) (by kernel_rfl) (by kernel_rfl) (fun _ _ _ h => h) (by kernel_rfl) ?hy49 (by assumption) ?_
                              case hy49 => (intro w hSw; (try dsimp only at hSw); go_simp; try with_reducible rfl)
                              try simp only [Act.put, List.setIfInBounds_toArray, List.set_cons_zero, List.set_cons_succ]
                              refine wpAnyH_ready (rs := [23]) (by kernel_rfl) (by simp) ?_
                              refine AllReadyH.cons (o := _) rfl (fun K hK => ?_) AllReadyH.nil
                              go_simp
                              go_at_call 27
                              refine (HHs.out _).mono ?_
                              rintro e w' ⟨rfl, h⟩
                              rw [h]
                              clear h w'
                              try dsimp only
                              refine hK.out _ _ ?hS50 (fun hHeld => ?_)
                              case hS50 => (exact hHeld)
                              clear hK K
                              try simp only [Act.put, List.setIfInBounds_toArray, List.set_cons_zero, List.set_cons_succ]
                              refine Take.take (i := 24) (oi := _) (t := 110) (v := ?v51) rfl (by kernel_rfl) (by kernel_rfl) (by kernel_rfl) (by kernel_rfl) (fun _ _ _ h => h) (by kernel_rfl) ?hy51 (by assumption) ?_
                              case hy51 => (intro w hSw; (try dsimp only at hSw); go_simp; try with_reducible rfl)
                              try simp only [Act.put, List.setIfInBounds_toArray, List.set_cons_zero, List.set_cons_succ]
                              refine Take.take (i := 25) (oi := _) (t := 111) (v := ?v52) rfl (by kernel_rfl) (by kernel_rfl) (by kernel_rfl) (by kernel_rfl) (fun _ _ _ h => h) (by kernel_rfl) ?hy52 (by assumption) ?_
                              case hy52 => (intro w hSw; (try dsimp only at hSw); go_simp; try with_reducible rfl)
                              try simp only [Act.put, List.setIfInBounds_toArray, List.set_cons_zero, List.set_cons_succ]
                              refine Take.take (i := 26) (oi := _) (t := 112) (v := ?v53) rfl (by kernel_rfl) (by kernel_rfl) (by kernel_rfl) (by kernel_rfl) (fun _ _ _ h => h) (by kernel_rfl) ?hy53 (by assumption) ?_
                              case hy53 => (intro w hSw; (try dsimp only at hSw); go_simp; try with_reducible rfl)
                              try simp only [Act.put, List.setIfInBounds_toArray, List.set_cons_zero, List.set_cons_succ]
                              refine wpAnyH_done (by kernel_rfl) ?_ _
                              go_wp2_with fail
                              go_meet
                              exact ⟨rfl, HR1, HB1, HL1⟩
                            · skip
                              refine wp_region_held_drew (S := fun w' => w'.cell? ⟨gl, i, none⟩ = some (.int .i64 (v : Nat)) ∧ w'.cell? ⟨X, 0, none⟩ = some (.int .i64 (kx : Nat)) ∧ w'.cell? ⟨X, 3, none⟩ = some (.int .i64 x.frm) ∧ w'.cell? ⟨bm, om + kx, none⟩ = some (.int .u64 (sm : Nat))) (by kernel_rfl) ⟨cl0, x0, x3, cm⟩ (fun hHeld => ?_)
                              refine Take.take (i := 0) (oi := _) (t := 86) (v := ?v54) rfl (by kernel_rfl) (by kernel_rfl) (by kernel_rfl) (by kernel_rfl) (fun _ _ _ h => h) (by kernel_rfl) ?hy54 (by assumption) ?_
                              case hy54 => (intro w hSw; (try dsimp only at hSw); go_simp; try with_reducible rfl)
                              try simp only [Act.put, List.setIfInBounds_toArray, List.set_cons_zero, List.set_cons_succ]
                              refine Take.take (i := 1) (oi := _) (t := 87) (v := ?v55) rfl (by kernel_rfl) (by kernel_rfl) (by kernel_rfl) (by kernel_rfl) (fun _ _ _ h => h) (by kernel_rfl) ?hy55 (by assumption) ?_
                              case hy55 => (intro w hSw; (try dsimp only at hSw); go_simp; try with_reducible rfl)
                              try simp only [Act.put, List.setIfInBounds_toArray, List.set_cons_zero, List.set_cons_succ]
                              refine Take.take (i := 2) (oi := _) (t := 88) (v := ?v56) rfl (by kernel_rfl) (by kernel_rfl) (by kernel_rfl) (by kernel_rfl) (fun _ _ _ h => h) (by kernel_rfl) ?hy56 (by assumption) ?_
                              case hy56 => (intro w hSw; (try dsimp only at hSw); go_simp; try with_reducible rfl)
                              try simp only [Act.put, List.setIfInBounds_toArray, List.set_cons_zero, List.set_cons_succ]
                              refine Take.take (i := 3) (oi := _) (t := 89) (v := ?v57) rfl (by kernel_rfl) (by kernel_rfl) (by kernel_rfl) (by kernel_rfl) (fun _ _ _ h => h) (by kernel_rfl) ?hy57 (by assumption) ?_
                              case hy57 => (intro w hSw; (try dsimp only at hSw); go_simp; try with_reducible rfl)
                              try simp only [Act.put, List.setIfInBounds_toArray, List.set_cons_zero, List.set_cons_succ]
                              refine Take.take (i := 4) (oi := _) (t := 90) (v := ?v58) rfl (by kernel_rfl) (by kernel_rfl) (by kernel_rfl) (by kernel_rfl) (fun _ _ _ h => h) (by kernel_rfl) ?hy58 (by assumption) ?_
                              case hy58 => (intro w hSw; (try dsimp only at hSw); go_simp; try with_reducible rfl)
                              try simp only [Act.put, List.setIfInBounds_toArray, List.set_cons_zero, List.set_cons_succ]
                              refine Take.take (i := 5) (oi := _) (t := 91) (v := ?v59) rfl (by kernel_rfl) (by kernel_rfl) (by kernel_rfl) (by kernel_rfl) (fun _ _ _ h => h) (by kernel_rfl) ?hy59 (by assumption) ?_
                              case hy59 => (intro w hSw; (try dsimp only at hSw); go_simp; try with_reducible rfl)
                              try simp only [Act.put, List.setIfInBounds_toArray, List.set_cons_zero, List.set_cons_succ]
                              refine Take.take (i := 6) (oi := _) (t := 92) (v := ?v60) rfl (by kernel_rfl) (by kernel_rfl) (by kernel_rfl) (by kernel_rfl) (fun _ _ _ h => h) (by kernel_rfl) ?hy60 (by assumption) ?_
                              case hy60 => (intro w hSw; (try dsimp only at hSw); go_simp; try with_reducible rfl)
                              try simp only [Act.put, List.setIfInBounds_toArray, List.set_cons_zero, List.set_cons_succ]
                              refine Take.take (i := 7) (oi := _) (t := 93) (v := ?v61) rfl (by kernel_rfl) (by kernel_rfl) (by kernel_rfl) (by kernel_rfl) (fun _ _ _ h => h) (by kernel_rfl) ?hy61 (by assumption) ?_
                              case hy61 => (intro w hSw; (try dsimp only at hSw); go_simp; try with_reducible rfl)
                              try simp only [Act.put, List.setIfInBounds_toArray, List.set_cons_zero, List.set_cons_succ]
                              refine Take.take (i := 8) (oi := _) (t := 94) (v := ?v62) rfl (by kernel_rfl) (by kernel_rfl) (by kernel_rfl) (by kernel_rfl) (fun _ _ _ h => h) (by kernel_rfl) ?hy62 (by assumption) ?_
                              case hy62 => (intro w hSw; (try dsimp only at hSw); go_simp; try with_reducible rfl)
                              try simp only [Act.put, List.setIfInBounds_toArray, List.set_cons_zero, List.set_cons_succ]
                              refine Take.take (i := 9) (oi := _) (t := 95) (v := ?v63) rfl (by kernel_rfl) (by kernel_rfl) (by kernel_rfl) (by kernel_rfl) (fun _ _ _ h => h) (by kernel_rfl) ?hy63 (by assumption) ?_
                              case hy63 => (intro w hSw; (try dsimp only at hSw); go_simp; try with_reducible rfl)
                              try simp only [Act.put, List.setIfInBounds_toArray, List.set_cons_zero, List.set_cons_succ]
                              refine Take.take (i := 10) (oi := _) (t := 96) (v := ?v64) rfl (by kernel_rfl) (by kernel_rfl) (by kernel_rfl) (by kernel_rfl) (fun _ _ _ h => h) (by kernel_rfl) ?hy64 (by assumption) ?_
                              case hy64 => (intro w hSw; (try dsimp only at hSw); go_simp; try with_reducible rfl)
                              try simp only [Act.put, List.setIfInBounds_toArray, List.set_cons_zero, List.set_cons_succ]
                              refine Take.take (i := 11) (oi := _) (t := 97) (v := ?v65) rfl (by kernel_rfl) (by kernel_rfl) (by kernel_rfl) (by kernel_rfl) (fun _ _ _ h => h) (by kernel_rfl) ?hy65 (by assumption) ?_
                              case hy65 => (intro w hSw; (try dsimp only at hSw); go_simp; try with_reducible rfl)
                              try simp only [Act.put, List.setIfInBounds_toArray, List.set_cons_zero, List.set_cons_succ]
                              refine Take.take (i := 12) (oi := _) (t := 98) (v := ?v66) rfl (by kernel_rfl) (by kernel_rfl) (by kernel_rfl) (by kernel_rfl) (fun _ _ _ h => h) (by kernel_rfl) ?hy66 (by assumption) ?_
                              case hy66 => (intro w hSw; (try dsimp only at hSw); go_simp; try with_reducible rfl)
                              try simp only [Act.put, List.setIfInBounds_toArray, List.set_cons_zero, List.set_cons_succ]
                              refine Take.take (i := 13) (oi := _) (t := 99) (v := ?v67) rfl (by kernel_rfl) (by kernel_rfl) (by kernel_rfl) (by kernel_rfl) (fun _ _ _ h => h) (by kernel_rfl) ?hy67 (by assumption) ?_
                              case hy67 => (intro w hSw; (try dsimp only at hSw); go_simp; try with_reducible rfl)
                              try simp only [Act.put, List.setIfInBounds_toArray, List.set_cons_zero, List.set_cons_succ]
                              refine Take.take (i := 14) (oi := _) (t := 100) (v := ?v68) rfl (by kernel_rfl) (by kernel_rfl) (by kernel_rfl) (by kernel_rfl) (fun _ _ _ h => h) (by kernel_rfl) ?hy68 (by assumption) ?_
                              case hy68 => (intro w hSw; (try dsimp only at hSw); go_simp; try with_reducible rfl)
                              try simp only [Act.put, List.setIfInBounds_toArray, List.set_cons_zero, List.set_cons_succ]
                              refine Take.take (i := 15) (oi := _) (t := 101) (v := ?v69) rfl (by kernel_rfl) (by kernel_rfl) (by kernel_rfl) (by kernel_rfl) (fun _ _ _ h => h) (by kernel_rfl) ?hy69 (by assumption) ?_
                              case hy69 => (intro w hSw; (try dsimp only at hSw); go_simp; try with_reducible rfl)
                              try simp only [Act.put, List.setIfInBounds_toArray, List.set_cons_zero, List.set_cons_succ]
                              refine Take.take (i := 16) (oi := _) (t := 102) (v := ?v70) rfl (by kernel_rfl) (by kernel_rfl) (by kernel_rfl) (by kernel_rfl) (fun _ _ _ h => h) (by kernel_rfl) ?hy70 (by assumption) ?_
                              case hy70 => (intro w hSw; (try dsimp only at hSw); go_simp; try with_reducible rfl)
                              try simp only [Act.put, List.setIfInBounds_toArray, List.set_cons_zero, List.set_cons_succ]
                              refine Take.take (i := 17) (oi := _) (t := 103) (v := ?v71) rfl (by kernel_rfl) (by kernel_rfl) (by kernel_rfl) (by kernel_rfl) (fun _ _ _ h => h) (by kernel_rfl) ?hy71 (by assumption) ?_
                              case hy71 => (intro w hSw; (try dsimp only at hSw); go_simp; try with_reducible rfl)
                              try simp only [Act.put, List.setIfInBounds_toArray, List.set_cons_zero, List.set_cons_succ]
                              refine Take.take (i := 18) (oi := _) (t := 104) (v := ?v72) rfl (by kernel_rfl) (by kernel_rfl) (by kernel_rfl) (by kernel_rfl) (fun _ _ _ h => h) (by kernel_rfl) ?hy72 (by assumption) ?_
                              case hy72 => (intro w hSw; (try dsimp only at hSw); go_simp; try with_reducible rfl)
                              try simp only [Act.put, List.setIfInBounds_toArray, List.set_cons_zero, List.set_cons_succ]
                              refine Take.take (i := 19) (oi := _) (t := 105) (v := ?v73) rfl (by kernel_rfl) (by kernel_rfl) (by kernel_rfl) (by kernel_rfl) (fun _ _ _ h => h) (by kernel_rfl) ?hy73 (by assumption) ?_
                              case hy73 => (intro w hSw; (try dsimp only at hSw); go_simp; try with_reducible rfl)
                              try simp only [Act.put, List.setIfInBounds_toArray, List.set_cons_zero, List.set_cons_succ]
                              refine Take.take (i := 20) (oi := _) (t := 106) (v := ?v74) rfl (by kernel_rfl) (by kernel_rfl) (by kernel_rfl) (by kernel_rfl) (fun _ _ _ h => h) (by kernel_rfl) ?hy74 (by assumption) ?_
                              case hy74 => (intro w hSw; (try dsimp only at hSw); go_simp; try with_reducible rfl)
                              try simp only [Act.put, List.setIfInBounds_toArray, List.set_cons_zero, List.set_cons_succ]
                              refine Take.take (i := 21) (oi := _) (t := 107) (v := ?v75) rfl (by kernel_rfl) (by kernel_rfl) (by kernel_rfl) (by kernel_rfl) (fun _ _ _ h => h) (by kernel_rfl) ?hy75 (by assumption) ?_
                              case hy75 => (intro w hSw; (try dsimp only at hSw); go_simp; try with_reducible rfl)
                              try simp only [Act.put, List.setIfInBounds_toArray, List.set_cons_zero, List.set_cons_succ]
                              refine Take.take (i := 22) (oi := _) (t := 108) (v := ?v76) rfl (by kernel_rfl) (by kernel_rfl) (by kernel_rfl) (by kernel_rfl) (fun _ _ _ h => h) (by kernel_rfl) ?hy76 (by assumption) ?_
                              case hy76 => (intro w hSw; (try dsimp only at hSw); go_simp; try with_reducible rfl)
                              try simp only [Act.put, List.setIfInBounds_toArray, List.set_cons_zero, List.set_cons_succ]
                              refine wpAnyH_ready (rs := [23]) (by kernel_rfl) (by simp) ?_
                              refine AllReadyH.cons (o := _) rfl (fun K hK => ?_) AllReadyH.nil
                              go_simp
                              go_at_call 27
                              refine (HHs.out _).mono ?_
                              rintro e w' ⟨rfl, h⟩
                              rw [h]
                              clear h w'
                              try dsimp only
                              refine hK.out _ _ ?hS77 (fun hHeld => ?_)
                              case hS77 => (exact hHeld)
                              clear hK K
                              try simp only [Act.put, List.setIfInBounds_toArray, List.set_cons_zero, List.set_cons_succ]
                              refine Take.take (i := 24) (oi := _) (t := 110) (v := ?v78) rfl (by kernel_rfl) (by kernel_rfl) (by kernel_rfl) (by kernel_rfl) (fun _ _ _ h => h) (by kernel_rfl) ?hy78 (by assumption) ?_
                              case hy78 => (intro w hSw; (try dsimp only at hSw); go_simp; try with_reducible rfl)
                              try simp only [Act.put, List.setIfInBounds_toArray, List.set_cons_zero, List.set_cons_succ]
                              refine Take.take (i := 25) (oi := _) (t := 111) (v := ?v79) rfl (by kernel_rfl) (by kernel_rfl) (by kernel_rfl) (by kernel_rfl) (fun _ _ _ h => h) (by kernel_rfl) ?hy79 (by assumption) ?_
                              case hy79 => (intro w hSw; (try dsimp only at hSw); go_simp; try with_reducible rfl)
                              try simp only [Act.put, List.setIfInBounds_toArray, List.set_cons_zero, List.set_cons_succ]
                              refine Take.take (i := 26) (oi := _) (t := 112) (v := ?v80) rfl (by kernel_rfl) (by kernel_rfl) (by kernel_rfl) (by kernel_rfl) (fun _ _ _ h => h) (by kernel_rfl) ?hy80 (by assumption) ?_
                              case hy80 => (intro w hSw; (try dsimp only at hSw); go_simp; try with_reducible rfl)
                              try simp only [Act.put, List.setIfInBounds_toArray, List.set_cons_zero, List.set_cons_succ]
                              refine wpAnyH_done (by kernel_rfl) ?_ _
                              go_wp2_with fail
                              go_meet
                              exact ⟨rfl, HR1, HB1, HL1⟩
                          · have g1 : decide ((kx : Int) < (mu.length : Int)) = false := by simp; omega
                            rw [g1, Bool.false_and, Bool.not_false] at hS
                            subst hS
                            clear hmK
                            refine wp_region_held_drew (S := fun w' => w'.cell? ⟨gl, i, none⟩ = some (.int .i64 (v : Nat)) ∧ w'.cell? ⟨X, 0, none⟩ = some (.int .i64 (kx : Nat)) ∧ w'.cell? ⟨X, 3, none⟩ = some (.int .i64 x.frm)) (by kernel_rfl) ⟨cl0, x0, x3⟩ (fun hHeld => ?_)
                            refine Take.take (i := 0) (oi := _) (t := 86) (v := ?v10) rfl (by kernel_rfl) (by kernel_rfl) (by kernel_rfl) (by kernel_rfl) (fun _ _ _ h => h) (by kernel_rfl) ?hy10 (by assumption) ?_
                            case hy10 => (intro w hSw; (try dsimp only at hSw); go_simp; try with_reducible rfl)
                            try simp only [Act.put, List.setIfInBounds_toArray, List.set_cons_zero, List.set_cons_succ]
                            refine Take.take (i := 1) (oi := _) (t := 87) (v := ?v11) rfl (by kernel_rfl) (by kernel_rfl) (by kernel_rfl) (by kernel_rfl) (fun _ _ _ h => h) (by kernel_rfl) ?hy11 (by assumption) ?_
                            case hy11 => (intro w hSw; (try dsimp only at hSw); go_simp; try with_reducible rfl)
                            try simp only [Act.put, List.setIfInBounds_toArray, List.set_cons_zero, List.set_cons_succ]
                            refine Take.take (i := 2) (oi := _) (t := 88) (v := ?v12) rfl (by kernel_rfl) (by kernel_rfl) (by kernel_rfl) (by kernel_rfl) (fun _ _ _ h => h) (by kernel_rfl) ?hy12 (by assumption) ?_
                            case hy12 => (intro w hSw; (try dsimp only at hSw); go_simp; try with_reducible rfl)
                            try simp only [Act.put, List.setIfInBounds_toArray, List.set_cons_zero, List.set_cons_succ]
                            refine Take.take (i := 3) (oi := _) (t := 89) (v := ?v13) rfl (by kernel_rfl) (by kernel_rfl) (by kernel_rfl) (by kernel_rfl) (fun _ _ _ h => h) (by kernel_rfl) ?hy13 (by assumption) ?_
                            case hy13 => (intro w hSw; (try dsimp only at hSw); go_simp; try with_reducible rfl)
                            try simp only [Act.put, List.setIfInBounds_toArray, List.set_cons_zero, List.set_cons_succ]
                            refine Take.take (i := 4) (oi := _) (t := 90) (v := ?v14) rfl (by kernel_rfl) (by kernel_rfl) (by kernel_rfl) (by kernel_rfl) (fun _ _ _ h => h) (by kernel_rfl) ?hy14 (by assumption) ?_
                            case hy14 => (intro w hSw; (try dsimp only at hSw); go_simp; try with_reducible rfl)
                            try simp only [Act.put, List.setIfInBounds_toArray, List.set_cons_zero, List.set_cons_succ]
                            refine Take.take (i := 5) (oi := _) (t := 91) (v := ?v15) rfl (by kernel_rfl) (by kernel_rfl) (by kernel_rfl) (by kernel_rfl) (fun _ _ _ h => h) (by kernel_rfl) ?hy15 (by assumption) ?_
                            case hy15 => (intro w hSw; (try dsimp only at hSw); go_simp; try with_reducible rfl)
                            try simp only [Act.put, List.setIfInBounds_toArray, List.set_cons_zero, List.set_cons_succ]
                            refine Take.take (i := 6) (oi := _) (t := 92) (v := ?v16) rfl (by kernel_rfl) (by kernel_rfl) (by kernel_rfl) (by kernel_rfl) (fun _ _ _ h => h) (by kernel_rfl) ?hy16 (by assumption) ?_
                            case hy16 => (intro w hSw; (try dsimp only at hSw); go_simp; try with_reducible rfl)
                            try simp only [Act.put, List.setIfInBounds_toArray, List.set_cons_zero, List.set_cons_succ]
                            refine Take.take (i := 7) (oi := _) (t := 93) (v := ?v17) rfl (by kernel_rfl) (by kernel_rfl) (by kernel_rfl) (by kernel_rfl) (fun _ _ _ h => h) (by kernel_rfl) ?hy17 (by assumption) ?_
                            case hy17 => (intro w hSw; (try dsimp only at hSw); go_simp; try with_reducible rfl)
                            try simp only [Act.put, List.setIfInBounds_toArray, List.set_cons_zero, List.set_cons_succ]
                            refine Take.take (i := 8) (oi := _) (t := 94) (v := ?v18) rfl (by kernel_rfl) (by kernel_rfl) (by kernel_rfl) (by kernel_rfl) (fun _ _ _ h => h) (by kernel_rfl) ?hy18 (by assumption) ?_
                            case hy18 => (intro w hSw; (try dsimp only at hSw); go_simp; try with_reducible rfl)
                            try simp only [Act.put, List.setIfInBounds_toArray, List.set_cons_zero, List.set_cons_succ]
                            refine Take.take (i := 9) (oi := _) (t := 95) (v := ?v19) rfl (by kernel_rfl) (by kernel_rfl) (by kernel_rfl) (by kernel_rfl) (fun _ _ _ h => h) (by kernel_rfl) ?hy19 (by assumption) ?_
                            case hy19 => (intro w hSw; (try dsimp only at hSw); go_simp; try with_reducible rfl)
                            try simp only [Act.put, List.setIfInBounds_toArray, List.set_cons_zero, List.set_cons_succ]
                            refine Take.take (i := 10) (oi := _) (t := 96) (v := ?v20) rfl (by kernel_rfl) (by kernel_rfl) (by kernel_rfl) (by kernel_rfl) (fun _ _ _ h => h) (by kernel_rfl) ?hy20 (by assumption) ?_
                            case hy20 => (intro w hSw; (try dsimp only at hSw); go_simp; try with_reducible rfl)
                            try simp only [Act.put, List.setIfInBounds_toArray, List.set_cons_zero, List.set_cons_succ]
                            refine Take.take (i := 11) (oi := _) (t := 97) (v := ?v21) rfl (by kernel_rfl) (by kernel_rfl) (by kernel_rfl) (by kernel_rfl) (fun _ _ _ h => h) (by kernel_rfl) ?hy21 (by assumption) ?_
                            case hy21 => (intro w hSw; (try dsimp only at hSw); go_simp; try with_reducible rfl)
                            try simp only [Act.put, List.setIfInBounds_toArray, List.set_cons_zero, List.set_cons_succ]
                            refine Take.take (i := 12) (oi := _) (t := 98) (v := ?v22) rfl (by kernel_rfl) (by kernel_rfl) (by kernel_rfl) (by kernel_rfl) (fun _ _ _ h => h) (by kernel_rfl) ?hy22 (by assumption) ?_
                            case hy22 => (intro w hSw; (try dsimp only at hSw); go_simp; try with_reducible rfl)
                            try simp only [Act.put, List.setIfInBounds_toArray, List.set_cons_zero, List.set_cons_succ]
                            refine Take.take (i := 13) (oi := _) (t := 99) (v := ?v23) rfl (by kernel_rfl) (by kernel_rfl) (by kernel_rfl) (by kernel_rfl) (fun _ _ _ h => h) (by kernel_rfl) ?hy23 (by assumption) ?_
                            case hy23 => (intro w hSw; (try dsimp only at hSw); go_simp; try with_reducible rfl)
                            try simp only [Act.put, List.setIfInBounds_toArray, List.set_cons_zero, List.set_cons_succ]
                            refine Take.skip (i := 14) (t := 100) (g := 13) (b := true) (by kernel_rfl) (by kernel_rfl) (by kernel_rfl) (by kernel_rfl) (fun _ _ _ h => h) (by kernel_rfl) (by assumption) ?_
                            try simp only [Act.put, List.setIfInBounds_toArray, List.set_cons_zero, List.set_cons_succ]
                            refine Take.skip (i := 15) (t := 101) (g := 13) (b := true) (by kernel_rfl) (by kernel_rfl) (by kernel_rfl) (by kernel_rfl) (fun _ _ _ h => h) (by kernel_rfl) (by assumption) ?_
                            try simp only [Act.put, List.setIfInBounds_toArray, List.set_cons_zero, List.set_cons_succ]
                            refine Take.skip (i := 16) (t := 102) (g := 13) (b := true) (by kernel_rfl) (by kernel_rfl) (by kernel_rfl) (by kernel_rfl) (fun _ _ _ h => h) (by kernel_rfl) (by assumption) ?_
                            try simp only [Act.put, List.setIfInBounds_toArray, List.set_cons_zero, List.set_cons_succ]
                            refine Take.skip (i := 17) (t := 103) (g := 13) (b := true) (by kernel_rfl) (by kernel_rfl) (by kernel_rfl) (by kernel_rfl) (fun _ _ _ h => h) (by kernel_rfl) (by assumption) ?_
                            try simp only [Act.put, List.setIfInBounds_toArray, List.set_cons_zero, List.set_cons_succ]
                            refine Take.skip (i := 18) (t := 104) (g := 13) (b := true) (by kernel_rfl) (by kernel_rfl) (by kernel_rfl) (by kernel_rfl) (fun _ _ _ h => h) (by kernel_rfl) (by assumption) ?_
                            try simp only [Act.put, List.setIfInBounds_toArray, List.set_cons_zero, List.set_cons_succ]
                            refine Take.skip (i := 19) (t := 105) (g := 13) (b := true) (by kernel_rfl) (by kernel_rfl) (by kernel_rfl) (by kernel_rfl) (fun _ _ _ h => h) (by kernel_rfl) (by assumption) ?_
                            try simp only [Act.put, List.setIfInBounds_toArray, List.set_cons_zero, List.set_cons_succ]
                            refine Take.skip (i := 20) (t := 106) (g := 13) (b := true) (by kernel_rfl) (by kernel_rfl) (by kernel_rfl) (by kernel_rfl) (fun _ _ _ h => h) (by kernel_rfl) (by assumption) ?_
                            try simp only [Act.put, List.setIfInBounds_toArray, List.set_cons_zero, List.set_cons_succ]
                            refine Take.skip (i := 21) (t := 107) (g := 13) (b := true) (by kernel_rfl) (by kernel_rfl) (by kernel_rfl) (by kernel_rfl) (fun _ _ _ h => h) (by kernel_rfl) (by assumption) ?_
                            try simp only [Act.put, List.setIfInBounds_toArray, List.set_cons_zero, List.set_cons_succ]
                            refine Take.skip (i := 22) (t := 108) (g := 13) (b := true) (by kernel_rfl) (by kernel_rfl) (by kernel_rfl) (by kernel_rfl) (fun _ _ _ h => h) (by kernel_rfl) (by assumption) ?_
                            try simp only [Act.put, List.setIfInBounds_toArray, List.set_cons_zero, List.set_cons_succ]
                            refine Take.skip (i := 23) (t := 109) (g := 13) (b := true) (by kernel_rfl) (by kernel_rfl) (by kernel_rfl) (by kernel_rfl) (fun _ _ _ h => h) (by kernel_rfl) (by assumption) ?_
                            try simp only [Act.put, List.setIfInBounds_toArray, List.set_cons_zero, List.set_cons_succ]
                            refine Take.take (i := 24) (oi := _) (t := 110) (v := ?v24) rfl (by kernel_rfl) (by kernel_rfl) (by kernel_rfl) (by kernel_rfl) (fun _ _ _ h => h) (by kernel_rfl) ?hy24 (by assumption) ?_
                            case hy24 => (intro w hSw; (try dsimp only at hSw); go_simp; try with_reducible rfl)
                            try simp only [Act.put, List.setIfInBounds_toArray, List.set_cons_zero, List.set_cons_succ]
                            refine Take.take (i := 25) (oi := _) (t := 111) (v := ?v25) rfl (by kernel_rfl) (by kernel_rfl) (by kernel_rfl) (by kernel_rfl) (fun _ _ _ h => h) (by kernel_rfl) ?hy25 (by assumption) ?_
                            case hy25 => (intro w hSw; (try dsimp only at hSw); go_simp; try with_reducible rfl)
                            try simp only [Act.put, List.setIfInBounds_toArray, List.set_cons_zero, List.set_cons_succ]
                            refine Take.take (i := 26) (oi := _) (t := 112) (v := ?v26) rfl (by kernel_rfl) (by kernel_rfl) (by kernel_rfl) (by kernel_rfl) (fun _ _ _ h => h) (by kernel_rfl) ?hy26 (by assumption) ?_
                            case hy26 => (intro w hSw; (try dsimp only at hSw); go_simp; try with_reducible rfl)
                            try simp only [Act.put, List.setIfInBounds_toArray, List.set_cons_zero, List.set_cons_succ]
                            refine wpAnyH_done (by kernel_rfl) ?_ _
                            go_wp2_with fail
                            go_meet
                            exact ⟨rfl, HR1, HB1, HL1⟩
                      case rest =>
                        obtain ⟨rfl, HRc, HBc, HLc⟩ := hcut
                        obtain ⟨wd, rfl⟩ : ∃ W, W = wc := ⟨_, rfl⟩
                        clear cl0 x0 x3 HR1 HB1 HL1 hmK
                        rcases b with _ | _
                        · have hR6 : RowKit.Hid (RefR w n L la lcap v15 u10 (way.eraseIdx a ++ ((l.take (i + 1)).filter (sendB mu x)).map (sendF dl x)) (out ++ [x]) wd) := Lib.hid (by rw [Hnx.out, if_neg (by rw [Hsb.out]; simp)]; exact HRc.out)
                          go_wp2_with fail
                          go_roundg (l.length - (i + 1))
                          case measure => have := Hgq.out; omega
                          case rel => exact ⟨i + 1, rfl, by go_num, hlt, hR6, HBc, HLc, HNq⟩
                        · have hyl := Hnx.out
                          rw [if_pos Hsb.out] at hyl
                          have x0 : wd.cell? ⟨X, 0, none⟩ = some (.int .i64 (kx : Nat)) := by rw [← Hkx.out]; exact HBc.out.cell 0
                          have x1 : wd.cell? ⟨X, 1, none⟩ = some (.int .i64 x.time) := HBc.out.cell 1
                          have x2 : wd.cell? ⟨X, 2, none⟩ = some (.int .i64 x.hops) := HBc.out.cell 2
                          have hcl : ∀ V : World, V.ownsRow w15.heap.size 3 1 (.slice (some ⟨gl, 0, none⟩) l.length cl) l.length (nc l) → V.cell? ⟨gl, i, none⟩ = some (.int .i64 (v : Nat)) := fun V h => by
                            rw [h.cellAt i (by omega)]
                            simp [nc, Hv.out]
                          have cl0 := hcl wd HLc.out
                          have hdK : DelayAt K wd da dl := Hd.out.keep fun j hj => HRc.out.low.block j (by omega)
                          obtain ⟨t, hte⟩ : ∃ t, takesF dl (kx : Int) (v : Int) = t := ⟨_, rfl⟩
                          have htb := takesF_bd dl (kx : Int) (v : Int)
                          have HDl : RowKit.Hid (∀ W : World, W.heap = wd.heap → Calls Tryd.prog 34 #[.slice da dl.length dc, .int .i64 (kx : Nat), .int .i64 (v : Nat)] W fun e w' => e = .returned (.int .i64 t) ∧ w' = W) := Lib.hid fun W hW => by
                            rw [← hte]
                            exact delay_any K W da dl dc (hdK.keep fun j hj => by rw [hW]) kx v
                          rw [hte] at htb
                          have hyv : sendF dl x v = ⟨v, x.time + t, x.hops + 1, kx⟩ := by rw [sendF, Hkx.out, hte]
                          have e1 : IntKind.i64.wrap (x.time + t) = x.time + t := IntWalk.i64_in _ (by omega)
                          have e2 : IntKind.i64.wrap (x.hops + 1) = x.hops + 1 := IntWalk.i64_in _ (by omega)
                          have l1d : gl < wd.heap.size := (own_rng HLc.out rfl).2
                          have l2d := HBc.out.lt
                          have HUp : RowKit.Hid (∀ (w3 : World) (g3 c3 : Nat), w3.ownsRow (w.heap.size + 1) 70 4 (.slice (some ⟨g3, 0, none⟩) (wy.length + 1) c3) (wy.length + 1) (arrC wy ++ [.int .i64 (v : Nat), .int .i64 (x.time + t), .int .i64 (x.hops + 1), .int .i64 (kx : Nat)]) → (wd.alloc (.cells #[.int .i64 (v : Nat), .int .i64 (x.time + t), .int .i64 (x.hops + 1), .int .i64 (kx : Nat)] 70)).drew.grownBy w3 u10.ownBlock → (u10.ownBlock = some g3 ∨ g3 = (wd.alloc (.cells #[.int .i64 (v : Nat), .int .i64 (x.time + t), .int .i64 (x.hops + 1), .int .i64 (kx : Nat)] 70)).drew.heap.size) →
                              RowKit.Hid (RefR w n L la lcap v15 (.slice (some ⟨g3, 0, none⟩) (wy.length + 1) c3) (way.eraseIdx a ++ ((l.take (i + 1)).filter (sendB mu x)).map (sendF dl x)) (out ++ [x]) w3) ∧ RowKit.Hid (Blk w3 X 70 #[.int .i64 x.node, .int .i64 x.time, .int .i64 x.hops, .int .i64 x.frm]) ∧ RowKit.Hid (w3.ownsRow w15.heap.size 3 1 (.slice (some ⟨gl, 0, none⟩) l.length cl) l.length (nc l)) ∧ RowKit.Hid (Value.ownBlock (.slice (some ⟨g3, 0, none⟩) (wy.length + 1) c3) ≠ some X)) := Lib.hid fun w3 g3 c3 own3 gr3 at3 => by
                            have kA : Below wd.heap.size wd (wd.alloc (.cells #[.int .i64 (v : Nat), .int .i64 (x.time + t), .int .i64 (x.hops + 1), .int .i64 (kx : Nat)] 70)).drew := ((Below.refl _ wd).alloc (Nat.le_refl _) _).drew
                            refine ⟨Lib.hid ((HRc.out.below kA).app_y gr3 ?_ ?_), Lib.hid ((HBc.out.below kA l2d).grown gr3 fun e => HNq.out e.symm), Lib.hid (own_grown (own_below HLc.out kA) gr3 fun b hb e => ?_), Lib.hid fun e => ?_⟩
                            · rw [hyl, hyv, List.length_append, arrC_snoc]; exact own3
                            · rcases at3 with c | c
                              · exact .inl (by rw [c]; rfl)
                              · exact .inr (by rw [c]; rfl)
                            · have o1 := own_below HLc.out kA
                              have o2 := (HRc.out.below kA).y
                              rcases o1.2 with ⟨c, _⟩ | ⟨q, cq, cur, c, _, hq, _⟩
                              · cases c
                              · rcases o2.2 with ⟨d, _⟩ | ⟨q2, cq2, cur2, d, _, hq2, _⟩
                                · rw [d] at e; simp [Value.ownBlock] at e
                                · rw [c] at hb
                                  rw [d] at e
                                  simp only [Value.ownBlock, Option.some.injEq] at hb e
                                  subst hb
                                  subst e
                                  exact absurd ((show Blk _ _ _ _ from hq).uniq hq2).1 (by decide)
                            · simp only [Value.ownBlock, Option.some.injEq] at e
                              subst e
                              rcases at3 with c | c
                              · exact HNq.out c
                              · simp [World.drew] at c; omega
                          have HKc : RowKit.Hid (∀ w3 : World, RowKit.Hid (w3.ownsRow w15.heap.size 3 1 (.slice (some ⟨gl, 0, none⟩) l.length cl) l.length (nc l)) → RowKit.Hid (Blk w3 X 70 #[.int .i64 x.node, .int .i64 x.time, .int .i64 x.hops, .int .i64 x.frm]) → w3.cell? ⟨gl, i, none⟩ = some (.int .i64 (v : Nat)) ∧ w3.cell? ⟨X, 0, none⟩ = some (.int .i64 (kx : Nat)) ∧ w3.cell? ⟨X, 1, none⟩ = some (.int .i64 x.time) ∧ w3.cell? ⟨X, 2, none⟩ = some (.int .i64 x.hops)) := Lib.hid fun w3 h1 h2 => ⟨hcl w3 h1.out, by rw [← Hkx.out]; exact h2.out.cell 0, h2.out.cell 1, h2.out.cell 2⟩
                          clear hyl hcl hdK hte hyv
                          go_upto_region 21 with (fail)
                          refine wp_region_held_drew (S := fun w' => w'.cell? ⟨gl, i, none⟩ = some (.int .i64 (v : Nat)) ∧ w'.cell? ⟨X, 0, none⟩ = some (.int .i64 (kx : Nat)) ∧ w'.cell? ⟨X, 1, none⟩ = some (.int .i64 x.time) ∧ w'.cell? ⟨X, 2, none⟩ = some (.int .i64 x.hops)) (by kernel_rfl) ⟨cl0, x0, x1, x2⟩ (fun hHeld => ?_)
                          refine Take.take (i := 0) (oi := _) (t := 113) (v := ?v81) rfl (by kernel_rfl) (by kernel_rfl) (by kernel_rfl) (by kernel_rfl) (fun _ _ _ h => h) (by kernel_rfl) ?hy81 (by assumption) ?_
                          case hy81 => (intro w hSw; (try dsimp only at hSw); go_simp; try with_reducible rfl)
                          try simp only [Act.put, List.setIfInBounds_toArray, List.set_cons_zero, List.set_cons_succ]
                          refine Take.take (i := 1) (oi := _) (t := 114) (v := ?v82) rfl (by kernel_rfl) (by kernel_rfl) (by kernel_rfl) (by kernel_rfl) (fun _ _ _ h => h) (by kernel_rfl) ?hy82 (by assumption) ?_
                          case hy82 => (intro w hSw; (try dsimp only at hSw); go_simp; try with_reducible rfl)
                          try simp only [Act.put, List.setIfInBounds_toArray, List.set_cons_zero, List.set_cons_succ]
                          refine Take.take (i := 2) (oi := _) (t := 115) (v := ?v83) rfl (by kernel_rfl) (by kernel_rfl) (by kernel_rfl) (by kernel_rfl) (fun _ _ _ h => h) (by kernel_rfl) ?hy83 (by assumption) ?_
                          case hy83 => (intro w hSw; (try dsimp only at hSw); go_simp; try with_reducible rfl)
                          try simp only [Act.put, List.setIfInBounds_toArray, List.set_cons_zero, List.set_cons_succ]
                          refine Take.take (i := 3) (oi := _) (t := 116) (v := ?v84) rfl (by kernel_rfl) (by kernel_rfl) (by kernel_rfl) (by kernel_rfl) (fun _ _ _ h => h) (by kernel_rfl) ?hy84 (by assumption) ?_
                          case hy84 => (intro w hSw; (try dsimp only at hSw); go_simp; try with_reducible rfl)
                          try simp only [Act.put, List.setIfInBounds_toArray, List.set_cons_zero, List.set_cons_succ]
                          refine Take.take (i := 4) (oi := _) (t := 117) (v := ?v85) rfl (by kernel_rfl) (by kernel_rfl) (by kernel_rfl) (by kernel_rfl) (fun _ _ _ h => h) (by kernel_rfl) ?hy85 (by assumption) ?_
                          case hy85 => (intro w hSw; (try dsimp only at hSw); go_simp; try with_reducible rfl)
                          try simp only [Act.put, List.setIfInBounds_toArray, List.set_cons_zero, List.set_cons_succ]
                          refine Take.take (i := 5) (oi := _) (t := 118) (v := ?v86) rfl (by kernel_rfl) (by kernel_rfl) (by kernel_rfl) (by kernel_rfl) (fun _ _ _ h => h) (by kernel_rfl) ?hy86 (by assumption) ?_
                          case hy86 => (intro w hSw; (try dsimp only at hSw); go_simp; try with_reducible rfl)
                          try simp only [Act.put, List.setIfInBounds_toArray, List.set_cons_zero, List.set_cons_succ]
                          refine Take.take (i := 6) (oi := _) (t := 119) (v := ?v87) rfl (by kernel_rfl) (by kernel_rfl) (by kernel_rfl) (by kernel_rfl) (fun _ _ _ h => h) (by kernel_rfl) ?hy87 (by assumption) ?_
                          case hy87 => (intro w hSw; (try dsimp only at hSw); go_simp; try with_reducible rfl)
                          try simp only [Act.put, List.setIfInBounds_toArray, List.set_cons_zero, List.set_cons_succ]
                          refine Take.take (i := 7) (oi := _) (t := 120) (v := ?v88) rfl (by kernel_rfl) (by kernel_rfl) (by kernel_rfl) (by kernel_rfl) (fun _ _ _ h => h) (by kernel_rfl) ?hy88 (by assumption) ?_
                          case hy88 => (intro w hSw; (try dsimp only at hSw); go_simp; try with_reducible rfl)
                          try simp only [Act.put, List.setIfInBounds_toArray, List.set_cons_zero, List.set_cons_succ]
                          refine Take.take (i := 8) (oi := _) (t := 121) (v := ?v89) rfl (by kernel_rfl) (by kernel_rfl) (by kernel_rfl) (by kernel_rfl) (fun _ _ _ h => h) (by kernel_rfl) ?hy89 (by assumption) ?_
                          case hy89 => (intro w hSw; (try dsimp only at hSw); go_simp; try with_reducible rfl)
                          try simp only [Act.put, List.setIfInBounds_toArray, List.set_cons_zero, List.set_cons_succ]
                          refine Take.take (i := 9) (oi := _) (t := 122) (v := ?v90) rfl (by kernel_rfl) (by kernel_rfl) (by kernel_rfl) (by kernel_rfl) (fun _ _ _ h => h) (by kernel_rfl) ?hy90 (by assumption) ?_
                          case hy90 => (intro w hSw; (try dsimp only at hSw); go_simp; try with_reducible rfl)
                          try simp only [Act.put, List.setIfInBounds_toArray, List.set_cons_zero, List.set_cons_succ]
                          refine Take.take (i := 10) (oi := _) (t := 123) (v := ?v91) rfl (by kernel_rfl) (by kernel_rfl) (by kernel_rfl) (by kernel_rfl) (fun _ _ _ h => h) (by kernel_rfl) ?hy91 (by assumption) ?_
                          case hy91 => (intro w hSw; (try dsimp only at hSw); go_simp; try with_reducible rfl)
                          try simp only [Act.put, List.setIfInBounds_toArray, List.set_cons_zero, List.set_cons_succ]
                          refine Take.take (i := 11) (oi := _) (t := 124) (v := ?v92) rfl (by kernel_rfl) (by kernel_rfl) (by kernel_rfl) (by kernel_rfl) (fun _ _ _ h => h) (by kernel_rfl) ?hy92 (by assumption) ?_
                          case hy92 => (intro w hSw; (try dsimp only at hSw); go_simp; try with_reducible rfl)
                          try simp only [Act.put, List.setIfInBounds_toArray, List.set_cons_zero, List.set_cons_succ]
                          refine Take.take (i := 12) (oi := _) (t := 125) (v := ?v93) rfl (by kernel_rfl) (by kernel_rfl) (by kernel_rfl) (by kernel_rfl) (fun _ _ _ h => h) (by kernel_rfl) ?hy93 (by assumption) ?_
                          case hy93 => (intro w hSw; (try dsimp only at hSw); go_simp; try with_reducible rfl)
                          try simp only [Act.put, List.setIfInBounds_toArray, List.set_cons_zero, List.set_cons_succ]
                          refine Take.take (i := 13) (oi := _) (t := 126) (v := ?v94) rfl (by kernel_rfl) (by kernel_rfl) (by kernel_rfl) (by kernel_rfl) (fun _ _ _ h => h) (by kernel_rfl) ?hy94 (by assumption) ?_
                          case hy94 => (intro w hSw; (try dsimp only at hSw); go_simp; try with_reducible rfl)
                          try simp only [Act.put, List.setIfInBounds_toArray, List.set_cons_zero, List.set_cons_succ]
                          refine Take.take (i := 16) (oi := _) (t := 129) (v := ?v95) rfl (by kernel_rfl) (by kernel_rfl) (by kernel_rfl) (by kernel_rfl) (fun _ _ _ h => h) (by kernel_rfl) ?hy95 (by assumption) ?_
                          case hy95 => (intro w hSw; (try dsimp only at hSw); go_simp; try with_reducible rfl)
                          try simp only [Act.put, List.setIfInBounds_toArray, List.set_cons_zero, List.set_cons_succ]
                          refine Take.take (i := 17) (oi := _) (t := 130) (v := ?v96) rfl (by kernel_rfl) (by kernel_rfl) (by kernel_rfl) (by kernel_rfl) (fun _ _ _ h => h) (by kernel_rfl) ?hy96 (by assumption) ?_
                          case hy96 => (intro w hSw; (try dsimp only at hSw); go_simp; try with_reducible rfl)
                          try simp only [Act.put, List.setIfInBounds_toArray, List.set_cons_zero, List.set_cons_succ]
                          refine Take.take (i := 18) (oi := _) (t := 131) (v := ?v97) rfl (by kernel_rfl) (by kernel_rfl) (by kernel_rfl) (by kernel_rfl) (fun _ _ _ h => h) (by kernel_rfl) ?hy97 (by assumption) ?_
                          case hy97 => (intro w hSw; (try dsimp only at hSw); go_simp; try with_reducible rfl)
                          try simp only [Act.put, List.setIfInBounds_toArray, List.set_cons_zero, List.set_cons_succ]
                          refine Take.take (i := 19) (oi := _) (t := 132) (v := ?v98) rfl (by kernel_rfl) (by kernel_rfl) (by kernel_rfl) (by kernel_rfl) (fun _ _ _ h => h) (by kernel_rfl) ?hy98 (by assumption) ?_
                          case hy98 => (intro w hSw; (try dsimp only at hSw); go_simp; try with_reducible rfl)
                          try simp only [Act.put, List.setIfInBounds_toArray, List.set_cons_zero, List.set_cons_succ]
                          refine Take.take (i := 20) (oi := _) (t := 133) (v := ?v99) rfl (by kernel_rfl) (by kernel_rfl) (by kernel_rfl) (by kernel_rfl) (fun _ _ _ h => h) (by kernel_rfl) ?hy99 (by assumption) ?_
                          case hy99 => (intro w hSw; (try dsimp only at hSw); go_simp; try with_reducible rfl)
                          try simp only [Act.put, List.setIfInBounds_toArray, List.set_cons_zero, List.set_cons_succ]
                          refine wpAnyH_ready (rs := [14]) (by kernel_rfl) (by simp) ?_
                          refine AllReadyH.cons (o := _) rfl (fun K hK => ?_) AllReadyH.nil
                          go_simp
                          go_at_call 34
                          refine (HDl.out wd.drew rfl).mono ?_
                          rintro e w' ⟨rfl, h⟩
                          rw [h]
                          clear h w'
                          try dsimp only
                          refine hK.out _ _ ?hS100 (fun hHeld => ?_)
                          case hS100 => (first | (exact hHeld) | (go_keep; done) | exact HKc.out w3 hL4 hB4)
                          clear hK K
                          try simp only [Act.put, List.setIfInBounds_toArray, List.set_cons_zero, List.set_cons_succ]
                          refine Take.take (i := 15) (oi := _) (t := 128) (v := ?v101) rfl (by kernel_rfl) (by kernel_rfl) (by kernel_rfl) (by kernel_rfl) (fun _ _ _ h => h) (by kernel_rfl) ?hy101 (by assumption) ?_
                          case hy101 => (intro w hSw; (try dsimp only at hSw); go_simp; try with_reducible rfl)
                          try simp only [Act.put, List.setIfInBounds_toArray, List.set_cons_zero, List.set_cons_succ]
                          refine Take.take (i := 21) (oi := _) (t := 134) (v := ?v102) rfl (by kernel_rfl) (by kernel_rfl) (by kernel_rfl) (by kernel_rfl) (fun _ _ _ h => h) (by kernel_rfl) ?hy102 (by assumption) ?_
                          case hy102 => (intro w hSw; (try dsimp only at hSw); go_simp; try with_reducible rfl)
                          try simp only [Act.put, List.setIfInBounds_toArray, List.set_cons_zero, List.set_cons_succ]
                          refine wpAnyH_ready (rs := [22]) (by kernel_rfl) (by simp) ?_
                          refine AllReadyH.cons (o := _) rfl (fun K hK => ?_) AllReadyH.nil
                          go_simp
                          refine hK.out _ _ ?hS103 (fun hHeld => ?_)
                          case hS103 => (first | (exact hHeld) | (go_keep; done) | exact HKc.out w3 hL4 hB4)
                          clear hK K
                          try simp only [Act.put, List.setIfInBounds_toArray, List.set_cons_zero, List.set_cons_succ]
                          refine wpAnyH_ready (rs := [23]) (by kernel_rfl) (by simp) ?_
                          refine AllReadyH.cons (o := _) rfl (fun K hK => ?_) AllReadyH.nil
                          rw [if_pos (by rfl)]
                          refine wp_append_lies _ (.tmp 113) (.tmp 135) 66 rfl (w.heap.size + 1) 70 i0 _ 4 32 Tryd.underlying66 Hi0.out Hz0.out Hz1.out Hz2.out rfl (by decide) _ _ _ rfl (own_below HRc.out.y ((Below.refl _ wd).alloc (Nat.le_refl _) _).drew) ⟨wd.heap.size, 0, none⟩ 1 1 [.int .i64 (v : Nat), .int .i64 (x.time + t), .int .i64 (x.hops + 1), .int .i64 (kx : Nat)] rfl rfl (by have h := World.news_of_block (cs := #[.int .i64 (v : Nat), .int .i64 (x.time + t), .int .i64 (x.hops + 1), .int .i64 (kx : Nat)]) (t := 70) (fr := (0, 0)) (heap_alloc_new wd _); exact h) (by intro u hu; simp only [List.mem_cons, List.not_mem_nil, or_false] at hu; rcases hu with rfl | rfl | rfl | rfl <;> rfl) (by omega) (by unfold maxLen; omega) (by omega) (by have := HRc.out.low.size; simp; omega) _ rfl ?_
                          intro g3 c3 w3 own3 gr3 at3 _
                          have gr4 : (wd.alloc (.cells #[.int .i64 (v : Nat), .int .i64 (x.time + t), .int .i64 (x.hops + 1), .int .i64 (kx : Nat)] 70)).drew.grownBy w3 u10.ownBlock := gr3
                          obtain ⟨hR4, hB4, hL4, hN4⟩ := HUp.out w3 g3 c3 own3 gr4 at3
                          refine hK.out _ _ ?hS104 (fun hHeld => ?_)
                          case hS104 => (first | (exact hHeld) | (go_keep; done) | exact HKc.out w3 hL4 hB4)
                          clear hK K
                          try simp only [Act.put, List.setIfInBounds_toArray, List.set_cons_zero, List.set_cons_succ]
                          refine Take.take (i := 24) (oi := _) (t := 10) (v := ?v105) rfl (by kernel_rfl) (by kernel_rfl) (by kernel_rfl) (by kernel_rfl) (fun _ _ _ h => h) (by kernel_rfl) ?hy105 (by assumption) ?_
                          case hy105 => (intro w hSw; (try dsimp only at hSw); go_simp; try with_reducible rfl)
                          try simp only [Act.put, List.setIfInBounds_toArray, List.set_cons_zero, List.set_cons_succ]
                          refine wpAnyH_done (by kernel_rfl) ?_ _
                          go_wp2_with fail
                          go_roundg (l.length - (i + 1))
                          case measure => have := Hgq.out; omega
                          case rel => exact ⟨i + 1, rfl, by go_num, hlt, hR4, hB4, hL4, hN4⟩
                    · obtain rfl : i = l.length := by omega
                      have hR5 : RowKit.Hid (RefR w n L la lcap v15 u10 (way.eraseIdx a ++ sendsF near mu dl x) (out ++ [x]) wr) := Lib.hid (by
                        have := HRq.out
                        rw [List.take_length, ← Hsr.out] at this
                        exact this)
                      clear HRq HBq HLq HNq
                      go_wp2_with fail
                      go_roundg (muF n (way.eraseIdx a ++ sendsF near mu dl x) (out ++ [x]))
                      case measure => have := hmu.out; have := Hgk.out; omega
                      case rel => exact ⟨_, _, rfl, hR5, HF2, HE2⟩
                · rw [hc] at HC
                  have HE2 : RowKit.Hid (∀ r, Ends near mu dl (way.eraseIdx a) out r → Runs near mu dl src r) := Lib.hid fun r h => HE.out r (.skip FA.out hc h)
                  have HF2 := Lib.hid (HF.out.skip a)
                  have hmu := Lib.hid (muF_skip (n := n) (out := out) FA.out)
                  clear hc x1 x2 x3
                  go_wp2_with (go_at_call 68; refine HC.out.mono ?_; rintro e w' ⟨rfl, h⟩; rw [h]; clear h w')
                  go_roundg (muF n (way.eraseIdx a) out)
                  case measure => have := hmu.out; have := Hgk.out; omega
                  case rel => exact ⟨way.eraseIdx a, out, rfl, HR13, HF2, HE2⟩
end Go.Proofs.YtmbblhajbecomaaDoor.Flood
