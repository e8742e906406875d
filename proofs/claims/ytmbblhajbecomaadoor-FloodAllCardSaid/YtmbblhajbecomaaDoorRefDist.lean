/- The document's Dist: walked. -/
import Derived.Test.YtmbblhajbecomaaDoorDistGo
import Derived.Test.YtmbblhajbecomaaDoorTake
namespace Go.Proofs.YtmbblhajbecomaaDoor.Reach
set_option maxRecDepth 100000
open Go.RowKit
open Go.Proofs.YtmbblhajbecomaaDoor.RF Go.Proofs.YtmbblhajbecomaaDoor.Heap Go.Proofs.YtmbblhajbecomaaDoor.Nodes Go.Proofs.YtmbblhajbecomaaDoor.Graph
set_option linter.unusedVariables false
set_option linter.unusedSimpArgs false

/-- A row of numbers lies from the beginning of a block. -/
def RowD (W : World) (g : Nat) (d : List Int) : Prop := ∃ cur : Array Value, Blk W g 3 cur ∧ ∀ j, j < d.length → cur[j]? = some (.int .i64 (d.getD j (-1)))
theorem RowD.cell {W : World} {g : Nat} {d : List Int} (h : RowD W g d) {j : Nat} (hj : j < d.length) : W.cell? ⟨g, j, none⟩ = some (.int .i64 (d.getD j (-1))) := by
  obtain ⟨cur, hb, hc⟩ := h
  exact (hb.cell j).trans (hc j hj)
theorem RowD.lt {W : World} {g : Nat} {d : List Int} (h : RowD W g d) : g < W.heap.size := by
  obtain ⟨cur, hb, hc⟩ := h
  exact hb.lt
theorem RowD.frozen {W : World} {g : Nat} {d : List Int} (h : RowD W g d) (j : Nat) : W.frozen? ⟨g, j, none⟩ = false := by
  obtain ⟨cur, hb, hc⟩ := h
  exact hb.frozen j
theorem RowD.below {W V : World} {g : Nat} {d : List Int} (h : RowD W g d) (k : Below W.heap.size W V) : RowD V g d := by
  obtain ⟨cur, hb, hc⟩ := h
  exact ⟨cur, hb.below k hb.lt, hc⟩
theorem RowD.put {W : World} {g : Nat} {d : List Int} (h : RowD W g d) {j : Nat} (hj : j < d.length) (x : Int) : RowD (W.setCell ⟨g, j, none⟩ (.int .i64 x)) g (d.set j x) := by
  obtain ⟨cur, hb, hc⟩ := h
  refine ⟨_, hb.put j _, fun i hi => ?_⟩
  rw [List.length_set] at hi
  have h2 := hc j hj
  have hlt : j < cur.size := by
    rcases Nat.lt_or_ge j cur.size with c | c
    · exact c
    · rw [Array.getElem?_eq_none c] at h2; cases h2
  rw [getD_setI _ _ _ _ hj, Array.getElem?_setIfInBounds]
  by_cases c : j = i
  · rw [if_pos c, if_pos c]
    subst c
    simp [hlt]
  · rw [if_neg c, if_neg c]; exact hc i hi
theorem own_rowD {W : World} {base : Nat} {v : Value} {d : List Int} (h : W.ownsRow base 3 1 v d.length (d.map (Value.int .i64))) (hd : 0 < d.length) : ∃ g cap, v = .slice (some ⟨g, 0, none⟩) d.length cap ∧ base ≤ g ∧ RowD W g d := by
  rcases h.2 with ⟨rfl, h0⟩ | ⟨g, cap, cur, rfl, hb, hg, hnc, hcm, hcs, ht⟩
  · omega
  · refine ⟨g, cap, rfl, hb, cur, hg, fun j hj => ?_⟩
    have hk : (d.map (Value.int .i64))[j]? = some (.int .i64 (d.getD j (-1))) := by
      simp [List.getElem?_map, List.getElem?_eq_getElem hj]
    rw [← ht, List.getElem?_take] at hk
    split at hk
    · simpa using hk
    · cases hk
/-- How much there is to better, as it lies. -/
def cellI : Option Value → Int
  | some (.int _ x) => x
  | _ => -1
def muW (W : World) (g n : Nat) : Nat := mu ((List.range n).map fun j => cellI (W.cell? ⟨g, j, none⟩))
theorem RowD.muW {W : World} {g : Nat} {d : List Int} (h : RowD W g d) : muW W g d.length = mu d := by
  unfold Reach.muW
  congr 1
  refine List.ext_getElem (by simp) fun j h1 h2 => ?_
  simp only [List.getElem_map, List.getElem_range]
  rw [h.cell h2]
  simp [cellI, h2]
/-- Within the loops. -/
structure LInv (w : World) (n : Nat) (v : Value) (near : List Nat) (off : Nat) (s : Int) (g : Nat) (d0 d : List Int) (m : Bool) (k j : Nat) (wr : World) : Prop where
  inv : DInv near off s d
  row : RowD wr g d
  box : Blk wr w.heap.size 27 #[.int .i64 (n : Nat), v]
  low : Below w.heap.size w wr
  le : mu d ≤ mu d0
  yes : m = true → mu d < mu d0
  no : m = false → d = d0 ∧ ∀ a b : Nat, a < n → b < n → (a < k ∨ (a = k ∧ b < j)) → bet near off d0 a b = false
/-- Ahead of a round. -/
structure OInv (w : World) (n : Nat) (v : Value) (near : List Nat) (off : Nat) (s : Int) (g : Nat) (d : List Int) (m : Bool) (wr : World) : Prop where
  inv : DInv near off s d
  row : RowD wr g d
  box : Blk wr w.heap.size 27 #[.int .i64 (n : Nat), v]
  low : Below w.heap.size w wr
  fin : m = false → ∀ a b : Nat, a < n → b < n → bet near off d a b = false
theorem hasR_nat {off j : Nat} (h : j < 64) : hasR off (j : Int) = off.testBit j := by simp [hasR]; omega
theorem ic_snoc (l : List Int) (x : Int) : (l ++ [x]).map (Value.int .i64) = l.map (Value.int .i64) ++ [.int .i64 x] := by simp
theorem rep_snoc (k : Nat) : List.replicate (k + 1) (-1 : Int) = List.replicate k (-1) ++ [-1] := List.replicate_succ'
set_option maxRecDepth 100000 in
set_option maxHeartbeats 8000000 in
/-- The rounds of the bettering. -/
theorem refdist_any {w : World} (n : Nat) (v : Value) (L : List (Int × Int)) (near : List Nat) (hp : PairsAt w v L) (hlen : L.length ≤ 65536) (hM : Match n near L) (h1 : 1 ≤ n) (hn : n ≤ 64) (i : Int) (off : Nat) (ho : off < 2 ^ 64) :
    Calls Tryd.prog 53 #[.agg #[.int .i64 (n : Nat), v], .int .i64 i, .int .u64 (off : Nat)] w fun e w' => ∃ g cap, e = .returned (.slice (some ⟨g, 0, none⟩) n cap) ∧ w.heap.size ≤ g ∧ RowD w' g (distF near off i) ∧ Below w.heap.size w w' := by
  obtain ⟨la, lc, rfl, _⟩ := hp.1
  obtain ⟨i0, hi0, hz⟩ := Option.map_eq_some_iff.1 infoI
  simp only [Prod.mk.injEq] at hz
  obtain ⟨hz0, hz1, hz2⟩ := hz
  have Hi0 := Lib.hid hi0
  have Hz0 := Lib.hid hz0
  have Hz1 := Lib.hid hz1
  have Hz2 := Lib.hid hz2
  clear hi0 hz0 hz1 hz2
  have hok : Ok near := hM.ok hn
  have hln : near.length = n := hM.len
  obtain ⟨W0, hW0⟩ : ∃ W0, w.alloc (.cells #[.int .i64 (n : Nat), .slice la L.length lc] 27) = W0 := ⟨_, rfl⟩
  have b0 : Blk W0 w.heap.size 27 #[.int .i64 (n : Nat), .slice la L.length lc] := by rw [← hW0]; exact Blk.new w _ _
  have l0 : Below w.heap.size w W0 := by rw [← hW0]; exact (Below.refl _ w).alloc (Nat.le_refl _) _
  have z0 : W0.heap.size = w.heap.size + 1 := by rw [← hW0]; simp
  obtain ⟨V, hV⟩ : ∃ V, W0.alloc (.cells #[] 3) = V := ⟨_, rfl⟩
  have lV : Below W0.heap.size W0 V := by rw [← hV]; exact (Below.refl _ W0).alloc (Nat.le_refl _) _
  have oV : V.ownsRow W0.heap.size 3 1 (.slice (some ⟨W0.heap.size, 0, none⟩) 0 0) 0 [] := by
    have := row_of_blk (base := W0.heap.size) (n := 0) (s := 1) (cap := 0) (Blk.new W0 3 #[]) (Nat.le_refl _) (Nat.le_refl _) (by unfold maxLen; omega) rfl
    rw [hV] at this
    simpa using this
  have HW0 := Lib.hid hW0
  have HV := Lib.hid hV
  have HoV := Lib.hid oV
  have Hb0 := Lib.hid b0
  have hpH := Lib.hid hp
  have HM := Lib.hid hM
  have Hok := Lib.hid hok
  clear hW0 hV oV b0 hp hM hok
  go_enter Tryd.func53, Tryd.ntmps53
  go_wp2_with (first | (rw [HW0.out]) | (rw [HV.out]))
  go_loopw [7, 8] (fun v7 v8 wr => ∃ k : Nat, v8 = .int .i64 k ∧ k ≤ n ∧ RowKit.Hid (wr.ownsRow W0.heap.size 3 1 v7 (List.replicate k (-1 : Int)).length ((List.replicate k (-1 : Int)).map (Value.int .i64))) ∧ Below W0.heap.size W0 wr) (fun _ v8 _ => match v8 with | .int _ k => n - k.toNat | _ => 0)
  case atStart => exact ⟨0, rfl, Nat.zero_le _, by rw [← z0]; exact HoV, lV⟩
  case round =>
    clear lV
    obtain ⟨k, rfl, hk, own, lR⟩ := hrel
    have bR := Hb0.out.below lR Hb0.out.lt
    have c0 := bR.cell 0
    simp at c0
    have hkk : (List.replicate k (-1 : Int)).length = k := by simp
    by_cases hlt : k < n
    · have l3 : (0 : Int) ≤ (k : Int) := by omega
      have l4 : (k : Int) < (n : Int) := by omega
      have hw := lR.size
      obtain ⟨q, hq⟩ : ∃ q, (List.replicate k (-1 : Int)).length = q := ⟨_, rfl⟩
      rw [hq] at own hkk
      go_wp2_with (at_builtin; refine wpList_append_own _ rfl _ _ 51 rfl W0.heap.size 3 i0 _ 1 8 Tryd.underlying51 Hi0.out Hz0.out Hz1.out Hz2.out rfl (by decide) _ _ _ rfl (own.out.alloc _) ⟨wr.heap.size, 0, none⟩ 1 1 [.int .i64 (-1)] rfl rfl (cell_one_new _ _ _) (by simp [Value.oneCell']) (by unfold maxLen; omega) (by omega) (by simp; omega) ?_; intro v' w3 hown3 hgrow3 _)
      go_round
      case rel => exact ⟨k + 1, rfl, hlt, Lib.hid (by rw [rep_snoc, ic_snoc, List.length_append, hq]; exact hown3), below_own (lR.alloc lR.size _) hgrow3 (own.out.alloc _) (Nat.le_refl _) (Nat.le_refl _)⟩
      case measure => simp; omega
    · obtain rfl : n = k := by omega
      obtain ⟨g, cap, hvg, hgb, hrow⟩ := own_rowD own.out (by rw [hkk]; exact h1)
      subst hvg
      rw [hkk]
      have low : Below w.heap.size w wr := l0.trans (lR.mono l0.size)
      have Hrow := Lib.hid hrow
      have Hlow := Lib.hid low
      clear own HoV HV HW0 Hi0 Hz0 Hz1 Hz2
      by_cases hsi : isN n i = true ∧ off.testBit i.toNat = false
      · obtain ⟨hs1, hs2⟩ := hsi
        obtain ⟨s, rfl, hs⟩ := isN_yes hs1
        rw [Int.toNat_natCast] at hs2
        have hh : hasR off (s : Int) = false := by rw [hasR_nat (by omega)]; exact hs2
        have Hh := Lib.hid (hh)
        have l3 : ¬ (s : Int) < 0 := by omega
        have l4 : ¬ (n : Int) ≤ (s : Int) := by omega
        have l5 : (0 : Int) ≤ (s : Int) := by omega
        have l6 : (s : Int) < (n : Int) := by omega
        have cs := hrow.cell (j := s) (by rw [hkk]; exact hs)
        have fs := hrow.frozen s
        clear hs1 hh
        go_wp2_with (go_at_call 27; refine (refhas_any off ho (s : Int) _).mono ?_; rintro e w4 ⟨rfl, hw⟩; rw [hw, Hh.out]; clear hw w4)
        obtain ⟨W1, hW1⟩ : ∃ W1, wr.setCell ⟨g, s, none⟩ (.int .i64 0) = W1 := ⟨_, rfl⟩
        have row1 : RowD W1 g ((List.replicate n (-1)).set s 0) := by rw [← hW1]; exact hrow.put (by rw [hkk]; exact hs) 0
        have box1 : Blk W1 w.heap.size 27 #[.int .i64 (n : Nat), .slice la L.length lc] := by rw [← hW1]; exact bR.far (by show w.heap.size ≠ g; omega) _
        have low1 : Below w.heap.size w W1 := by rw [← hW1]; exact low.setCell (p := ⟨g, s, none⟩) (by show w.heap.size ≤ g; omega) _
        have inv1 : DInv near off (s : Int) ((List.replicate n (-1)).set s 0) := by have := dist0_yes (near := near) (off := off) (s := s) (by omega) hs2; rwa [hln] at this
        rw [hW1]
        have HO1 : OInv w n (.slice la L.length lc) near off (s : Int) g ((List.replicate n (-1)).set s 0) true W1 := ⟨inv1, row1, box1, low1, fun h => by cases h⟩
        have hgw : w.heap.size + 1 ≤ g := by omega
        clear hW1 row1 box1 low1 inv1 cs fs hrow bR c0 Hrow Hlow low lR hgb l0 Hb0 l3 l4 l5 l6 hs2 Hh
        go_loopw [9] (fun v9 wr => ∃ (d : List Int) (m : Bool), v9 = .bool m ∧ RowKit.Hid (OInv w n (.slice la L.length lc) near off (s : Int) g d m wr)) (fun v9 wr => 2 * muW wr g n + (match v9 with | .bool true => 1 | _ => 0))
        case atStart => exact ⟨_, true, rfl, Lib.hid HO1⟩
        case round =>
          clear HO1
          obtain ⟨d0, m0, rfl, HO⟩ := hrel
          have hdl : d0.length = n := by rw [HO.out.inv.len]; exact hln
          have hmu : muW wr g n = mu d0 := by have := HO.out.row.muW; rwa [hdl] at this
          cases m0
          · have hfin := (HO.out.inv.dist (fun a b ha hb => HO.out.fin rfl a b (by omega) (by omega))).uniq (dist_spec Hok.out ho (s : Int))
            have Hf := Lib.hid hfin
            clear hfin hmu
            go_wp2_with fail
            go_ret
            exact ⟨g, cap, rfl, by omega, by rw [← Hf.out]; exact HO.out.row, HO.out.low⟩
          · have c0 := HO.out.box.cell 0
            simp at c0
            have HLs : LInv w n (.slice la L.length lc) near off (s : Int) g d0 d0 false 0 0 wr := ⟨HO.out.inv, HO.out.row, HO.out.box, HO.out.low, Nat.le_refl _, (fun h => by cases h), fun _ => ⟨rfl, fun a b _ _ h => by omega⟩⟩
            have Hmu := Lib.hid hmu
            clear hmu
            go_wp2_with fail
            go_loopw [9, 10] (fun v9 v10 wr => ∃ (d : List Int) (m : Bool) (k : Nat), v9 = .bool m ∧ v10 = .int .i64 k ∧ k ≤ n ∧ RowKit.Hid (LInv w n (.slice la L.length lc) near off (s : Int) g d0 d m k 0 wr)) (fun _ v10 _ => match v10 with | .int _ k => n - k.toNat | _ => 0)
            case atStart => exact ⟨_, false, 0, rfl, rfl, Nat.zero_le _, Lib.hid HLs⟩
            case round =>
              clear HLs c0
              obtain ⟨d, m, k, rfl, rfl, hk2, HK⟩ := hrel
              have c0 := HK.out.box.cell 0
              simp at c0
              have hdn : d.length = n := by rw [HK.out.inv.len]; exact hln
              by_cases hkn : k < n
              · have p1 : (0 : Int) ≤ (k : Int) := by omega
                have p2 : (k : Int) < (n : Int) := by omega
                go_wp2_with fail
                go_loopw [9, 11] (fun v9 v11 wr => ∃ (d : List Int) (m : Bool) (j : Nat), v9 = .bool m ∧ v11 = .int .i64 j ∧ j ≤ n ∧ RowKit.Hid (LInv w n (.slice la L.length lc) near off (s : Int) g d0 d m k j wr)) (fun _ v11 _ => match v11 with | .int _ j => n - j.toNat | _ => 0)
                case atStart => exact ⟨d, m, 0, rfl, rfl, Nat.zero_le _, HK⟩
                case round =>
                  clear c0 hdn HK
                  obtain ⟨d, m, j, rfl, rfl, hj2, HJ⟩ := hrel
                  have c0 := HJ.out.box.cell 0
                  simp at c0
                  have hdn : d.length = n := by rw [HJ.out.inv.len]; exact hln
                  by_cases hjn : j < n
                  · have p3 : (0 : Int) ≤ (j : Int) := by omega
                    have p4 : (j : Int) < (n : Int) := by omega
                    have hbet : bet near off d k j = (decide (0 ≤ d.getD k (-1)) && !off.testBit j && adj near k j && (decide (d.getD j (-1) < 0) || decide (d.getD k (-1) + 1 < d.getD j (-1)))) := rfl
                    have hadj : refL L (k : Int) (j : Int) = adj near k j := (HM.out.bits k j hkn).symm
                    have hhas := hasR_nat (off := off) (j := j) (by omega)
                    have hfewk := HJ.out.inv.few k
                    have hgl := got_le d
                    have hlow := HJ.out.inv.low k
                    obtain ⟨l, hl⟩ : ∃ l, adj near k j = l := ⟨_, rfl⟩
                    obtain ⟨h, hh⟩ : ∃ h, off.testBit j = h := ⟨_, rfl⟩
                    have cx := fun (V : World) (b : Below wr.heap.size wr V) => (HJ.out.row.below b).cell (j := k) (by omega)
                    have cy := fun (V : World) (b : Below wr.heap.size wr V) => (HJ.out.row.below b).cell (j := j) (by omega)
                    obtain ⟨x, hx⟩ : ∃ x, d.getD k (-1) = x := ⟨_, rfl⟩
                    obtain ⟨y, hy⟩ : ∃ y, d.getD j (-1) = y := ⟨_, rfl⟩
                    rw [hl, hh, hx, hy] at hbet
                    rw [hl] at hadj
                    rw [hh] at hhas
                    rw [hx] at hfewk hlow
                    have e1 : IntKind.i64.wrap (x + 1) = x + 1 := IntWalk.i64_in _ (by omega)
                    have Hh := Lib.hid hhas
                    have Hl := Lib.hid hadj
                    have Hbet := Lib.hid hbet
                    have HS := Lib.hid (fun (w' : World) (b : Below wr.heap.size wr w') => (show Below wr.heap.size wr w' ∧ w'.cell? ⟨w.heap.size, 0, none⟩ = some (.int .i64 (n : Nat)) ∧ w'.cell? ⟨w.heap.size, 1, none⟩ = some (.slice la L.length lc) ∧ w'.cell? ⟨g, k, none⟩ = some (.int .i64 x) ∧ w'.cell? ⟨g, j, none⟩ = some (.int .i64 y) from ⟨b, (HJ.out.box.below b HJ.out.box.lt).cell 0, (HJ.out.box.below b HJ.out.box.lt).cell 1, by rw [cx _ b, hx], by rw [cy _ b, hy]⟩))
                    have HL := Lib.hid (fun (w' : World) (b : Below wr.heap.size wr w') => reflinked_any n (.slice la L.length lc) L (k : Int) (j : Int) w' (hpH.out.below (HJ.out.low.trans (b.mono HJ.out.low.size)) (Nat.le_refl _)) hlen)
                    have Hx := Lib.hid hx
                    clear hbet hadj hhas hl hh hx hy cx cy hfewk hgl
                    go_wp2_with fail
                    go_cut [87] (fun s87 V => s87 = .bool (bet near off d k j) ∧ RowKit.Hid (Below wr.heap.size wr V))
                    case first =>
                      clear c0
                      by_cases hx0 : 0 ≤ x
                      · cases h
                        · cases l
                          · have hb : bet near off d k j = false := by rw [Hbet.out]; simp
                            refine wp_region_noPanic ?_
                            refine wp_region_held_drew (S := fun w' => Below wr.heap.size wr w' ∧ w'.cell? ⟨w.heap.size, 0, none⟩ = some (.int .i64 (n : Nat)) ∧ w'.cell? ⟨w.heap.size, 1, none⟩ = some (.slice la L.length lc) ∧ w'.cell? ⟨g, k, none⟩ = some (.int .i64 x) ∧ w'.cell? ⟨g, j, none⟩ = some (.int .i64 y)) (by kernel_rfl) (HS.out _ (Below.refl _ _).drew) (fun hHeld => ?_)
                            refine Take.take (i := 0) (oi := _) (t := 52) (v := ?v1) rfl (by kernel_rfl) (by kernel_rfl) (by kernel_rfl) (by kernel_rfl) (fun _ _ _ h => h) (by kernel_rfl) ?hy1 (by assumption) ?_
                            case hy1 => (intro w hSw; (try dsimp only at hSw); go_simp; try with_reducible rfl)
                            try simp only [Act.put, List.setIfInBounds_toArray, List.set_cons_zero, List.set_cons_succ]
                            refine Take.take (i := 1) (oi := _) (t := 53) (v := ?v2) rfl (by kernel_rfl) (by kernel_rfl) (by kernel_rfl) (by kernel_rfl) (fun _ _ _ h => h) (by kernel_rfl) ?hy2 (by assumption) ?_
                            case hy2 => (intro w hSw; (try dsimp only at hSw); go_simp; try with_reducible rfl)
                            try simp only [Act.put, List.setIfInBounds_toArray, List.set_cons_zero, List.set_cons_succ]
                            refine Take.take (i := 2) (oi := _) (t := 54) (v := ?v3) rfl (by kernel_rfl) (by kernel_rfl) (by kernel_rfl) (by kernel_rfl) (fun _ _ _ h => h) (by kernel_rfl) ?hy3 (by assumption) ?_
                            case hy3 => (intro w hSw; (try dsimp only at hSw); go_simp; try with_reducible rfl)
                            try simp only [Act.put, List.setIfInBounds_toArray, List.set_cons_zero, List.set_cons_succ]
                            refine Take.take (i := 3) (oi := _) (t := 55) (v := ?v4) rfl (by kernel_rfl) (by kernel_rfl) (by kernel_rfl) (by kernel_rfl) (fun _ _ _ h => h) (by kernel_rfl) ?hy4 (by assumption) ?_
                            case hy4 => (intro w hSw; (try dsimp only at hSw); go_simp; try with_reducible rfl)
                            try simp only [Act.put, List.setIfInBounds_toArray, List.set_cons_zero, List.set_cons_succ]
                            refine Take.take (i := 4) (oi := _) (t := 56) (v := ?v5) rfl (by kernel_rfl) (by kernel_rfl) (by kernel_rfl) (by kernel_rfl) (fun _ _ _ h => h) (by kernel_rfl) ?hy5 (by assumption) ?_
                            case hy5 => (intro w hSw; (try dsimp only at hSw); go_simp; try with_reducible rfl)
                            try simp only [Act.put, List.setIfInBounds_toArray, List.set_cons_zero, List.set_cons_succ]
                            refine Take.take (i := 5) (oi := _) (t := 57) (v := ?v6) rfl (by kernel_rfl) (by kernel_rfl) (by kernel_rfl) (by kernel_rfl) (fun _ _ _ h => h) (by kernel_rfl) ?hy6 (by assumption) ?_
                            case hy6 => (intro w hSw; (try dsimp only at hSw); go_simp; try with_reducible rfl)
                            try simp only [Act.put, List.setIfInBounds_toArray, List.set_cons_zero, List.set_cons_succ]
                            refine Take.take (i := 6) (oi := _) (t := 58) (v := ?v7) rfl (by kernel_rfl) (by kernel_rfl) (by kernel_rfl) (by kernel_rfl) (fun _ _ _ h => h) (by kernel_rfl) ?hy7 (by assumption) ?_
                            case hy7 => (intro w hSw; (try dsimp only at hSw); go_simp; try with_reducible rfl)
                            try simp only [Act.put, List.setIfInBounds_toArray, List.set_cons_zero, List.set_cons_succ]
                            refine Take.take (i := 7) (oi := _) (t := 59) (v := ?v8) rfl (by kernel_rfl) (by kernel_rfl) (by kernel_rfl) (by kernel_rfl) (fun _ _ _ h => h) (by kernel_rfl) ?hy8 (by assumption) ?_
                            case hy8 => (intro w hSw; (try dsimp only at hSw); go_simp; try with_reducible rfl)
                            try simp only [Act.put, List.setIfInBounds_toArray, List.set_cons_zero, List.set_cons_succ]
                            refine wpAnyH_ready (rs := [8]) (by kernel_rfl) (by simp) ?_
                            refine AllReadyH.cons (o := _) rfl (fun K hK => ?_) AllReadyH.nil
                            obtain ⟨hB, _⟩ : Below wr.heap.size wr _ ∧ _ := (by assumption)
                            go_simp
                            go_at_call 27
                            refine (refhas_any off ho (j : Int) _).mono ?_
                            rintro e w4 ⟨rfl, hw⟩
                            rw [hw, Hh.out]
                            clear hw w4
                            try dsimp only
                            refine hK.out _ _ ?hS9 (fun hHeld => ?_)
                            case hS9 => (first | exact HS.out _ (by assumption) | (obtain ⟨hB, _⟩ : Below wr.heap.size wr _ ∧ _ := (by assumption); exact HS.out _ (Below.trans hB (Below.mono (by assumption) hB.size))) | (obtain ⟨hB, _⟩ : Below wr.heap.size wr _ ∧ _ := (by assumption); exact HS.out _ hB))
                            clear hB hK K
                            try simp only [Act.put, List.setIfInBounds_toArray, List.set_cons_zero, List.set_cons_succ]
                            refine Take.take (i := 9) (oi := _) (t := 61) (v := ?v10) rfl (by kernel_rfl) (by kernel_rfl) (by kernel_rfl) (by kernel_rfl) (fun _ _ _ h => h) (by kernel_rfl) ?hy10 (by assumption) ?_
                            case hy10 => (intro w hSw; (try dsimp only at hSw); go_simp; try with_reducible rfl)
                            try simp only [Act.put, List.setIfInBounds_toArray, List.set_cons_zero, List.set_cons_succ]
                            refine Take.take (i := 10) (oi := _) (t := 62) (v := ?v11) rfl (by kernel_rfl) (by kernel_rfl) (by kernel_rfl) (by kernel_rfl) (fun _ _ _ h => h) (by kernel_rfl) ?hy11 (by assumption) ?_
                            case hy11 => (intro w hSw; (try dsimp only at hSw); go_simp; try with_reducible rfl)
                            try simp only [Act.put, List.setIfInBounds_toArray, List.set_cons_zero, List.set_cons_succ]
                            refine Take.take (i := 11) (oi := _) (t := 63) (v := ?v12) rfl (by kernel_rfl) (by kernel_rfl) (by kernel_rfl) (by kernel_rfl) (fun _ _ _ h => h) (by kernel_rfl) ?hy12 (by assumption) ?_
                            case hy12 => (intro w hSw; (try dsimp only at hSw); go_simp; try with_reducible rfl)
                            try simp only [Act.put, List.setIfInBounds_toArray, List.set_cons_zero, List.set_cons_succ]
                            refine Take.take (i := 12) (oi := _) (t := 64) (v := ?v13) rfl (by kernel_rfl) (by kernel_rfl) (by kernel_rfl) (by kernel_rfl) (fun _ _ _ h => h) (by kernel_rfl) ?hy13 (by assumption) ?_
                            case hy13 => (intro w hSw; (try dsimp only at hSw); go_simp; try with_reducible rfl)
                            try simp only [Act.put, List.setIfInBounds_toArray, List.set_cons_zero, List.set_cons_succ]
                            refine Take.take (i := 13) (oi := _) (t := 65) (v := ?v14) rfl (by kernel_rfl) (by kernel_rfl) (by kernel_rfl) (by kernel_rfl) (fun _ _ _ h => h) (by kernel_rfl) ?hy14 (by assumption) ?_
                            case hy14 => (intro w hSw; (try dsimp only at hSw); go_simp; try with_reducible rfl)
                            try simp only [Act.put, List.setIfInBounds_toArray, List.set_cons_zero, List.set_cons_succ]
                            refine Take.take (i := 14) (oi := _) (t := 66) (v := ?v15) rfl (by kernel_rfl) (by kernel_rfl) (by kernel_rfl) (by kernel_rfl) (fun _ _ _ h => h) (by kernel_rfl) ?hy15 (by assumption) ?_
                            case hy15 => (intro w hSw; (try dsimp only at hSw); go_simp; try with_reducible rfl)
                            try simp only [Act.put, List.setIfInBounds_toArray, List.set_cons_zero, List.set_cons_succ]
                            refine wpAnyH_ready (rs := [15]) (by kernel_rfl) (by simp) ?_
                            refine AllReadyH.cons (o := _) rfl (fun K hK => ?_) AllReadyH.nil
                            obtain ⟨hB, _⟩ : Below wr.heap.size wr _ ∧ _ := (by assumption)
                            go_simp
                            go_at_call 25
                            refine (HL.out _ hB).mono ?_
                            rintro e w4 ⟨rfl, b4⟩
                            rw [Hl.out]
                            try dsimp only
                            refine hK.out _ _ ?hS16 (fun hHeld => ?_)
                            case hS16 => (first | exact HS.out _ (by assumption) | (obtain ⟨hB, _⟩ : Below wr.heap.size wr _ ∧ _ := (by assumption); exact HS.out _ (Below.trans hB (Below.mono (by assumption) hB.size))) | (obtain ⟨hB, _⟩ : Below wr.heap.size wr _ ∧ _ := (by assumption); exact HS.out _ hB))
                            clear hB hK K
                            try simp only [Act.put, List.setIfInBounds_toArray, List.set_cons_zero, List.set_cons_succ]
                            refine Take.take (i := 16) (oi := _) (t := 68) (v := ?v17) rfl (by kernel_rfl) (by kernel_rfl) (by kernel_rfl) (by kernel_rfl) (fun _ _ _ h => h) (by kernel_rfl) ?hy17 (by assumption) ?_
                            case hy17 => (intro w hSw; (try dsimp only at hSw); go_simp; try with_reducible rfl)
                            try simp only [Act.put, List.setIfInBounds_toArray, List.set_cons_zero, List.set_cons_succ]
                            refine Take.take (i := 17) (oi := _) (t := 69) (v := ?v18) rfl (by kernel_rfl) (by kernel_rfl) (by kernel_rfl) (by kernel_rfl) (fun _ _ _ h => h) (by kernel_rfl) ?hy18 (by assumption) ?_
                            case hy18 => (intro w hSw; (try dsimp only at hSw); go_simp; try with_reducible rfl)
                            try simp only [Act.put, List.setIfInBounds_toArray, List.set_cons_zero, List.set_cons_succ]
                            refine Take.skip (i := 18) (t := 70) (g := 17) (b := true) (by kernel_rfl) (by kernel_rfl) (by kernel_rfl) (by kernel_rfl) (fun _ _ _ h => h) (by kernel_rfl) (by assumption) ?_
                            try simp only [Act.put, List.setIfInBounds_toArray, List.set_cons_zero, List.set_cons_succ]
                            refine Take.skip (i := 19) (t := 71) (g := 17) (b := true) (by kernel_rfl) (by kernel_rfl) (by kernel_rfl) (by kernel_rfl) (fun _ _ _ h => h) (by kernel_rfl) (by assumption) ?_
                            try simp only [Act.put, List.setIfInBounds_toArray, List.set_cons_zero, List.set_cons_succ]
                            refine Take.skip (i := 20) (t := 72) (g := 17) (b := true) (by kernel_rfl) (by kernel_rfl) (by kernel_rfl) (by kernel_rfl) (fun _ _ _ h => h) (by kernel_rfl) (by assumption) ?_
                            try simp only [Act.put, List.setIfInBounds_toArray, List.set_cons_zero, List.set_cons_succ]
                            refine Take.skip (i := 21) (t := 73) (g := 17) (b := true) (by kernel_rfl) (by kernel_rfl) (by kernel_rfl) (by kernel_rfl) (fun _ _ _ h => h) (by kernel_rfl) (by assumption) ?_
                            try simp only [Act.put, List.setIfInBounds_toArray, List.set_cons_zero, List.set_cons_succ]
                            refine Take.skip (i := 22) (t := 74) (g := 17) (b := true) (by kernel_rfl) (by kernel_rfl) (by kernel_rfl) (by kernel_rfl) (fun _ _ _ h => h) (by kernel_rfl) (by assumption) ?_
                            try simp only [Act.put, List.setIfInBounds_toArray, List.set_cons_zero, List.set_cons_succ]
                            refine Take.skip (i := 23) (t := 75) (g := 17) (b := true) (by kernel_rfl) (by kernel_rfl) (by kernel_rfl) (by kernel_rfl) (fun _ _ _ h => h) (by kernel_rfl) (by assumption) ?_
                            try simp only [Act.put, List.setIfInBounds_toArray, List.set_cons_zero, List.set_cons_succ]
                            refine Take.skip (i := 24) (t := 76) (g := 23) (b := false) (by kernel_rfl) (by kernel_rfl) (by kernel_rfl) (by kernel_rfl) (fun _ _ _ h => h) (by kernel_rfl) (by assumption) ?_
                            try simp only [Act.put, List.setIfInBounds_toArray, List.set_cons_zero, List.set_cons_succ]
                            refine Take.skip (i := 25) (t := 77) (g := 23) (b := false) (by kernel_rfl) (by kernel_rfl) (by kernel_rfl) (by kernel_rfl) (fun _ _ _ h => h) (by kernel_rfl) (by assumption) ?_
                            try simp only [Act.put, List.setIfInBounds_toArray, List.set_cons_zero, List.set_cons_succ]
                            refine Take.skip (i := 26) (t := 78) (g := 23) (b := false) (by kernel_rfl) (by kernel_rfl) (by kernel_rfl) (by kernel_rfl) (fun _ _ _ h => h) (by kernel_rfl) (by assumption) ?_
                            try simp only [Act.put, List.setIfInBounds_toArray, List.set_cons_zero, List.set_cons_succ]
                            refine Take.skip (i := 27) (t := 79) (g := 23) (b := false) (by kernel_rfl) (by kernel_rfl) (by kernel_rfl) (by kernel_rfl) (fun _ _ _ h => h) (by kernel_rfl) (by assumption) ?_
                            try simp only [Act.put, List.setIfInBounds_toArray, List.set_cons_zero, List.set_cons_succ]
                            refine Take.skip (i := 28) (t := 80) (g := 23) (b := false) (by kernel_rfl) (by kernel_rfl) (by kernel_rfl) (by kernel_rfl) (fun _ _ _ h => h) (by kernel_rfl) (by assumption) ?_
                            try simp only [Act.put, List.setIfInBounds_toArray, List.set_cons_zero, List.set_cons_succ]
                            refine Take.skip (i := 29) (t := 81) (g := 23) (b := false) (by kernel_rfl) (by kernel_rfl) (by kernel_rfl) (by kernel_rfl) (fun _ _ _ h => h) (by kernel_rfl) (by assumption) ?_
                            try simp only [Act.put, List.setIfInBounds_toArray, List.set_cons_zero, List.set_cons_succ]
                            refine Take.skip (i := 30) (t := 82) (g := 23) (b := false) (by kernel_rfl) (by kernel_rfl) (by kernel_rfl) (by kernel_rfl) (fun _ _ _ h => h) (by kernel_rfl) (by assumption) ?_
                            try simp only [Act.put, List.setIfInBounds_toArray, List.set_cons_zero, List.set_cons_succ]
                            refine Take.skip (i := 31) (t := 83) (g := 23) (b := false) (by kernel_rfl) (by kernel_rfl) (by kernel_rfl) (by kernel_rfl) (fun _ _ _ h => h) (by kernel_rfl) (by assumption) ?_
                            try simp only [Act.put, List.setIfInBounds_toArray, List.set_cons_zero, List.set_cons_succ]
                            refine Take.skip (i := 32) (t := 84) (g := 23) (b := false) (by kernel_rfl) (by kernel_rfl) (by kernel_rfl) (by kernel_rfl) (fun _ _ _ h => h) (by kernel_rfl) (by assumption) ?_
                            try simp only [Act.put, List.setIfInBounds_toArray, List.set_cons_zero, List.set_cons_succ]
                            refine Take.skip (i := 33) (t := 85) (g := 23) (b := false) (by kernel_rfl) (by kernel_rfl) (by kernel_rfl) (by kernel_rfl) (fun _ _ _ h => h) (by kernel_rfl) (by assumption) ?_
                            try simp only [Act.put, List.setIfInBounds_toArray, List.set_cons_zero, List.set_cons_succ]
                            refine Take.skip (i := 34) (t := 86) (g := 17) (b := true) (by kernel_rfl) (by kernel_rfl) (by kernel_rfl) (by kernel_rfl) (fun _ _ _ h => h) (by kernel_rfl) (by assumption) ?_
                            try simp only [Act.put, List.setIfInBounds_toArray, List.set_cons_zero, List.set_cons_succ]
                            refine Take.take (i := 35) (oi := _) (t := 87) (v := ?v19) rfl (by kernel_rfl) (by kernel_rfl) (by kernel_rfl) (by kernel_rfl) (fun _ _ _ h => h) (by kernel_rfl) ?hy19 (by assumption) ?_
                            case hy19 => (intro w hSw; (try dsimp only at hSw); go_simp; try with_reducible rfl)
                            try simp only [Act.put, List.setIfInBounds_toArray, List.set_cons_zero, List.set_cons_succ]
                            refine wpAnyH_done (by kernel_rfl) ?_ _
                            refine NoPanic.normal ?_
                            go_wp2_with fail
                            go_meet
                            obtain ⟨hB, _⟩ : Below wr.heap.size wr _ ∧ _ := (by assumption)
                            exact ⟨by rw [hb], Lib.hid hB⟩
                          · by_cases hy0 : y < 0
                            · have hb : bet near off d k j = true := by rw [Hbet.out]; simp [hx0, hy0]
                              refine wp_region_noPanic ?_
                              refine wp_region_held_drew (S := fun w' => Below wr.heap.size wr w' ∧ w'.cell? ⟨w.heap.size, 0, none⟩ = some (.int .i64 (n : Nat)) ∧ w'.cell? ⟨w.heap.size, 1, none⟩ = some (.slice la L.length lc) ∧ w'.cell? ⟨g, k, none⟩ = some (.int .i64 x) ∧ w'.cell? ⟨g, j, none⟩ = some (.int .i64 y)) (by kernel_rfl) (HS.out _ (Below.refl _ _).drew) (fun hHeld => ?_)
                              refine Take.take (i := 0) (oi := _) (t := 52) (v := ?v20) rfl (by kernel_rfl) (by kernel_rfl) (by kernel_rfl) (by kernel_rfl) (fun _ _ _ h => h) (by kernel_rfl) ?hy20 (by assumption) ?_
                              case hy20 => (intro w hSw; (try dsimp only at hSw); go_simp; try with_reducible rfl)
                              try simp only [Act.put, List.setIfInBounds_toArray, List.set_cons_zero, List.set_cons_succ]
                              refine Take.take (i := 1) (oi := _) (t := 53) (v := ?v21) rfl (by kernel_rfl) (by kernel_rfl) (by kernel_rfl) (by kernel_rfl) (fun _ _ _ h => h) (by kernel_rfl) ?hy21 (by assumption) ?_
                              case hy21 => (intro w hSw; (try dsimp only at hSw); go_simp; try with_reducible rfl)
                              try simp only [Act.put, List.setIfInBounds_toArray, List.set_cons_zero, List.set_cons_succ]
                              refine Take.take (i := 2) (oi := _) (t := 54) (v := ?v22) rfl (by kernel_rfl) (by kernel_rfl) (by kernel_rfl) (by kernel_rfl) (fun _ _ _ h => h) (by kernel_rfl) ?hy22 (by assumption) ?_
                              case hy22 => (intro w hSw; (try dsimp only at hSw); go_simp; try with_reducible rfl)
                              try simp only [Act.put, List.setIfInBounds_toArray, List.set_cons_zero, List.set_cons_succ]
                              refine Take.take (i := 3) (oi := _) (t := 55) (v := ?v23) rfl (by kernel_rfl) (by kernel_rfl) (by kernel_rfl) (by kernel_rfl) (fun _ _ _ h => h) (by kernel_rfl) ?hy23 (by assumption) ?_
                              case hy23 => (intro w hSw; (try dsimp only at hSw); go_simp; try with_reducible rfl)
                              try simp only [Act.put, List.setIfInBounds_toArray, List.set_cons_zero, List.set_cons_succ]
                              refine Take.take (i := 4) (oi := _) (t := 56) (v := ?v24) rfl (by kernel_rfl) (by kernel_rfl) (by kernel_rfl) (by kernel_rfl) (fun _ _ _ h => h) (by kernel_rfl) ?hy24 (by assumption) ?_
                              case hy24 => (intro w hSw; (try dsimp only at hSw); go_simp; try with_reducible rfl)
                              try simp only [Act.put, List.setIfInBounds_toArray, List.set_cons_zero, List.set_cons_succ]
                              refine Take.take (i := 5) (oi := _) (t := 57) (v := ?v25) rfl (by kernel_rfl) (by kernel_rfl) (by kernel_rfl) (by kernel_rfl) (fun _ _ _ h => h) (by kernel_rfl) ?hy25 (by assumption) ?_
                              case hy25 => (intro w hSw; (try dsimp only at hSw); go_simp; try with_reducible rfl)
                              try simp only [Act.put, List.setIfInBounds_toArray, List.set_cons_zero, List.set_cons_succ]
                              refine Take.take (i := 6) (oi := _) (t := 58) (v := ?v26) rfl (by kernel_rfl) (by kernel_rfl) (by kernel_rfl) (by kernel_rfl) (fun _ _ _ h => h) (by kernel_rfl) ?hy26 (by assumption) ?_
                              case hy26 => (intro w hSw; (try dsimp only at hSw); go_simp; try with_reducible rfl)
                              try simp only [Act.put, List.setIfInBounds_toArray, List.set_cons_zero, List.set_cons_succ]
                              refine Take.take (i := 7) (oi := _) (t := 59) (v := ?v27) rfl (by kernel_rfl) (by kernel_rfl) (by kernel_rfl) (by kernel_rfl) (fun _ _ _ h => h) (by kernel_rfl) ?hy27 (by assumption) ?_
                              case hy27 => (intro w hSw; (try dsimp only at hSw); go_simp; try with_reducible rfl)
                              try simp only [Act.put, List.setIfInBounds_toArray, List.set_cons_zero, List.set_cons_succ]
                              refine wpAnyH_ready (rs := [8]) (by kernel_rfl) (by simp) ?_
                              refine AllReadyH.cons (o := _) rfl (fun K hK => ?_) AllReadyH.nil
                              obtain ⟨hB, _⟩ : Below wr.heap.size wr _ ∧ _ := (by assumption)
                              go_simp
                              go_at_call 27
                              refine (refhas_any off ho (j : Int) _).mono ?_
                              rintro e w4 ⟨rfl, hw⟩
                              rw [hw, Hh.out]
                              clear hw w4
                              try dsimp only
                              refine hK.out _ _ ?hS28 (fun hHeld => ?_)
                              case hS28 => (first | exact HS.out _ (by assumption) | (obtain ⟨hB, _⟩ : Below wr.heap.size wr _ ∧ _ := (by assumption); exact HS.out _ (Below.trans hB (Below.mono (by assumption) hB.size))) | (obtain ⟨hB, _⟩ : Below wr.heap.size wr _ ∧ _ := (by assumption); exact HS.out _ hB))
                              clear hB hK K
                              try simp only [Act.put, List.setIfInBounds_toArray, List.set_cons_zero, List.set_cons_succ]
                              refine Take.take (i := 9) (oi := _) (t := 61) (v := ?v29) rfl (by kernel_rfl) (by kernel_rfl) (by kernel_rfl) (by kernel_rfl) (fun _ _ _ h => h) (by kernel_rfl) ?hy29 (by assumption) ?_
                              case hy29 => (intro w hSw; (try dsimp only at hSw); go_simp; try with_reducible rfl)
                              try simp only [Act.put, List.setIfInBounds_toArray, List.set_cons_zero, List.set_cons_succ]
                              refine Take.take (i := 10) (oi := _) (t := 62) (v := ?v30) rfl (by kernel_rfl) (by kernel_rfl) (by kernel_rfl) (by kernel_rfl) (fun _ _ _ h => h) (by kernel_rfl) ?hy30 (by assumption) ?_
                              case hy30 => (intro w hSw; (try dsimp only at hSw); go_simp; try with_reducible rfl)
                              try simp only [Act.put, List.setIfInBounds_toArray, List.set_cons_zero, List.set_cons_succ]
                              refine Take.take (i := 11) (oi := _) (t := 63) (v := ?v31) rfl (by kernel_rfl) (by kernel_rfl) (by kernel_rfl) (by kernel_rfl) (fun _ _ _ h => h) (by kernel_rfl) ?hy31 (by assumption) ?_
                              case hy31 => (intro w hSw; (try dsimp only at hSw); go_simp; try with_reducible rfl)
                              try simp only [Act.put, List.setIfInBounds_toArray, List.set_cons_zero, List.set_cons_succ]
                              refine Take.take (i := 12) (oi := _) (t := 64) (v := ?v32) rfl (by kernel_rfl) (by kernel_rfl) (by kernel_rfl) (by kernel_rfl) (fun _ _ _ h => h) (by kernel_rfl) ?hy32 (by assumption) ?_
                              case hy32 => (intro w hSw; (try dsimp only at hSw); go_simp; try with_reducible rfl)
                              try simp only [Act.put, List.setIfInBounds_toArray, List.set_cons_zero, List.set_cons_succ]
                              refine Take.take (i := 13) (oi := _) (t := 65) (v := ?v33) rfl (by kernel_rfl) (by kernel_rfl) (by kernel_rfl) (by kernel_rfl) (fun _ _ _ h => h) (by kernel_rfl) ?hy33 (by assumption) ?_
                              case hy33 => (intro w hSw; (try dsimp only at hSw); go_simp; try with_reducible rfl)
                              try simp only [Act.put, List.setIfInBounds_toArray, List.set_cons_zero, List.set_cons_succ]
                              refine Take.take (i := 14) (oi := _) (t := 66) (v := ?v34) rfl (by kernel_rfl) (by kernel_rfl) (by kernel_rfl) (by kernel_rfl) (fun _ _ _ h => h) (by kernel_rfl) ?hy34 (by assumption) ?_
                              case hy34 => (intro w hSw; (try dsimp only at hSw); go_simp; try with_reducible rfl)
                              try simp only [Act.put, List.setIfInBounds_toArray, List.set_cons_zero, List.set_cons_succ]
                              refine wpAnyH_ready (rs := [15]) (by kernel_rfl) (by simp) ?_
                              refine AllReadyH.cons (o := _) rfl (fun K hK => ?_) AllReadyH.nil
                              obtain ⟨hB, _⟩ : Below wr.heap.size wr _ ∧ _ := (by assumption)
                              go_simp
                              go_at_call 25
                              refine (HL.out _ hB).mono ?_
                              rintro e w4 ⟨rfl, b4⟩
                              rw [Hl.out]
                              try dsimp only
                              refine hK.out _ _ ?hS35 (fun hHeld => ?_)
                              case hS35 => (first | exact HS.out _ (by assumption) | (obtain ⟨hB, _⟩ : Below wr.heap.size wr _ ∧ _ := (by assumption); exact HS.out _ (Below.trans hB (Below.mono (by assumption) hB.size))) | (obtain ⟨hB, _⟩ : Below wr.heap.size wr _ ∧ _ := (by assumption); exact HS.out _ hB))
                              clear hB hK K
                              try simp only [Act.put, List.setIfInBounds_toArray, List.set_cons_zero, List.set_cons_succ]
                              refine Take.take (i := 16) (oi := _) (t := 68) (v := ?v36) rfl (by kernel_rfl) (by kernel_rfl) (by kernel_rfl) (by kernel_rfl) (fun _ _ _ h => h) (by kernel_rfl) ?hy36 (by assumption) ?_
                              case hy36 => (intro w hSw; (try dsimp only at hSw); go_simp; try with_reducible rfl)
                              try simp only [Act.put, List.setIfInBounds_toArray, List.set_cons_zero, List.set_cons_succ]
                              refine Take.take (i := 17) (oi := _) (t := 69) (v := ?v37) rfl (by kernel_rfl) (by kernel_rfl) (by kernel_rfl) (by kernel_rfl) (fun _ _ _ h => h) (by kernel_rfl) ?hy37 (by assumption) ?_
                              case hy37 => (intro w hSw; (try dsimp only at hSw); go_simp; try with_reducible rfl)
                              try simp only [Act.put, List.setIfInBounds_toArray, List.set_cons_zero, List.set_cons_succ]
                              refine Take.take (i := 18) (oi := _) (t := 70) (v := ?v38) rfl (by kernel_rfl) (by kernel_rfl) (by kernel_rfl) (by kernel_rfl) (fun _ _ _ h => h) (by kernel_rfl) ?hy38 (by assumption) ?_
                              case hy38 => (intro w hSw; (try dsimp only at hSw); go_simp; try with_reducible rfl)
                              try simp only [Act.put, List.setIfInBounds_toArray, List.set_cons_zero, List.set_cons_succ]
                              refine Take.take (i := 19) (oi := _) (t := 71) (v := ?v39) rfl (by kernel_rfl) (by kernel_rfl) (by kernel_rfl) (by kernel_rfl) (fun _ _ _ h => h) (by kernel_rfl) ?hy39 (by assumption) ?_
                              case hy39 => (intro w hSw; (try dsimp only at hSw); go_simp; try with_reducible rfl)
                              try simp only [Act.put, List.setIfInBounds_toArray, List.set_cons_zero, List.set_cons_succ]
                              refine Take.take (i := 20) (oi := _) (t := 72) (v := ?v40) rfl (by kernel_rfl) (by kernel_rfl) (by kernel_rfl) (by kernel_rfl) (fun _ _ _ h => h) (by kernel_rfl) ?hy40 (by assumption) ?_
                              case hy40 => (intro w hSw; (try dsimp only at hSw); go_simp; try with_reducible rfl)
                              try simp only [Act.put, List.setIfInBounds_toArray, List.set_cons_zero, List.set_cons_succ]
                              refine Take.take (i := 21) (oi := _) (t := 73) (v := ?v41) rfl (by kernel_rfl) (by kernel_rfl) (by kernel_rfl) (by kernel_rfl) (fun _ _ _ h => h) (by kernel_rfl) ?hy41 (by assumption) ?_
                              case hy41 => (intro w hSw; (try dsimp only at hSw); go_simp; try with_reducible rfl)
                              try simp only [Act.put, List.setIfInBounds_toArray, List.set_cons_zero, List.set_cons_succ]
                              refine Take.take (i := 22) (oi := _) (t := 74) (v := ?v42) rfl (by kernel_rfl) (by kernel_rfl) (by kernel_rfl) (by kernel_rfl) (fun _ _ _ h => h) (by kernel_rfl) ?hy42 (by assumption) ?_
                              case hy42 => (intro w hSw; (try dsimp only at hSw); go_simp; try with_reducible rfl)
                              try simp only [Act.put, List.setIfInBounds_toArray, List.set_cons_zero, List.set_cons_succ]
                              refine Take.take (i := 23) (oi := _) (t := 75) (v := ?v43) rfl (by kernel_rfl) (by kernel_rfl) (by kernel_rfl) (by kernel_rfl) (fun _ _ _ h => h) (by kernel_rfl) ?hy43 (by assumption) ?_
                              case hy43 => (intro w hSw; (try dsimp only at hSw); go_simp; try with_reducible rfl)
                              try simp only [Act.put, List.setIfInBounds_toArray, List.set_cons_zero, List.set_cons_succ]
                              refine Take.skip (i := 24) (t := 76) (g := 23) (b := false) (by kernel_rfl) (by kernel_rfl) (by kernel_rfl) (by kernel_rfl) (fun _ _ _ h => h) (by kernel_rfl) (by assumption) ?_
                              try simp only [Act.put, List.setIfInBounds_toArray, List.set_cons_zero, List.set_cons_succ]
                              refine Take.skip (i := 25) (t := 77) (g := 23) (b := false) (by kernel_rfl) (by kernel_rfl) (by kernel_rfl) (by kernel_rfl) (fun _ _ _ h => h) (by kernel_rfl) (by assumption) ?_
                              try simp only [Act.put, List.setIfInBounds_toArray, List.set_cons_zero, List.set_cons_succ]
                              refine Take.skip (i := 26) (t := 78) (g := 23) (b := false) (by kernel_rfl) (by kernel_rfl) (by kernel_rfl) (by kernel_rfl) (fun _ _ _ h => h) (by kernel_rfl) (by assumption) ?_
                              try simp only [Act.put, List.setIfInBounds_toArray, List.set_cons_zero, List.set_cons_succ]
                              refine Take.skip (i := 27) (t := 79) (g := 23) (b := false) (by kernel_rfl) (by kernel_rfl) (by kernel_rfl) (by kernel_rfl) (fun _ _ _ h => h) (by kernel_rfl) (by assumption) ?_
                              try simp only [Act.put, List.setIfInBounds_toArray, List.set_cons_zero, List.set_cons_succ]
                              refine Take.skip (i := 28) (t := 80) (g := 23) (b := false) (by kernel_rfl) (by kernel_rfl) (by kernel_rfl) (by kernel_rfl) (fun _ _ _ h => h) (by kernel_rfl) (by assumption) ?_
                              try simp only [Act.put, List.setIfInBounds_toArray, List.set_cons_zero, List.set_cons_succ]
                              refine Take.skip (i := 29) (t := 81) (g := 23) (b := false) (by kernel_rfl) (by kernel_rfl) (by kernel_rfl) (by kernel_rfl) (fun _ _ _ h => h) (by kernel_rfl) (by assumption) ?_
                              try simp only [Act.put, List.setIfInBounds_toArray, List.set_cons_zero, List.set_cons_succ]
                              refine Take.skip (i := 30) (t := 82) (g := 23) (b := false) (by kernel_rfl) (by kernel_rfl) (by kernel_rfl) (by kernel_rfl) (fun _ _ _ h => h) (by kernel_rfl) (by assumption) ?_
                              try simp only [Act.put, List.setIfInBounds_toArray, List.set_cons_zero, List.set_cons_succ]
                              refine Take.skip (i := 31) (t := 83) (g := 23) (b := false) (by kernel_rfl) (by kernel_rfl) (by kernel_rfl) (by kernel_rfl) (fun _ _ _ h => h) (by kernel_rfl) (by assumption) ?_
                              try simp only [Act.put, List.setIfInBounds_toArray, List.set_cons_zero, List.set_cons_succ]
                              refine Take.skip (i := 32) (t := 84) (g := 23) (b := false) (by kernel_rfl) (by kernel_rfl) (by kernel_rfl) (by kernel_rfl) (fun _ _ _ h => h) (by kernel_rfl) (by assumption) ?_
                              try simp only [Act.put, List.setIfInBounds_toArray, List.set_cons_zero, List.set_cons_succ]
                              refine Take.skip (i := 33) (t := 85) (g := 23) (b := false) (by kernel_rfl) (by kernel_rfl) (by kernel_rfl) (by kernel_rfl) (fun _ _ _ h => h) (by kernel_rfl) (by assumption) ?_
                              try simp only [Act.put, List.setIfInBounds_toArray, List.set_cons_zero, List.set_cons_succ]
                              refine Take.take (i := 34) (oi := _) (t := 86) (v := ?v44) rfl (by kernel_rfl) (by kernel_rfl) (by kernel_rfl) (by kernel_rfl) (fun _ _ _ h => h) (by kernel_rfl) ?hy44 (by assumption) ?_
                              case hy44 => (intro w hSw; (try dsimp only at hSw); go_simp; try with_reducible rfl)
                              try simp only [Act.put, List.setIfInBounds_toArray, List.set_cons_zero, List.set_cons_succ]
                              refine Take.take (i := 35) (oi := _) (t := 87) (v := ?v45) rfl (by kernel_rfl) (by kernel_rfl) (by kernel_rfl) (by kernel_rfl) (fun _ _ _ h => h) (by kernel_rfl) ?hy45 (by assumption) ?_
                              case hy45 => (intro w hSw; (try dsimp only at hSw); go_simp; try with_reducible rfl)
                              try simp only [Act.put, List.setIfInBounds_toArray, List.set_cons_zero, List.set_cons_succ]
                              refine wpAnyH_done (by kernel_rfl) ?_ _
                              refine NoPanic.normal ?_
                              go_wp2_with fail
                              go_meet
                              obtain ⟨hB, _⟩ : Below wr.heap.size wr _ ∧ _ := (by assumption)
                              exact ⟨by rw [hb], Lib.hid hB⟩
                            · by_cases hxy : x + 1 < y
                              · have hb : bet near off d k j = true := by rw [Hbet.out]; simp [hx0, hxy]
                                refine wp_region_noPanic ?_
                                refine wp_region_held_drew (S := fun w' => Below wr.heap.size wr w' ∧ w'.cell? ⟨w.heap.size, 0, none⟩ = some (.int .i64 (n : Nat)) ∧ w'.cell? ⟨w.heap.size, 1, none⟩ = some (.slice la L.length lc) ∧ w'.cell? ⟨g, k, none⟩ = some (.int .i64 x) ∧ w'.cell? ⟨g, j, none⟩ = some (.int .i64 y)) (by kernel_rfl) (HS.out _ (Below.refl _ _).drew) (fun hHeld => ?_)
                                refine Take.take (i := 0) (oi := _) (t := 52) (v := ?v46) rfl (by kernel_rfl) (by kernel_rfl) (by kernel_rfl) (by kernel_rfl) (fun _ _ _ h => h) (by kernel_rfl) ?hy46 (by assumption) ?_
                                case hy46 => (intro w hSw; (try dsimp only at hSw); go_simp; try with_reducible rfl)
                                try simp only [Act.put, List.setIfInBounds_toArray, List.set_cons_zero, List.set_cons_succ]
                                refine Take.take (i := 1) (oi := _) (t := 53) (v := ?v47) rfl (by kernel_rfl) (by kernel_rfl) (by kernel_rfl) (by kernel_rfl) (fun _ _ _ h => h) (by kernel_rfl) ?hy47 (by assumption) ?_
                                case hy47 => (intro w hSw; (try dsimp only at hSw); go_simp; try with_reducible rfl)
                                try simp only [Act.put, List.setIfInBounds_toArray, List.set_cons_zero, List.set_cons_succ]
                                refine Take.take (i := 2) (oi := _) (t := 54) (v := ?v48) rfl (by kernel_rfl) (by kernel_rfl) (by kernel_rfl) (by kernel_rfl) (fun _ _ _ h => h) (by kernel_rfl) ?hy48 (by assumption) ?_
                                case hy48 => (intro w hSw; (try dsimp only at hSw); go_simp; try with_reducible rfl)
                                try simp only [Act.put, List.setIfInBounds_toArray, List.set_cons_zero, List.set_cons_succ]
                                refine Take.take (i := 3) (oi := _) (t := 55) (v := ?v49) rfl (by kernel_rfl) (by kernel_rfl) (by kernel_rfl) (by kernel_rfl) (fun _ _ _ h => h) (by kernel_rfl) ?hy49 (by assumption) ?_
                                case hy49 => (intro w hSw; (try dsimp only at hSw); go_simp; try with_reducible rfl)
                                try simp only [Act.put, List.setIfInBounds_toArray, List.set_cons_zero, List.set_cons_succ]
                                refine Take.take (i := 4) (oi := _) (t := 56) (v := ?v50) rfl (by kernel_rfl) (by kernel_rfl) (by kernel_rfl) (by kernel_rfl) (fun _ _ _ h => h) (by kernel_rfl) ?hy50 (by assumption) ?_
                                case hy50 => (intro w hSw; (try dsimp only at hSw); go_simp; try with_reducible rfl)
                                try simp only [Act.put, List.setIfInBounds_toArray, List.set_cons_zero, List.set_cons_succ]
                                refine Take.take (i := 5) (oi := _) (t := 57) (v := ?v51) rfl (by kernel_rfl) (by kernel_rfl) (by kernel_rfl) (by kernel_rfl) (fun _ _ _ h => h) (by kernel_rfl) ?hy51 (by assumption) ?_
                                case hy51 => (intro w hSw; (try dsimp only at hSw); go_simp; try with_reducible rfl)
                                try simp only [Act.put, List.setIfInBounds_toArray, List.set_cons_zero, List.set_cons_succ]
                                refine Take.take (i := 6) (oi := _) (t := 58) (v := ?v52) rfl (by kernel_rfl) (by kernel_rfl) (by kernel_rfl) (by kernel_rfl) (fun _ _ _ h => h) (by kernel_rfl) ?hy52 (by assumption) ?_
                                case hy52 => (intro w hSw; (try dsimp only at hSw); go_simp; try with_reducible rfl)
                                try simp only [Act.put, List.setIfInBounds_toArray, List.set_cons_zero, List.set_cons_succ]
                                refine Take.take (i := 7) (oi := _) (t := 59) (v := ?v53) rfl (by kernel_rfl) (by kernel_rfl) (by kernel_rfl) (by kernel_rfl) (fun _ _ _ h => h) (by kernel_rfl) ?hy53 (by assumption) ?_
                                case hy53 => (intro w hSw; (try dsimp only at hSw); go_simp; try with_reducible rfl)
                                try simp only [Act.put, List.setIfInBounds_toArray, List.set_cons_zero, List.set_cons_succ]
                                refine wpAnyH_ready (rs := [8]) (by kernel_rfl) (by simp) ?_
                                refine AllReadyH.cons (o := _) rfl (fun K hK => ?_) AllReadyH.nil
                                obtain ⟨hB, _⟩ : Below wr.heap.size wr _ ∧ _ := (by assumption)
                                go_simp
                                go_at_call 27
                                refine (refhas_any off ho (j : Int) _).mono ?_
                                rintro e w4 ⟨rfl, hw⟩
                                rw [hw, Hh.out]
                                clear hw w4
                                try dsimp only
                                refine hK.out _ _ ?hS54 (fun hHeld => ?_)
                                case hS54 => (first | exact HS.out _ (by assumption) | (obtain ⟨hB, _⟩ : Below wr.heap.size wr _ ∧ _ := (by assumption); exact HS.out _ (Below.trans hB (Below.mono (by assumption) hB.size))) | (obtain ⟨hB, _⟩ : Below wr.heap.size wr _ ∧ _ := (by assumption); exact HS.out _ hB))
                                clear hB hK K
                                try simp only [Act.put, List.setIfInBounds_toArray, List.set_cons_zero, List.set_cons_succ]
                                refine Take.take (i := 9) (oi := _) (t := 61) (v := ?v55) rfl (by kernel_rfl) (by kernel_rfl) (by kernel_rfl) (by kernel_rfl) (fun _ _ _ h => h) (by kernel_rfl) ?hy55 (by assumption) ?_
                                case hy55 => (intro w hSw; (try dsimp only at hSw); go_simp; try with_reducible rfl)
                                try simp only [Act.put, List.setIfInBounds_toArray, List.set_cons_zero, List.set_cons_succ]
                                refine Take.take (i := 10) (oi := _) (t := 62) (v := ?v56) rfl (by kernel_rfl) (by kernel_rfl) (by kernel_rfl) (by kernel_rfl) (fun _ _ _ h => h) (by kernel_rfl) ?hy56 (by assumption) ?_
                                case hy56 => (intro w hSw; (try dsimp only at hSw); go_simp; try with_reducible rfl)
                                try simp only [Act.put, List.setIfInBounds_toArray, List.set_cons_zero, List.set_cons_succ]
                                refine Take.take (i := 11) (oi := _) (t := 63) (v := ?v57) rfl (by kernel_rfl) (by kernel_rfl) (by kernel_rfl) (by kernel_rfl) (fun _ _ _ h => h) (by kernel_rfl) ?hy57 (by assumption) ?_
                                case hy57 => (intro w hSw; (try dsimp only at hSw); go_simp; try with_reducible rfl)
                                try simp only [Act.put, List.setIfInBounds_toArray, List.set_cons_zero, List.set_cons_succ]
                                refine Take.take (i := 12) (oi := _) (t := 64) (v := ?v58) rfl (by kernel_rfl) (by kernel_rfl) (by kernel_rfl) (by kernel_rfl) (fun _ _ _ h => h) (by kernel_rfl) ?hy58 (by assumption) ?_
                                case hy58 => (intro w hSw; (try dsimp only at hSw); go_simp; try with_reducible rfl)
                                try simp only [Act.put, List.setIfInBounds_toArray, List.set_cons_zero, List.set_cons_succ]
                                refine Take.take (i := 13) (oi := _) (t := 65) (v := ?v59) rfl (by kernel_rfl) (by kernel_rfl) (by kernel_rfl) (by kernel_rfl) (fun _ _ _ h => h) (by kernel_rfl) ?hy59 (by assumption) ?_
                                case hy59 => (intro w hSw; (try dsimp only at hSw); go_simp; try with_reducible rfl)
                                try simp only [Act.put, List.setIfInBounds_toArray, List.set_cons_zero, List.set_cons_succ]
                                refine Take.take (i := 14) (oi := _) (t := 66) (v := ?v60) rfl (by kernel_rfl) (by kernel_rfl) (by kernel_rfl) (by kernel_rfl) (fun _ _ _ h => h) (by kernel_rfl) ?hy60 (by assumption) ?_
                                case hy60 => (intro w hSw; (try dsimp only at hSw); go_simp; try with_reducible rfl)
                                try simp only [Act.put, List.setIfInBounds_toArray, List.set_cons_zero, List.set_cons_succ]
                                refine wpAnyH_ready (rs := [15]) (by kernel_rfl) (by simp) ?_
                                refine AllReadyH.cons (o := _) rfl (fun K hK => ?_) AllReadyH.nil
                                obtain ⟨hB, _⟩ : Below wr.heap.size wr _ ∧ _ := (by assumption)
                                go_simp
                                go_at_call 25
                                refine (HL.out _ hB).mono ?_
                                rintro e w4 ⟨rfl, b4⟩
                                rw [Hl.out]
                                try dsimp only
                                refine hK.out _ _ ?hS61 (fun hHeld => ?_)
                                case hS61 => (first | exact HS.out _ (by assumption) | (obtain ⟨hB, _⟩ : Below wr.heap.size wr _ ∧ _ := (by assumption); exact HS.out _ (Below.trans hB (Below.mono (by assumption) hB.size))) | (obtain ⟨hB, _⟩ : Below wr.heap.size wr _ ∧ _ := (by assumption); exact HS.out _ hB))
                                clear hB hK K
                                try simp only [Act.put, List.setIfInBounds_toArray, List.set_cons_zero, List.set_cons_succ]
                                refine Take.take (i := 16) (oi := _) (t := 68) (v := ?v62) rfl (by kernel_rfl) (by kernel_rfl) (by kernel_rfl) (by kernel_rfl) (fun _ _ _ h => h) (by kernel_rfl) ?hy62 (by assumption) ?_
                                case hy62 => (intro w hSw; (try dsimp only at hSw); go_simp; try with_reducible rfl)
                                try simp only [Act.put, List.setIfInBounds_toArray, List.set_cons_zero, List.set_cons_succ]
                                refine Take.take (i := 17) (oi := _) (t := 69) (v := ?v63) rfl (by kernel_rfl) (by kernel_rfl) (by kernel_rfl) (by kernel_rfl) (fun _ _ _ h => h) (by kernel_rfl) ?hy63 (by assumption) ?_
                                case hy63 => (intro w hSw; (try dsimp only at hSw); go_simp; try with_reducible rfl)
                                try simp only [Act.put, List.setIfInBounds_toArray, List.set_cons_zero, List.set_cons_succ]
                                refine Take.take (i := 18) (oi := _) (t := 70) (v := ?v64) rfl (by kernel_rfl) (by kernel_rfl) (by kernel_rfl) (by kernel_rfl) (fun _ _ _ h => h) (by kernel_rfl) ?hy64 (by assumption) ?_
                                case hy64 => (intro w hSw; (try dsimp only at hSw); go_simp; try with_reducible rfl)
                                try simp only [Act.put, List.setIfInBounds_toArray, List.set_cons_zero, List.set_cons_succ]
                                refine Take.take (i := 19) (oi := _) (t := 71) (v := ?v65) rfl (by kernel_rfl) (by kernel_rfl) (by kernel_rfl) (by kernel_rfl) (fun _ _ _ h => h) (by kernel_rfl) ?hy65 (by assumption) ?_
                                case hy65 => (intro w hSw; (try dsimp only at hSw); go_simp; try with_reducible rfl)
                                try simp only [Act.put, List.setIfInBounds_toArray, List.set_cons_zero, List.set_cons_succ]
                                refine Take.take (i := 20) (oi := _) (t := 72) (v := ?v66) rfl (by kernel_rfl) (by kernel_rfl) (by kernel_rfl) (by kernel_rfl) (fun _ _ _ h => h) (by kernel_rfl) ?hy66 (by assumption) ?_
                                case hy66 => (intro w hSw; (try dsimp only at hSw); go_simp; try with_reducible rfl)
                                try simp only [Act.put, List.setIfInBounds_toArray, List.set_cons_zero, List.set_cons_succ]
                                refine Take.take (i := 21) (oi := _) (t := 73) (v := ?v67) rfl (by kernel_rfl) (by kernel_rfl) (by kernel_rfl) (by kernel_rfl) (fun _ _ _ h => h) (by kernel_rfl) ?hy67 (by assumption) ?_
                                case hy67 => (intro w hSw; (try dsimp only at hSw); go_simp; try with_reducible rfl)
                                try simp only [Act.put, List.setIfInBounds_toArray, List.set_cons_zero, List.set_cons_succ]
                                refine Take.take (i := 22) (oi := _) (t := 74) (v := ?v68) rfl (by kernel_rfl) (by kernel_rfl) (by kernel_rfl) (by kernel_rfl) (fun _ _ _ h => h) (by kernel_rfl) ?hy68 (by assumption) ?_
                                case hy68 => (intro w hSw; (try dsimp only at hSw); go_simp; try with_reducible rfl)
                                try simp only [Act.put, List.setIfInBounds_toArray, List.set_cons_zero, List.set_cons_succ]
                                refine Take.take (i := 23) (oi := _) (t := 75) (v := ?v69) rfl (by kernel_rfl) (by kernel_rfl) (by kernel_rfl) (by kernel_rfl) (fun _ _ _ h => h) (by kernel_rfl) ?hy69 (by assumption) ?_
                                case hy69 => (intro w hSw; (try dsimp only at hSw); go_simp; try with_reducible rfl)
                                try simp only [Act.put, List.setIfInBounds_toArray, List.set_cons_zero, List.set_cons_succ]
                                refine Take.take (i := 24) (oi := _) (t := 76) (v := ?v70) rfl (by kernel_rfl) (by kernel_rfl) (by kernel_rfl) (by kernel_rfl) (fun _ _ _ h => h) (by kernel_rfl) ?hy70 (by assumption) ?_
                                case hy70 => (intro w hSw; (try dsimp only at hSw); go_simp; try with_reducible rfl)
                                try simp only [Act.put, List.setIfInBounds_toArray, List.set_cons_zero, List.set_cons_succ]
                                refine Take.take (i := 25) (oi := _) (t := 77) (v := ?v71) rfl (by kernel_rfl) (by kernel_rfl) (by kernel_rfl) (by kernel_rfl) (fun _ _ _ h => h) (by kernel_rfl) ?hy71 (by assumption) ?_
                                case hy71 => (intro w hSw; (try dsimp only at hSw); go_simp; try with_reducible rfl)
                                try simp only [Act.put, List.setIfInBounds_toArray, List.set_cons_zero, List.set_cons_succ]
                                refine Take.take (i := 26) (oi := _) (t := 78) (v := ?v72) rfl (by kernel_rfl) (by kernel_rfl) (by kernel_rfl) (by kernel_rfl) (fun _ _ _ h => h) (by kernel_rfl) ?hy72 (by assumption) ?_
                                case hy72 => (intro w hSw; (try dsimp only at hSw); go_simp; try with_reducible rfl)
                                try simp only [Act.put, List.setIfInBounds_toArray, List.set_cons_zero, List.set_cons_succ]
                                refine Take.take (i := 27) (oi := _) (t := 79) (v := ?v73) rfl (by kernel_rfl) (by kernel_rfl) (by kernel_rfl) (by kernel_rfl) (fun _ _ _ h => h) (by kernel_rfl) ?hy73 (by assumption) ?_
                                case hy73 => (intro w hSw; (try dsimp only at hSw); go_simp; try with_reducible rfl)
                                try simp only [Act.put, List.setIfInBounds_toArray, List.set_cons_zero, List.set_cons_succ]
                                refine Take.take (i := 28) (oi := _) (t := 80) (v := ?v74) rfl (by kernel_rfl) (by kernel_rfl) (by kernel_rfl) (by kernel_rfl) (fun _ _ _ h => h) (by kernel_rfl) ?hy74 (by assumption) ?_
                                case hy74 => (intro w hSw; (try dsimp only at hSw); go_simp; try with_reducible rfl)
                                try simp only [Act.put, List.setIfInBounds_toArray, List.set_cons_zero, List.set_cons_succ]
                                refine Take.take (i := 29) (oi := _) (t := 81) (v := ?v75) rfl (by kernel_rfl) (by kernel_rfl) (by kernel_rfl) (by kernel_rfl) (fun _ _ _ h => h) (by kernel_rfl) ?hy75 (by assumption) ?_
                                case hy75 => (intro w hSw; (try dsimp only at hSw); go_simp; try with_reducible rfl)
                                try simp only [Act.put, List.setIfInBounds_toArray, List.set_cons_zero, List.set_cons_succ]
                                refine Take.take (i := 30) (oi := _) (t := 82) (v := ?v76) rfl (by kernel_rfl) (by kernel_rfl) (by kernel_rfl) (by kernel_rfl) (fun _ _ _ h => h) (by kernel_rfl) ?hy76 (by assumption) ?_
                                case hy76 => (intro w hSw; (try dsimp only at hSw); go_simp; try with_reducible rfl)
                                try simp only [Act.put, List.setIfInBounds_toArray, List.set_cons_zero, List.set_cons_succ]
                                refine Take.take (i := 31) (oi := _) (t := 83) (v := ?v77) rfl (by kernel_rfl) (by kernel_rfl) (by kernel_rfl) (by kernel_rfl) (fun _ _ _ h => h) (by kernel_rfl) ?hy77 (by assumption) ?_
                                case hy77 => (intro w hSw; (try dsimp only at hSw); go_simp; try with_reducible rfl)
                                try simp only [Act.put, List.setIfInBounds_toArray, List.set_cons_zero, List.set_cons_succ]
                                refine Take.take (i := 32) (oi := _) (t := 84) (v := ?v78) rfl (by kernel_rfl) (by kernel_rfl) (by kernel_rfl) (by kernel_rfl) (fun _ _ _ h => h) (by kernel_rfl) ?hy78 (by assumption) ?_
                                case hy78 => (intro w hSw; (try dsimp only at hSw); go_simp; try with_reducible rfl)
                                try simp only [Act.put, List.setIfInBounds_toArray, List.set_cons_zero, List.set_cons_succ]
                                refine Take.take (i := 33) (oi := _) (t := 85) (v := ?v79) rfl (by kernel_rfl) (by kernel_rfl) (by kernel_rfl) (by kernel_rfl) (fun _ _ _ h => h) (by kernel_rfl) ?hy79 (by assumption) ?_
                                case hy79 => (intro w hSw; (try dsimp only at hSw); go_simp; try with_reducible rfl)
                                try simp only [Act.put, List.setIfInBounds_toArray, List.set_cons_zero, List.set_cons_succ]
                                refine Take.take (i := 34) (oi := _) (t := 86) (v := ?v80) rfl (by kernel_rfl) (by kernel_rfl) (by kernel_rfl) (by kernel_rfl) (fun _ _ _ h => h) (by kernel_rfl) ?hy80 (by assumption) ?_
                                case hy80 => (intro w hSw; (try dsimp only at hSw); go_simp; try with_reducible rfl)
                                try simp only [Act.put, List.setIfInBounds_toArray, List.set_cons_zero, List.set_cons_succ]
                                refine Take.take (i := 35) (oi := _) (t := 87) (v := ?v81) rfl (by kernel_rfl) (by kernel_rfl) (by kernel_rfl) (by kernel_rfl) (fun _ _ _ h => h) (by kernel_rfl) ?hy81 (by assumption) ?_
                                case hy81 => (intro w hSw; (try dsimp only at hSw); go_simp; try with_reducible rfl)
                                try simp only [Act.put, List.setIfInBounds_toArray, List.set_cons_zero, List.set_cons_succ]
                                refine wpAnyH_done (by kernel_rfl) ?_ _
                                refine NoPanic.normal ?_
                                go_wp2_with fail
                                go_meet
                                obtain ⟨hB, _⟩ : Below wr.heap.size wr _ ∧ _ := (by assumption)
                                exact ⟨by rw [hb], Lib.hid hB⟩
                              · have hb : bet near off d k j = false := by rw [Hbet.out]; simp [hy0, hxy]
                                refine wp_region_noPanic ?_
                                refine wp_region_held_drew (S := fun w' => Below wr.heap.size wr w' ∧ w'.cell? ⟨w.heap.size, 0, none⟩ = some (.int .i64 (n : Nat)) ∧ w'.cell? ⟨w.heap.size, 1, none⟩ = some (.slice la L.length lc) ∧ w'.cell? ⟨g, k, none⟩ = some (.int .i64 x) ∧ w'.cell? ⟨g, j, none⟩ = some (.int .i64 y)) (by kernel_rfl) (HS.out _ (Below.refl _ _).drew) (fun hHeld => ?_)
                                refine Take.take (i := 0) (oi := _) (t := 52) (v := ?v82) rfl (by kernel_rfl) (by kernel_rfl) (by kernel_rfl) (by kernel_rfl) (fun _ _ _ h => h) (by kernel_rfl) ?hy82 (by assumption) ?_
                                case hy82 => (intro w hSw; (try dsimp only at hSw); go_simp; try with_reducible rfl)
                                try simp only [Act.put, List.setIfInBounds_toArray, List.set_cons_zero, List.set_cons_succ]
                                refine Take.take (i := 1) (oi := _) (t := 53) (v := ?v83) rfl (by kernel_rfl) (by kernel_rfl) (by kernel_rfl) (by kernel_rfl) (fun _ _ _ h => h) (by kernel_rfl) ?hy83 (by assumption) ?_
                                case hy83 => (intro w hSw; (try dsimp only at hSw); go_simp; try with_reducible rfl)
                                try simp only [Act.put, List.setIfInBounds_toArray, List.set_cons_zero, List.set_cons_succ]
                                refine Take.take (i := 2) (oi := _) (t := 54) (v := ?v84) rfl (by kernel_rfl) (by kernel_rfl) (by kernel_rfl) (by kernel_rfl) (fun _ _ _ h => h) (by kernel_rfl) ?hy84 (by assumption) ?_
                                case hy84 => (intro w hSw; (try dsimp only at hSw); go_simp; try with_reducible rfl)
                                try simp only [Act.put, List.setIfInBounds_toArray, List.set_cons_zero, List.set_cons_succ]
                                refine Take.take (i := 3) (oi := _) (t := 55) (v := ?v85) rfl (by kernel_rfl) (by kernel_rfl) (by kernel_rfl) (by kernel_rfl) (fun _ _ _ h => h) (by kernel_rfl) ?hy85 (by assumption) ?_
                                case hy85 => (intro w hSw; (try dsimp only at hSw); go_simp; try with_reducible rfl)
                                try simp only [Act.put, List.setIfInBounds_toArray, List.set_cons_zero, List.set_cons_succ]
                                refine Take.take (i := 4) (oi := _) (t := 56) (v := ?v86) rfl (by kernel_rfl) (by kernel_rfl) (by kernel_rfl) (by kernel_rfl) (fun _ _ _ h => h) (by kernel_rfl) ?hy86 (by assumption) ?_
                                case hy86 => (intro w hSw; (try dsimp only at hSw); go_simp; try with_reducible rfl)
                                try simp only [Act.put, List.setIfInBounds_toArray, List.set_cons_zero, List.set_cons_succ]
                                refine Take.take (i := 5) (oi := _) (t := 57) (v := ?v87) rfl (by kernel_rfl) (by kernel_rfl) (by kernel_rfl) (by kernel_rfl) (fun _ _ _ h => h) (by kernel_rfl) ?hy87 (by assumption) ?_
                                case hy87 => (intro w hSw; (try dsimp only at hSw); go_simp; try with_reducible rfl)
                                try simp only [Act.put, List.setIfInBounds_toArray, List.set_cons_zero, List.set_cons_succ]
                                refine Take.take (i := 6) (oi := _) (t := 58) (v := ?v88) rfl (by kernel_rfl) (by kernel_rfl) (by kernel_rfl) (by kernel_rfl) (fun _ _ _ h => h) (by kernel_rfl) ?hy88 (by assumption) ?_
                                case hy88 => (intro w hSw; (try dsimp only at hSw); go_simp; try with_reducible rfl)
                                try simp only [Act.put, List.setIfInBounds_toArray, List.set_cons_zero, List.set_cons_succ]
                                refine Take.take (i := 7) (oi := _) (t := 59) (v := ?v89) rfl (by kernel_rfl) (by kernel_rfl) (by kernel_rfl) (by kernel_rfl) (fun _ _ _ h => h) (by kernel_rfl) ?hy89 (by assumption) ?_
                                case hy89 => (intro w hSw; (try dsimp only at hSw); go_simp; try with_reducible rfl)
                                try simp only [Act.put, List.setIfInBounds_toArray, List.set_cons_zero, List.set_cons_succ]
                                refine wpAnyH_ready (rs := [8]) (by kernel_rfl) (by simp) ?_
                                refine AllReadyH.cons (o := _) rfl (fun K hK => ?_) AllReadyH.nil
                                obtain ⟨hB, _⟩ : Below wr.heap.size wr _ ∧ _ := (by assumption)
                                go_simp
                                go_at_call 27
                                refine (refhas_any off ho (j : Int) _).mono ?_
                                rintro e w4 ⟨rfl, hw⟩
                                rw [hw, Hh.out]
                                clear hw w4
                                try dsimp only
                                refine hK.out _ _ ?hS90 (fun hHeld => ?_)
                                case hS90 => (first | exact HS.out _ (by assumption) | (obtain ⟨hB, _⟩ : Below wr.heap.size wr _ ∧ _ := (by assumption); exact HS.out _ (Below.trans hB (Below.mono (by assumption) hB.size))) | (obtain ⟨hB, _⟩ : Below wr.heap.size wr _ ∧ _ := (by assumption); exact HS.out _ hB))
                                clear hB hK K
                                try simp only [Act.put, List.setIfInBounds_toArray, List.set_cons_zero, List.set_cons_succ]
                                refine Take.take (i := 9) (oi := _) (t := 61) (v := ?v91) rfl (by kernel_rfl) (by kernel_rfl) (by kernel_rfl) (by kernel_rfl) (fun _ _ _ h => h) (by kernel_rfl) ?hy91 (by assumption) ?_
                                case hy91 => (intro w hSw; (try dsimp only at hSw); go_simp; try with_reducible rfl)
                                try simp only [Act.put, List.setIfInBounds_toArray, List.set_cons_zero, List.set_cons_succ]
                                refine Take.take (i := 10) (oi := _) (t := 62) (v := ?v92) rfl (by kernel_rfl) (by kernel_rfl) (by kernel_rfl) (by kernel_rfl) (fun _ _ _ h => h) (by kernel_rfl) ?hy92 (by assumption) ?_
                                case hy92 => (intro w hSw; (try dsimp only at hSw); go_simp; try with_reducible rfl)
                                try simp only [Act.put, List.setIfInBounds_toArray, List.set_cons_zero, List.set_cons_succ]
                                refine Take.take (i := 11) (oi := _) (t := 63) (v := ?v93) rfl (by kernel_rfl) (by kernel_rfl) (by kernel_rfl) (by kernel_rfl) (fun _ _ _ h => h) (by kernel_rfl) ?hy93 (by assumption) ?_
                                case hy93 => (intro w hSw; (try dsimp only at hSw); go_simp; try with_reducible rfl)
                                try simp only [Act.put, List.setIfInBounds_toArray, List.set_cons_zero, List.set_cons_succ]
                                refine Take.take (i := 12) (oi := _) (t := 64) (v := ?v94) rfl (by kernel_rfl) (by kernel_rfl) (by kernel_rfl) (by kernel_rfl) (fun _ _ _ h => h) (by kernel_rfl) ?hy94 (by assumption) ?_
                                case hy94 => (intro w hSw; (try dsimp only at hSw); go_simp; try with_reducible rfl)
                                try simp only [Act.put, List.setIfInBounds_toArray, List.set_cons_zero, List.set_cons_succ]
                                refine Take.take (i := 13) (oi := _) (t := 65) (v := ?v95) rfl (by kernel_rfl) (by kernel_rfl) (by kernel_rfl) (by kernel_rfl) (fun _ _ _ h => h) (by kernel_rfl) ?hy95 (by assumption) ?_
                                case hy95 => (intro w hSw; (try dsimp only at hSw); go_simp; try with_reducible rfl)
                                try simp only [Act.put, List.setIfInBounds_toArray, List.set_cons_zero, List.set_cons_succ]
                                refine Take.take (i := 14) (oi := _) (t := 66) (v := ?v96) rfl (by kernel_rfl) (by kernel_rfl) (by kernel_rfl) (by kernel_rfl) (fun _ _ _ h => h) (by kernel_rfl) ?hy96 (by assumption) ?_
                                case hy96 => (intro w hSw; (try dsimp only at hSw); go_simp; try with_reducible rfl)
                                try simp only [Act.put, List.setIfInBounds_toArray, List.set_cons_zero, List.set_cons_succ]
                                refine wpAnyH_ready (rs := [15]) (by kernel_rfl) (by simp) ?_
                                refine AllReadyH.cons (o := _) rfl (fun K hK => ?_) AllReadyH.nil
                                obtain ⟨hB, _⟩ : Below wr.heap.size wr _ ∧ _ := (by assumption)
                                go_simp
                                go_at_call 25
                                refine (HL.out _ hB).mono ?_
                                rintro e w4 ⟨rfl, b4⟩
                                rw [Hl.out]
                                try dsimp only
                                refine hK.out _ _ ?hS97 (fun hHeld => ?_)
                                case hS97 => (first | exact HS.out _ (by assumption) | (obtain ⟨hB, _⟩ : Below wr.heap.size wr _ ∧ _ := (by assumption); exact HS.out _ (Below.trans hB (Below.mono (by assumption) hB.size))) | (obtain ⟨hB, _⟩ : Below wr.heap.size wr _ ∧ _ := (by assumption); exact HS.out _ hB))
                                clear hB hK K
                                try simp only [Act.put, List.setIfInBounds_toArray, List.set_cons_zero, List.set_cons_succ]
                                refine Take.take (i := 16) (oi := _) (t := 68) (v := ?v98) rfl (by kernel_rfl) (by kernel_rfl) (by kernel_rfl) (by kernel_rfl) (fun _ _ _ h => h) (by kernel_rfl) ?hy98 (by assumption) ?_
                                case hy98 => (intro w hSw; (try dsimp only at hSw); go_simp; try with_reducible rfl)
                                try simp only [Act.put, List.setIfInBounds_toArray, List.set_cons_zero, List.set_cons_succ]
                                refine Take.take (i := 17) (oi := _) (t := 69) (v := ?v99) rfl (by kernel_rfl) (by kernel_rfl) (by kernel_rfl) (by kernel_rfl) (fun _ _ _ h => h) (by kernel_rfl) ?hy99 (by assumption) ?_
                                case hy99 => (intro w hSw; (try dsimp only at hSw); go_simp; try with_reducible rfl)
                                try simp only [Act.put, List.setIfInBounds_toArray, List.set_cons_zero, List.set_cons_succ]
                                refine Take.take (i := 18) (oi := _) (t := 70) (v := ?v100) rfl (by kernel_rfl) (by kernel_rfl) (by kernel_rfl) (by kernel_rfl) (fun _ _ _ h => h) (by kernel_rfl) ?hy100 (by assumption) ?_
                                case hy100 => (intro w hSw; (try dsimp only at hSw); go_simp; try with_reducible rfl)
                                try simp only [Act.put, List.setIfInBounds_toArray, List.set_cons_zero, List.set_cons_succ]
                                refine Take.take (i := 19) (oi := _) (t := 71) (v := ?v101) rfl (by kernel_rfl) (by kernel_rfl) (by kernel_rfl) (by kernel_rfl) (fun _ _ _ h => h) (by kernel_rfl) ?hy101 (by assumption) ?_
                                case hy101 => (intro w hSw; (try dsimp only at hSw); go_simp; try with_reducible rfl)
                                try simp only [Act.put, List.setIfInBounds_toArray, List.set_cons_zero, List.set_cons_succ]
                                refine Take.take (i := 20) (oi := _) (t := 72) (v := ?v102) rfl (by kernel_rfl) (by kernel_rfl) (by kernel_rfl) (by kernel_rfl) (fun _ _ _ h => h) (by kernel_rfl) ?hy102 (by assumption) ?_
                                case hy102 => (intro w hSw; (try dsimp only at hSw); go_simp; try with_reducible rfl)
                                try simp only [Act.put, List.setIfInBounds_toArray, List.set_cons_zero, List.set_cons_succ]
                                refine Take.take (i := 21) (oi := _) (t := 73) (v := ?v103) rfl (by kernel_rfl) (by kernel_rfl) (by kernel_rfl) (by kernel_rfl) (fun _ _ _ h => h) (by kernel_rfl) ?hy103 (by assumption) ?_
                                case hy103 => (intro w hSw; (try dsimp only at hSw); go_simp; try with_reducible rfl)
                                try simp only [Act.put, List.setIfInBounds_toArray, List.set_cons_zero, List.set_cons_succ]
                                refine Take.take (i := 22) (oi := _) (t := 74) (v := ?v104) rfl (by kernel_rfl) (by kernel_rfl) (by kernel_rfl) (by kernel_rfl) (fun _ _ _ h => h) (by kernel_rfl) ?hy104 (by assumption) ?_
                                case hy104 => (intro w hSw; (try dsimp only at hSw); go_simp; try with_reducible rfl)
                                try simp only [Act.put, List.setIfInBounds_toArray, List.set_cons_zero, List.set_cons_succ]
                                refine Take.take (i := 23) (oi := _) (t := 75) (v := ?v105) rfl (by kernel_rfl) (by kernel_rfl) (by kernel_rfl) (by kernel_rfl) (fun _ _ _ h => h) (by kernel_rfl) ?hy105 (by assumption) ?_
                                case hy105 => (intro w hSw; (try dsimp only at hSw); go_simp; try with_reducible rfl)
                                try simp only [Act.put, List.setIfInBounds_toArray, List.set_cons_zero, List.set_cons_succ]
                                refine Take.take (i := 24) (oi := _) (t := 76) (v := ?v106) rfl (by kernel_rfl) (by kernel_rfl) (by kernel_rfl) (by kernel_rfl) (fun _ _ _ h => h) (by kernel_rfl) ?hy106 (by assumption) ?_
                                case hy106 => (intro w hSw; (try dsimp only at hSw); go_simp; try with_reducible rfl)
                                try simp only [Act.put, List.setIfInBounds_toArray, List.set_cons_zero, List.set_cons_succ]
                                refine Take.take (i := 25) (oi := _) (t := 77) (v := ?v107) rfl (by kernel_rfl) (by kernel_rfl) (by kernel_rfl) (by kernel_rfl) (fun _ _ _ h => h) (by kernel_rfl) ?hy107 (by assumption) ?_
                                case hy107 => (intro w hSw; (try dsimp only at hSw); go_simp; try with_reducible rfl)
                                try simp only [Act.put, List.setIfInBounds_toArray, List.set_cons_zero, List.set_cons_succ]
                                refine Take.take (i := 26) (oi := _) (t := 78) (v := ?v108) rfl (by kernel_rfl) (by kernel_rfl) (by kernel_rfl) (by kernel_rfl) (fun _ _ _ h => h) (by kernel_rfl) ?hy108 (by assumption) ?_
                                case hy108 => (intro w hSw; (try dsimp only at hSw); go_simp; try with_reducible rfl)
                                try simp only [Act.put, List.setIfInBounds_toArray, List.set_cons_zero, List.set_cons_succ]
                                refine Take.take (i := 27) (oi := _) (t := 79) (v := ?v109) rfl (by kernel_rfl) (by kernel_rfl) (by kernel_rfl) (by kernel_rfl) (fun _ _ _ h => h) (by kernel_rfl) ?hy109 (by assumption) ?_
                                case hy109 => (intro w hSw; (try dsimp only at hSw); go_simp; try with_reducible rfl)
                                try simp only [Act.put, List.setIfInBounds_toArray, List.set_cons_zero, List.set_cons_succ]
                                refine Take.take (i := 28) (oi := _) (t := 80) (v := ?v110) rfl (by kernel_rfl) (by kernel_rfl) (by kernel_rfl) (by kernel_rfl) (fun _ _ _ h => h) (by kernel_rfl) ?hy110 (by assumption) ?_
                                case hy110 => (intro w hSw; (try dsimp only at hSw); go_simp; try with_reducible rfl)
                                try simp only [Act.put, List.setIfInBounds_toArray, List.set_cons_zero, List.set_cons_succ]
                                refine Take.take (i := 29) (oi := _) (t := 81) (v := ?v111) rfl (by kernel_rfl) (by kernel_rfl) (by kernel_rfl) (by kernel_rfl) (fun _ _ _ h => h) (by kernel_rfl) ?hy111 (by assumption) ?_
                                case hy111 => (intro w hSw; (try dsimp only at hSw); go_simp; try with_reducible rfl)
                                try simp only [Act.put, List.setIfInBounds_toArray, List.set_cons_zero, List.set_cons_succ]
                                refine Take.take (i := 30) (oi := _) (t := 82) (v := ?v112) rfl (by kernel_rfl) (by kernel_rfl) (by kernel_rfl) (by kernel_rfl) (fun _ _ _ h => h) (by kernel_rfl) ?hy112 (by assumption) ?_
                                case hy112 => (intro w hSw; (try dsimp only at hSw); go_simp; try with_reducible rfl)
                                try simp only [Act.put, List.setIfInBounds_toArray, List.set_cons_zero, List.set_cons_succ]
                                refine Take.take (i := 31) (oi := _) (t := 83) (v := ?v113) rfl (by kernel_rfl) (by kernel_rfl) (by kernel_rfl) (by kernel_rfl) (fun _ _ _ h => h) (by kernel_rfl) ?hy113 (by assumption) ?_
                                case hy113 => (intro w hSw; (try dsimp only at hSw); go_simp; try with_reducible rfl)
                                try simp only [Act.put, List.setIfInBounds_toArray, List.set_cons_zero, List.set_cons_succ]
                                refine Take.take (i := 32) (oi := _) (t := 84) (v := ?v114) rfl (by kernel_rfl) (by kernel_rfl) (by kernel_rfl) (by kernel_rfl) (fun _ _ _ h => h) (by kernel_rfl) ?hy114 (by assumption) ?_
                                case hy114 => (intro w hSw; (try dsimp only at hSw); go_simp; try with_reducible rfl)
                                try simp only [Act.put, List.setIfInBounds_toArray, List.set_cons_zero, List.set_cons_succ]
                                refine Take.take (i := 33) (oi := _) (t := 85) (v := ?v115) rfl (by kernel_rfl) (by kernel_rfl) (by kernel_rfl) (by kernel_rfl) (fun _ _ _ h => h) (by kernel_rfl) ?hy115 (by assumption) ?_
                                case hy115 => (intro w hSw; (try dsimp only at hSw); go_simp; try with_reducible rfl)
                                try simp only [Act.put, List.setIfInBounds_toArray, List.set_cons_zero, List.set_cons_succ]
                                refine Take.take (i := 34) (oi := _) (t := 86) (v := ?v116) rfl (by kernel_rfl) (by kernel_rfl) (by kernel_rfl) (by kernel_rfl) (fun _ _ _ h => h) (by kernel_rfl) ?hy116 (by assumption) ?_
                                case hy116 => (intro w hSw; (try dsimp only at hSw); go_simp; try with_reducible rfl)
                                try simp only [Act.put, List.setIfInBounds_toArray, List.set_cons_zero, List.set_cons_succ]
                                refine Take.take (i := 35) (oi := _) (t := 87) (v := ?v117) rfl (by kernel_rfl) (by kernel_rfl) (by kernel_rfl) (by kernel_rfl) (fun _ _ _ h => h) (by kernel_rfl) ?hy117 (by assumption) ?_
                                case hy117 => (intro w hSw; (try dsimp only at hSw); go_simp; try with_reducible rfl)
                                try simp only [Act.put, List.setIfInBounds_toArray, List.set_cons_zero, List.set_cons_succ]
                                refine wpAnyH_done (by kernel_rfl) ?_ _
                                refine NoPanic.normal ?_
                                go_wp2_with fail
                                go_meet
                                obtain ⟨hB, _⟩ : Below wr.heap.size wr _ ∧ _ := (by assumption)
                                exact ⟨by rw [hb], Lib.hid hB⟩
                        · have hb : bet near off d k j = false := by rw [Hbet.out]; simp
                          refine wp_region_noPanic ?_
                          refine wp_region_held_drew (S := fun w' => Below wr.heap.size wr w' ∧ w'.cell? ⟨w.heap.size, 0, none⟩ = some (.int .i64 (n : Nat)) ∧ w'.cell? ⟨w.heap.size, 1, none⟩ = some (.slice la L.length lc) ∧ w'.cell? ⟨g, k, none⟩ = some (.int .i64 x) ∧ w'.cell? ⟨g, j, none⟩ = some (.int .i64 y)) (by kernel_rfl) (HS.out _ (Below.refl _ _).drew) (fun hHeld => ?_)
                          refine Take.take (i := 0) (oi := _) (t := 52) (v := ?v118) rfl (by kernel_rfl) (by kernel_rfl) (by kernel_rfl) (by kernel_rfl) (fun _ _ _ h => h) (by kernel_rfl) ?hy118 (by assumption) ?_
                          case hy118 => (intro w hSw; (try dsimp only at hSw); go_simp; try with_reducible rfl)
                          try simp only [Act.put, List.setIfInBounds_toArray, List.set_cons_zero, List.set_cons_succ]
                          refine Take.take (i := 1) (oi := _) (t := 53) (v := ?v119) rfl (by kernel_rfl) (by kernel_rfl) (by kernel_rfl) (by kernel_rfl) (fun _ _ _ h => h) (by kernel_rfl) ?hy119 (by assumption) ?_
                          case hy119 => (intro w hSw; (try dsimp only at hSw); go_simp; try with_reducible rfl)
                          try simp only [Act.put, List.setIfInBounds_toArray, List.set_cons_zero, List.set_cons_succ]
                          refine Take.take (i := 2) (oi := _) (t := 54) (v := ?v120) rfl (by kernel_rfl) (by kernel_rfl) (by kernel_rfl) (by kernel_rfl) (fun _ _ _ h => h) (by kernel_rfl) ?hy120 (by assumption) ?_
                          case hy120 => (intro w hSw; (try dsimp only at hSw); go_simp; try with_reducible rfl)
                          try simp only [Act.put, List.setIfInBounds_toArray, List.set_cons_zero, List.set_cons_succ]
                          refine Take.take (i := 3) (oi := _) (t := 55) (v := ?v121) rfl (by kernel_rfl) (by kernel_rfl) (by kernel_rfl) (by kernel_rfl) (fun _ _ _ h => h) (by kernel_rfl) ?hy121 (by assumption) ?_
                          case hy121 => (intro w hSw; (try dsimp only at hSw); go_simp; try with_reducible rfl)
                          try simp only [Act.put, List.setIfInBounds_toArray, List.set_cons_zero, List.set_cons_succ]
                          refine Take.take (i := 4) (oi := _) (t := 56) (v := ?v122) rfl (by kernel_rfl) (by kernel_rfl) (by kernel_rfl) (by kernel_rfl) (fun _ _ _ h => h) (by kernel_rfl) ?hy122 (by assumption) ?_
                          case hy122 => (intro w hSw; (try dsimp only at hSw); go_simp; try with_reducible rfl)
                          try simp only [Act.put, List.setIfInBounds_toArray, List.set_cons_zero, List.set_cons_succ]
                          refine Take.take (i := 5) (oi := _) (t := 57) (v := ?v123) rfl (by kernel_rfl) (by kernel_rfl) (by kernel_rfl) (by kernel_rfl) (fun _ _ _ h => h) (by kernel_rfl) ?hy123 (by assumption) ?_
                          case hy123 => (intro w hSw; (try dsimp only at hSw); go_simp; try with_reducible rfl)
                          try simp only [Act.put, List.setIfInBounds_toArray, List.set_cons_zero, List.set_cons_succ]
                          refine Take.take (i := 6) (oi := _) (t := 58) (v := ?v124) rfl (by kernel_rfl) (by kernel_rfl) (by kernel_rfl) (by kernel_rfl) (fun _ _ _ h => h) (by kernel_rfl) ?hy124 (by assumption) ?_
                          case hy124 => (intro w hSw; (try dsimp only at hSw); go_simp; try with_reducible rfl)
                          try simp only [Act.put, List.setIfInBounds_toArray, List.set_cons_zero, List.set_cons_succ]
                          refine Take.take (i := 7) (oi := _) (t := 59) (v := ?v125) rfl (by kernel_rfl) (by kernel_rfl) (by kernel_rfl) (by kernel_rfl) (fun _ _ _ h => h) (by kernel_rfl) ?hy125 (by assumption) ?_
                          case hy125 => (intro w hSw; (try dsimp only at hSw); go_simp; try with_reducible rfl)
                          try simp only [Act.put, List.setIfInBounds_toArray, List.set_cons_zero, List.set_cons_succ]
                          refine wpAnyH_ready (rs := [8]) (by kernel_rfl) (by simp) ?_
                          refine AllReadyH.cons (o := _) rfl (fun K hK => ?_) AllReadyH.nil
                          obtain ⟨hB, _⟩ : Below wr.heap.size wr _ ∧ _ := (by assumption)
                          go_simp
                          go_at_call 27
                          refine (refhas_any off ho (j : Int) _).mono ?_
                          rintro e w4 ⟨rfl, hw⟩
                          rw [hw, Hh.out]
                          clear hw w4
                          try dsimp only
                          refine hK.out _ _ ?hS126 (fun hHeld => ?_)
                          case hS126 => (first | exact HS.out _ (by assumption) | (obtain ⟨hB, _⟩ : Below wr.heap.size wr _ ∧ _ := (by assumption); exact HS.out _ (Below.trans hB (Below.mono (by assumption) hB.size))) | (obtain ⟨hB, _⟩ : Below wr.heap.size wr _ ∧ _ := (by assumption); exact HS.out _ hB))
                          clear hB hK K
                          try simp only [Act.put, List.setIfInBounds_toArray, List.set_cons_zero, List.set_cons_succ]
                          refine Take.take (i := 9) (oi := _) (t := 61) (v := ?v127) rfl (by kernel_rfl) (by kernel_rfl) (by kernel_rfl) (by kernel_rfl) (fun _ _ _ h => h) (by kernel_rfl) ?hy127 (by assumption) ?_
                          case hy127 => (intro w hSw; (try dsimp only at hSw); go_simp; try with_reducible rfl)
                          try simp only [Act.put, List.setIfInBounds_toArray, List.set_cons_zero, List.set_cons_succ]
                          refine Take.take (i := 10) (oi := _) (t := 62) (v := ?v128) rfl (by kernel_rfl) (by kernel_rfl) (by kernel_rfl) (by kernel_rfl) (fun _ _ _ h => h) (by kernel_rfl) ?hy128 (by assumption) ?_
                          case hy128 => (intro w hSw; (try dsimp only at hSw); go_simp; try with_reducible rfl)
                          try simp only [Act.put, List.setIfInBounds_toArray, List.set_cons_zero, List.set_cons_succ]
                          refine Take.take (i := 11) (oi := _) (t := 63) (v := ?v129) rfl (by kernel_rfl) (by kernel_rfl) (by kernel_rfl) (by kernel_rfl) (fun _ _ _ h => h) (by kernel_rfl) ?hy129 (by assumption) ?_
                          case hy129 => (intro w hSw; (try dsimp only at hSw); go_simp; try with_reducible rfl)
                          try simp only [Act.put, List.setIfInBounds_toArray, List.set_cons_zero, List.set_cons_succ]
                          refine Take.skip (i := 12) (t := 64) (g := 11) (b := true) (by kernel_rfl) (by kernel_rfl) (by kernel_rfl) (by kernel_rfl) (fun _ _ _ h => h) (by kernel_rfl) (by assumption) ?_
                          try simp only [Act.put, List.setIfInBounds_toArray, List.set_cons_zero, List.set_cons_succ]
                          refine Take.skip (i := 13) (t := 65) (g := 11) (b := true) (by kernel_rfl) (by kernel_rfl) (by kernel_rfl) (by kernel_rfl) (fun _ _ _ h => h) (by kernel_rfl) (by assumption) ?_
                          try simp only [Act.put, List.setIfInBounds_toArray, List.set_cons_zero, List.set_cons_succ]
                          refine Take.skip (i := 14) (t := 66) (g := 11) (b := true) (by kernel_rfl) (by kernel_rfl) (by kernel_rfl) (by kernel_rfl) (fun _ _ _ h => h) (by kernel_rfl) (by assumption) ?_
                          try simp only [Act.put, List.setIfInBounds_toArray, List.set_cons_zero, List.set_cons_succ]
                          refine Take.skip (i := 15) (t := 67) (g := 11) (b := true) (by kernel_rfl) (by kernel_rfl) (by kernel_rfl) (by kernel_rfl) (fun _ _ _ h => h) (by kernel_rfl) (by assumption) ?_
                          try simp only [Act.put, List.setIfInBounds_toArray, List.set_cons_zero, List.set_cons_succ]
                          refine Take.take (i := 16) (oi := _) (t := 68) (v := ?v130) rfl (by kernel_rfl) (by kernel_rfl) (by kernel_rfl) (by kernel_rfl) (fun _ _ _ h => h) (by kernel_rfl) ?hy130 (by assumption) ?_
                          case hy130 => (intro w hSw; (try dsimp only at hSw); go_simp; try with_reducible rfl)
                          try simp only [Act.put, List.setIfInBounds_toArray, List.set_cons_zero, List.set_cons_succ]
                          refine Take.take (i := 17) (oi := _) (t := 69) (v := ?v131) rfl (by kernel_rfl) (by kernel_rfl) (by kernel_rfl) (by kernel_rfl) (fun _ _ _ h => h) (by kernel_rfl) ?hy131 (by assumption) ?_
                          case hy131 => (intro w hSw; (try dsimp only at hSw); go_simp; try with_reducible rfl)
                          try simp only [Act.put, List.setIfInBounds_toArray, List.set_cons_zero, List.set_cons_succ]
                          refine Take.skip (i := 18) (t := 70) (g := 17) (b := true) (by kernel_rfl) (by kernel_rfl) (by kernel_rfl) (by kernel_rfl) (fun _ _ _ h => h) (by kernel_rfl) (by assumption) ?_
                          try simp only [Act.put, List.setIfInBounds_toArray, List.set_cons_zero, List.set_cons_succ]
                          refine Take.skip (i := 19) (t := 71) (g := 17) (b := true) (by kernel_rfl) (by kernel_rfl) (by kernel_rfl) (by kernel_rfl) (fun _ _ _ h => h) (by kernel_rfl) (by assumption) ?_
                          try simp only [Act.put, List.setIfInBounds_toArray, List.set_cons_zero, List.set_cons_succ]
                          refine Take.skip (i := 20) (t := 72) (g := 17) (b := true) (by kernel_rfl) (by kernel_rfl) (by kernel_rfl) (by kernel_rfl) (fun _ _ _ h => h) (by kernel_rfl) (by assumption) ?_
                          try simp only [Act.put, List.setIfInBounds_toArray, List.set_cons_zero, List.set_cons_succ]
                          refine Take.skip (i := 21) (t := 73) (g := 17) (b := true) (by kernel_rfl) (by kernel_rfl) (by kernel_rfl) (by kernel_rfl) (fun _ _ _ h => h) (by kernel_rfl) (by assumption) ?_
                          try simp only [Act.put, List.setIfInBounds_toArray, List.set_cons_zero, List.set_cons_succ]
                          refine Take.skip (i := 22) (t := 74) (g := 17) (b := true) (by kernel_rfl) (by kernel_rfl) (by kernel_rfl) (by kernel_rfl) (fun _ _ _ h => h) (by kernel_rfl) (by assumption) ?_
                          try simp only [Act.put, List.setIfInBounds_toArray, List.set_cons_zero, List.set_cons_succ]
                          refine Take.skip (i := 23) (t := 75) (g := 17) (b := true) (by kernel_rfl) (by kernel_rfl) (by kernel_rfl) (by kernel_rfl) (fun _ _ _ h => h) (by kernel_rfl) (by assumption) ?_
                          try simp only [Act.put, List.setIfInBounds_toArray, List.set_cons_zero, List.set_cons_succ]
                          refine Take.skip (i := 24) (t := 76) (g := 23) (b := false) (by kernel_rfl) (by kernel_rfl) (by kernel_rfl) (by kernel_rfl) (fun _ _ _ h => h) (by kernel_rfl) (by assumption) ?_
                          try simp only [Act.put, List.setIfInBounds_toArray, List.set_cons_zero, List.set_cons_succ]
                          refine Take.skip (i := 25) (t := 77) (g := 23) (b := false) (by kernel_rfl) (by kernel_rfl) (by kernel_rfl) (by kernel_rfl) (fun _ _ _ h => h) (by kernel_rfl) (by assumption) ?_
                          try simp only [Act.put, List.setIfInBounds_toArray, List.set_cons_zero, List.set_cons_succ]
                          refine Take.skip (i := 26) (t := 78) (g := 23) (b := false) (by kernel_rfl) (by kernel_rfl) (by kernel_rfl) (by kernel_rfl) (fun _ _ _ h => h) (by kernel_rfl) (by assumption) ?_
                          try simp only [Act.put, List.setIfInBounds_toArray, List.set_cons_zero, List.set_cons_succ]
                          refine Take.skip (i := 27) (t := 79) (g := 23) (b := false) (by kernel_rfl) (by kernel_rfl) (by kernel_rfl) (by kernel_rfl) (fun _ _ _ h => h) (by kernel_rfl) (by assumption) ?_
                          try simp only [Act.put, List.setIfInBounds_toArray, List.set_cons_zero, List.set_cons_succ]
                          refine Take.skip (i := 28) (t := 80) (g := 23) (b := false) (by kernel_rfl) (by kernel_rfl) (by kernel_rfl) (by kernel_rfl) (fun _ _ _ h => h) (by kernel_rfl) (by assumption) ?_
                          try simp only [Act.put, List.setIfInBounds_toArray, List.set_cons_zero, List.set_cons_succ]
                          refine Take.skip (i := 29) (t := 81) (g := 23) (b := false) (by kernel_rfl) (by kernel_rfl) (by kernel_rfl) (by kernel_rfl) (fun _ _ _ h => h) (by kernel_rfl) (by assumption) ?_
                          try simp only [Act.put, List.setIfInBounds_toArray, List.set_cons_zero, List.set_cons_succ]
                          refine Take.skip (i := 30) (t := 82) (g := 23) (b := false) (by kernel_rfl) (by kernel_rfl) (by kernel_rfl) (by kernel_rfl) (fun _ _ _ h => h) (by kernel_rfl) (by assumption) ?_
                          try simp only [Act.put, List.setIfInBounds_toArray, List.set_cons_zero, List.set_cons_succ]
                          refine Take.skip (i := 31) (t := 83) (g := 23) (b := false) (by kernel_rfl) (by kernel_rfl) (by kernel_rfl) (by kernel_rfl) (fun _ _ _ h => h) (by kernel_rfl) (by assumption) ?_
                          try simp only [Act.put, List.setIfInBounds_toArray, List.set_cons_zero, List.set_cons_succ]
                          refine Take.skip (i := 32) (t := 84) (g := 23) (b := false) (by kernel_rfl) (by kernel_rfl) (by kernel_rfl) (by kernel_rfl) (fun _ _ _ h => h) (by kernel_rfl) (by assumption) ?_
                          try simp only [Act.put, List.setIfInBounds_toArray, List.set_cons_zero, List.set_cons_succ]
                          refine Take.skip (i := 33) (t := 85) (g := 23) (b := false) (by kernel_rfl) (by kernel_rfl) (by kernel_rfl) (by kernel_rfl) (fun _ _ _ h => h) (by kernel_rfl) (by assumption) ?_
                          try simp only [Act.put, List.setIfInBounds_toArray, List.set_cons_zero, List.set_cons_succ]
                          refine Take.skip (i := 34) (t := 86) (g := 17) (b := true) (by kernel_rfl) (by kernel_rfl) (by kernel_rfl) (by kernel_rfl) (fun _ _ _ h => h) (by kernel_rfl) (by assumption) ?_
                          try simp only [Act.put, List.setIfInBounds_toArray, List.set_cons_zero, List.set_cons_succ]
                          refine Take.take (i := 35) (oi := _) (t := 87) (v := ?v132) rfl (by kernel_rfl) (by kernel_rfl) (by kernel_rfl) (by kernel_rfl) (fun _ _ _ h => h) (by kernel_rfl) ?hy132 (by assumption) ?_
                          case hy132 => (intro w hSw; (try dsimp only at hSw); go_simp; try with_reducible rfl)
                          try simp only [Act.put, List.setIfInBounds_toArray, List.set_cons_zero, List.set_cons_succ]
                          refine wpAnyH_done (by kernel_rfl) ?_ _
                          refine NoPanic.normal ?_
                          go_wp2_with fail
                          go_meet
                          obtain ⟨hB, _⟩ : Below wr.heap.size wr _ ∧ _ := (by assumption)
                          exact ⟨by rw [hb], Lib.hid hB⟩
                      · have hb : bet near off d k j = false := by rw [Hbet.out]; simp [hx0]
                        refine wp_region_noPanic ?_
                        refine wp_region_held_drew (S := fun w' => Below wr.heap.size wr w' ∧ w'.cell? ⟨w.heap.size, 0, none⟩ = some (.int .i64 (n : Nat)) ∧ w'.cell? ⟨w.heap.size, 1, none⟩ = some (.slice la L.length lc) ∧ w'.cell? ⟨g, k, none⟩ = some (.int .i64 x) ∧ w'.cell? ⟨g, j, none⟩ = some (.int .i64 y)) (by kernel_rfl) (HS.out _ (Below.refl _ _).drew) (fun hHeld => ?_)
                        refine Take.take (i := 0) (oi := _) (t := 52) (v := ?v133) rfl (by kernel_rfl) (by kernel_rfl) (by kernel_rfl) (by kernel_rfl) (fun _ _ _ h => h) (by kernel_rfl) ?hy133 (by assumption) ?_
                        case hy133 => (intro w hSw; (try dsimp only at hSw); go_simp; try with_reducible rfl)
                        try simp only [Act.put, List.setIfInBounds_toArray, List.set_cons_zero, List.set_cons_succ]
                        refine Take.take (i := 1) (oi := _) (t := 53) (v := ?v134) rfl (by kernel_rfl) (by kernel_rfl) (by kernel_rfl) (by kernel_rfl) (fun _ _ _ h => h) (by kernel_rfl) ?hy134 (by assumption) ?_
                        case hy134 => (intro w hSw; (try dsimp only at hSw); go_simp; try with_reducible rfl)
                        try simp only [Act.put, List.setIfInBounds_toArray, List.set_cons_zero, List.set_cons_succ]
                        refine Take.take (i := 2) (oi := _) (t := 54) (v := ?v135) rfl (by kernel_rfl) (by kernel_rfl) (by kernel_rfl) (by kernel_rfl) (fun _ _ _ h => h) (by kernel_rfl) ?hy135 (by assumption) ?_
                        case hy135 => (intro w hSw; (try dsimp only at hSw); go_simp; try with_reducible rfl)
                        try simp only [Act.put, List.setIfInBounds_toArray, List.set_cons_zero, List.set_cons_succ]
                        refine Take.take (i := 3) (oi := _) (t := 55) (v := ?v136) rfl (by kernel_rfl) (by kernel_rfl) (by kernel_rfl) (by kernel_rfl) (fun _ _ _ h => h) (by kernel_rfl) ?hy136 (by assumption) ?_
                        case hy136 => (intro w hSw; (try dsimp only at hSw); go_simp; try with_reducible rfl)
                        try simp only [Act.put, List.setIfInBounds_toArray, List.set_cons_zero, List.set_cons_succ]
                        refine Take.take (i := 4) (oi := _) (t := 56) (v := ?v137) rfl (by kernel_rfl) (by kernel_rfl) (by kernel_rfl) (by kernel_rfl) (fun _ _ _ h => h) (by kernel_rfl) ?hy137 (by assumption) ?_
                        case hy137 => (intro w hSw; (try dsimp only at hSw); go_simp; try with_reducible rfl)
                        try simp only [Act.put, List.setIfInBounds_toArray, List.set_cons_zero, List.set_cons_succ]
                        refine Take.take (i := 5) (oi := _) (t := 57) (v := ?v138) rfl (by kernel_rfl) (by kernel_rfl) (by kernel_rfl) (by kernel_rfl) (fun _ _ _ h => h) (by kernel_rfl) ?hy138 (by assumption) ?_
                        case hy138 => (intro w hSw; (try dsimp only at hSw); go_simp; try with_reducible rfl)
                        try simp only [Act.put, List.setIfInBounds_toArray, List.set_cons_zero, List.set_cons_succ]
                        refine Take.skip (i := 6) (t := 58) (g := 5) (b := true) (by kernel_rfl) (by kernel_rfl) (by kernel_rfl) (by kernel_rfl) (fun _ _ _ h => h) (by kernel_rfl) (by assumption) ?_
                        try simp only [Act.put, List.setIfInBounds_toArray, List.set_cons_zero, List.set_cons_succ]
                        refine Take.skip (i := 7) (t := 59) (g := 5) (b := true) (by kernel_rfl) (by kernel_rfl) (by kernel_rfl) (by kernel_rfl) (fun _ _ _ h => h) (by kernel_rfl) (by assumption) ?_
                        try simp only [Act.put, List.setIfInBounds_toArray, List.set_cons_zero, List.set_cons_succ]
                        refine Take.skip (i := 8) (t := 60) (g := 5) (b := true) (by kernel_rfl) (by kernel_rfl) (by kernel_rfl) (by kernel_rfl) (fun _ _ _ h => h) (by kernel_rfl) (by assumption) ?_
                        try simp only [Act.put, List.setIfInBounds_toArray, List.set_cons_zero, List.set_cons_succ]
                        refine Take.skip (i := 9) (t := 61) (g := 5) (b := true) (by kernel_rfl) (by kernel_rfl) (by kernel_rfl) (by kernel_rfl) (fun _ _ _ h => h) (by kernel_rfl) (by assumption) ?_
                        try simp only [Act.put, List.setIfInBounds_toArray, List.set_cons_zero, List.set_cons_succ]
                        refine Take.take (i := 10) (oi := _) (t := 62) (v := ?v139) rfl (by kernel_rfl) (by kernel_rfl) (by kernel_rfl) (by kernel_rfl) (fun _ _ _ h => h) (by kernel_rfl) ?hy139 (by assumption) ?_
                        case hy139 => (intro w hSw; (try dsimp only at hSw); go_simp; try with_reducible rfl)
                        try simp only [Act.put, List.setIfInBounds_toArray, List.set_cons_zero, List.set_cons_succ]
                        refine Take.take (i := 11) (oi := _) (t := 63) (v := ?v140) rfl (by kernel_rfl) (by kernel_rfl) (by kernel_rfl) (by kernel_rfl) (fun _ _ _ h => h) (by kernel_rfl) ?hy140 (by assumption) ?_
                        case hy140 => (intro w hSw; (try dsimp only at hSw); go_simp; try with_reducible rfl)
                        try simp only [Act.put, List.setIfInBounds_toArray, List.set_cons_zero, List.set_cons_succ]
                        refine Take.skip (i := 12) (t := 64) (g := 11) (b := true) (by kernel_rfl) (by kernel_rfl) (by kernel_rfl) (by kernel_rfl) (fun _ _ _ h => h) (by kernel_rfl) (by assumption) ?_
                        try simp only [Act.put, List.setIfInBounds_toArray, List.set_cons_zero, List.set_cons_succ]
                        refine Take.skip (i := 13) (t := 65) (g := 11) (b := true) (by kernel_rfl) (by kernel_rfl) (by kernel_rfl) (by kernel_rfl) (fun _ _ _ h => h) (by kernel_rfl) (by assumption) ?_
                        try simp only [Act.put, List.setIfInBounds_toArray, List.set_cons_zero, List.set_cons_succ]
                        refine Take.skip (i := 14) (t := 66) (g := 11) (b := true) (by kernel_rfl) (by kernel_rfl) (by kernel_rfl) (by kernel_rfl) (fun _ _ _ h => h) (by kernel_rfl) (by assumption) ?_
                        try simp only [Act.put, List.setIfInBounds_toArray, List.set_cons_zero, List.set_cons_succ]
                        refine Take.skip (i := 15) (t := 67) (g := 11) (b := true) (by kernel_rfl) (by kernel_rfl) (by kernel_rfl) (by kernel_rfl) (fun _ _ _ h => h) (by kernel_rfl) (by assumption) ?_
                        try simp only [Act.put, List.setIfInBounds_toArray, List.set_cons_zero, List.set_cons_succ]
                        refine Take.take (i := 16) (oi := _) (t := 68) (v := ?v141) rfl (by kernel_rfl) (by kernel_rfl) (by kernel_rfl) (by kernel_rfl) (fun _ _ _ h => h) (by kernel_rfl) ?hy141 (by assumption) ?_
                        case hy141 => (intro w hSw; (try dsimp only at hSw); go_simp; try with_reducible rfl)
                        try simp only [Act.put, List.setIfInBounds_toArray, List.set_cons_zero, List.set_cons_succ]
                        refine Take.take (i := 17) (oi := _) (t := 69) (v := ?v142) rfl (by kernel_rfl) (by kernel_rfl) (by kernel_rfl) (by kernel_rfl) (fun _ _ _ h => h) (by kernel_rfl) ?hy142 (by assumption) ?_
                        case hy142 => (intro w hSw; (try dsimp only at hSw); go_simp; try with_reducible rfl)
                        try simp only [Act.put, List.setIfInBounds_toArray, List.set_cons_zero, List.set_cons_succ]
                        refine Take.skip (i := 18) (t := 70) (g := 17) (b := true) (by kernel_rfl) (by kernel_rfl) (by kernel_rfl) (by kernel_rfl) (fun _ _ _ h => h) (by kernel_rfl) (by assumption) ?_
                        try simp only [Act.put, List.setIfInBounds_toArray, List.set_cons_zero, List.set_cons_succ]
                        refine Take.skip (i := 19) (t := 71) (g := 17) (b := true) (by kernel_rfl) (by kernel_rfl) (by kernel_rfl) (by kernel_rfl) (fun _ _ _ h => h) (by kernel_rfl) (by assumption) ?_
                        try simp only [Act.put, List.setIfInBounds_toArray, List.set_cons_zero, List.set_cons_succ]
                        refine Take.skip (i := 20) (t := 72) (g := 17) (b := true) (by kernel_rfl) (by kernel_rfl) (by kernel_rfl) (by kernel_rfl) (fun _ _ _ h => h) (by kernel_rfl) (by assumption) ?_
                        try simp only [Act.put, List.setIfInBounds_toArray, List.set_cons_zero, List.set_cons_succ]
                        refine Take.skip (i := 21) (t := 73) (g := 17) (b := true) (by kernel_rfl) (by kernel_rfl) (by kernel_rfl) (by kernel_rfl) (fun _ _ _ h => h) (by kernel_rfl) (by assumption) ?_
                        try simp only [Act.put, List.setIfInBounds_toArray, List.set_cons_zero, List.set_cons_succ]
                        refine Take.skip (i := 22) (t := 74) (g := 17) (b := true) (by kernel_rfl) (by kernel_rfl) (by kernel_rfl) (by kernel_rfl) (fun _ _ _ h => h) (by kernel_rfl) (by assumption) ?_
                        try simp only [Act.put, List.setIfInBounds_toArray, List.set_cons_zero, List.set_cons_succ]
                        refine Take.skip (i := 23) (t := 75) (g := 17) (b := true) (by kernel_rfl) (by kernel_rfl) (by kernel_rfl) (by kernel_rfl) (fun _ _ _ h => h) (by kernel_rfl) (by assumption) ?_
                        try simp only [Act.put, List.setIfInBounds_toArray, List.set_cons_zero, List.set_cons_succ]
                        refine Take.skip (i := 24) (t := 76) (g := 23) (b := false) (by kernel_rfl) (by kernel_rfl) (by kernel_rfl) (by kernel_rfl) (fun _ _ _ h => h) (by kernel_rfl) (by assumption) ?_
                        try simp only [Act.put, List.setIfInBounds_toArray, List.set_cons_zero, List.set_cons_succ]
                        refine Take.skip (i := 25) (t := 77) (g := 23) (b := false) (by kernel_rfl) (by kernel_rfl) (by kernel_rfl) (by kernel_rfl) (fun _ _ _ h => h) (by kernel_rfl) (by assumption) ?_
                        try simp only [Act.put, List.setIfInBounds_toArray, List.set_cons_zero, List.set_cons_succ]
                        refine Take.skip (i := 26) (t := 78) (g := 23) (b := false) (by kernel_rfl) (by kernel_rfl) (by kernel_rfl) (by kernel_rfl) (fun _ _ _ h => h) (by kernel_rfl) (by assumption) ?_
                        try simp only [Act.put, List.setIfInBounds_toArray, List.set_cons_zero, List.set_cons_succ]
                        refine Take.skip (i := 27) (t := 79) (g := 23) (b := false) (by kernel_rfl) (by kernel_rfl) (by kernel_rfl) (by kernel_rfl) (fun _ _ _ h => h) (by kernel_rfl) (by assumption) ?_
                        try simp only [Act.put, List.setIfInBounds_toArray, List.set_cons_zero, List.set_cons_succ]
                        refine Take.skip (i := 28) (t := 80) (g := 23) (b := false) (by kernel_rfl) (by kernel_rfl) (by kernel_rfl) (by kernel_rfl) (fun _ _ _ h => h) (by kernel_rfl) (by assumption) ?_
                        try simp only [Act.put, List.setIfInBounds_toArray, List.set_cons_zero, List.set_cons_succ]
                        refine Take.skip (i := 29) (t := 81) (g := 23) (b := false) (by kernel_rfl) (by kernel_rfl) (by kernel_rfl) (by kernel_rfl) (fun _ _ _ h => h) (by kernel_rfl) (by assumption) ?_
                        try simp only [Act.put, List.setIfInBounds_toArray, List.set_cons_zero, List.set_cons_succ]
                        refine Take.skip (i := 30) (t := 82) (g := 23) (b := false) (by kernel_rfl) (by kernel_rfl) (by kernel_rfl) (by kernel_rfl) (fun _ _ _ h => h) (by kernel_rfl) (by assumption) ?_
                        try simp only [Act.put, List.setIfInBounds_toArray, List.set_cons_zero, List.set_cons_succ]
                        refine Take.skip (i := 31) (t := 83) (g := 23) (b := false) (by kernel_rfl) (by kernel_rfl) (by kernel_rfl) (by kernel_rfl) (fun _ _ _ h => h) (by kernel_rfl) (by assumption) ?_
                        try simp only [Act.put, List.setIfInBounds_toArray, List.set_cons_zero, List.set_cons_succ]
                        refine Take.skip (i := 32) (t := 84) (g := 23) (b := false) (by kernel_rfl) (by kernel_rfl) (by kernel_rfl) (by kernel_rfl) (fun _ _ _ h => h) (by kernel_rfl) (by assumption) ?_
                        try simp only [Act.put, List.setIfInBounds_toArray, List.set_cons_zero, List.set_cons_succ]
                        refine Take.skip (i := 33) (t := 85) (g := 23) (b := false) (by kernel_rfl) (by kernel_rfl) (by kernel_rfl) (by kernel_rfl) (fun _ _ _ h => h) (by kernel_rfl) (by assumption) ?_
                        try simp only [Act.put, List.setIfInBounds_toArray, List.set_cons_zero, List.set_cons_succ]
                        refine Take.skip (i := 34) (t := 86) (g := 17) (b := true) (by kernel_rfl) (by kernel_rfl) (by kernel_rfl) (by kernel_rfl) (fun _ _ _ h => h) (by kernel_rfl) (by assumption) ?_
                        try simp only [Act.put, List.setIfInBounds_toArray, List.set_cons_zero, List.set_cons_succ]
                        refine Take.take (i := 35) (oi := _) (t := 87) (v := ?v143) rfl (by kernel_rfl) (by kernel_rfl) (by kernel_rfl) (by kernel_rfl) (fun _ _ _ h => h) (by kernel_rfl) ?hy143 (by assumption) ?_
                        case hy143 => (intro w hSw; (try dsimp only at hSw); go_simp; try with_reducible rfl)
                        try simp only [Act.put, List.setIfInBounds_toArray, List.set_cons_zero, List.set_cons_succ]
                        refine wpAnyH_done (by kernel_rfl) ?_ _
                        refine NoPanic.normal ?_
                        go_wp2_with fail
                        go_meet
                        obtain ⟨hB, _⟩ : Below wr.heap.size wr _ ∧ _ := (by assumption)
                        exact ⟨by rw [hb], Lib.hid hB⟩
                    case rest =>
                      obtain ⟨rfl, hB⟩ := hcut
                      have row2 := HJ.out.row.below hB.out
                      have box2 := HJ.out.box.below hB.out HJ.out.box.lt
                      have low2 := HJ.out.low.trans (hB.out.mono HJ.out.low.size)
                      have cx2 := row2.cell (j := k) (by omega)
                      rw [Hx.out] at cx2
                      have fy2 := row2.frozen j
                      have cy2 := row2.cell (j := j) (by omega)
                      have Hrow2 := Lib.hid row2
                      have Hbox2 := Lib.hid box2
                      have Hlow2 := Lib.hid low2
                      have hj1 := Lib.hid (HJ.out.no)
                      clear row2 box2 low2 hB Hbet Hh Hl HS HL c0
                      rcases hb : bet near off d k j with _ | _
                      · have Hb := Lib.hid hb
                        clear hb
                        go_wp2_with fail
                        go_round
                        case rel => exact ⟨d, m, j + 1, rfl, rfl, hjn, Lib.hid ⟨HJ.out.inv, Hrow2.out, Hbox2.out, Hlow2.out, HJ.out.le, HJ.out.yes, fun e => ⟨(hj1.out e).1, fun a b ha hb' hab => by
                          by_cases c : a < k ∨ (a = k ∧ b < j)
                          · exact (hj1.out e).2 a b ha hb' c
                          · obtain ⟨rfl, rfl⟩ : a = k ∧ b = j := by omega
                            rw [← (hj1.out e).1]; exact Hb.out⟩⟩⟩
                        case measure => simp; omega
                      · have hbe := HJ.out.inv.better (by omega) (by omega) hb
                        rw [Hx.out] at hbe
                        have Hbe := Lib.hid hbe
                        clear hbe hb
                        go_wp2_with fail
                        go_round
                        case rel => exact ⟨d.set j (x + 1), true, j + 1, rfl, rfl, hjn, Lib.hid ⟨Hbe.out.1, Hrow2.out.put (by omega) _, Hbox2.out.far (by show w.heap.size ≠ g; omega) _, Hlow2.out.setCell (p := ⟨g, j, none⟩) (by show w.heap.size ≤ g; omega) _, by have := Hbe.out.2; have := HJ.out.le; omega, fun _ => by have := Hbe.out.2; have := HJ.out.le; omega, fun e => by cases e⟩⟩
                        case measure => simp; omega
                  · obtain rfl : j = n := by omega
                    clear hjn
                    go_wp2_with fail
                    go_round
                    case rel => exact ⟨d, m, k + 1, rfl, rfl, hkn, Lib.hid ⟨HJ.out.inv, HJ.out.row, HJ.out.box, HJ.out.low, HJ.out.le, HJ.out.yes, fun e => ⟨(HJ.out.no e).1, fun a b ha hb hab => (HJ.out.no e).2 a b ha hb (by omega)⟩⟩⟩
                    case measure => simp; omega
              · obtain rfl : k = n := by omega
                clear hkn
                have hmu2 : muW wr g k = mu d := by have := HK.out.row.muW; rwa [hdn] at this
                have Hmu2 := Lib.hid hmu2
                clear hmu2
                go_wp2_with fail
                go_round
                case rel => exact ⟨d, m, rfl, Lib.hid ⟨HK.out.inv, HK.out.row, HK.out.box, HK.out.low, fun e a b ha hb => by rw [(HK.out.no e).1]; exact (HK.out.no e).2 a b ha hb (by omega)⟩⟩
                case measure =>
                  rw [Hmu2.out, Hmu.out]
                  have := HK.out.le
                  cases m
                  · simp; omega
                  · have := HK.out.yes rfl
                    simp; omega
      · have hno := (dist0_no (near := near) (by rw [hln]; exact hsi)).uniq (dist_spec Hok.out ho i)
        have Hno := Lib.hid hno
        have HH := fun (V : World) => refhas_any off ho i V
        obtain ⟨h, hh⟩ : ∃ h, hasR off i = h := ⟨_, rfl⟩
        have hih : isN n i = true → h = true := fun e => by
          obtain ⟨s, rfl, hs⟩ := isN_yes e
          rw [hasR_nat (by omega)] at hh
          rw [← hh]
          rcases c : off.testBit s with _ | _
          · exact absurd ⟨e, by rw [Int.toNat_natCast]; exact c⟩ hsi
          · rfl
        have HH2 := Lib.hid HH
        have Hh := Lib.hid hh
        have hgg : w.heap.size ≤ g := by omega
        clear HH hno hh bR hrow low lR hgb l0 Hb0
        by_cases hi0 : i < 0
        · clear hih
          go_wp2_with fail
          go_ret
          first | exact ⟨g, cap, rfl, hgg, by rw [← Hno.out, hln]; exact Hrow.out, Hlow.out⟩ | exact ⟨g, ⟨cap, rfl⟩, hgg, by rw [← Hno.out, hln]; exact Hrow.out, Hlow.out⟩
        · by_cases hin : (n : Int) ≤ i
          · clear hih
            go_wp2_with fail
            go_ret
            first | exact ⟨g, cap, rfl, hgg, by rw [← Hno.out, hln]; exact Hrow.out, Hlow.out⟩ | exact ⟨g, ⟨cap, rfl⟩, hgg, by rw [← Hno.out, hln]; exact Hrow.out, Hlow.out⟩
          · obtain rfl := hih (by simp [isN]; omega)
            clear hih
            go_wp2_with (go_at_call 27; refine (HH2.out _).mono ?_; rintro e w4 ⟨rfl, hw⟩; rw [hw, Hh.out]; clear hw w4)
            go_ret
            first | exact ⟨g, cap, rfl, hgg, by rw [← Hno.out, hln]; exact Hrow.out, Hlow.out⟩ | exact ⟨g, ⟨cap, rfl⟩, hgg, by rw [← Hno.out, hln]; exact Hrow.out, Hlow.out⟩
end Go.Proofs.YtmbblhajbecomaaDoor.Reach
