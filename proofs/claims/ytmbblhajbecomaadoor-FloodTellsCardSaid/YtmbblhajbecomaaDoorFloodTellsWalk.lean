/- FloodTells: walked. -/
import Derived.Test.YtmbblhajbecomaaDoorFloodTold
namespace Go.Proofs.YtmbblhajbecomaaDoor.Flood
set_option maxRecDepth 100000
open Go.RowKit
open Go.Proofs.YtmbblhajbecomaaDoor.RF Go.Proofs.YtmbblhajbecomaaDoor.Heap Go.Proofs.YtmbblhajbecomaaDoor.Nodes Go.Proofs.YtmbblhajbecomaaDoor.Graph Go.Proofs.YtmbblhajbecomaaDoor.Reach
set_option linter.unusedVariables false
set_option linter.unusedSimpArgs false

theorem setF_has {r : List Arr} (hN : ∀ x ∈ r, 0 ≤ x.node ∧ x.node < 64) (i : Int) : hasR (setF r) i = cameF r i := by
  rw [Bool.eq_iff_iff, cameF_iff]
  simp only [hasR, Bool.and_eq_true, decide_eq_true_eq, setF, ofBits_bit]
  constructor
  · rintro ⟨⟨h0, h1⟩, _, h2⟩
    obtain ⟨x, hx, hxn⟩ := List.mem_map.1 h2
    have := hN x hx
    exact ⟨x, hx, by omega⟩
  · rintro ⟨x, hx, rfl⟩
    have := hN x hx
    exact ⟨⟨this.1, this.2⟩, by omega, List.mem_map.2 ⟨x, hx, rfl⟩⟩
theorem nos_snoc (l : List Arr) (x : Arr) : nos (l ++ [x]) = nos l ++ [x.node.toNat] := by simp [nos]
set_option maxHeartbeats 8000000 in
theorem floodtells_walk (w : World) (hT : Tab w) (n0 : Int) (la : Option Addr) (ln lc : Nat) (ls : List (Int × Int)) (hp : PairIn w la ln lc ls) (src : Int) (dl : List (List Int)) (mu : List Nat) (da ma : Option Addr) (dc mc : Nat) (hd : DelayAt w.heap.size w da dl) (hm : MuteAt w.heap.size w ma mu) (hmu : mu.length * 8 ≤ 140737488351232)
    (o : Nat) (ho : o < 2 ^ 64) (node : Int) (hnode : (Lit.int .i64 node).wf = true) :
    Calls Tryd.prog 11 #[.agg #[.int .i64 n0, .slice la ln lc, .int .i64 src, .slice da dl.length dc, .slice ma mu.length mc], .int .u64 (o : Nat), .int .i64 node] w fun e w' => e = .returned (.bool true) ∧ Below w.heap.size w w' := by
  obtain ⟨W, hW⟩ : ∃ W, w.alloc (.cells #[.int .i64 n0, .slice la ln lc, .int .i64 src, .slice da dl.length dc, .slice ma mu.length mc] 64) = W := ⟨_, rfl⟩
  have b0 : Blk W w.heap.size 64 #[.int .i64 n0, .slice la ln lc, .int .i64 src, .slice da dl.length dc, .slice ma mu.length mc] := by rw [← hW]; exact Blk.new w _ _
  have low : Below w.heap.size w W := by rw [← hW]; exact (Below.refl _ w).alloc (Nat.le_refl _) _
  have c0 := b0.cell 0
  have c1 := b0.cell 1
  have c2 := b0.cell 2
  have c3 := b0.cell 3
  have c4 := b0.cell 4
  simp at c0 c1 c2 c3 c4
  have hT1 := hT.below low hT.size
  have HRn := Lib.hid (lawrun_any W hT1 n0 la ln lc ls (hp.below low) src dl mu da ma dc mc ((hd.keep fun i hi => low.block i hi).mono low.size) ((hm.keep fun i hi => low.block i hi).mono low.size) hmu)
  have HW := Lib.hid hW
  have Low := Lib.hid low
  have Hd := Lib.hid hd
  have B0 := Lib.hid b0
  clear hW low hd hm hp
  obtain ⟨i0, hi0, hz⟩ := Option.map_eq_some_iff.1 infoI
  simp only [Prod.mk.injEq] at hz
  obtain ⟨hz0, hz1, hz2⟩ := hz
  have Hi0 := Lib.hid hi0
  have Hz0 := Lib.hid hz0
  have Hz1 := Lib.hid hz1
  have Hz2 := Lib.hid hz2
  clear hi0 hz0 hz1 hz2
  go_enter Tryd.func11, Tryd.ntmps11
  go_upto_region 1 with (fail)
  rw [HW.out]
  clear HW
  go_upto_region 2 with (go_at_call 29; refine HRn.out.mono ?_; rintro e w2 ⟨m, G, R, near, L, ha, hc, v1, v2, r, rfl, m1, m2, hnl, hL, HMa, HG, HP, O1, O2, HF, HR, HL⟩)
  obtain ⟨a1, q1, rfl⟩ := own_form O1.out
  obtain ⟨a2, q2, rfl⟩ := own_form O2.out
  have hrl := HF.out.few
  have HE := Lib.hid HR.out.ei
  have lb0 := b0.lt
  clear c0 c1 c2 c3 c4 b0 HRn
  obtain ⟨W3, hW3⟩ : ∃ W3, w2.alloc (.cells #[.int .i64 (m : Nat), .slice ha L.length hc] 27) = W3 := ⟨_, rfl⟩
  have l3 : Below w2.heap.size w2 W3 := by rw [← hW3]; exact (Below.refl _ _).alloc (Nat.le_refl _) _
  have bM : Blk W3 w2.heap.size 27 #[.int .i64 (m : Nat), .slice ha L.length hc] := by rw [← hW3]; exact Blk.new w2 _ _
  have z3 := l3.size
  have z4 := bM.lt
  rw [hW3]
  have lw := HL.out.size
  have lW := Low.out.size
  have hT3 : Tab W3 := (hT1.below HL.out hT1.size).below l3 (by have := hT1.size; omega)
  have LW3 : RowKit.Hid (Below W.heap.size W W3) := Lib.hid (HL.out.trans (l3.mono lw))
  have L3 : RowKit.Hid (Below w.heap.size w W3) := Lib.hid (Low.out.trans (LW3.out.mono lW))
  have P1 := Lib.hid (own_below O1.out l3)
  have HT3 := Lib.hid hT3
  have BM := Lib.hid bM
  have HG3 := Lib.hid (HG.out.below l3 (Nat.le_refl _))
  have BS3 := Lib.hid (B0.out.below LW3.out lb0)
  have ok := HMa.out.ok (by omega : m ≤ 64)
  have Hd3 := Lib.hid ((Hd.out.keep fun i hi => L3.out.block i hi : DelayAt w.heap.size W3 da dl))
  have P2 := Lib.hid (own_below O2.out l3)
  clear hW3 l3 hT3 O1 O2 hT hT1 bM
  have hN : ∀ x ∈ r, 0 ≤ x.node ∧ x.node < 64 := fun x hx => by have := HF.out.outN x hx; omega
  have hTm : ∀ x ∈ r, 0 ≤ x.time := fun x hx => (HF.out.outT x hx).1
  have HN := Lib.hid hN
  have HTm := Lib.hid hTm
  clear hN hTm
  go_wp2_with fail
  go_loopg [11, 12, 13, 28] r.length (fun q v11 v12 v13 v28 V => ∃ (k : Nat) (t : Int) (b : Bool), q = r.length - k ∧ v12 = .int .i64 t ∧ v13 = .bool b ∧ v28 = .int .i64 k ∧ k ≤ r.length ∧ RowKit.Hid (t = lastF o (r.take k) ∧ b = isF o (r.take k)) ∧ RowKit.Hid (V.ownsRow W3.heap.size 3 1 v11 k (nc (nos (r.take k)))) ∧ Below W3.heap.size W3 V)
  case atStart => exact ⟨0, 0, false, rfl, rfl, rfl, rfl, Nat.zero_le _, Lib.hid ⟨rfl, rfl⟩, Lib.hid (World.ownsRow_nil _ _ _ _), Below.refl _ _⟩
  case round =>
    obtain ⟨k, t, b, hgk, rfl, rfl, rfl, hk, htb, OW, LR⟩ := hrel
    have Hgk := Lib.hid hgk
    clear hgk
    have lR := LR.size
    obtain ⟨aw, cw, hew⟩ := own_form OW.out
    subst hew
    by_cases hlt : k < r.length
    · obtain ⟨x, hx⟩ : ∃ x, r[k]? = some x := ⟨_, List.getElem?_eq_getElem hlt⟩
      obtain ⟨_, _, e1, h1⟩ := own_arr (own_below P2.out LR)
      simp only [Value.slice.injEq] at e1
      obtain ⟨g1, hb1, hg1, _, y0, y1, y2, y3⟩ := h1 k x hx
      rw [← e1.1] at hb1
      subst hb1
      have j1 : (0 : Int) ≤ (k : Int) := by omega
      have j2 : (k : Int) < (r.length : Int) := by omega
      have j3 : (k : Int) ≤ 65535 := by omega
      have hxN := HN.out x (mem_of_get hx)
      obtain ⟨kx, hkx⟩ : ∃ kx : Nat, x.node = kx := ⟨x.node.toNat, by omega⟩
      have hnx : lastF o (r.take (k + 1)) = (if hasR o x.node = true then max t x.time else t) ∧ isF o (r.take (k + 1)) = (b || hasR o x.node) := by
        rw [take_snoc hx, lastF_snoc, isF_snoc, ← htb.out.1, ← htb.out.2]; exact ⟨rfl, rfl⟩
      have hno : nc (nos (r.take (k + 1))) = nc (nos (r.take k)) ++ [.int .i64 (kx : Nat)] := by
        rw [take_snoc hx, nos_snoc, hkx, Int.toNat_natCast, nc_snoc]
      have HHs := Lib.hid (fun V => refhas_any o ho x.node V)
      obtain ⟨h, hh⟩ : ∃ h, hasR o x.node = h := ⟨_, rfl⟩
      rw [hh] at HHs hnx
      rw [hkx] at y0 HHs
      have Hnx := Lib.hid hnx
      have Hno := Lib.hid hno
      have LR2 := Lib.hid LR
      clear e1 h1 hx hh hnx hno htb LR hkx
      go_upto_region 8 with (at_builtin; refine wpList_append_own _ rfl _ _ 51 rfl W3.heap.size 3 i0 _ 1 8 Tryd.underlying51 Hi0.out Hz0.out Hz1.out Hz2.out rfl (by decide) _ _ _ rfl (own_below OW.out (((Below.refl _ wr).alloc (Nat.le_refl _) _).alloc (by simp) _)) ⟨wr.heap.size + 1, 0, none⟩ 1 1 [.int .i64 (kx : Nat)] rfl rfl (by have h := cell_one_new (wr.alloc (.cells #[.int .i64 (kx : Nat), .int .i64 x.time, .int .i64 x.hops, .int .i64 x.frm] 70)) (.int .i64 (kx : Nat)) 3; rw [World.size_alloc] at h; exact h) (by simp [Value.oneCell']) (by unfold maxLen; omega) (by omega) (by simp; omega) ?_; intro v5 w5 own5 g5 _)
      have kA : Below wr.heap.size wr ((wr.alloc (.cells #[.int .i64 (kx : Nat), .int .i64 x.time, .int .i64 x.hops, .int .i64 x.frm] 70)).alloc (.cells #[.int .i64 (kx : Nat)] 3)) := ((Below.refl _ wr).alloc (Nat.le_refl _) _).alloc (by simp) _
      have l5 := Lib.hid (below_own (LR2.out.trans (kA.mono lR)) g5 (own_below OW.out kA) (Nat.le_refl _) (Nat.le_refl _))
      have bX5 : Blk w5 wr.heap.size 70 #[.int .i64 (kx : Nat), .int .i64 x.time, .int .i64 x.hops, .int .i64 x.frm] := ((Blk.new wr _ _).alloc _).grown g5 (fun e => by have := (own_rng OW.out e.symm).2; omega)
      have O5 : RowKit.Hid (w5.ownsRow W3.heap.size 3 1 v5 (k + 1) (nc (nos (r.take (k + 1))))) := Lib.hid (by rw [Hno.out]; exact own5)
      have x0 : w5.cell? ⟨wr.heap.size, 0, none⟩ = some (.int .i64 (kx : Nat)) := bX5.cell 0
      have x1 : w5.cell? ⟨wr.heap.size, 1, none⟩ = some (.int .i64 x.time) := bX5.cell 1
      clear own5 g5 kA bX5 y0 y1 y2 y3
      rcases h with _ | _
      · go_wp2_with (go_at_call 27; refine (HHs.out _).mono ?_; rintro e w' ⟨rfl, h⟩; rw [h]; clear h w')
        go_roundg (r.length - (k + 1))
        case measure => have := Hgk.out; omega
        case rel => exact ⟨k + 1, t, b, rfl, rfl, rfl, by go_num, hlt, Lib.hid ⟨by rw [Hnx.out.1]; simp, by rw [Hnx.out.2]; simp⟩, O5, l5.out⟩
      · rcases hlx : decide (t < x.time) with _ | _
        · have hlx' : ¬ t < x.time := by simpa using hlx
          have Hn2 : RowKit.Hid (lastF o (r.take (k + 1)) = t) := Lib.hid (by rw [Hnx.out.1, if_pos rfl]; omega)
          have hmx : max t x.time = t := by omega
          go_wp2_with (go_at_call 27; refine (HHs.out _).mono ?_; rintro e w' ⟨rfl, h⟩; rw [h]; clear h w')
          all_goals try (exfalso; omega)
          go_roundg (r.length - (k + 1))
          case measure => have := Hgk.out; omega
          case rel => exact ⟨k + 1, t, true, rfl, rfl, rfl, by go_num, hlt, Lib.hid ⟨Hn2.out.symm, by rw [Hnx.out.2]; simp⟩, O5, l5.out⟩
        · have hlx' : t < x.time := by simpa using hlx
          have Hn2 : RowKit.Hid (lastF o (r.take (k + 1)) = x.time) := Lib.hid (by rw [Hnx.out.1, if_pos rfl]; omega)
          have hmx : max t x.time = x.time := by omega
          go_wp2_with (go_at_call 27; refine (HHs.out _).mono ?_; rintro e w' ⟨rfl, h⟩; rw [h]; clear h w')
          all_goals try (exfalso; omega)
          go_roundg (r.length - (k + 1))
          case measure => have := Hgk.out; omega
          case rel => exact ⟨k + 1, x.time, true, rfl, rfl, rfl, by go_num, hlt, Lib.hid ⟨Hn2.out.symm, by rw [Hnx.out.2]; simp⟩, O5, l5.out⟩
    · obtain rfl : k = r.length := by omega
      have htb2 := htb.out
      rw [List.take_length] at htb2
      have ow := OW.out
      rw [List.take_length] at ow
      have hnl' : (nos r).length = r.length := by simp [nos]
      have HOf := Lib.hid (fun V (kV : Below wr.heap.size wr V) => of_any V (.slice aw r.length cw) (nos r) (nc_ints (own_below ow kV) hnl') (by omega))
      have HLa := Lib.hid (last_any wr (own_below P1.out LR) o ho HTm.out (by omega))
      have HAl := Lib.hid (fun V (kV : Below wr.heap.size wr V) => all_any' V (own_below P1.out (LR.trans (kV.mono lR))) HN.out (by omega))
      have HPa := Lib.hid (fun V (kV : Below wr.heap.size wr V) => path_any V (own_below P1.out (LR.trans (kV.mono lR))) HE.out HF.out (by omega) node hnode)
      have HHs := Lib.hid (fun V => refhas_any (setF r) (setF_lt r) node V)
      have hHas := setF_has HN.out node
      rw [hHas] at HHs
      have HWk := Lib.hid (fun V (kV : Below wr.heap.size wr V) => floodworks_any V (HT3.out.below (LR.trans (kV.mono lR)) HT3.out.size))
      have LFin := Lib.hid (fun V (kV : Below wr.heap.size wr V) => (show Below w.heap.size w V from L3.out.trans ((LR.trans (kV.mono lR)).mono (by have := L3.out.size; omega))))
      have P2r := Lib.hid (own_below P2.out LR)
      have cs : ∀ V, Below wr.heap.size wr V → V.cell? ⟨w.heap.size, 2, none⟩ = some (.int .i64 src) := fun V kV => (BS3.out.below (LR.trans (kV.mono lR)) (by have := BS3.out.lt; omega)).cell 2
      have HCs := Lib.hid cs
      change RowKit.Hid (∀ V, Below wr.heap.size wr V → Calls Tryd.prog 33 #[.slice aw r.length cw] V fun e w' => e = .returned (.int .u64 (setF r : Nat)) ∧ w' = V) at HOf
      obtain ⟨S, hS⟩ : ∃ S, setF r = S := ⟨_, rfl⟩
      obtain ⟨Tt, hTt⟩ : ∃ T, lastF o r = T := ⟨_, rfl⟩
      obtain ⟨bb, hbb⟩ : ∃ b, isF o r = b := ⟨_, rfl⟩
      rw [hS] at HOf HAl HHs
      rw [hTt, hbb] at HLa htb2
      obtain ⟨rfl, rfl⟩ := htb2
      have n1 : ((S : Int) != (S : Int)) = false := by simp
      have n2 : (t != t) = false := by simp
      have n3 : (b != b) = false := by simp
      clear ow htb OW LR cs hHas hS hTt hbb hnl'
      rcases hc : cameF r node with _ | _
      · rw [hc] at HHs
        have HPn : RowKit.Hid (∀ V, Below wr.heap.size wr V → Calls Tryd.prog 37 #[.slice a1 r.length q1, .int .i64 node] V fun e w' => e = .returned (.slice none 0 0) ∧ Below V.heap.size V w') := Lib.hid fun V kV => (HPa.out V kV).mono fun e w' h => by
          obtain ⟨hb, h⟩ := h
          rcases h with ⟨_, he⟩ | ⟨x, _, _, hx, hxn, _⟩
          · exact ⟨he, hb⟩
          · exact absurd hxn (cameF_no.1 hc x hx)
        clear HPa hc
        go_wp2_with (first
          | (go_at_call 35; refine HLa.out.mono ?_; rintro e w4 ⟨rfl, k4⟩)
          | (go_at_call 32; refine (HAl.out w4 k4).mono ?_; rintro e w5 ⟨rfl, l5⟩; have k5 := k4.trans (l5.mono k4.size))
          | (go_at_call 33; (first | refine (HOf.out w6 k6).mono ?_ | refine (HOf.out w5 k5).mono ?_); rintro e w' ⟨rfl, h⟩; rw [h]; clear h w')
          | (go_at_call 37; refine (HPn.out w5 k5).mono ?_; rintro e w6 ⟨rfl, l6⟩; have k6 := k5.trans (l6.mono k5.size))
          | (go_at_call 27; refine (HHs.out _).mono ?_; rintro e w' ⟨rfl, h⟩; rw [h]; clear h w')
          | (go_at_call 30; refine (HWk.out w6 k6).mono ?_; rintro e w8 ⟨rfl, l8⟩))
        go_ret
        exact ⟨rfl, LFin.out w8 (k6.trans (l8.mono k6.size))⟩
      · rw [hc] at HHs
        have HPn : RowKit.Hid (∀ V, Below wr.heap.size wr V → Calls Tryd.prog 37 #[.slice a1 r.length q1, .int .i64 node] V fun e w' => ∃ (x : Arr) (p : List Int) (gp cp : Nat), RowKit.Hid (PathOk r src x p) ∧ 0 < p.length ∧ p.length ≤ 100 ∧ x.node = node ∧ e = .returned (.slice (some ⟨gp, 0, none⟩) p.length cp) ∧ RowKit.Hid (w'.ownsRow V.heap.size 3 1 (.slice (some ⟨gp, 0, none⟩) p.length cp) p.length (ic p)) ∧ Below V.heap.size V w') := Lib.hid fun V kV => (HPa.out V kV).mono fun e w' h => by
          obtain ⟨hb, h⟩ := h
          rcases h with ⟨hno, _⟩ | ⟨x, p, v', hx, hxn, hok, rfl, ho⟩
          · rw [hc] at hno; cases hno
          · have hpos : 0 < p.length := lt_of_get hok.first
            obtain ⟨gp, cp, rfl, _, _⟩ := ho.form hpos
            exact ⟨x, p, gp, cp, Lib.hid hok, hpos, by have := hok.len; have := (HF.out.outH x hx).2; omega, hxn, rfl, Lib.hid ho, hb⟩
        clear HPa hc
        go_upto_region 17 with (first
          | (go_at_call 35; refine HLa.out.mono ?_; rintro e w4 ⟨rfl, k4⟩)
          | (go_at_call 32; refine (HAl.out w4 k4).mono ?_; rintro e w5 ⟨rfl, l5⟩; have k5 := k4.trans (l5.mono k4.size))
          | (go_at_call 33; (first | refine (HOf.out w6 k6).mono ?_ | refine (HOf.out w5 k5).mono ?_); rintro e w' ⟨rfl, h⟩; rw [h]; clear h w')
          | (go_at_call 37; refine (HPn.out w5 k5).mono ?_; rintro e w6 ⟨x, p, gp, cp, HOk, hpos, hpl, hxn, rfl, OP, l6⟩; have k6 := k5.trans (l6.mono k5.size))
          | (go_at_call 27; refine (HHs.out _).mono ?_; rintro e w' ⟨rfl, h⟩; rw [h]; clear h w'))
        have K6 := Lib.hid k6
        have hcp : ∀ V, Below w6.heap.size w6 V → V.cell? ⟨gp, 0, none⟩ = some (.int .i64 src) ∧ V.cell? ⟨gp, p.length - 1, none⟩ = some (.int .i64 node) := fun V kV => by
          have ho := own_below OP.out kV
          refine ⟨?_, ?_⟩
          · rw [ho.cellAt 0 (by omega)]; simp [HOk.out.first]
          · rw [ho.cellAt (p.length - 1) (by omega)]; simp [HOk.out.last, hxn]
        obtain ⟨cp0, cp1⟩ := hcp w6 (Below.refl _ _)
        have cs := HCs.out w6 k6
        have HS := Lib.hid (fun (V : World) (kV : Below w6.heap.size w6 V) => (show V.cell? ⟨gp, 0, none⟩ = some (.int .i64 src) ∧ V.cell? ⟨gp, p.length - 1, none⟩ = some (.int .i64 node) ∧ V.cell? ⟨w.heap.size, 2, none⟩ = some (.int .i64 src) from ⟨(hcp V kV).1, (hcp V kV).2, HCs.out V (k6.trans (kV.mono k6.size))⟩))
        have HLp := Lib.hid (lawpath_any (src := src) (z := x) w6.drew (own_below P2r.out k6.drew) (own_below OP.out (Below.refl _ w6).drew) HOk.out (by omega) hpl)
        have HWk2 : RowKit.Hid (∀ V, Below w6.heap.size w6 V → Calls Tryd.prog 30 #[] V fun e w' => e = .returned (.bool true) ∧ Below V.heap.size V w') := Lib.hid fun V kV => HWk.out V (K6.out.trans (kV.mono K6.out.size))
        have LFin2 := Lib.hid (fun V (kV : Below w6.heap.size w6 V) => LFin.out V (K6.out.trans (kV.mono K6.out.size)))
        have n4 : (0 : Int) < (p.length : Int) := by omega
        have n5 : (src == src) = true := by simp
        have n6 : (node == node) = true := by simp
        have n7 : IntKind.i64.wrap ((p.length : Int) - 1) = (p.length : Int) - 1 := IntWalk.i64_in _ (by omega)
        have n8 : (0 : Int) ≤ (p.length : Int) - 1 := by omega
        have n9 : (p.length : Int) - 1 < (p.length : Int) := by omega
        have n11 : (1 : Int) ≤ (p.length : Int) := by omega
        have n10 : ((p.length : Int) - 1).toNat = p.length - 1 := by omega
        clear hcp HWk LFin k6 HLa HAl HOf HPn HHs HCs k4 k5 l5 l6
        have HWk := HWk2
        have LFin := LFin2
        refine wp_region_held_drew (S := fun w' => w'.cell? ⟨gp, 0, none⟩ = some (.int .i64 src) ∧ w'.cell? ⟨gp, p.length - 1, none⟩ = some (.int .i64 node) ∧ w'.cell? ⟨w.heap.size, 2, none⟩ = some (.int .i64 src)) (by kernel_rfl) ⟨cp0, cp1, cs⟩ (fun hHeld => ?_)
        refine Take.take (i := 0) (oi := _) (t := 81) (v := ?v1) rfl (by kernel_rfl) (by kernel_rfl) (by kernel_rfl) (by kernel_rfl) (fun _ _ _ h => h) (by kernel_rfl) ?hy1 (by assumption) ?_
        case hy1 => (intro w hSw; (try dsimp only at hSw); go_simp; try with_reducible rfl)
        try simp only [Act.put, List.setIfInBounds_toArray, List.set_cons_zero, List.set_cons_succ]
        refine Take.take (i := 1) (oi := _) (t := 82) (v := ?v2) rfl (by kernel_rfl) (by kernel_rfl) (by kernel_rfl) (by kernel_rfl) (fun _ _ _ h => h) (by kernel_rfl) ?hy2 (by assumption) ?_
        case hy2 => (intro w hSw; (try dsimp only at hSw); go_simp; try with_reducible rfl)
        try simp only [Act.put, List.setIfInBounds_toArray, List.set_cons_zero, List.set_cons_succ]
        refine Take.take (i := 2) (oi := _) (t := 83) (v := ?v3) rfl (by kernel_rfl) (by kernel_rfl) (by kernel_rfl) (by kernel_rfl) (fun _ _ _ h => h) (by kernel_rfl) ?hy3 (by assumption) ?_
        case hy3 => (intro w hSw; (try dsimp only at hSw); go_simp; try with_reducible rfl)
        try simp only [Act.put, List.setIfInBounds_toArray, List.set_cons_zero, List.set_cons_succ]
        refine Take.take (i := 3) (oi := _) (t := 84) (v := ?v4) rfl (by kernel_rfl) (by kernel_rfl) (by kernel_rfl) (by kernel_rfl) (fun _ _ _ h => h) (by kernel_rfl) ?hy4 (by assumption) ?_
        case hy4 => (intro w hSw; (try dsimp only at hSw); go_simp; try with_reducible rfl)
        try simp only [Act.put, List.setIfInBounds_toArray, List.set_cons_zero, List.set_cons_succ]
        refine Take.take (i := 4) (oi := _) (t := 85) (v := ?v5) rfl (by kernel_rfl) (by kernel_rfl) (by kernel_rfl) (by kernel_rfl) (fun _ _ _ h => h) (by kernel_rfl) ?hy5 (by assumption) ?_
        case hy5 => (intro w hSw; (try dsimp only at hSw); go_simp; try with_reducible rfl)
        try simp only [Act.put, List.setIfInBounds_toArray, List.set_cons_zero, List.set_cons_succ]
        refine Take.take (i := 5) (oi := _) (t := 86) (v := ?v6) rfl (by kernel_rfl) (by kernel_rfl) (by kernel_rfl) (by kernel_rfl) (fun _ _ _ h => h) (by kernel_rfl) ?hy6 (by assumption) ?_
        case hy6 => (intro w hSw; (try dsimp only at hSw); go_simp; try with_reducible rfl)
        try simp only [Act.put, List.setIfInBounds_toArray, List.set_cons_zero, List.set_cons_succ]
        refine Take.take (i := 6) (oi := _) (t := 87) (v := ?v7) rfl (by kernel_rfl) (by kernel_rfl) (by kernel_rfl) (by kernel_rfl) (fun _ _ _ h => h) (by kernel_rfl) ?hy7 (by assumption) ?_
        case hy7 => (intro w hSw; (try dsimp only at hSw); go_simp; try with_reducible rfl)
        try simp only [Act.put, List.setIfInBounds_toArray, List.set_cons_zero, List.set_cons_succ]
        refine Take.take (i := 7) (oi := _) (t := 88) (v := ?v8) rfl (by kernel_rfl) (by kernel_rfl) (by kernel_rfl) (by kernel_rfl) (fun _ _ _ h => h) (by kernel_rfl) ?hy8 (by assumption) ?_
        case hy8 => (intro w hSw; (try dsimp only at hSw); go_simp; try with_reducible rfl)
        try simp only [Act.put, List.setIfInBounds_toArray, List.set_cons_zero, List.set_cons_succ]
        refine Take.take (i := 8) (oi := _) (t := 89) (v := ?v9) rfl (by kernel_rfl) (by kernel_rfl) (by kernel_rfl) (by kernel_rfl) (fun _ _ _ h => h) (by kernel_rfl) ?hy9 (by assumption) ?_
        case hy9 => (intro w hSw; (try dsimp only at hSw); go_simp; try with_reducible rfl)
        try simp only [Act.put, List.setIfInBounds_toArray, List.set_cons_zero, List.set_cons_succ]
        refine Take.take (i := 9) (oi := _) (t := 90) (v := ?v10) rfl (by kernel_rfl) (by kernel_rfl) (by kernel_rfl) (by kernel_rfl) (fun _ _ _ h => h) (by kernel_rfl) ?hy10 (by assumption) ?_
        case hy10 => (intro w hSw; (try dsimp only at hSw); go_simp; try with_reducible rfl)
        try simp only [Act.put, List.setIfInBounds_toArray, List.set_cons_zero, List.set_cons_succ]
        refine Take.take (i := 10) (oi := _) (t := 91) (v := ?v11) rfl (by kernel_rfl) (by kernel_rfl) (by kernel_rfl) (by kernel_rfl) (fun _ _ _ h => h) (by kernel_rfl) ?hy11 (by assumption) ?_
        case hy11 => (intro w hSw; (try dsimp only at hSw); go_simp; try with_reducible rfl)
        try simp only [Act.put, List.setIfInBounds_toArray, List.set_cons_zero, List.set_cons_succ]
        refine Take.take (i := 11) (oi := _) (t := 92) (v := ?v12) rfl (by kernel_rfl) (by kernel_rfl) (by kernel_rfl) (by kernel_rfl) (fun _ _ _ h => h) (by kernel_rfl) ?hy12 (by assumption) ?_
        case hy12 => (intro w hSw; (try dsimp only at hSw); go_simp; try with_reducible rfl)
        try simp only [Act.put, List.setIfInBounds_toArray, List.set_cons_zero, List.set_cons_succ]
        refine Take.take (i := 12) (oi := _) (t := 93) (v := ?v13) rfl (by kernel_rfl) (by kernel_rfl) (by kernel_rfl) (by kernel_rfl) (fun _ _ _ h => h) (by kernel_rfl) ?hy13 (by assumption) ?_
        case hy13 => (intro w hSw; (try dsimp only at hSw); go_simp; try with_reducible rfl)
        try simp only [Act.put, List.setIfInBounds_toArray, List.set_cons_zero, List.set_cons_succ]
        refine Take.take (i := 13) (oi := _) (t := 94) (v := ?v14) rfl (by kernel_rfl) (by kernel_rfl) (by kernel_rfl) (by kernel_rfl) (fun _ _ _ h => h) (by kernel_rfl) ?hy14 (by assumption) ?_
        case hy14 => (intro w hSw; (try dsimp only at hSw); go_simp; try with_reducible rfl)
        try simp only [Act.put, List.setIfInBounds_toArray, List.set_cons_zero, List.set_cons_succ]
        refine Take.take (i := 14) (oi := _) (t := 95) (v := ?v15) rfl (by kernel_rfl) (by kernel_rfl) (by kernel_rfl) (by kernel_rfl) (fun _ _ _ h => h) (by kernel_rfl) ?hy15 (by assumption) ?_
        case hy15 => (intro w hSw; (try dsimp only at hSw); go_simp; try with_reducible rfl)
        try simp only [Act.put, List.setIfInBounds_toArray, List.set_cons_zero, List.set_cons_succ]
        refine Take.take (i := 15) (oi := _) (t := 96) (v := ?v16) rfl (by kernel_rfl) (by kernel_rfl) (by kernel_rfl) (by kernel_rfl) (fun _ _ _ h => h) (by kernel_rfl) ?hy16 (by assumption) ?_
        case hy16 => (intro w hSw; (try dsimp only at hSw); go_simp; try with_reducible rfl)
        try simp only [Act.put, List.setIfInBounds_toArray, List.set_cons_zero, List.set_cons_succ]
        refine Take.take (i := 16) (oi := _) (t := 97) (v := ?v17) rfl (by kernel_rfl) (by kernel_rfl) (by kernel_rfl) (by kernel_rfl) (fun _ _ _ h => h) (by kernel_rfl) ?hy17 (by assumption) ?_
        case hy17 => (intro w hSw; (try dsimp only at hSw); go_simp; try with_reducible rfl)
        try simp only [Act.put, List.setIfInBounds_toArray, List.set_cons_zero, List.set_cons_succ]
        refine Take.take (i := 17) (oi := _) (t := 98) (v := ?v18) rfl (by kernel_rfl) (by kernel_rfl) (by kernel_rfl) (by kernel_rfl) (fun _ _ _ h => h) (by kernel_rfl) ?hy18 (by assumption) ?_
        case hy18 => (intro w hSw; (try dsimp only at hSw); go_simp; try with_reducible rfl)
        try simp only [Act.put, List.setIfInBounds_toArray, List.set_cons_zero, List.set_cons_succ]
        refine Take.take (i := 18) (oi := _) (t := 99) (v := ?v19) rfl (by kernel_rfl) (by kernel_rfl) (by kernel_rfl) (by kernel_rfl) (fun _ _ _ h => h) (by kernel_rfl) ?hy19 (by assumption) ?_
        case hy19 => (intro w hSw; (try dsimp only at hSw); go_simp; try with_reducible rfl)
        try simp only [Act.put, List.setIfInBounds_toArray, List.set_cons_zero, List.set_cons_succ]
        refine Take.take (i := 19) (oi := _) (t := 100) (v := ?v20) rfl (by kernel_rfl) (by kernel_rfl) (by kernel_rfl) (by kernel_rfl) (fun _ _ _ h => h) (by kernel_rfl) ?hy20 (by assumption) ?_
        case hy20 => (intro w hSw; (try dsimp only at hSw); go_simp; try with_reducible rfl)
        try simp only [Act.put, List.setIfInBounds_toArray, List.set_cons_zero, List.set_cons_succ]
        refine Take.take (i := 20) (oi := _) (t := 101) (v := ?v21) rfl (by kernel_rfl) (by kernel_rfl) (by kernel_rfl) (by kernel_rfl) (fun _ _ _ h => h) (by kernel_rfl) ?hy21 (by assumption) ?_
        case hy21 => (intro w hSw; (try dsimp only at hSw); go_simp; try with_reducible rfl)
        try simp only [Act.put, List.setIfInBounds_toArray, List.set_cons_zero, List.set_cons_succ]
        refine Take.take (i := 21) (oi := _) (t := 102) (v := ?v22) rfl (by kernel_rfl) (by kernel_rfl) (by kernel_rfl) (by kernel_rfl) (fun _ _ _ h => h) (by kernel_rfl) ?hy22 (by assumption) ?_
        case hy22 => (intro w hSw; (try dsimp only at hSw); go_simp; try with_reducible rfl)
        try simp only [Act.put, List.setIfInBounds_toArray, List.set_cons_zero, List.set_cons_succ]
        refine Take.take (i := 22) (oi := _) (t := 103) (v := ?v23) rfl (by kernel_rfl) (by kernel_rfl) (by kernel_rfl) (by kernel_rfl) (fun _ _ _ h => h) (by kernel_rfl) ?hy23 (by assumption) ?_
        case hy23 => (intro w hSw; (try dsimp only at hSw); go_simp; try with_reducible rfl)
        try simp only [Act.put, List.setIfInBounds_toArray, List.set_cons_zero, List.set_cons_succ]
        refine Take.take (i := 23) (oi := _) (t := 104) (v := ?v24) rfl (by kernel_rfl) (by kernel_rfl) (by kernel_rfl) (by kernel_rfl) (fun _ _ _ h => h) (by kernel_rfl) ?hy24 (by assumption) ?_
        case hy24 => (intro w hSw; (try dsimp only at hSw); go_simp; try with_reducible rfl)
        try simp only [Act.put, List.setIfInBounds_toArray, List.set_cons_zero, List.set_cons_succ]
        refine wpAnyH_ready (rs := [24]) (by kernel_rfl) (by simp) ?_
        refine AllReadyH.cons (o := _) rfl (fun K hK => ?_) AllReadyH.nil
        go_simp
        go_at_call 38
        refine HLp.out.mono ?_
        rintro e w7 ⟨rfl, l7⟩
        try dsimp only
        have L7 := Lib.hid ((Below.refl _ w6).drew.trans (l7 : Below w6.heap.size w6.drew w7))
        refine hK.out _ _ ?hS25 (fun hHeld => ?_)
        case hS25 => (first | (exact hHeld) | exact HS.out w8 L8.out | exact HS.out w7 L7.out)
        clear hK K
        try simp only [Act.put, List.setIfInBounds_toArray, List.set_cons_zero, List.set_cons_succ]
        refine Take.take (i := 25) (oi := _) (t := 106) (v := ?v26) rfl (by kernel_rfl) (by kernel_rfl) (by kernel_rfl) (by kernel_rfl) (fun _ _ _ h => h) (by kernel_rfl) ?hy26 (by assumption) ?_
        case hy26 => (intro w hSw; (try dsimp only at hSw); go_simp; try with_reducible rfl)
        try simp only [Act.put, List.setIfInBounds_toArray, List.set_cons_zero, List.set_cons_succ]
        refine Take.take (i := 26) (oi := _) (t := 107) (v := ?v27) rfl (by kernel_rfl) (by kernel_rfl) (by kernel_rfl) (by kernel_rfl) (fun _ _ _ h => h) (by kernel_rfl) ?hy27 (by assumption) ?_
        case hy27 => (intro w hSw; (try dsimp only at hSw); go_simp; try with_reducible rfl)
        try simp only [Act.put, List.setIfInBounds_toArray, List.set_cons_zero, List.set_cons_succ]
        refine wpAnyH_ready (rs := [27]) (by kernel_rfl) (by simp) ?_
        refine AllReadyH.cons (o := _) rfl (fun K hK => ?_) AllReadyH.nil
        go_simp
        go_at_call 30
        refine (HWk.out w7 L7.out).mono ?_
        rintro e w8 ⟨rfl, l8⟩
        try dsimp only
        have L8 := Lib.hid (L7.out.trans (l8.mono L7.out.size))
        refine hK.out _ _ ?hS28 (fun hHeld => ?_)
        case hS28 => (first | (exact hHeld) | exact HS.out w8 L8.out | exact HS.out w7 L7.out)
        clear hK K
        try simp only [Act.put, List.setIfInBounds_toArray, List.set_cons_zero, List.set_cons_succ]
        refine Take.take (i := 28) (oi := _) (t := 109) (v := ?v29) rfl (by kernel_rfl) (by kernel_rfl) (by kernel_rfl) (by kernel_rfl) (fun _ _ _ h => h) (by kernel_rfl) ?hy29 (by assumption) ?_
        case hy29 => (intro w hSw; (try dsimp only at hSw); go_simp; try with_reducible rfl)
        try simp only [Act.put, List.setIfInBounds_toArray, List.set_cons_zero, List.set_cons_succ]
        refine Take.take (i := 29) (oi := _) (t := 6) (v := ?v30) rfl (by kernel_rfl) (by kernel_rfl) (by kernel_rfl) (by kernel_rfl) (fun _ _ _ h => h) (by kernel_rfl) ?hy30 (by assumption) ?_
        case hy30 => (intro w hSw; (try dsimp only at hSw); go_simp; try with_reducible rfl)
        try simp only [Act.put, List.setIfInBounds_toArray, List.set_cons_zero, List.set_cons_succ]
        refine wpAnyH_done (by kernel_rfl) ?_ _
        go_wp2_with fail
        go_ret
        exact ⟨rfl, LFin.out w8 L8.out⟩
end Go.Proofs.YtmbblhajbecomaaDoor.Flood
