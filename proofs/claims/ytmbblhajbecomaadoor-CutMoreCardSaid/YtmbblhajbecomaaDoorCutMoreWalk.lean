/- The laws' walks: CutMore. -/
import Derived.Test.YtmbblhajbecomaaDoorCutWorks
import Derived.Test.YtmbblhajbecomaaDoorCutLaw
import Derived.Test.YtmbblhajbecomaaDoorCut
import Derived.Test.YtmbblhajbecomaaDoorHasList
namespace Go.Proofs.YtmbblhajbecomaaDoor.Cut
open Go.RowKit
open Go.Proofs.YtmbblhajbecomaaDoor.RF Go.Proofs.YtmbblhajbecomaaDoor.Heap Go.Proofs.YtmbblhajbecomaaDoor.Nodes Go.Proofs.YtmbblhajbecomaaDoor.Graph Go.Proofs.YtmbblhajbecomaaDoor.Reach
set_option linter.unusedVariables false
set_option linter.unusedSimpArgs false
theorem pairs_cells {w : World} {ad : Addr} {n c : Nat} {L : List (Int × Int)} (h : ∀ (i : Nat) (p : Int × Int), L[i]? = some p → ∃ b, (some ad : Option Addr) = some ⟨b, 0, none⟩ ∧ b < w.heap.size ∧ w.cell? ⟨b, i * 2, none⟩ = some (.int .i64 p.1) ∧ w.cell? ⟨b, i * 2 + 1, none⟩ = some (.int .i64 p.2)) (j : Nat) (u : Value) (hj : (pcI L)[j]? = some u) : w.cell? (ad.add j) = some u := by
  have hl := (List.getElem?_eq_some_iff.1 hj).1
  rw [pcI_len] at hl
  obtain ⟨p, hp⟩ : ∃ p, L[j / 2]? = some p := ⟨_, List.getElem?_eq_getElem (by omega)⟩
  obtain ⟨b, hb, _, h1, h2⟩ := h _ p hp
  obtain ⟨k1, k2⟩ := pcI_at L _ p hp
  injection hb with hb
  subst hb
  rw [show (⟨b, 0, none⟩ : Addr).add j = ⟨b, j, none⟩ from (by first | (simp [Addr.add]; done) | (simp [Addr.add]; omega))]
  rcases Nat.mod_two_eq_zero_or_one j with c | c
  · have e : j / 2 * 2 = j := by omega
    rw [e] at h1 k1
    rw [h1, ← k1, hj]
  · have e : j / 2 * 2 + 1 = j := by omega
    rw [e] at h2 k2
    rw [h2, ← k2, hj]
theorem wpList_append_pairs {ops : Array Oper} {rest : List Oper} {o : Oper} {a : Act} {w : World} {Q : Exit → Act → World → Prop} (hgd : o.guard = none) (s x : Operand)
    (ho : o.op = .call { callee := .builtin .append, args := #[s, x], argTypes := #[22, 22] })
    (base g : Nat) (hs : a.eval s = .slice (some ⟨g, 0, none⟩) 0 0) (hown : w.ownsRow base 55 2 (.slice (some ⟨g, 0, none⟩) 0 0) 0 [])
    (ha : Option Addr) (hc : Nat) (L : List (Int × Int)) (hx : a.eval x = .slice ha L.length hc) (hp : PairsAt w (.slice ha L.length hc) L) (hL : L.length ≤ 60) (hbase : base ≤ w.heap.size)
    (h : ∀ v' w', w'.ownsRow base 55 2 v' L.length (pcI L) → (∀ b, b ≤ base → Below b w w') → wpList Tryd.prog ops Q rest (a.put o.dst v') w') : wpList Tryd.prog ops Q (o :: rest) a w := by
  obtain ⟨i0, hi0, hz⟩ := Option.map_eq_some_iff.1 infoP
  simp only [Prod.mk.injEq] at hz
  obtain ⟨hz0, hz1, hz2⟩ := hz
  obtain ⟨⟨a', c', he, hcell⟩, _⟩ := hp
  simp only [Value.slice.injEq] at he
  obtain ⟨rfl, _, rfl⟩ := he
  rcases ha with _ | ad
  · have hL0 : L = [] := by
      rcases L with _ | ⟨p, L⟩
      · rfl
      · obtain ⟨b, hb, _⟩ := hcell 0 p rfl
        cases hb
    subst hL0
    exact wpList_append_nothing w hgd s x _ ho _ i0 Tryd.underlying22 hi0 g 0 0 hc hs hx (Nat.le_refl _) (h _ w hown (fun b _ => Below.refl _ _))
  · refine wpList_append_own w hgd s x _ ho base _ i0 _ 2 16 Tryd.underlying22 hi0 hz0 hz1 hz2 rfl (by decide) _ _ _ hs hown ad L.length hc (pcI L) hx (pcI_len L) (pairs_cells (n := 0) (c := 0) hcell) (pcI_one L) (by unfold maxLen; omega) (by omega) hbase ?_
    intro v' w' hown3 hgrow3 _
    rw [Nat.zero_add, List.nil_append] at hown3
    exact h v' w' hown3 (fun b hb => below_own (Below.refl b w) hgrow3 hown hb (by omega))
set_option maxRecDepth 100000 in
set_option maxHeartbeats 8000000 in
theorem cutmore_walk (w : World) (hT : Tab w) (n : Int) (la : Option Addr) (ll lc : Nat) (ls : List (Int × Int)) (hp : PairIn w la ll lc ls) (x0 y0 : Int) (hx0 : 0 ≤ x0 ∧ x0 ≤ 255) (hy0 : 0 ≤ y0 ∧ y0 ≤ 255) :
    Calls Tryd.prog 7 #[.agg #[.int .i64 n, .slice la ll lc], .int .u8 x0, .int .u8 y0] w fun e w' => e = .returned (.bool true) ∧ Below w.heap.size w w' := by
  obtain ⟨W, hW⟩ : ∃ W, w.alloc (.cells #[.int .i64 n, .slice la ll lc] 24) = W := ⟨_, rfl⟩
  have bW : Blk W w.heap.size 24 #[.int .i64 n, .slice la ll lc] := by rw [← hW]; exact Blk.new w _ _
  have lW0 : Below w.heap.size w W := by rw [← hW]; exact (Below.refl _ w).alloc (Nat.le_refl _) _
  have hF := Lib.hid (few_any W n la ll lc)
  have hM := Lib.hid (fun V (k : Below W.heap.size W V) => seven_ex V n la ll lc ls ((hp.below lW0).below k))
  have c0 := bW.cell 0
  have c1 := bW.cell 1
  simp at c0 c1
  have HW := Lib.hid hW
  have lW := Lib.hid lW0
  clear hW lW0 hp bW
  go_enter Tryd.func7, Tryd.ntmps7
  go_upto_region 1 with (fail)
  rw [HW.out]
  clear HW
  go_upto_region 2 with (first | (go_at_call 13; refine hF.out.mono ?_; rintro e w1 ⟨rfl, b1⟩) | (go_at_call 12; refine (hM.out _ b1).mono ?_; rintro e w2 ⟨b2, m, G, R, near, L, ha, hcp, rfl, hm1, hm2, hnl, hLl, hNw, hMt, hG, hP⟩))
  obtain ⟨W4, hW4⟩ : ∃ W4, w2.alloc (.cells #[.int .i64 (m : Nat), .slice ha L.length hcp] 27) = W4 := ⟨_, rfl⟩
  have bW4 : Blk W4 w2.heap.size 27 #[.int .i64 (m : Nat), .slice ha L.length hcp] := by rw [← hW4]; exact Blk.new w2 _ _
  have l24 : Below w2.heap.size w2 W4 := by rw [← hW4]; exact (Below.refl _ w2).alloc (Nat.le_refl _) _
  rw [hW4]
  have lw1 : Below w.heap.size w w1 := lW.out.trans (b1.mono lW.out.size)
  have lw2 : Below w.heap.size w w2 := lw1.trans (b2.mono lw1.size)
  have lW4 : Below w.heap.size w W4 := lw2.trans (l24.mono lw2.size)
  have hok : Ok near := hMt.out.ok (by omega)
  have hsy : Sym near := hMt.out.sym
  have h9 : near.length < 9 := by omega
  have g4 := hG.out.below l24 (Nat.le_refl _)
  have p4 := hP.out.off l24
  have d0 := bW4.cell 0
  have d1 := bW4.cell 1
  simp at d0 d1
  have HB4 := Lib.hid bW4
  have hT4 := hT.below lW4 hT.size
  have s4 := lW4.size
  have q4 : w2.heap.size < W4.heap.size := HB4.out.lt
  clear hW4 bW4 hM hF c0 c1 b1 b2 lW hG lw1 lw2
  obtain ⟨x, hx, hxm⟩ : ∃ x : Nat, x0.tmod (m : Int) = (x : Int) ∧ x < m := ⟨(x0 % (m : Int)).toNat, by
    rw [Int.tmod_eq_emod_of_nonneg hx0.1]
    have := Int.emod_nonneg x0 (b := (m : Int)) (by omega)
    omega, by
    have := Int.emod_nonneg x0 (b := (m : Int)) (by omega)
    have := Int.emod_lt_of_pos x0 (b := (m : Int)) (by omega)
    omega⟩
  obtain ⟨y, hy, hym⟩ : ∃ y : Nat, y0.tmod (m : Int) = (y : Int) ∧ y < m := ⟨(y0 % (m : Int)).toNat, by
    rw [Int.tmod_eq_emod_of_nonneg hy0.1]
    have := Int.emod_nonneg y0 (b := (m : Int)) (by omega)
    omega, by
    have := Int.emod_nonneg y0 (b := (m : Int)) (by omega)
    have := Int.emod_lt_of_pos y0 (b := (m : Int)) (by omega)
    omega⟩
  have wx0 : IntKind.i64.wrap x0 = x0 := IntWalk.i64_in _ (by omega)
  have wy0 : IntKind.i64.wrap y0 = y0 := IntWalk.i64_in _ (by omega)
  have wx1 : IntKind.i64.wrap (x0.tmod (m : Int)) = (x : Int) := by rw [hx]; exact IntWalk.i64_in _ (by omega)
  have wy1 : IntKind.i64.wrap (y0.tmod (m : Int)) = (y : Int) := by rw [hy]; exact IntWalk.i64_in _ (by omega)
  have hm0 : ¬ (m : Int) = 0 := by omega
  have hmp : m ≠ 0 := by omega
  have HSt := Lib.hid (fun (V : World) (k : Below W4.heap.size W4 V) => strength_any (g4.below k (Nat.le_refl _)) (hT4.below k hT4.size) hok hsy h9)
  have HTb := Lib.hid (fun (V : World) (k : Below W4.heap.size W4 V) => hT4.below k hT4.size)
  have HWk := Lib.hid (fun (V : World) (k : Below W4.heap.size W4 V) => cutworks_any V (hT4.below k hT4.size))
  have HP := Lib.hid (fun (V : World) (k : Below W4.heap.size W4 V) => p4.off k)
  have HRl := Lib.hid (fun (V : World) (k : Below W4.heap.size W4 V) => reflinked_any m (.slice ha L.length hcp) L (x : Nat) (y : Nat) V (p4.off k) (by omega))
  have HS := Lib.hid (fun (V : World) (k : Below W4.heap.size W4 V) => (show V.cell? ⟨w2.heap.size, 0, none⟩ = some (.int .i64 (m : Nat)) ∧ V.cell? ⟨w2.heap.size, 1, none⟩ = some (.slice ha L.length hcp) from ⟨(k.cell (p := ⟨w2.heap.size, 0, none⟩) q4).trans d0, (k.cell (p := ⟨w2.heap.size, 1, none⟩) q4).trans d1⟩))
  have HL := Lib.hid lW4
  have Hx := Lib.hid hx
  have Hy := Lib.hid hy
  have Hok := Lib.hid hMt.out
  clear g4 p4 hT4 hok hsy lW4 hP HB4 hMt hT l24 hx hy hx0 hy0
  go_wp2_with fail
  go_region_held3 (fun V => Below W4.heap.size W4 V ∧ V.cell? ⟨w2.heap.size, 0, none⟩ = some (.int .i64 (m : Nat))) ((first | exact ⟨Below.refl _ _, d0⟩ | exact ⟨Below.drew (Below.refl _ _), d0⟩ | (go_keep; done))) (fail)
  rw [Hx.out, Hy.out]
  obtain ⟨U, hU⟩ : ∃ U, W4.drew = U := ⟨_, rfl⟩
  have lU : Below W4.heap.size W4 U := by rw [← hU]; exact Below.drew (Below.refl _ _)
  rw [hU]
  have dU := HS.out U lU
  obtain ⟨e0, e1⟩ := dU
  have qU := Nat.lt_of_lt_of_le q4 lU.size
  rename_i hHd
  clear hHd hU d0 d1 wx0 wy0 wx1 wy1 Hx Hy hm0
  have HU := Lib.hid lU
  by_cases hxy : x = y
  · subst hxy
    have H6 := Lib.hid (HWk.out _ lU)
    clear lU
    go_wp2_with (go_at_call 18; refine H6.out.mono ?_; rintro e w6 ⟨rfl, b6⟩)
    go_ret
    exact ⟨rfl, HL.out.trans ((HU.out.trans (b6.mono HU.out.size)).mono HL.out.size)⟩
  · have hne1 : ((x : Int) == (y : Int)) = false := by simp; omega
    have HC := HRl.out U lU
    rcases hl : refL L (x : Nat) (y : Nat) with _ | _
    · rw [hl] at HC
      have HC := Lib.hid HC
      obtain ⟨near', hn'⟩ : ∃ near', nearOf m ((L ++ [((x : Int), (y : Int))]).map lk) = near' := ⟨_, rfl⟩
      obtain ⟨hnew, hM', hst, hhas, hlt⟩ := one_more hNw.out.1 hxm hym hxy hl (by omega) hNw.out.2 hn'.symm
      have ok' : Ok near' := hM'.ok (by omega)
      have sy' : Sym near' := hM'.sym
      have h9' : near'.length < 9 := by rw [hM'.len]; omega
      have Hnew := Lib.hid hnew
      have Hn' := Lib.hid hn'
      have Ho' := Lib.hid (And.intro ok' (And.intro sy' h9'))
      obtain ⟨s1, hs1⟩ : ∃ s1, strF near' = s1 := ⟨_, rfl⟩
      obtain ⟨s2, hs2⟩ : ∃ s2, strF near = s2 := ⟨_, rfl⟩
      rw [hs1, hs2] at hst
      have hge : decide (s2 ≤ s1) = true := decide_eq_true hst
      have hge2 : decide (s1 ≥ s2) = true := decide_eq_true hst
      obtain ⟨nx, hnx⟩ : ∃ nx, nearR near' x = nx := ⟨_, rfl⟩
      rw [hnx] at hhas hlt
      have Hs1 := Lib.hid hs1
      have Hs2 := Lib.hid hs2
      have Hnx := Lib.hid hnx
      have Hhas := Lib.hid hhas
      have hlt2 := Lib.hid hlt
      have HP6 := HP
      clear hnew hn' hM' ok' sy' h9' hs1 hs2 hnx hhas hlt hl lU HRl
      go_upto_region 5 with (go_at_call 25; refine HC.out.mono ?_; rintro e w6 ⟨rfl, b6⟩)
      have B6 : Below W4.heap.size W4 w6 := HU.out.trans (b6.mono HU.out.size)
      have P6 := HP.out w6 B6
      obtain ⟨f0, f1⟩ := HS.out w6 B6
      have q6 := Nat.lt_of_lt_of_le q4 B6.size
      have own0 : (w6.alloc (.cells #[] 55)).ownsRow w6.heap.size 55 2 (.slice (some ⟨w6.heap.size, 0, none⟩) 0 0) 0 [] := by
        have := row_of_blk (base := w6.heap.size) (n := 0) (s := 2) (cap := 0) (Blk.new w6 55 #[]) (Nat.le_refl _) (Nat.le_refl _) (by unfold maxLen; omega) rfl
        simpa using this
      have Own0 := Lib.hid own0
      have l6a : Below w6.heap.size w6 (w6.alloc (.cells #[] 55)) := (Below.refl _ w6).alloc (Nat.le_refl _) _
      have P6a := Lib.hid (P6.below l6a (Nat.le_refl _))
      have hwfL := Lib.hid P6.2
      have HB6 := Lib.hid B6
      have Hl6a := Lib.hid l6a
      clear own0 P6 B6 b6 e0 e1 l6a
      obtain ⟨i0, hi0, hz⟩ := Option.map_eq_some_iff.1 infoP
      simp only [Prod.mk.injEq] at hz
      obtain ⟨hz0, hz1, hz2⟩ := hz
      have Hi0 := Lib.hid hi0
      have Hz0 := Lib.hid hz0
      have Hz1 := Lib.hid hz1
      have Hz2 := Lib.hid hz2
      clear hi0 hz0 hz1 hz2
      go_upto_region 6 with (first
        | (at_builtin; refine wpList_append_pairs rfl _ _ rfl w6.heap.size w6.heap.size rfl Own0.out ha hcp L rfl P6a.out hLl (by simp) ?_; intro v7 w7 own7 lo7; obtain ⟨A7, C7, rfl⟩ := own_form own7; have l67 : Below w6.heap.size w6 w7 := Hl6a.out.trans (lo7 _ (Nat.le_refl _)); clear lo7; have f0 := (l67.cell (p := ⟨w2.heap.size, 0, none⟩) q6).trans f0; have hz7 := l67.size)
        | (at_builtin; refine wpList_append_own _ rfl _ _ 22 rfl w6.heap.size 55 i0 _ 2 16 Tryd.underlying22 Hi0.out Hz0.out Hz1.out Hz2.out rfl (by decide) _ _ _ rfl (own7.alloc _) ⟨w7.heap.size, 0, none⟩ 1 1 [.int .i64 (x : Nat), .int .i64 (y : Nat)] rfl rfl (World.news_of_block (cs := #[.int .i64 (x : Nat), .int .i64 (y : Nat)]) (t := 55) (fr := (0, 0)) (heap_alloc_new w7 _)) (by simp [Value.oneCell']) (by unfold maxLen; omega) (by omega) (by simp; omega) ?_; intro v8 w8 own8 g8 _; have l78 : Below w6.heap.size w7 w8 := below_own ((Below.refl w6.heap.size w7).alloc l67.size _) g8 (own7.alloc _) (Nat.le_refl _) l67.size))
      have q7 := Nat.lt_of_lt_of_le q6 l67.size
      have l68 : Below w6.heap.size w6 w8 := l67.trans l78
      have f0 := (l68.cell (p := ⟨w2.heap.size, 0, none⟩) q6).trans (HS.out w6 HB6.out).1
      have B8 : Below W4.heap.size W4 w8 := HB6.out.trans (l68.mono HB6.out.size)
      have P8 : PairsAt w8 v8 (L ++ [((x : Int), (y : Int))]) := own_pairs (n := L.length + 1) (by rw [pcI_snoc]; exact own8) (by simp) (fun p hp => by
        rcases List.mem_append.1 hp with c | c
        · exact hwfL.out p c
        · obtain rfl : p = ((x : Int), (y : Int)) := by simpa using c
          have k1 : IntKind.i64.min = -9223372036854775808 := by decide
          have k2 : IntKind.i64.max = 9223372036854775807 := by decide
          constructor <;> (simp only [Lit.wf, k1, k2, Bool.and_eq_true, decide_eq_true_eq]; omega))
      have HN := new_yes m v8 (L ++ [((x : Int), (y : Int))]) w8 (by omega) P8 (by simp; omega)
      rw [Hn'.out] at HN
      have HN := Lib.hid HN
      have HB8 := Lib.hid B8
      clear own7 own8 g8 l67 l78 l68 P8 P6a Own0 Hl6a hwfL HP HP6 q7 B8
      go_wp2_with fail
      refine HN.out.mono ?_
      rintro e w9 ⟨b9, (⟨_, G', R', rfl, g9⟩ | ⟨c, _⟩)⟩
      · have B9 : Below W4.heap.size W4 w9 := HB8.out.trans (b9.mono HB8.out.size)
        have HK := Lib.hid (strength_any g9 (HTb.out w9 B9) Ho'.out.1 Ho'.out.2.1 Ho'.out.2.2)
        rw [Hs1.out] at HK
        have HG9 := Lib.hid g9
        clear HN b9 g9
        go_wp2_with fail
        refine HK.out.mono ?_
        rintro e w10 ⟨rfl, b10⟩
        have B10 : Below W4.heap.size W4 w10 := B9.trans (b10.mono B9.size)
        have HK2 := HSt.out w10 B10
        rw [Hs2.out] at HK2
        have HK2 := Lib.hid HK2
        have g10 := HG9.out.below b10 (Nat.le_refl _)
        clear HK b10 B9
        go_wp2_with fail
        refine HK2.out.mono ?_
        rintro e w11 ⟨rfl, b11⟩
        have B11 : Below W4.heap.size W4 w11 := B10.trans (b11.mono B10.size)
        have HNr := near_any (g10.below b11 (Nat.le_refl _)) (x : Nat)
        rw [Hnx.out] at HNr
        have HNr := Lib.hid HNr
        have HH := refhas_any nx hlt2.out (y : Nat) w11
        rw [Hhas.out] at HH
        have HH := Lib.hid HH
        have H6 := Lib.hid (HWk.out _ B11)
        have HB11 := Lib.hid B11
        clear HK2 b11 B10 g10 B11
        go_wp2_with (first
          | (go_at_call 28; refine HNr.out.mono ?_; rintro e w' ⟨rfl, h⟩; rw [h]; clear h w')
          | (go_at_call 27; refine HH.out.mono ?_; rintro e w' ⟨rfl, h⟩; rw [h]; clear h w')
          | (go_at_call 18; refine H6.out.mono ?_; rintro e w12 ⟨rfl, b12⟩))
        go_ret
        exact ⟨rfl, HL.out.trans ((HB11.out.trans (b12.mono HB11.out.size)).mono HL.out.size)⟩
      · exact absurd Hnew.out c
    · rw [hl] at HC
      have HC := Lib.hid HC
      have H6 := Lib.hid (fun (V : World) (k : Below U.heap.size U V) => HWk.out V (HU.out.trans (k.mono HU.out.size)))
      clear hl lU
      go_wp2_with (first
        | (go_at_call 25; refine HC.out.mono ?_; rintro e w6 ⟨rfl, b6⟩)
        | (go_at_call 18; refine (H6.out _ b6).mono ?_; rintro e w7 ⟨rfl, b7⟩))
      go_ret
      exact ⟨rfl, HL.out.trans ((HU.out.trans ((b6.trans (b7.mono b6.size)).mono HU.out.size)).mono HL.out.size)⟩
end Go.Proofs.YtmbblhajbecomaaDoor.Cut
