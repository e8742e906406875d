/- The law's walk: ReachBoth. -/
import Derived.Test.YtcangalpccppbaaDoorReachLawsWalk
namespace Go.Proofs.YtcangalpccppbaaDoor.Reach
open Go.RowKit
open Go.Proofs.YtcangalpccppbaaDoor.RF Go.Proofs.YtcangalpccppbaaDoor.Heap Go.Proofs.YtcangalpccppbaaDoor.Nodes Go.Proofs.YtcangalpccppbaaDoor.Graph
set_option linter.unusedVariables false
set_option linter.unusedSimpArgs false

section
variable {near : List Nat} {off : Nat}
abbrev dAt (near : List Nat) (off i k : Nat) : Int := (distF near off (i : Int)).getD k (-1)
theorem dAt_sym (ok : Ok near) (sy : Sym near) (ho : off < 2 ^ 64) (i k : Nat) : dAt near off i k = dAt near off k i := by
  have h1 := dist_spec ok ho (i : Int)
  have h2 := dist_spec ok ho (k : Int)
  have l1 := h1.low k
  have l2 := h2.low i
  have key : ∀ a b : Nat, 0 ≤ dAt near off a b → 0 ≤ dAt near off b a ∧ dAt near off b a ≤ dAt near off a b := fun a b h => by
    have hw := way_turn sy ((dist_spec ok ho (a : Int)).way b h)
    have := (dist_spec ok ho (b : Int)).le hw
    unfold dAt at h ⊢
    omega
  rcases Int.lt_or_le (dAt near off i k) 0 with c | c
  · rcases Int.lt_or_le (dAt near off k i) 0 with d | d
    · unfold dAt at c d ⊢; omega
    · have := key k i d; unfold dAt at this c d ⊢; omega
  · have a1 := key i k c
    have a2 := key k i a1.1
    unfold dAt at a1 a2 ⊢; omega
theorem dAt_zero (ok : Ok near) (ho : off < 2 ^ 64) {i k : Nat} (hk : k < near.length) : dAt near off i k = 0 ↔ i = k ∧ off.testBit i = false := by
  have h1 := dist_spec ok ho (i : Int)
  constructor
  · intro e
    have hw := h1.way k (by unfold dAt at e; omega)
    rw [show (distF near off (i : Int)).getD k (-1) = 0 from e] at hw
    obtain ⟨a, b⟩ := way_zero.1 hw
    obtain rfl : i = k := by omega
    exact ⟨rfl, on_off b⟩
  · rintro ⟨rfl, h⟩
    exact h1.zero i rfl (on_of hk h)
theorem dAt_near (ok : Ok near) (ho : off < 2 ^ 64) (i : Nat) {a b : Nat} (ha : on near.length off a = true) (hb : on near.length off b = true) (hab : adj near a b = true) (hba : adj near b a = true) :
    dAt near off i a - dAt near off i b ≤ 1 ∧ dAt near off i b - dAt near off i a ≤ 1 := by
  have h1 := dist_spec ok ho (i : Int)
  have s1 := h1.step a b
  have s2 := h1.step b a
  have l1 := h1.low a
  have l2 := h1.low b
  unfold dAt
  rcases Int.lt_or_le ((distF near off (i : Int)).getD a (-1)) 0 with c | c
  · rcases Int.lt_or_le ((distF near off (i : Int)).getD b (-1)) 0 with d | d
    · omega
    · have := s2 d hba ha; omega
  · have e1 := s1 c hab hb
    have e2 := s2 e1.1 hba ha
    omega
end
theorem infoIS : (Tryd.prog.info? 47).map (fun i => (i.zero, i.size, i.bytes)) = some (some (.slice none 0 0), 1, 24) := by kernel_rfl
/-- Rows of rows. -/
def rs (m : Nat) (gs : List Nat) : List Value := gs.map fun g => Value.slice (some ⟨g, 0, none⟩) m m
theorem rs_snoc (m : Nat) (gs : List Nat) (g : Nat) : rs m (gs ++ [g]) = rs m gs ++ [.slice (some ⟨g, 0, none⟩) m m] := by simp [rs]
theorem RowD.grown {A B : World} {g base : Nat} {d : List Int} {e : TypeId} {s n : Nat} {v : Value} {xs : List Value} (h : RowD A g d) (o : A.ownsRow base e s v n xs) (hg : A.grownBy B v.ownBlock) (hne : 3 ≠ e) : RowD B g d := by
  obtain ⟨cur, hb, hc⟩ := h
  exact ⟨cur, (hg.block g hb.lt (own_free o hb hne)).trans hb, hc⟩
theorem own_cell {W : World} {base : Nat} {e : TypeId} {g n cap : Nat} {xs : List Value} (h : W.ownsRow base e 1 (.slice (some ⟨g, 0, none⟩) n cap) n xs) {j : Nat} {x : Value} (hj : xs[j]? = some x) : W.cell? ⟨g, j, none⟩ = some x := by
  obtain ⟨cur, hb, _, _, _, hs, ht⟩ := row_blk h
  rw [hb.cell j]
  rw [← ht, List.getElem?_take] at hj
  split at hj
  · simpa using hj
  · cases hj
structure BInv (W4 : World) (m : Nat) (near : List Nat) (off k : Nat) (gs : List Nat) (v : Value) (wr : World) : Prop where
  len : gs.length = k
  own : wr.ownsRow W4.heap.size 47 1 v gs.length (rs m gs)
  rows : ∀ j, j < k → RowD wr (gs.getD j 0) (distF near off (j : Int))
  low : Below W4.heap.size W4 wr
theorem hit_two {m : Nat} {near : List Nat} {L : List (Int × Int)} (hM : Match m near L) {p : Int × Int} (hp : p ∈ L) : ∃ a b : Nat, p = ((a : Int), (b : Int)) ∧ a < m ∧ b < m ∧ adj near a b = true ∧ adj near b a = true := by
  have h : refL L p.1 p.2 = true := by
    unfold refL
    rw [List.any_eq_true]
    exact ⟨p, hp, by simp [hit]⟩
  obtain ⟨h1, h2, h3, h4⟩ := hM.out _ _ h
  obtain ⟨x, y⟩ := p
  obtain ⟨a, rfl⟩ : ∃ a : Nat, x = a := ⟨x.toNat, by simp only at h1; omega⟩
  obtain ⟨b, rfl⟩ : ∃ b : Nat, y = b := ⟨y.toNat, by simp only at h3; omega⟩
  simp only at h h2 h4
  have ha : a < m := by omega
  have hb : b < m := by omega
  refine ⟨a, b, rfl, ha, hb, ?_, ?_⟩
  · rw [adj, hM.bits a b ha]; exact h
  · rw [adj, hM.bits b a hb, refL_comm]; exact h
set_option maxRecDepth 100000 in
set_option maxHeartbeats 8000000 in
theorem reachboth_walk (w : World) (hT : Tab w) (n : Int) (la : Option Addr) (ll lc : Nat) (ls : List (Int × Int)) (hp : PairIn w la ll lc ls) (off : Nat) (ho : off < 2 ^ 64) :
    Calls Tryd.prog 12 #[.agg #[.int .i64 n, .slice la ll lc], .int .u64 (off : Nat)] w fun e w' => e = .returned (.bool true) ∧ Below w.heap.size w w' := by
  obtain ⟨i0, hi0, hz⟩ := Option.map_eq_some_iff.1 infoIS
  simp only [Prod.mk.injEq] at hz
  obtain ⟨hz0, hz1, hz2⟩ := hz
  have Hi0 := Lib.hid hi0
  have Hz0 := Lib.hid hz0
  have Hz1 := Lib.hid hz1
  have Hz2 := Lib.hid hz2
  clear hi0 hz0 hz1 hz2
  obtain ⟨W, hW⟩ : ∃ W, w.alloc (.cells #[.int .i64 n, .slice la ll lc] 53) = W := ⟨_, rfl⟩
  have bW : Blk W w.heap.size 53 #[.int .i64 n, .slice la ll lc] := by rw [← hW]; exact Blk.new w _ _
  have lW0 : Below w.heap.size w W := by rw [← hW]; exact (Below.refl _ w).alloc (Nat.le_refl _) _
  have hM := Lib.hid (made_ex W n la ll lc ls (hp.below lW0))
  have c0 := bW.cell 0
  have c1 := bW.cell 1
  simp at c0 c1
  have HW := Lib.hid hW
  have lW := Lib.hid lW0
  clear hW lW0 hp bW
  go_enter Tryd.func12, Tryd.ntmps12
  go_upto_region 1 with (fail)
  rw [HW.out]
  clear HW
  go_upto_region 2 with (go_at_call 32; refine hM.out.mono ?_; rintro e w2 ⟨b2, m, G, R, near, L, ha, hcp, rfl, hm1, hm2, hnl, hLl, hMt, hG, hP⟩)
  obtain ⟨W4, hW4⟩ : ∃ W4, w2.alloc (.cells #[.int .i64 (m : Nat), .slice ha L.length hcp] 29) = W4 := ⟨_, rfl⟩
  have bW4 : Blk W4 w2.heap.size 29 #[.int .i64 (m : Nat), .slice ha L.length hcp] := by rw [← hW4]; exact Blk.new w2 _ _
  have l24 : Below w2.heap.size w2 W4 := by rw [← hW4]; exact (Below.refl _ w2).alloc (Nat.le_refl _) _
  rw [hW4]
  have lw2 : Below w.heap.size w w2 := lW.out.trans (b2.mono lW.out.size)
  have lW4 : Below w.heap.size w W4 := lw2.trans (l24.mono lw2.size)
  have hok : Ok near := hMt.out.ok (by omega)
  have hsy : Sym near := hMt.out.sym
  have g4 := hG.out.below l24 (Nat.le_refl _)
  have p4 := hP.out.off l24
  have d0 := bW4.cell 0
  have d1 := bW4.cell 1
  simp at d0 d1
  have HB4 := Lib.hid bW4
  have hT4 := hT.below lW4 hT.size
  have s4 := lW4.size
  clear hW4 bW4 hM c0 c1 b2 lW hG hP lw2
  obtain ⟨V, hV⟩ : ∃ V, W4.alloc (.cells #[] 47) = V := ⟨_, rfl⟩
  have lV : Below W4.heap.size W4 V := by rw [← hV]; exact (Below.refl _ W4).alloc (Nat.le_refl _) _
  have oV : V.ownsRow W4.heap.size 47 1 (.slice (some ⟨W4.heap.size, 0, none⟩) 0 0) 0 [] := by
    have := row_of_blk (base := W4.heap.size) (n := 0) (s := 1) (cap := 0) (Blk.new W4 47 #[]) (Nat.le_refl _) (Nat.le_refl _) (by unfold maxLen; omega) rfl
    rw [hV] at this
    simpa using this
  have HV := Lib.hid hV
  have HV0 : RowKit.Hid (BInv W4 m near off 0 [] (.slice (some ⟨W4.heap.size, 0, none⟩) 0 0) V) := Lib.hid ⟨rfl, oV, fun j hj => by omega, lV⟩
  have Hg4 := Lib.hid g4
  have Hp4 := Lib.hid p4
  clear hV oV lV g4 p4
  go_wp2_with fail
  rw [HV.out]
  go_loopw [8, 9] (fun v8 v9 wr => ∃ (k : Nat) (gs : List Nat), v9 = .int .i64 k ∧ k ≤ m ∧ RowKit.Hid (BInv W4 m near off k gs v8 wr)) (fun _ v9 _ => match v9 with | .int _ k => m - k.toNat | _ => 0)
  case atStart => exact ⟨0, [], rfl, Nat.zero_le _, HV0⟩
  case round =>
    clear HV0 HV d0 d1
    obtain ⟨k, gs, rfl, hk, hI⟩ := hrel
    have lR := hI.out.low
    have d0 := (HB4.out.below lR HB4.out.lt).cell 0
    have d1 := (HB4.out.below lR HB4.out.lt).cell 1
    simp at d0 d1
    have hgl := hI.out.len
    by_cases hlt : k < m
    · have l3 : (0 : Int) ≤ (k : Int) := by omega
      have l4 : (k : Int) < (m : Int) := by omega
      have sR := lR.size
      have HD := Lib.hid (dist_any (Hg4.out.below lR (Nat.le_refl _)) (hT4.below lR hT4.size) hok (k : Int) off ho)
      rw [hnl] at HD
      clear lR
      go_wp2_with fail
      refine HD.out.mono ?_
      rintro e w5 ⟨g, rfl, hgR, hD, b5⟩
      have own5 := own_below hI.out.own b5
      have low5 := hI.out.low.trans (b5.mono sR)
      have Own5 := Lib.hid own5
      have Low5 := Lib.hid low5
      have HDD := Lib.hid hD
      have B5 := Lib.hid b5
      have s5 := b5.size
      obtain ⟨q, hq⟩ : ∃ q, gs.length = q := ⟨_, rfl⟩
      rw [hq] at hgl Own5
      clear own5 low5 HD hD b5 d0 d1
      go_wp2_with (at_builtin; refine wpList_append_own _ rfl _ _ 68 rfl W4.heap.size 47 i0 _ 1 24 Tryd.underlying68 Hi0.out Hz0.out Hz1.out Hz2.out rfl (by decide) _ _ _ rfl (Own5.out.alloc _) ⟨w5.heap.size, 0, none⟩ 1 1 [.slice (some ⟨g, 0, none⟩) m m] rfl rfl (cell_one_new _ _ _) (by simp [Value.oneCell']) (by unfold maxLen; omega) (by omega) (by simp; omega) ?_; intro v' w6 hown6 hgrow6 _)
      have hg6 := hgrow6
      have hl6 : Below W4.heap.size W4 w6 := below_own (Low5.out.alloc (by omega) _) hg6 (Own5.out.alloc _) (Nat.le_refl _) (Nat.le_refl _)
      have hrow6 : ∀ j, j < k + 1 → RowD w6 ((gs ++ [g]).getD j 0) (distF near off (j : Int)) := fun j hj => by
        have step : ∀ g' d, RowD w5 g' d → RowD w6 g' d := fun g' d h => (h.below ((Below.refl _ w5).alloc (Nat.le_refl _) _)).grown (Own5.out.alloc _) hg6 (by decide)
        rcases Nat.lt_succ_iff_lt_or_eq.1 hj with c | c
        · rw [List.getD_eq_getElem?_getD, List.getElem?_append_left (by omega), ← List.getD_eq_getElem?_getD]
          exact step _ _ ((hI.out.rows j c).below B5.out)
        · subst c
          rw [List.getD_eq_getElem?_getD, List.getElem?_append_right (by omega), show j - gs.length = 0 by omega]
          exact step _ _ ⟨_, HDD.out, fun i hi => ic_at hi⟩
      have ho6 : w6.ownsRow W4.heap.size 47 1 v' (gs ++ [g]).length (rs m (gs ++ [g])) := by
        rw [rs_snoc, List.length_append, hq]; exact hown6
      obtain ⟨gd, cap, rfl⟩ := own_some ho6 (by simp)
      have hlen6 : (gs ++ [g]).length = k + 1 := by simp; omega
      have cd := own_cell ho6 (j := k) (x := .slice (some ⟨g, 0, none⟩) m m) (by unfold rs; rw [List.map_append, List.getElem?_append_right (by simp; omega)]; simp [hq, hgl])
      have HI6 := Lib.hid (show BInv W4 m near off (k + 1) (gs ++ [g]) (.slice (some ⟨gd, 0, none⟩) (gs ++ [g]).length cap) w6 from ⟨hlen6, ho6, hrow6, hl6⟩)
      have d0 := (HB4.out.below hl6 HB4.out.lt).cell 0
      simp at d0
      rw [hlen6] at HI6 ⊢
      have l5 : (k : Int) < (k : Int) + 1 := by omega
      clear hown6 hgrow6 hg6 hrow6 ho6 hI HDD B5 Own5 Low5 hl6
      go_wp2_with fail
      go_region_with fail
      all_goals
        go_wp2_with fail
        go_round
        case rel => exact ⟨k + 1, _, rfl, hlt, Lib.hid ⟨HI6.out.len, HI6.out.own, HI6.out.rows, HI6.out.low.drew⟩⟩
        case measure => simp; omega
    · obtain rfl : m = k := by omega
      obtain ⟨Wd, hWd⟩ : ∃ Wd, Wd = wr := ⟨_, rfl⟩
      subst hWd
      obtain ⟨gd, cap, rfl⟩ := own_some hI.out.own (by omega)
      have HC := Lib.hid (fun (V : World) (h : Below Wd.heap.size Wd V) (j : Nat) (hj : j < m) => (show V.cell? ⟨gd, j, none⟩ = some (.slice (some ⟨gs.getD j 0, 0, none⟩) m m) from own_cell (own_below hI.out.own h) (by simp [rs, hgl, hj])))
      have HR := Lib.hid (fun (V : World) (h : Below Wd.heap.size Wd V) (j : Nat) (hj : j < m) (q : Nat) (hq : q < m) => (show V.cell? ⟨gs.getD j 0, q, none⟩ = some (.int .i64 (dAt near off j q)) from ((hI.out.rows j hj).below h).cell (by rw [distF, distTo_len]; omega)))
      have HH := Lib.hid (fun (V : World) (h : Below Wd.heap.size Wd V) => (HB4.out.below (lR.trans (h.mono lR.size)) HB4.out.lt).cell 1)
      have HP := Lib.hid (fun (V : World) (h : Below Wd.heap.size Wd V) => Hp4.out.off (lR.trans (h.mono lR.size)))
      have HLow := Lib.hid (fun (V : World) (h : Below Wd.heap.size Wd V) => lW4.trans ((lR.trans (h.mono lR.size)).mono s4))
      have hsz := lR.size
      rw [hgl]
      have HS0 := Lib.hid (fun i k => dAt_sym hok hsy ho i k)
      have HZ0 := Lib.hid (fun (i k : Nat) (hk : k < m) => dAt_zero (near := near) (off := off) hok ho (i := i) (k := k) (by omega))
      clear hI lR hlt hk
      go_wp2_with fail
      clear d0 d1
      go_loopw [46] (fun v46 wr' => ∃ i : Nat, v46 = .int .i64 i ∧ i ≤ m ∧ RowKit.Hid (Below Wd.heap.size Wd wr')) (fun v46 _ => match v46 with | .int _ i => m - i.toNat | _ => 0)
      case atStart => exact ⟨0, rfl, Nat.zero_le _, Lib.hid (Below.refl _ _)⟩
      case round =>
        obtain ⟨i, rfl, hi, lI⟩ := hrel
        by_cases hin : i < m
        · have p1 : (0 : Int) ≤ (i : Int) := by omega
          have p2 : (i : Int) < (m : Int) := by omega
          go_wp2_with fail
          go_loopw [51] (fun v51 wr' => ∃ k : Nat, v51 = .int .i64 k ∧ k ≤ m ∧ RowKit.Hid (Below Wd.heap.size Wd wr')) (fun v51 _ => match v51 with | .int _ i => m - i.toNat | _ => 0)
          case atStart => exact ⟨0, rfl, Nat.zero_le _, lI⟩
          case round =>
            clear lI
            obtain ⟨k, rfl, hk, lK⟩ := hrel
            by_cases hkm : k < m
            · have p3 : (0 : Int) ≤ (k : Int) := by omega
              have p4 : (k : Int) < (m : Int) := by omega
              go_wp2_with fail
              go_cut [88] (fun s88 V => s88 = .bool false ∧ RowKit.Hid (Below wr.heap.size wr V))
              case first =>
                have hx1 := HZ0.out i k hkm
                have cik := fun (V : World) (h : Below Wd.heap.size Wd V) => HR.out V h i hin k hkm
                have cki := fun (V : World) (h : Below Wd.heap.size Wd V) => HR.out V h k hkm i hin
                rw [HS0.out k i] at cki
                have hhas := hasR_nat (off := off) (j := i) (by omega)
                have cdi := fun (V : World) (h : Below Wd.heap.size Wd V) => HC.out V h i hin
                have cdk := fun (V : World) (h : Below Wd.heap.size Wd V) => HC.out V h k hkm
                obtain ⟨gi, hgi⟩ : ∃ g, gs.getD i 0 = g := ⟨_, rfl⟩
                obtain ⟨gk, hgk⟩ : ∃ g, gs.getD k 0 = g := ⟨_, rfl⟩
                rw [hgi] at cik cdi
                rw [hgk] at cki cdk
                obtain ⟨x, hx⟩ : ∃ x, dAt near off i k = x := ⟨_, rfl⟩
                rw [hx] at hx1 cik cki
                clear hx
                have HS := Lib.hid (fun (w' : World) (b : Below wr.heap.size wr w') => (show Below wr.heap.size wr w' ∧ w'.cell? ⟨gd, i, none⟩ = some (.slice (some ⟨gi, 0, none⟩) m m) ∧ w'.cell? ⟨gd, k, none⟩ = some (.slice (some ⟨gk, 0, none⟩) m m) ∧ w'.cell? ⟨gi, k, none⟩ = some (.int .i64 x) ∧ w'.cell? ⟨gk, i, none⟩ = some (.int .i64 x) from ⟨b, cdi _ (lK.out.trans (b.mono lK.out.size)), cdk _ (lK.out.trans (b.mono lK.out.size)), cik _ (lK.out.trans (b.mono lK.out.size)), cki _ (lK.out.trans (b.mono lK.out.size))⟩))
                clear cik cki cdi cdk
                by_cases hik : i = k
                · subst hik
                  obtain rfl : gi = gk := hgi.symm.trans hgk
                  clear hgi hgk
                  rcases hbit : off.testBit i with _ | _
                  · rw [hbit] at hhas
                    obtain rfl := hx1.2 ⟨rfl, hbit⟩
                    have Hh := Lib.hid hhas
                    clear hx1 hhas hbit
                    refine wp_region_noPanic ?_
                    refine wp_region_held_drew (S := fun w' => Below wr.heap.size wr w' ∧ w'.cell? ⟨gd, i, none⟩ = some (.slice (some ⟨gi, 0, none⟩) m m) ∧ w'.cell? ⟨gd, i, none⟩ = some (.slice (some ⟨gi, 0, none⟩) m m) ∧ w'.cell? ⟨gi, i, none⟩ = some (.int .i64 0) ∧ w'.cell? ⟨gi, i, none⟩ = some (.int .i64 0)) (by kernel_rfl) (HS.out _ (Below.refl _ _).drew) (fun hHeld => ?_)
                    refine Take.take (i := 0) (oi := _) (t := 54) (v := ?v1) rfl (by kernel_rfl) (by kernel_rfl) (by kernel_rfl) (by kernel_rfl) (fun _ _ _ h => h) (by kernel_rfl) ?hy1 (by assumption) ?_
                    case hy1 => (intro w hSw; (try dsimp only at hSw); go_simp; try with_reducible rfl)
                    try simp only [Act.put, List.setIfInBounds_toArray, List.set_cons_zero, List.set_cons_succ]
                    refine Take.take (i := 1) (oi := _) (t := 55) (v := ?v2) rfl (by kernel_rfl) (by kernel_rfl) (by kernel_rfl) (by kernel_rfl) (fun _ _ _ h => h) (by kernel_rfl) ?hy2 (by assumption) ?_
                    case hy2 => (intro w hSw; (try dsimp only at hSw); go_simp; try with_reducible rfl)
                    try simp only [Act.put, List.setIfInBounds_toArray, List.set_cons_zero, List.set_cons_succ]
                    refine Take.take (i := 2) (oi := _) (t := 56) (v := ?v3) rfl (by kernel_rfl) (by kernel_rfl) (by kernel_rfl) (by kernel_rfl) (fun _ _ _ h => h) (by kernel_rfl) ?hy3 (by assumption) ?_
                    case hy3 => (intro w hSw; (try dsimp only at hSw); go_simp; try with_reducible rfl)
                    try simp only [Act.put, List.setIfInBounds_toArray, List.set_cons_zero, List.set_cons_succ]
                    refine Take.take (i := 3) (oi := _) (t := 57) (v := ?v4) rfl (by kernel_rfl) (by kernel_rfl) (by kernel_rfl) (by kernel_rfl) (fun _ _ _ h => h) (by kernel_rfl) ?hy4 (by assumption) ?_
                    case hy4 => (intro w hSw; (try dsimp only at hSw); go_simp; try with_reducible rfl)
                    try simp only [Act.put, List.setIfInBounds_toArray, List.set_cons_zero, List.set_cons_succ]
                    refine Take.take (i := 4) (oi := _) (t := 58) (v := ?v5) rfl (by kernel_rfl) (by kernel_rfl) (by kernel_rfl) (by kernel_rfl) (fun _ _ _ h => h) (by kernel_rfl) ?hy5 (by assumption) ?_
                    case hy5 => (intro w hSw; (try dsimp only at hSw); go_simp; try with_reducible rfl)
                    try simp only [Act.put, List.setIfInBounds_toArray, List.set_cons_zero, List.set_cons_succ]
                    refine Take.take (i := 5) (oi := _) (t := 59) (v := ?v6) rfl (by kernel_rfl) (by kernel_rfl) (by kernel_rfl) (by kernel_rfl) (fun _ _ _ h => h) (by kernel_rfl) ?hy6 (by assumption) ?_
                    case hy6 => (intro w hSw; (try dsimp only at hSw); go_simp; try with_reducible rfl)
                    try simp only [Act.put, List.setIfInBounds_toArray, List.set_cons_zero, List.set_cons_succ]
                    refine Take.take (i := 6) (oi := _) (t := 60) (v := ?v7) rfl (by kernel_rfl) (by kernel_rfl) (by kernel_rfl) (by kernel_rfl) (fun _ _ _ h => h) (by kernel_rfl) ?hy7 (by assumption) ?_
                    case hy7 => (intro w hSw; (try dsimp only at hSw); go_simp; try with_reducible rfl)
                    try simp only [Act.put, List.setIfInBounds_toArray, List.set_cons_zero, List.set_cons_succ]
                    refine Take.take (i := 7) (oi := _) (t := 61) (v := ?v8) rfl (by kernel_rfl) (by kernel_rfl) (by kernel_rfl) (by kernel_rfl) (fun _ _ _ h => h) (by kernel_rfl) ?hy8 (by assumption) ?_
                    case hy8 => (intro w hSw; (try dsimp only at hSw); go_simp; try with_reducible rfl)
                    try simp only [Act.put, List.setIfInBounds_toArray, List.set_cons_zero, List.set_cons_succ]
                    refine Take.take (i := 8) (oi := _) (t := 62) (v := ?v9) rfl (by kernel_rfl) (by kernel_rfl) (by kernel_rfl) (by kernel_rfl) (fun _ _ _ h => h) (by kernel_rfl) ?hy9 (by assumption) ?_
                    case hy9 => (intro w hSw; (try dsimp only at hSw); go_simp; try with_reducible rfl)
                    try simp only [Act.put, List.setIfInBounds_toArray, List.set_cons_zero, List.set_cons_succ]
                    refine Take.take (i := 9) (oi := _) (t := 63) (v := ?v10) rfl (by kernel_rfl) (by kernel_rfl) (by kernel_rfl) (by kernel_rfl) (fun _ _ _ h => h) (by kernel_rfl) ?hy10 (by assumption) ?_
                    case hy10 => (intro w hSw; (try dsimp only at hSw); go_simp; try with_reducible rfl)
                    try simp only [Act.put, List.setIfInBounds_toArray, List.set_cons_zero, List.set_cons_succ]
                    refine Take.take (i := 10) (oi := _) (t := 64) (v := ?v11) rfl (by kernel_rfl) (by kernel_rfl) (by kernel_rfl) (by kernel_rfl) (fun _ _ _ h => h) (by kernel_rfl) ?hy11 (by assumption) ?_
                    case hy11 => (intro w hSw; (try dsimp only at hSw); go_simp; try with_reducible rfl)
                    try simp only [Act.put, List.setIfInBounds_toArray, List.set_cons_zero, List.set_cons_succ]
                    refine Take.take (i := 11) (oi := _) (t := 65) (v := ?v12) rfl (by kernel_rfl) (by kernel_rfl) (by kernel_rfl) (by kernel_rfl) (fun _ _ _ h => h) (by kernel_rfl) ?hy12 (by assumption) ?_
                    case hy12 => (intro w hSw; (try dsimp only at hSw); go_simp; try with_reducible rfl)
                    try simp only [Act.put, List.setIfInBounds_toArray, List.set_cons_zero, List.set_cons_succ]
                    refine Take.take (i := 12) (oi := _) (t := 66) (v := ?v13) rfl (by kernel_rfl) (by kernel_rfl) (by kernel_rfl) (by kernel_rfl) (fun _ _ _ h => h) (by kernel_rfl) ?hy13 (by assumption) ?_
                    case hy13 => (intro w hSw; (try dsimp only at hSw); go_simp; try with_reducible rfl)
                    try simp only [Act.put, List.setIfInBounds_toArray, List.set_cons_zero, List.set_cons_succ]
                    refine Take.take (i := 13) (oi := _) (t := 67) (v := ?v14) rfl (by kernel_rfl) (by kernel_rfl) (by kernel_rfl) (by kernel_rfl) (fun _ _ _ h => h) (by kernel_rfl) ?hy14 (by assumption) ?_
                    case hy14 => (intro w hSw; (try dsimp only at hSw); go_simp; try with_reducible rfl)
                    try simp only [Act.put, List.setIfInBounds_toArray, List.set_cons_zero, List.set_cons_succ]
                    refine Take.take (i := 14) (oi := _) (t := 68) (v := ?v15) rfl (by kernel_rfl) (by kernel_rfl) (by kernel_rfl) (by kernel_rfl) (fun _ _ _ h => h) (by kernel_rfl) ?hy15 (by assumption) ?_
                    case hy15 => (intro w hSw; (try dsimp only at hSw); go_simp; try with_reducible rfl)
                    try simp only [Act.put, List.setIfInBounds_toArray, List.set_cons_zero, List.set_cons_succ]
                    refine Take.take (i := 15) (oi := _) (t := 69) (v := ?v16) rfl (by kernel_rfl) (by kernel_rfl) (by kernel_rfl) (by kernel_rfl) (fun _ _ _ h => h) (by kernel_rfl) ?hy16 (by assumption) ?_
                    case hy16 => (intro w hSw; (try dsimp only at hSw); go_simp; try with_reducible rfl)
                    try simp only [Act.put, List.setIfInBounds_toArray, List.set_cons_zero, List.set_cons_succ]
                    refine Take.take (i := 16) (oi := _) (t := 70) (v := ?v17) rfl (by kernel_rfl) (by kernel_rfl) (by kernel_rfl) (by kernel_rfl) (fun _ _ _ h => h) (by kernel_rfl) ?hy17 (by assumption) ?_
                    case hy17 => (intro w hSw; (try dsimp only at hSw); go_simp; try with_reducible rfl)
                    try simp only [Act.put, List.setIfInBounds_toArray, List.set_cons_zero, List.set_cons_succ]
                    refine Take.take (i := 17) (oi := _) (t := 71) (v := ?v18) rfl (by kernel_rfl) (by kernel_rfl) (by kernel_rfl) (by kernel_rfl) (fun _ _ _ h => h) (by kernel_rfl) ?hy18 (by assumption) ?_
                    case hy18 => (intro w hSw; (try dsimp only at hSw); go_simp; try with_reducible rfl)
                    try simp only [Act.put, List.setIfInBounds_toArray, List.set_cons_zero, List.set_cons_succ]
                    refine Take.take (i := 18) (oi := _) (t := 72) (v := ?v19) rfl (by kernel_rfl) (by kernel_rfl) (by kernel_rfl) (by kernel_rfl) (fun _ _ _ h => h) (by kernel_rfl) ?hy19 (by assumption) ?_
                    case hy19 => (intro w hSw; (try dsimp only at hSw); go_simp; try with_reducible rfl)
                    try simp only [Act.put, List.setIfInBounds_toArray, List.set_cons_zero, List.set_cons_succ]
                    refine Take.take (i := 19) (oi := _) (t := 73) (v := ?v20) rfl (by kernel_rfl) (by kernel_rfl) (by kernel_rfl) (by kernel_rfl) (fun _ _ _ h => h) (by kernel_rfl) ?hy20 (by assumption) ?_
                    case hy20 => (intro w hSw; (try dsimp only at hSw); go_simp; try with_reducible rfl)
                    try simp only [Act.put, List.setIfInBounds_toArray, List.set_cons_zero, List.set_cons_succ]
                    refine Take.take (i := 20) (oi := _) (t := 74) (v := ?v21) rfl (by kernel_rfl) (by kernel_rfl) (by kernel_rfl) (by kernel_rfl) (fun _ _ _ h => h) (by kernel_rfl) ?hy21 (by assumption) ?_
                    case hy21 => (intro w hSw; (try dsimp only at hSw); go_simp; try with_reducible rfl)
                    try simp only [Act.put, List.setIfInBounds_toArray, List.set_cons_zero, List.set_cons_succ]
                    refine Take.take (i := 21) (oi := _) (t := 75) (v := ?v22) rfl (by kernel_rfl) (by kernel_rfl) (by kernel_rfl) (by kernel_rfl) (fun _ _ _ h => h) (by kernel_rfl) ?hy22 (by assumption) ?_
                    case hy22 => (intro w hSw; (try dsimp only at hSw); go_simp; try with_reducible rfl)
                    try simp only [Act.put, List.setIfInBounds_toArray, List.set_cons_zero, List.set_cons_succ]
                    refine Take.take (i := 22) (oi := _) (t := 76) (v := ?v23) rfl (by kernel_rfl) (by kernel_rfl) (by kernel_rfl) (by kernel_rfl) (fun _ _ _ h => h) (by kernel_rfl) ?hy23 (by assumption) ?_
                    case hy23 => (intro w hSw; (try dsimp only at hSw); go_simp; try with_reducible rfl)
                    try simp only [Act.put, List.setIfInBounds_toArray, List.set_cons_zero, List.set_cons_succ]
                    refine Take.take (i := 23) (oi := _) (t := 77) (v := ?v24) rfl (by kernel_rfl) (by kernel_rfl) (by kernel_rfl) (by kernel_rfl) (fun _ _ _ h => h) (by kernel_rfl) ?hy24 (by assumption) ?_
                    case hy24 => (intro w hSw; (try dsimp only at hSw); go_simp; try with_reducible rfl)
                    try simp only [Act.put, List.setIfInBounds_toArray, List.set_cons_zero, List.set_cons_succ]
                    refine Take.take (i := 24) (oi := _) (t := 78) (v := ?v25) rfl (by kernel_rfl) (by kernel_rfl) (by kernel_rfl) (by kernel_rfl) (fun _ _ _ h => h) (by kernel_rfl) ?hy25 (by assumption) ?_
                    case hy25 => (intro w hSw; (try dsimp only at hSw); go_simp; try with_reducible rfl)
                    try simp only [Act.put, List.setIfInBounds_toArray, List.set_cons_zero, List.set_cons_succ]
                    refine Take.take (i := 25) (oi := _) (t := 79) (v := ?v26) rfl (by kernel_rfl) (by kernel_rfl) (by kernel_rfl) (by kernel_rfl) (fun _ _ _ h => h) (by kernel_rfl) ?hy26 (by assumption) ?_
                    case hy26 => (intro w hSw; (try dsimp only at hSw); go_simp; try with_reducible rfl)
                    try simp only [Act.put, List.setIfInBounds_toArray, List.set_cons_zero, List.set_cons_succ]
                    refine Take.take (i := 26) (oi := _) (t := 80) (v := ?v27) rfl (by kernel_rfl) (by kernel_rfl) (by kernel_rfl) (by kernel_rfl) (fun _ _ _ h => h) (by kernel_rfl) ?hy27 (by assumption) ?_
                    case hy27 => (intro w hSw; (try dsimp only at hSw); go_simp; try with_reducible rfl)
                    try simp only [Act.put, List.setIfInBounds_toArray, List.set_cons_zero, List.set_cons_succ]
                    refine Take.take (i := 27) (oi := _) (t := 81) (v := ?v28) rfl (by kernel_rfl) (by kernel_rfl) (by kernel_rfl) (by kernel_rfl) (fun _ _ _ h => h) (by kernel_rfl) ?hy28 (by assumption) ?_
                    case hy28 => (intro w hSw; (try dsimp only at hSw); go_simp; try with_reducible rfl)
                    try simp only [Act.put, List.setIfInBounds_toArray, List.set_cons_zero, List.set_cons_succ]
                    refine Take.take (i := 28) (oi := _) (t := 82) (v := ?v29) rfl (by kernel_rfl) (by kernel_rfl) (by kernel_rfl) (by kernel_rfl) (fun _ _ _ h => h) (by kernel_rfl) ?hy29 (by assumption) ?_
                    case hy29 => (intro w hSw; (try dsimp only at hSw); go_simp; try with_reducible rfl)
                    try simp only [Act.put, List.setIfInBounds_toArray, List.set_cons_zero, List.set_cons_succ]
                    refine Take.take (i := 29) (oi := _) (t := 83) (v := ?v30) rfl (by kernel_rfl) (by kernel_rfl) (by kernel_rfl) (by kernel_rfl) (fun _ _ _ h => h) (by kernel_rfl) ?hy30 (by assumption) ?_
                    case hy30 => (intro w hSw; (try dsimp only at hSw); go_simp; try with_reducible rfl)
                    try simp only [Act.put, List.setIfInBounds_toArray, List.set_cons_zero, List.set_cons_succ]
                    refine wpAnyH_ready (rs := [30]) (by kernel_rfl) (by simp) ?_
                    refine AllReadyH.cons (o := _) rfl (fun K hK => ?_) AllReadyH.nil
                    obtain ⟨hB, _⟩ : Below wr.heap.size wr _ ∧ _ := (by assumption)
                    go_simp
                    go_at_call 43
                    refine (refhas_any off ho (i : Int) _).mono ?_
                    rintro e w4 ⟨rfl, hw⟩
                    rw [hw, Hh.out]
                    clear hw w4
                    try dsimp only
                    refine hK.out _ _ ?hS31 (fun hHeld => ?_)
                    case hS31 => (first | exact HS.out _ (by assumption) | (obtain ⟨hB, _⟩ : Below wr.heap.size wr _ ∧ _ := (by assumption); exact HS.out _ (Below.trans hB (Below.mono (by assumption) hB.size))) | (obtain ⟨hB, _⟩ : Below wr.heap.size wr _ ∧ _ := (by assumption); exact HS.out _ hB))
                    clear hB hK K
                    try simp only [Act.put, List.setIfInBounds_toArray, List.set_cons_zero, List.set_cons_succ]
                    refine Take.take (i := 31) (oi := _) (t := 85) (v := ?v32) rfl (by kernel_rfl) (by kernel_rfl) (by kernel_rfl) (by kernel_rfl) (fun _ _ _ h => h) (by kernel_rfl) ?hy32 (by assumption) ?_
                    case hy32 => (intro w hSw; (try dsimp only at hSw); go_simp; try with_reducible rfl)
                    try simp only [Act.put, List.setIfInBounds_toArray, List.set_cons_zero, List.set_cons_succ]
                    refine Take.take (i := 32) (oi := _) (t := 86) (v := ?v33) rfl (by kernel_rfl) (by kernel_rfl) (by kernel_rfl) (by kernel_rfl) (fun _ _ _ h => h) (by kernel_rfl) ?hy33 (by assumption) ?_
                    case hy33 => (intro w hSw; (try dsimp only at hSw); go_simp; try with_reducible rfl)
                    try simp only [Act.put, List.setIfInBounds_toArray, List.set_cons_zero, List.set_cons_succ]
                    refine Take.take (i := 33) (oi := _) (t := 87) (v := ?v34) rfl (by kernel_rfl) (by kernel_rfl) (by kernel_rfl) (by kernel_rfl) (fun _ _ _ h => h) (by kernel_rfl) ?hy34 (by assumption) ?_
                    case hy34 => (intro w hSw; (try dsimp only at hSw); go_simp; try with_reducible rfl)
                    try simp only [Act.put, List.setIfInBounds_toArray, List.set_cons_zero, List.set_cons_succ]
                    refine Take.take (i := 34) (oi := _) (t := 88) (v := ?v35) rfl (by kernel_rfl) (by kernel_rfl) (by kernel_rfl) (by kernel_rfl) (fun _ _ _ h => h) (by kernel_rfl) ?hy35 (by assumption) ?_
                    case hy35 => (intro w hSw; (try dsimp only at hSw); go_simp; try with_reducible rfl)
                    try simp only [Act.put, List.setIfInBounds_toArray, List.set_cons_zero, List.set_cons_succ]
                    refine wpAnyH_done (by kernel_rfl) ?_ _
                    refine NoPanic.normal ?_
                    go_wp2_with fail
                    go_meet
                    obtain ⟨hB, _⟩ : Below wr.heap.size wr _ ∧ _ := (by assumption)
                    exact ⟨by first | rfl | simp [hx0], Lib.hid hB⟩
                  · rw [hbit] at hhas
                    have hx0 : ¬ x = 0 := fun c => by have := (hx1.1 c).2; rw [hbit] at this; cases this
                    have Hh := Lib.hid hhas
                    clear hx1 hhas hbit
                    refine wp_region_noPanic ?_
                    refine wp_region_held_drew (S := fun w' => Below wr.heap.size wr w' ∧ w'.cell? ⟨gd, i, none⟩ = some (.slice (some ⟨gi, 0, none⟩) m m) ∧ w'.cell? ⟨gd, i, none⟩ = some (.slice (some ⟨gi, 0, none⟩) m m) ∧ w'.cell? ⟨gi, i, none⟩ = some (.int .i64 x) ∧ w'.cell? ⟨gi, i, none⟩ = some (.int .i64 x)) (by kernel_rfl) (HS.out _ (Below.refl _ _).drew) (fun hHeld => ?_)
                    refine Take.take (i := 0) (oi := _) (t := 54) (v := ?v36) rfl (by kernel_rfl) (by kernel_rfl) (by kernel_rfl) (by kernel_rfl) (fun _ _ _ h => h) (by kernel_rfl) ?hy36 (by assumption) ?_
                    case hy36 => (intro w hSw; (try dsimp only at hSw); go_simp; try with_reducible rfl)
                    try simp only [Act.put, List.setIfInBounds_toArray, List.set_cons_zero, List.set_cons_succ]
                    refine Take.take (i := 1) (oi := _) (t := 55) (v := ?v37) rfl (by kernel_rfl) (by kernel_rfl) (by kernel_rfl) (by kernel_rfl) (fun _ _ _ h => h) (by kernel_rfl) ?hy37 (by assumption) ?_
                    case hy37 => (intro w hSw; (try dsimp only at hSw); go_simp; try with_reducible rfl)
                    try simp only [Act.put, List.setIfInBounds_toArray, List.set_cons_zero, List.set_cons_succ]
                    refine Take.take (i := 2) (oi := _) (t := 56) (v := ?v38) rfl (by kernel_rfl) (by kernel_rfl) (by kernel_rfl) (by kernel_rfl) (fun _ _ _ h => h) (by kernel_rfl) ?hy38 (by assumption) ?_
                    case hy38 => (intro w hSw; (try dsimp only at hSw); go_simp; try with_reducible rfl)
                    try simp only [Act.put, List.setIfInBounds_toArray, List.set_cons_zero, List.set_cons_succ]
                    refine Take.take (i := 3) (oi := _) (t := 57) (v := ?v39) rfl (by kernel_rfl) (by kernel_rfl) (by kernel_rfl) (by kernel_rfl) (fun _ _ _ h => h) (by kernel_rfl) ?hy39 (by assumption) ?_
                    case hy39 => (intro w hSw; (try dsimp only at hSw); go_simp; try with_reducible rfl)
                    try simp only [Act.put, List.setIfInBounds_toArray, List.set_cons_zero, List.set_cons_succ]
                    refine Take.take (i := 4) (oi := _) (t := 58) (v := ?v40) rfl (by kernel_rfl) (by kernel_rfl) (by kernel_rfl) (by kernel_rfl) (fun _ _ _ h => h) (by kernel_rfl) ?hy40 (by assumption) ?_
                    case hy40 => (intro w hSw; (try dsimp only at hSw); go_simp; try with_reducible rfl)
                    try simp only [Act.put, List.setIfInBounds_toArray, List.set_cons_zero, List.set_cons_succ]
                    refine Take.take (i := 5) (oi := _) (t := 59) (v := ?v41) rfl (by kernel_rfl) (by kernel_rfl) (by kernel_rfl) (by kernel_rfl) (fun _ _ _ h => h) (by kernel_rfl) ?hy41 (by assumption) ?_
                    case hy41 => (intro w hSw; (try dsimp only at hSw); go_simp; try with_reducible rfl)
                    try simp only [Act.put, List.setIfInBounds_toArray, List.set_cons_zero, List.set_cons_succ]
                    refine Take.take (i := 6) (oi := _) (t := 60) (v := ?v42) rfl (by kernel_rfl) (by kernel_rfl) (by kernel_rfl) (by kernel_rfl) (fun _ _ _ h => h) (by kernel_rfl) ?hy42 (by assumption) ?_
                    case hy42 => (intro w hSw; (try dsimp only at hSw); go_simp; try with_reducible rfl)
                    try simp only [Act.put, List.setIfInBounds_toArray, List.set_cons_zero, List.set_cons_succ]
                    refine Take.take (i := 7) (oi := _) (t := 61) (v := ?v43) rfl (by kernel_rfl) (by kernel_rfl) (by kernel_rfl) (by kernel_rfl) (fun _ _ _ h => h) (by kernel_rfl) ?hy43 (by assumption) ?_
                    case hy43 => (intro w hSw; (try dsimp only at hSw); go_simp; try with_reducible rfl)
                    try simp only [Act.put, List.setIfInBounds_toArray, List.set_cons_zero, List.set_cons_succ]
                    refine Take.take (i := 8) (oi := _) (t := 62) (v := ?v44) rfl (by kernel_rfl) (by kernel_rfl) (by kernel_rfl) (by kernel_rfl) (fun _ _ _ h => h) (by kernel_rfl) ?hy44 (by assumption) ?_
                    case hy44 => (intro w hSw; (try dsimp only at hSw); go_simp; try with_reducible rfl)
                    try simp only [Act.put, List.setIfInBounds_toArray, List.set_cons_zero, List.set_cons_succ]
                    refine Take.take (i := 9) (oi := _) (t := 63) (v := ?v45) rfl (by kernel_rfl) (by kernel_rfl) (by kernel_rfl) (by kernel_rfl) (fun _ _ _ h => h) (by kernel_rfl) ?hy45 (by assumption) ?_
                    case hy45 => (intro w hSw; (try dsimp only at hSw); go_simp; try with_reducible rfl)
                    try simp only [Act.put, List.setIfInBounds_toArray, List.set_cons_zero, List.set_cons_succ]
                    refine Take.take (i := 10) (oi := _) (t := 64) (v := ?v46) rfl (by kernel_rfl) (by kernel_rfl) (by kernel_rfl) (by kernel_rfl) (fun _ _ _ h => h) (by kernel_rfl) ?hy46 (by assumption) ?_
                    case hy46 => (intro w hSw; (try dsimp only at hSw); go_simp; try with_reducible rfl)
                    try simp only [Act.put, List.setIfInBounds_toArray, List.set_cons_zero, List.set_cons_succ]
                    refine Take.take (i := 11) (oi := _) (t := 65) (v := ?v47) rfl (by kernel_rfl) (by kernel_rfl) (by kernel_rfl) (by kernel_rfl) (fun _ _ _ h => h) (by kernel_rfl) ?hy47 (by assumption) ?_
                    case hy47 => (intro w hSw; (try dsimp only at hSw); go_simp; try with_reducible rfl)
                    try simp only [Act.put, List.setIfInBounds_toArray, List.set_cons_zero, List.set_cons_succ]
                    refine Take.take (i := 12) (oi := _) (t := 66) (v := ?v48) rfl (by kernel_rfl) (by kernel_rfl) (by kernel_rfl) (by kernel_rfl) (fun _ _ _ h => h) (by kernel_rfl) ?hy48 (by assumption) ?_
                    case hy48 => (intro w hSw; (try dsimp only at hSw); go_simp; try with_reducible rfl)
                    try simp only [Act.put, List.setIfInBounds_toArray, List.set_cons_zero, List.set_cons_succ]
                    refine Take.take (i := 13) (oi := _) (t := 67) (v := ?v49) rfl (by kernel_rfl) (by kernel_rfl) (by kernel_rfl) (by kernel_rfl) (fun _ _ _ h => h) (by kernel_rfl) ?hy49 (by assumption) ?_
                    case hy49 => (intro w hSw; (try dsimp only at hSw); go_simp; try with_reducible rfl)
                    try simp only [Act.put, List.setIfInBounds_toArray, List.set_cons_zero, List.set_cons_succ]
                    refine Take.take (i := 14) (oi := _) (t := 68) (v := ?v50) rfl (by kernel_rfl) (by kernel_rfl) (by kernel_rfl) (by kernel_rfl) (fun _ _ _ h => h) (by kernel_rfl) ?hy50 (by assumption) ?_
                    case hy50 => (intro w hSw; (try dsimp only at hSw); go_simp; try with_reducible rfl)
                    try simp only [Act.put, List.setIfInBounds_toArray, List.set_cons_zero, List.set_cons_succ]
                    refine Take.take (i := 15) (oi := _) (t := 69) (v := ?v51) rfl (by kernel_rfl) (by kernel_rfl) (by kernel_rfl) (by kernel_rfl) (fun _ _ _ h => h) (by kernel_rfl) ?hy51 (by assumption) ?_
                    case hy51 => (intro w hSw; (try dsimp only at hSw); go_simp; try with_reducible rfl)
                    try simp only [Act.put, List.setIfInBounds_toArray, List.set_cons_zero, List.set_cons_succ]
                    refine Take.take (i := 16) (oi := _) (t := 70) (v := ?v52) rfl (by kernel_rfl) (by kernel_rfl) (by kernel_rfl) (by kernel_rfl) (fun _ _ _ h => h) (by kernel_rfl) ?hy52 (by assumption) ?_
                    case hy52 => (intro w hSw; (try dsimp only at hSw); go_simp; try with_reducible rfl)
                    try simp only [Act.put, List.setIfInBounds_toArray, List.set_cons_zero, List.set_cons_succ]
                    refine Take.take (i := 17) (oi := _) (t := 71) (v := ?v53) rfl (by kernel_rfl) (by kernel_rfl) (by kernel_rfl) (by kernel_rfl) (fun _ _ _ h => h) (by kernel_rfl) ?hy53 (by assumption) ?_
                    case hy53 => (intro w hSw; (try dsimp only at hSw); go_simp; try with_reducible rfl)
                    try simp only [Act.put, List.setIfInBounds_toArray, List.set_cons_zero, List.set_cons_succ]
                    refine Take.take (i := 18) (oi := _) (t := 72) (v := ?v54) rfl (by kernel_rfl) (by kernel_rfl) (by kernel_rfl) (by kernel_rfl) (fun _ _ _ h => h) (by kernel_rfl) ?hy54 (by assumption) ?_
                    case hy54 => (intro w hSw; (try dsimp only at hSw); go_simp; try with_reducible rfl)
                    try simp only [Act.put, List.setIfInBounds_toArray, List.set_cons_zero, List.set_cons_succ]
                    refine Take.take (i := 19) (oi := _) (t := 73) (v := ?v55) rfl (by kernel_rfl) (by kernel_rfl) (by kernel_rfl) (by kernel_rfl) (fun _ _ _ h => h) (by kernel_rfl) ?hy55 (by assumption) ?_
                    case hy55 => (intro w hSw; (try dsimp only at hSw); go_simp; try with_reducible rfl)
                    try simp only [Act.put, List.setIfInBounds_toArray, List.set_cons_zero, List.set_cons_succ]
                    refine Take.take (i := 20) (oi := _) (t := 74) (v := ?v56) rfl (by kernel_rfl) (by kernel_rfl) (by kernel_rfl) (by kernel_rfl) (fun _ _ _ h => h) (by kernel_rfl) ?hy56 (by assumption) ?_
                    case hy56 => (intro w hSw; (try dsimp only at hSw); go_simp; try with_reducible rfl)
                    try simp only [Act.put, List.setIfInBounds_toArray, List.set_cons_zero, List.set_cons_succ]
                    refine Take.take (i := 21) (oi := _) (t := 75) (v := ?v57) rfl (by kernel_rfl) (by kernel_rfl) (by kernel_rfl) (by kernel_rfl) (fun _ _ _ h => h) (by kernel_rfl) ?hy57 (by assumption) ?_
                    case hy57 => (intro w hSw; (try dsimp only at hSw); go_simp; try with_reducible rfl)
                    try simp only [Act.put, List.setIfInBounds_toArray, List.set_cons_zero, List.set_cons_succ]
                    refine Take.take (i := 22) (oi := _) (t := 76) (v := ?v58) rfl (by kernel_rfl) (by kernel_rfl) (by kernel_rfl) (by kernel_rfl) (fun _ _ _ h => h) (by kernel_rfl) ?hy58 (by assumption) ?_
                    case hy58 => (intro w hSw; (try dsimp only at hSw); go_simp; try with_reducible rfl)
                    try simp only [Act.put, List.setIfInBounds_toArray, List.set_cons_zero, List.set_cons_succ]
                    refine Take.take (i := 23) (oi := _) (t := 77) (v := ?v59) rfl (by kernel_rfl) (by kernel_rfl) (by kernel_rfl) (by kernel_rfl) (fun _ _ _ h => h) (by kernel_rfl) ?hy59 (by assumption) ?_
                    case hy59 => (intro w hSw; (try dsimp only at hSw); go_simp; try with_reducible rfl)
                    try simp only [Act.put, List.setIfInBounds_toArray, List.set_cons_zero, List.set_cons_succ]
                    refine Take.take (i := 24) (oi := _) (t := 78) (v := ?v60) rfl (by kernel_rfl) (by kernel_rfl) (by kernel_rfl) (by kernel_rfl) (fun _ _ _ h => h) (by kernel_rfl) ?hy60 (by assumption) ?_
                    case hy60 => (intro w hSw; (try dsimp only at hSw); go_simp; try with_reducible rfl)
                    try simp only [Act.put, List.setIfInBounds_toArray, List.set_cons_zero, List.set_cons_succ]
                    refine Take.take (i := 25) (oi := _) (t := 79) (v := ?v61) rfl (by kernel_rfl) (by kernel_rfl) (by kernel_rfl) (by kernel_rfl) (fun _ _ _ h => h) (by kernel_rfl) ?hy61 (by assumption) ?_
                    case hy61 => (intro w hSw; (try dsimp only at hSw); go_simp; try with_reducible rfl)
                    try simp only [Act.put, List.setIfInBounds_toArray, List.set_cons_zero, List.set_cons_succ]
                    refine Take.take (i := 26) (oi := _) (t := 80) (v := ?v62) rfl (by kernel_rfl) (by kernel_rfl) (by kernel_rfl) (by kernel_rfl) (fun _ _ _ h => h) (by kernel_rfl) ?hy62 (by assumption) ?_
                    case hy62 => (intro w hSw; (try dsimp only at hSw); go_simp; try with_reducible rfl)
                    try simp only [Act.put, List.setIfInBounds_toArray, List.set_cons_zero, List.set_cons_succ]
                    refine Take.take (i := 27) (oi := _) (t := 81) (v := ?v63) rfl (by kernel_rfl) (by kernel_rfl) (by kernel_rfl) (by kernel_rfl) (fun _ _ _ h => h) (by kernel_rfl) ?hy63 (by assumption) ?_
                    case hy63 => (intro w hSw; (try dsimp only at hSw); go_simp; try with_reducible rfl)
                    try simp only [Act.put, List.setIfInBounds_toArray, List.set_cons_zero, List.set_cons_succ]
                    refine Take.take (i := 28) (oi := _) (t := 82) (v := ?v64) rfl (by kernel_rfl) (by kernel_rfl) (by kernel_rfl) (by kernel_rfl) (fun _ _ _ h => h) (by kernel_rfl) ?hy64 (by assumption) ?_
                    case hy64 => (intro w hSw; (try dsimp only at hSw); go_simp; try with_reducible rfl)
                    try simp only [Act.put, List.setIfInBounds_toArray, List.set_cons_zero, List.set_cons_succ]
                    refine Take.take (i := 29) (oi := _) (t := 83) (v := ?v65) rfl (by kernel_rfl) (by kernel_rfl) (by kernel_rfl) (by kernel_rfl) (fun _ _ _ h => h) (by kernel_rfl) ?hy65 (by assumption) ?_
                    case hy65 => (intro w hSw; (try dsimp only at hSw); go_simp; try with_reducible rfl)
                    try simp only [Act.put, List.setIfInBounds_toArray, List.set_cons_zero, List.set_cons_succ]
                    refine wpAnyH_ready (rs := [30]) (by kernel_rfl) (by simp) ?_
                    refine AllReadyH.cons (o := _) rfl (fun K hK => ?_) AllReadyH.nil
                    obtain ⟨hB, _⟩ : Below wr.heap.size wr _ ∧ _ := (by assumption)
                    go_simp
                    go_at_call 43
                    refine (refhas_any off ho (i : Int) _).mono ?_
                    rintro e w4 ⟨rfl, hw⟩
                    rw [hw, Hh.out]
                    clear hw w4
                    try dsimp only
                    refine hK.out _ _ ?hS66 (fun hHeld => ?_)
                    case hS66 => (first | exact HS.out _ (by assumption) | (obtain ⟨hB, _⟩ : Below wr.heap.size wr _ ∧ _ := (by assumption); exact HS.out _ (Below.trans hB (Below.mono (by assumption) hB.size))) | (obtain ⟨hB, _⟩ : Below wr.heap.size wr _ ∧ _ := (by assumption); exact HS.out _ hB))
                    clear hB hK K
                    try simp only [Act.put, List.setIfInBounds_toArray, List.set_cons_zero, List.set_cons_succ]
                    refine Take.take (i := 31) (oi := _) (t := 85) (v := ?v67) rfl (by kernel_rfl) (by kernel_rfl) (by kernel_rfl) (by kernel_rfl) (fun _ _ _ h => h) (by kernel_rfl) ?hy67 (by assumption) ?_
                    case hy67 => (intro w hSw; (try dsimp only at hSw); go_simp; try with_reducible rfl)
                    try simp only [Act.put, List.setIfInBounds_toArray, List.set_cons_zero, List.set_cons_succ]
                    refine Take.take (i := 32) (oi := _) (t := 86) (v := ?v68) rfl (by kernel_rfl) (by kernel_rfl) (by kernel_rfl) (by kernel_rfl) (fun _ _ _ h => h) (by kernel_rfl) ?hy68 (by assumption) ?_
                    case hy68 => (intro w hSw; (try dsimp only at hSw); go_simp; try with_reducible rfl)
                    try simp only [Act.put, List.setIfInBounds_toArray, List.set_cons_zero, List.set_cons_succ]
                    refine Take.take (i := 33) (oi := _) (t := 87) (v := ?v69) rfl (by kernel_rfl) (by kernel_rfl) (by kernel_rfl) (by kernel_rfl) (fun _ _ _ h => h) (by kernel_rfl) ?hy69 (by assumption) ?_
                    case hy69 => (intro w hSw; (try dsimp only at hSw); go_simp; try with_reducible rfl)
                    try simp only [Act.put, List.setIfInBounds_toArray, List.set_cons_zero, List.set_cons_succ]
                    refine Take.take (i := 34) (oi := _) (t := 88) (v := ?v70) rfl (by kernel_rfl) (by kernel_rfl) (by kernel_rfl) (by kernel_rfl) (fun _ _ _ h => h) (by kernel_rfl) ?hy70 (by assumption) ?_
                    case hy70 => (intro w hSw; (try dsimp only at hSw); go_simp; try with_reducible rfl)
                    try simp only [Act.put, List.setIfInBounds_toArray, List.set_cons_zero, List.set_cons_succ]
                    refine wpAnyH_done (by kernel_rfl) ?_ _
                    refine NoPanic.normal ?_
                    go_wp2_with fail
                    go_meet
                    obtain ⟨hB, _⟩ : Below wr.heap.size wr _ ∧ _ := (by assumption)
                    exact ⟨by first | rfl | simp [hx0], Lib.hid hB⟩
                · have hik2 : ((i : Int) == (k : Int)) = false := by rw [beq_eq_false_iff_ne]; omega
                  have hx0 : ¬ x = 0 := fun c => hik (hx1.1 c).1
                  clear hx1 hhas hgi hgk
                  refine wp_region_noPanic ?_
                  refine wp_region_held_drew (S := fun w' => Below wr.heap.size wr w' ∧ w'.cell? ⟨gd, i, none⟩ = some (.slice (some ⟨gi, 0, none⟩) m m) ∧ w'.cell? ⟨gd, k, none⟩ = some (.slice (some ⟨gk, 0, none⟩) m m) ∧ w'.cell? ⟨gi, k, none⟩ = some (.int .i64 x) ∧ w'.cell? ⟨gk, i, none⟩ = some (.int .i64 x)) (by kernel_rfl) (HS.out _ (Below.refl _ _).drew) (fun hHeld => ?_)
                  refine Take.take (i := 0) (oi := _) (t := 54) (v := ?v71) rfl (by kernel_rfl) (by kernel_rfl) (by kernel_rfl) (by kernel_rfl) (fun _ _ _ h => h) (by kernel_rfl) ?hy71 (by assumption) ?_
                  case hy71 => (intro w hSw; (try dsimp only at hSw); go_simp; try with_reducible rfl)
                  try simp only [Act.put, List.setIfInBounds_toArray, List.set_cons_zero, List.set_cons_succ]
                  refine Take.take (i := 1) (oi := _) (t := 55) (v := ?v72) rfl (by kernel_rfl) (by kernel_rfl) (by kernel_rfl) (by kernel_rfl) (fun _ _ _ h => h) (by kernel_rfl) ?hy72 (by assumption) ?_
                  case hy72 => (intro w hSw; (try dsimp only at hSw); go_simp; try with_reducible rfl)
                  try simp only [Act.put, List.setIfInBounds_toArray, List.set_cons_zero, List.set_cons_succ]
                  refine Take.take (i := 2) (oi := _) (t := 56) (v := ?v73) rfl (by kernel_rfl) (by kernel_rfl) (by kernel_rfl) (by kernel_rfl) (fun _ _ _ h => h) (by kernel_rfl) ?hy73 (by assumption) ?_
                  case hy73 => (intro w hSw; (try dsimp only at hSw); go_simp; try with_reducible rfl)
                  try simp only [Act.put, List.setIfInBounds_toArray, List.set_cons_zero, List.set_cons_succ]
                  refine Take.take (i := 3) (oi := _) (t := 57) (v := ?v74) rfl (by kernel_rfl) (by kernel_rfl) (by kernel_rfl) (by kernel_rfl) (fun _ _ _ h => h) (by kernel_rfl) ?hy74 (by assumption) ?_
                  case hy74 => (intro w hSw; (try dsimp only at hSw); go_simp; try with_reducible rfl)
                  try simp only [Act.put, List.setIfInBounds_toArray, List.set_cons_zero, List.set_cons_succ]
                  refine Take.take (i := 4) (oi := _) (t := 58) (v := ?v75) rfl (by kernel_rfl) (by kernel_rfl) (by kernel_rfl) (by kernel_rfl) (fun _ _ _ h => h) (by kernel_rfl) ?hy75 (by assumption) ?_
                  case hy75 => (intro w hSw; (try dsimp only at hSw); go_simp; try with_reducible rfl)
                  try simp only [Act.put, List.setIfInBounds_toArray, List.set_cons_zero, List.set_cons_succ]
                  refine Take.take (i := 5) (oi := _) (t := 59) (v := ?v76) rfl (by kernel_rfl) (by kernel_rfl) (by kernel_rfl) (by kernel_rfl) (fun _ _ _ h => h) (by kernel_rfl) ?hy76 (by assumption) ?_
                  case hy76 => (intro w hSw; (try dsimp only at hSw); go_simp; try with_reducible rfl)
                  try simp only [Act.put, List.setIfInBounds_toArray, List.set_cons_zero, List.set_cons_succ]
                  refine Take.take (i := 6) (oi := _) (t := 60) (v := ?v77) rfl (by kernel_rfl) (by kernel_rfl) (by kernel_rfl) (by kernel_rfl) (fun _ _ _ h => h) (by kernel_rfl) ?hy77 (by assumption) ?_
                  case hy77 => (intro w hSw; (try dsimp only at hSw); go_simp; try with_reducible rfl)
                  try simp only [Act.put, List.setIfInBounds_toArray, List.set_cons_zero, List.set_cons_succ]
                  refine Take.take (i := 7) (oi := _) (t := 61) (v := ?v78) rfl (by kernel_rfl) (by kernel_rfl) (by kernel_rfl) (by kernel_rfl) (fun _ _ _ h => h) (by kernel_rfl) ?hy78 (by assumption) ?_
                  case hy78 => (intro w hSw; (try dsimp only at hSw); go_simp; try with_reducible rfl)
                  try simp only [Act.put, List.setIfInBounds_toArray, List.set_cons_zero, List.set_cons_succ]
                  refine Take.take (i := 8) (oi := _) (t := 62) (v := ?v79) rfl (by kernel_rfl) (by kernel_rfl) (by kernel_rfl) (by kernel_rfl) (fun _ _ _ h => h) (by kernel_rfl) ?hy79 (by assumption) ?_
                  case hy79 => (intro w hSw; (try dsimp only at hSw); go_simp; try with_reducible rfl)
                  try simp only [Act.put, List.setIfInBounds_toArray, List.set_cons_zero, List.set_cons_succ]
                  refine Take.take (i := 9) (oi := _) (t := 63) (v := ?v80) rfl (by kernel_rfl) (by kernel_rfl) (by kernel_rfl) (by kernel_rfl) (fun _ _ _ h => h) (by kernel_rfl) ?hy80 (by assumption) ?_
                  case hy80 => (intro w hSw; (try dsimp only at hSw); go_simp; try with_reducible rfl)
                  try simp only [Act.put, List.setIfInBounds_toArray, List.set_cons_zero, List.set_cons_succ]
                  refine Take.take (i := 10) (oi := _) (t := 64) (v := ?v81) rfl (by kernel_rfl) (by kernel_rfl) (by kernel_rfl) (by kernel_rfl) (fun _ _ _ h => h) (by kernel_rfl) ?hy81 (by assumption) ?_
                  case hy81 => (intro w hSw; (try dsimp only at hSw); go_simp; try with_reducible rfl)
                  try simp only [Act.put, List.setIfInBounds_toArray, List.set_cons_zero, List.set_cons_succ]
                  refine Take.take (i := 11) (oi := _) (t := 65) (v := ?v82) rfl (by kernel_rfl) (by kernel_rfl) (by kernel_rfl) (by kernel_rfl) (fun _ _ _ h => h) (by kernel_rfl) ?hy82 (by assumption) ?_
                  case hy82 => (intro w hSw; (try dsimp only at hSw); go_simp; try with_reducible rfl)
                  try simp only [Act.put, List.setIfInBounds_toArray, List.set_cons_zero, List.set_cons_succ]
                  refine Take.take (i := 12) (oi := _) (t := 66) (v := ?v83) rfl (by kernel_rfl) (by kernel_rfl) (by kernel_rfl) (by kernel_rfl) (fun _ _ _ h => h) (by kernel_rfl) ?hy83 (by assumption) ?_
                  case hy83 => (intro w hSw; (try dsimp only at hSw); go_simp; try with_reducible rfl)
                  try simp only [Act.put, List.setIfInBounds_toArray, List.set_cons_zero, List.set_cons_succ]
                  refine Take.take (i := 13) (oi := _) (t := 67) (v := ?v84) rfl (by kernel_rfl) (by kernel_rfl) (by kernel_rfl) (by kernel_rfl) (fun _ _ _ h => h) (by kernel_rfl) ?hy84 (by assumption) ?_
                  case hy84 => (intro w hSw; (try dsimp only at hSw); go_simp; try with_reducible rfl)
                  try simp only [Act.put, List.setIfInBounds_toArray, List.set_cons_zero, List.set_cons_succ]
                  refine Take.take (i := 14) (oi := _) (t := 68) (v := ?v85) rfl (by kernel_rfl) (by kernel_rfl) (by kernel_rfl) (by kernel_rfl) (fun _ _ _ h => h) (by kernel_rfl) ?hy85 (by assumption) ?_
                  case hy85 => (intro w hSw; (try dsimp only at hSw); go_simp; try with_reducible rfl)
                  try simp only [Act.put, List.setIfInBounds_toArray, List.set_cons_zero, List.set_cons_succ]
                  refine Take.take (i := 15) (oi := _) (t := 69) (v := ?v86) rfl (by kernel_rfl) (by kernel_rfl) (by kernel_rfl) (by kernel_rfl) (fun _ _ _ h => h) (by kernel_rfl) ?hy86 (by assumption) ?_
                  case hy86 => (intro w hSw; (try dsimp only at hSw); go_simp; try with_reducible rfl)
                  try simp only [Act.put, List.setIfInBounds_toArray, List.set_cons_zero, List.set_cons_succ]
                  refine Take.take (i := 16) (oi := _) (t := 70) (v := ?v87) rfl (by kernel_rfl) (by kernel_rfl) (by kernel_rfl) (by kernel_rfl) (fun _ _ _ h => h) (by kernel_rfl) ?hy87 (by assumption) ?_
                  case hy87 => (intro w hSw; (try dsimp only at hSw); go_simp; try with_reducible rfl)
                  try simp only [Act.put, List.setIfInBounds_toArray, List.set_cons_zero, List.set_cons_succ]
                  refine Take.take (i := 17) (oi := _) (t := 71) (v := ?v88) rfl (by kernel_rfl) (by kernel_rfl) (by kernel_rfl) (by kernel_rfl) (fun _ _ _ h => h) (by kernel_rfl) ?hy88 (by assumption) ?_
                  case hy88 => (intro w hSw; (try dsimp only at hSw); go_simp; try with_reducible rfl)
                  try simp only [Act.put, List.setIfInBounds_toArray, List.set_cons_zero, List.set_cons_succ]
                  refine Take.take (i := 18) (oi := _) (t := 72) (v := ?v89) rfl (by kernel_rfl) (by kernel_rfl) (by kernel_rfl) (by kernel_rfl) (fun _ _ _ h => h) (by kernel_rfl) ?hy89 (by assumption) ?_
                  case hy89 => (intro w hSw; (try dsimp only at hSw); go_simp; try with_reducible rfl)
                  try simp only [Act.put, List.setIfInBounds_toArray, List.set_cons_zero, List.set_cons_succ]
                  refine Take.take (i := 19) (oi := _) (t := 73) (v := ?v90) rfl (by kernel_rfl) (by kernel_rfl) (by kernel_rfl) (by kernel_rfl) (fun _ _ _ h => h) (by kernel_rfl) ?hy90 (by assumption) ?_
                  case hy90 => (intro w hSw; (try dsimp only at hSw); go_simp; try with_reducible rfl)
                  try simp only [Act.put, List.setIfInBounds_toArray, List.set_cons_zero, List.set_cons_succ]
                  refine Take.take (i := 20) (oi := _) (t := 74) (v := ?v91) rfl (by kernel_rfl) (by kernel_rfl) (by kernel_rfl) (by kernel_rfl) (fun _ _ _ h => h) (by kernel_rfl) ?hy91 (by assumption) ?_
                  case hy91 => (intro w hSw; (try dsimp only at hSw); go_simp; try with_reducible rfl)
                  try simp only [Act.put, List.setIfInBounds_toArray, List.set_cons_zero, List.set_cons_succ]
                  refine Take.take (i := 21) (oi := _) (t := 75) (v := ?v92) rfl (by kernel_rfl) (by kernel_rfl) (by kernel_rfl) (by kernel_rfl) (fun _ _ _ h => h) (by kernel_rfl) ?hy92 (by assumption) ?_
                  case hy92 => (intro w hSw; (try dsimp only at hSw); go_simp; try with_reducible rfl)
                  try simp only [Act.put, List.setIfInBounds_toArray, List.set_cons_zero, List.set_cons_succ]
                  refine Take.take (i := 22) (oi := _) (t := 76) (v := ?v93) rfl (by kernel_rfl) (by kernel_rfl) (by kernel_rfl) (by kernel_rfl) (fun _ _ _ h => h) (by kernel_rfl) ?hy93 (by assumption) ?_
                  case hy93 => (intro w hSw; (try dsimp only at hSw); go_simp; try with_reducible rfl)
                  try simp only [Act.put, List.setIfInBounds_toArray, List.set_cons_zero, List.set_cons_succ]
                  refine Take.take (i := 23) (oi := _) (t := 77) (v := ?v94) rfl (by kernel_rfl) (by kernel_rfl) (by kernel_rfl) (by kernel_rfl) (fun _ _ _ h => h) (by kernel_rfl) ?hy94 (by assumption) ?_
                  case hy94 => (intro w hSw; (try dsimp only at hSw); go_simp; try with_reducible rfl)
                  try simp only [Act.put, List.setIfInBounds_toArray, List.set_cons_zero, List.set_cons_succ]
                  refine Take.take (i := 24) (oi := _) (t := 78) (v := ?v95) rfl (by kernel_rfl) (by kernel_rfl) (by kernel_rfl) (by kernel_rfl) (fun _ _ _ h => h) (by kernel_rfl) ?hy95 (by assumption) ?_
                  case hy95 => (intro w hSw; (try dsimp only at hSw); go_simp; try with_reducible rfl)
                  try simp only [Act.put, List.setIfInBounds_toArray, List.set_cons_zero, List.set_cons_succ]
                  refine Take.take (i := 25) (oi := _) (t := 79) (v := ?v96) rfl (by kernel_rfl) (by kernel_rfl) (by kernel_rfl) (by kernel_rfl) (fun _ _ _ h => h) (by kernel_rfl) ?hy96 (by assumption) ?_
                  case hy96 => (intro w hSw; (try dsimp only at hSw); go_simp; try with_reducible rfl)
                  try simp only [Act.put, List.setIfInBounds_toArray, List.set_cons_zero, List.set_cons_succ]
                  refine Take.take (i := 26) (oi := _) (t := 80) (v := ?v97) rfl (by kernel_rfl) (by kernel_rfl) (by kernel_rfl) (by kernel_rfl) (fun _ _ _ h => h) (by kernel_rfl) ?hy97 (by assumption) ?_
                  case hy97 => (intro w hSw; (try dsimp only at hSw); go_simp; try with_reducible rfl)
                  try simp only [Act.put, List.setIfInBounds_toArray, List.set_cons_zero, List.set_cons_succ]
                  refine Take.take (i := 27) (oi := _) (t := 81) (v := ?v98) rfl (by kernel_rfl) (by kernel_rfl) (by kernel_rfl) (by kernel_rfl) (fun _ _ _ h => h) (by kernel_rfl) ?hy98 (by assumption) ?_
                  case hy98 => (intro w hSw; (try dsimp only at hSw); go_simp; try with_reducible rfl)
                  try simp only [Act.put, List.setIfInBounds_toArray, List.set_cons_zero, List.set_cons_succ]
                  refine Take.skip (i := 28) (t := 82) (g := 27) (b := true) (by kernel_rfl) (by kernel_rfl) (by kernel_rfl) (by kernel_rfl) (fun _ _ _ h => h) (by kernel_rfl) (by assumption) ?_
                  try simp only [Act.put, List.setIfInBounds_toArray, List.set_cons_zero, List.set_cons_succ]
                  refine Take.skip (i := 29) (t := 83) (g := 27) (b := true) (by kernel_rfl) (by kernel_rfl) (by kernel_rfl) (by kernel_rfl) (fun _ _ _ h => h) (by kernel_rfl) (by assumption) ?_
                  try simp only [Act.put, List.setIfInBounds_toArray, List.set_cons_zero, List.set_cons_succ]
                  refine Take.skip (i := 30) (t := 84) (g := 27) (b := true) (by kernel_rfl) (by kernel_rfl) (by kernel_rfl) (by kernel_rfl) (fun _ _ _ h => h) (by kernel_rfl) (by assumption) ?_
                  try simp only [Act.put, List.setIfInBounds_toArray, List.set_cons_zero, List.set_cons_succ]
                  refine Take.skip (i := 31) (t := 85) (g := 27) (b := true) (by kernel_rfl) (by kernel_rfl) (by kernel_rfl) (by kernel_rfl) (fun _ _ _ h => h) (by kernel_rfl) (by assumption) ?_
                  try simp only [Act.put, List.setIfInBounds_toArray, List.set_cons_zero, List.set_cons_succ]
                  refine Take.take (i := 32) (oi := _) (t := 86) (v := ?v99) rfl (by kernel_rfl) (by kernel_rfl) (by kernel_rfl) (by kernel_rfl) (fun _ _ _ h => h) (by kernel_rfl) ?hy99 (by assumption) ?_
                  case hy99 => (intro w hSw; (try dsimp only at hSw); go_simp; try with_reducible rfl)
                  try simp only [Act.put, List.setIfInBounds_toArray, List.set_cons_zero, List.set_cons_succ]
                  refine Take.take (i := 33) (oi := _) (t := 87) (v := ?v100) rfl (by kernel_rfl) (by kernel_rfl) (by kernel_rfl) (by kernel_rfl) (fun _ _ _ h => h) (by kernel_rfl) ?hy100 (by assumption) ?_
                  case hy100 => (intro w hSw; (try dsimp only at hSw); go_simp; try with_reducible rfl)
                  try simp only [Act.put, List.setIfInBounds_toArray, List.set_cons_zero, List.set_cons_succ]
                  refine Take.take (i := 34) (oi := _) (t := 88) (v := ?v101) rfl (by kernel_rfl) (by kernel_rfl) (by kernel_rfl) (by kernel_rfl) (fun _ _ _ h => h) (by kernel_rfl) ?hy101 (by assumption) ?_
                  case hy101 => (intro w hSw; (try dsimp only at hSw); go_simp; try with_reducible rfl)
                  try simp only [Act.put, List.setIfInBounds_toArray, List.set_cons_zero, List.set_cons_succ]
                  refine wpAnyH_done (by kernel_rfl) ?_ _
                  refine NoPanic.normal ?_
                  go_wp2_with fail
                  go_meet
                  obtain ⟨hB, _⟩ : Below wr.heap.size wr _ ∧ _ := (by assumption)
                  exact ⟨by first | rfl | simp [hx0], Lib.hid hB⟩
              case rest =>
                obtain ⟨rfl, hB⟩ := hcut
                have lK2 := Lib.hid (lK.out.trans (hB.out.mono lK.out.size))
                have d1 := HH.out _ lK2.out
                simp at d1
                clear hB lK
                go_wp2_with fail
                go_loopw [92] (fun v92 wr' => ∃ q : Nat, v92 = .int .i64 q ∧ q ≤ L.length ∧ RowKit.Hid (Below Wd.heap.size Wd wr')) (fun v92 _ => match v92 with | .int _ i => L.length - i.toNat | _ => 0)
                case atStart => exact ⟨0, rfl, Nat.zero_le _, lK2⟩
                case round =>
                  clear lK2 d1
                  obtain ⟨q, rfl, hq, lQ⟩ := hrel
                  by_cases hql : q < L.length
                  · have q1 : (0 : Int) ≤ (q : Int) := by omega
                    have q2 : (q : Int) < (L.length : Int) := by omega
                    obtain ⟨p, hpq⟩ : ∃ p, L[q]? = some p := ⟨_, List.getElem?_eq_getElem hql⟩
                    obtain ⟨a, b, rfl, ha, hb, hab, hba⟩ := hit_two hMt.out (List.mem_of_getElem? hpq)
                    obtain ⟨⟨_, _, he, hcell⟩, _⟩ := HP.out _ lQ.out
                    injection he with he1 he2 he3
                    subst he1
                    obtain ⟨bl, rfl, hbl, e0, e1⟩ := hcell q _ hpq
                    simp only at e0 e1
                    have ca := fun (V : World) (h : Below Wd.heap.size Wd V) => HR.out V h i hin a ha
                    have cb := fun (V : World) (h : Below Wd.heap.size Wd V) => HR.out V h i hin b hb
                    have cdi := fun (V : World) (h : Below Wd.heap.size Wd V) => HC.out V h i hin
                    obtain ⟨gi, hgi⟩ : ∃ g, gs.getD i 0 = g := ⟨_, rfl⟩
                    rw [hgi] at ca cb cdi
                    have hnr : off.testBit a = false → off.testBit b = false → dAt near off i a - dAt near off i b ≤ 1 ∧ dAt near off i b - dAt near off i a ≤ 1 := fun x y => dAt_near hok ho i (on_of (by omega) x) (on_of (by omega) y) hab hba
                    have hda := (dist_spec hok ho (i : Int)).low a
                    have hdb := (dist_spec hok ho (i : Int)).low b
                    have hda2 := distF_most hok ho (i : Int) a
                    have hdb2 := distF_most hok ho (i : Int) b
                    have hrf := rings_few hok ho (i : Int)
                    have hha := hasR_nat (off := off) (j := a) (by omega)
                    have hhb := hasR_nat (off := off) (j := b) (by omega)
                    obtain ⟨x, hx⟩ : ∃ x, dAt near off i a = x := ⟨_, rfl⟩
                    obtain ⟨y, hy⟩ : ∃ y, dAt near off i b = y := ⟨_, rfl⟩
                    rw [show (distF near off (i : Int)).getD a (-1) = x from hx] at hda hda2
                    rw [show (distF near off (i : Int)).getD b (-1) = y from hy] at hdb hdb2
                    rw [hx] at ca hnr
                    rw [hy] at cb hnr
                    have e2 : IntKind.i64.wrap (x - y) = x - y := IntWalk.i64_in _ (by omega)
                    have e3 : IntKind.i64.wrap (y - x) = y - x := IntWalk.i64_in _ (by omega)
                    have a1 : (0 : Int) ≤ (a : Int) := by omega
                    have a2 : (a : Int) < (m : Int) := by omega
                    have a3 : (0 : Int) ≤ (b : Int) := by omega
                    have a4 : (b : Int) < (m : Int) := by omega
                    clear hcell he2 he3 hpq hab hba hx hy hgi hda hdb hda2 hdb2 hrf
                    have Hca := Lib.hid ca
                    have Hcb := Lib.hid cb
                    have Hcdi := Lib.hid cdi
                    have Hnr := Lib.hid hnr
                    have Hha := Lib.hid hha
                    have Hhb := Lib.hid hhb
                    clear ca cb cdi hnr hha hhb
                    go_wp2_with fail
                    obtain ⟨W7, hW7⟩ : ∃ W7, wr.alloc (.cells #[.int .i64 (a : Nat), .int .i64 (b : Nat)] 41) = W7 := ⟨_, rfl⟩
                    have b7 : Blk W7 wr.heap.size 41 #[.int .i64 (a : Nat), .int .i64 (b : Nat)] := by rw [← hW7]; exact Blk.new wr _ _
                    have l7 : Below Wd.heap.size Wd W7 := by rw [← hW7]; exact lQ.out.alloc lQ.out.size _
                    rw [hW7]
                    have f0 := b7.cell 0
                    have f1 := b7.cell 1
                    simp at f0 f1
                    have f2 := Hcdi.out _ l7
                    have f3 := Hca.out _ l7
                    have f4 := Hcb.out _ l7
                    have HB7 := Lib.hid b7
                    have L7 := Lib.hid l7
                    clear b7 l7 hW7 Hcdi Hca Hcb e0 e1
                    go_cut [14, 15] (fun s14 s15 V => s14 = .int .i64 x ∧ s15 = .int .i64 y ∧ V = W7.drew)
                    case first =>
                      refine wp_region_noPanic ?_
                      go_region_with fail
                      all_goals (refine NoPanic.normal ?_; go_wp2_with fail; go_meet; exact ⟨rfl, rfl, rfl⟩)
                    case rest =>
                      obtain ⟨rfl, rfl, rfl⟩ := hcut
                      have f5 := (HB7.out).cell 0
                      have f6 := (HB7.out).cell 1
                      simp at f5 f6
                      have f7 : W7.drew.cell? ⟨wr.heap.size, 0, none⟩ = some (.int .i64 (a : Nat)) := f5
                      have f8 : W7.drew.cell? ⟨wr.heap.size, 1, none⟩ = some (.int .i64 (b : Nat)) := f6
                      have L8 := Lib.hid (L7.out.drew)
                      clear f0 f1 f2 f3 f4 f5 f6 HB7 L7
                      obtain ⟨W8, hW8⟩ : ∃ W8, W7.drew = W8 := ⟨_, rfl⟩
                      rw [hW8] at f7 f8 L8 ⊢
                      clear hW8
                      rcases hbit : off.testBit a with _ | _
                      · rw [hbit] at Hha
                        rcases hbit2 : off.testBit b with _ | _
                        · rw [hbit2] at Hhb
                          have hnr := Hnr.out hbit hbit2
                          have r1 : ¬ 1 < x - y := by omega
                          have r2 : ¬ 1 < y - x := by omega
                          clear hnr hbit hbit2
                          go_wp2_with (go_at_call 43; refine (refhas_any off ho _ _).mono ?_; rintro e w4 ⟨rfl, hw⟩; (first | rw [hw, Hha.out] | rw [hw, Hhb.out]); clear hw w4)
                          go_round
                          case rel => exact ⟨q + 1, rfl, hql, L8⟩
                          case measure => simp; omega
                        · rw [hbit2] at Hhb
                          clear hbit hbit2
                          go_wp2_with (go_at_call 43; refine (refhas_any off ho _ _).mono ?_; rintro e w4 ⟨rfl, hw⟩; (first | rw [hw, Hha.out] | rw [hw, Hhb.out]); clear hw w4)
                          go_round
                          case rel => exact ⟨q + 1, rfl, hql, L8⟩
                          case measure => simp; omega
                      · rw [hbit] at Hha
                        clear hbit
                        go_wp2_with (go_at_call 43; refine (refhas_any off ho _ _).mono ?_; rintro e w4 ⟨rfl, hw⟩; rw [hw, Hha.out]; clear hw w4)
                        go_round
                        case rel => exact ⟨q + 1, rfl, hql, L8⟩
                        case measure => simp; omega
                  · obtain rfl : q = L.length := by omega
                    clear hql
                    go_wp2_with fail
                    go_round
                    case rel => exact ⟨k + 1, rfl, hkm, lQ⟩
                    case measure => simp; omega
            · obtain rfl : m = k := by omega
              clear hkm
              go_wp2_with fail
              go_round
              case rel => exact ⟨i + 1, rfl, hin, lK⟩
              case measure => simp; omega
        · obtain rfl : m = i := by omega
          have HWk := Lib.hid (reachworks_any wr (hT.below (HLow.out _ lI.out) hT.size))
          have HL9 := Lib.hid (HLow.out _ lI.out)
          clear hin
          go_wp2_with (go_at_call 38; refine HWk.out.mono ?_; rintro e w10 ⟨rfl, b10⟩)
          go_ret
          exact ⟨rfl, HL9.out.trans (b10.mono HL9.out.size)⟩
end Go.Proofs.YtcangalpccppbaaDoor.Reach
