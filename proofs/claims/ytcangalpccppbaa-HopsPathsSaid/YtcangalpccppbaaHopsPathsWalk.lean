/- The law's walk: HopsPaths. -/
import Derived.Test.YtcangalpccppbaaRefPath
import Derived.Test.YtcangalpccppbaaHopsLaws
namespace Go.Proofs.Ytcangalpccppbaa.Graph
open Go.RowKit
open Go.Proofs.Ytcangalpccppbaa.RF Go.Proofs.Ytcangalpccppbaa.Heap Go.Proofs.Ytcangalpccppbaa.Nodes Go.Proofs.Ytcangalpccppbaa.Seen
set_option linter.unusedVariables false
set_option linter.unusedSimpArgs false

theorem PairIn.below {w w' : World} {a : Option Addr} {len cap : Nat} {ls : List (Int × Int)} (h : PairIn w a len cap ls) (k : Below w.heap.size w w') : PairIn w' a len cap ls := by
  refine ⟨h.le, h.max, h.size, h.wf, ?_⟩
  rcases h.at' with c | c | ⟨b, off, h1, h2, h3⟩
  · exact .inl c
  · exact .inr (.inl c)
  · exact .inr (.inr ⟨b, off, h1, Nat.lt_of_lt_of_le h2 k.size, fun j u hu => (k.cell (p := ⟨b, off + j, none⟩) h2).trans (h3 j u hu)⟩)
/-- Made, with what it made given names. -/
theorem made_ex (w : World) (n : Int) (a : Option Addr) (len cap : Nat) (ls : List (Int × Int)) (hp : PairIn w a len cap ls) :
    Calls Try.prog 4 #[.agg #[.int .i64 n, .slice a len cap]] w fun e w' => Below w.heap.size w w' ∧ ∃ (m G R : Nat) (near : List Nat) (L : List (Int × Int)) (ha : Option Addr) (hc : Nat),
      e = .returned (.tuple #[.pointer (some ⟨G, 0, none⟩), .agg #[.int .i64 (m : Nat), .slice ha L.length hc]]) ∧ 1 ≤ m ∧ m ≤ 10 ∧ near.length = m ∧ L.length ≤ 60 ∧ RowKit.Hid (Match m near L) ∧ RowKit.Hid (GraphAt w' G R near) ∧ RowKit.Hid (PairsAt w' (.slice ha L.length hc) L) := by
  refine (made_any w n a len cap ls hp).mono fun e w' h => ?_
  obtain ⟨b, G, R, v, rfl, hG, hP⟩ := h
  obtain ⟨ha, hc, rfl, _⟩ := hP.out.1
  have hs := madeL_spec (madeN n) (ls.take 60)
  have hM := match_new hs.1
  have hbd := madeN_bd n
  exact ⟨b, _, G, R, _, _, ha, hc, rfl, hbd.1, hbd.2, hM.1, Nat.le_trans hs.2.1 (by rw [List.length_take]; omega), Lib.hid hM, hG, hP⟩
set_option maxRecDepth 100000 in
set_option maxHeartbeats 8000000 in
theorem hopspaths_walk (w : World) (n : Int) (la : Option Addr) (ll lc : Nat) (ls : List (Int × Int)) (hp : PairIn w la ll lc ls) (a : Option Addr) (len cap : Nat) (zs : List Int) (hi : Read.IntRow .i64 w a len cap zs) :
    Calls Try.prog 3 #[.agg #[.int .i64 n, .slice la ll lc], .slice a len cap] w fun e w' => e = .returned (.bool true) ∧ Below w.heap.size w w' := by
  obtain ⟨i0, hi0, hz⟩ := Option.map_eq_some_iff.1 infoI
  simp only [Prod.mk.injEq] at hz
  obtain ⟨hz0, hz1, hz2⟩ := hz
  have Hi0 := Lib.hid hi0
  have Hz0 := Lib.hid hz0
  have Hz1 := Lib.hid hz1
  have Hz2 := Lib.hid hz2
  clear hi0 hz0 hz1 hz2
  obtain ⟨W, hW⟩ : ∃ W, w.alloc (.cells #[.int .i64 n, .slice la ll lc] 24) = W := ⟨_, rfl⟩
  have bW : Blk W w.heap.size 24 #[.int .i64 n, .slice la ll lc] := by rw [← hW]; exact Blk.new w _ _
  have lW0 : Below w.heap.size w W := by rw [← hW]; exact (Below.refl _ w).alloc (Nat.le_refl _) _
  have hM := Lib.hid (made_ex W n la ll lc ls (hp.below lW0))
  have c0 := bW.cell 0
  have c1 := bW.cell 1
  have HW := Lib.hid hW
  have lW := Lib.hid lW0
  obtain ⟨d, hd⟩ : ∃ d, min len 20 = d := ⟨_, rfl⟩
  have hxl : (zs.take d).length = d := by rw [List.length_take, hi.size]; have := hi.le; omega
  have hxw : ∀ x ∈ zs.take d, (Lit.int .i64 x).wf = true := fun x hx => hi.wf x (List.mem_of_mem_take hx)
  have hxat := fun (b off : Nat) (h : ∀ i, i < cap → w.cell? ⟨b, off + i, none⟩ = some (.int .i64 (zs[i]?.getD 0))) (j : Nat) (u : Value) (hu : ((zs.take d).map (Value.int .i64))[j]? = some u) => (show w.cell? ⟨b, off + j, none⟩ = some u from by
    rw [List.getElem?_map] at hu
    obtain ⟨x, hx, rfl⟩ := Option.map_eq_some_iff.1 hu
    have hj : j < (zs.take d).length := (List.getElem?_eq_some_iff.1 hx).1
    rw [h j (by rw [hxl] at hj; have := hi.le; omega)]
    rw [List.getElem?_take, if_pos (by omega)] at hx
    rw [hx]; rfl)
  obtain ⟨xs, hxs⟩ : ∃ xs, zs.take d = xs := ⟨_, rfl⟩
  rw [hxs] at hxl hxw hxat
  have Hat := Lib.hid hi.at'
  have Hle := Lib.hid hi.le
  have Hmax := Lib.hid hi.max
  have Hxw := Lib.hid hxw
  have Hxat := Lib.hid hxat
  have Hd := Lib.hid hd
  clear hW lW0 hp bW hi hxs hxw hxat hd
  go_enter Try.func3, Try.ntmps3
  go_upto_region 1 with (fail)
  rw [HW.out]
  clear HW
  go_upto_region 2 with (go_at_call 4; refine hM.out.mono ?_; rintro e w2 ⟨b2, m, G, R, near, L, ha, hcp, rfl, hm1, hm2, hnl, hLl, hMt, hG, hP⟩)
  obtain ⟨W4, hW4⟩ : ∃ W4, w2.alloc (.cells #[.int .i64 (m : Nat), .slice ha L.length hcp] 27) = W4 := ⟨_, rfl⟩
  have bW4 : Blk W4 w2.heap.size 27 #[.int .i64 (m : Nat), .slice ha L.length hcp] := by rw [← hW4]; exact Blk.new w2 _ _
  have l24 : Below w2.heap.size w2 W4 := by rw [← hW4]; exact (Below.refl _ w2).alloc (Nat.le_refl _) _
  rw [hW4]
  have lw2 : Below w.heap.size w w2 := lW.out.trans (b2.mono lW.out.size)
  have lW4 : Below w.heap.size w W4 := lw2.trans (l24.mono lw2.size)
  have own0 : (W4.alloc (.cells #[] 3)).ownsRow W4.heap.size 3 1 (.slice (some ⟨W4.heap.size, 0, none⟩) 0 0) 0 [] := by
    have := row_of_blk (base := W4.heap.size) (n := 0) (s := 1) (cap := 0) (Blk.new W4 3 #[]) (Nat.le_refl _) (Nat.le_refl _) (by unfold maxLen; omega) rfl
    simpa using this
  have Own0 := Lib.hid own0
  have LowA := Lib.hid (show Below W4.heap.size W4 (W4.alloc (.cells #[] 3)) from (Below.refl _ W4).alloc (Nat.le_refl _) _)
  have hG4 := Lib.hid (hG.out.below l24 (Nat.le_refl _))
  have hP4 := Lib.hid (hP.out.off l24)
  have BW4 := Lib.hid bW4
  have LW4 := Lib.hid lW4
  have L24 := Lib.hid l24
  clear hW4 own0 bW4 lW4 lw2 l24 hM c0 c1 b2 lW hG hP
  go_cut [1] (fun s1 wx => RowKit.Hid (wx.ownsRow W4.heap.size 3 1 s1 xs.length (xs.map (Value.int .i64))) ∧ RowKit.Hid (Below W4.heap.size W4 wx))
  case first =>
    have hle := Hle.out
    have hmax := Hmax.out
    have hd := Hd.out
    have b1 : (0 : Int) ≤ min (len : Int) 20 := by omega
    have b2 : min (len : Int) 20 ≤ (cap : Int) := by omega
    have b3 : min (len : Int) 20 = ((d : Nat) : Int) := by omega
    rcases Hat.out with hc0 | ⟨b, off, rfl, hb, hc⟩
    · subst hc0
      obtain rfl : len = 0 := by omega
      obtain rfl : d = 0 := by omega
      obtain rfl := List.length_eq_zero_iff.1 hxl
      rcases a with _ | x
      · go_wp2_with (at_builtin; refine wpList_append_nothing _ rfl _ _ 25 rfl 3 i0 Try.underlying25 Hi0.out _ 0 0 0 rfl rfl (Nat.le_refl _) ?_)
        go_meet
        exact ⟨Own0, LowA⟩
      · go_wp2_with (at_builtin; refine wpList_append_own _ rfl _ _ 25 rfl W4.heap.size 3 i0 _ 1 8 Try.underlying25 Hi0.out Hz0.out Hz1.out Hz2.out rfl (by decide) _ _ _ rfl Own0.out x 0 0 [] rfl rfl (by simp) (by simp) (by unfold maxLen; omega) (by omega) (by simp) ?_; intro v' w3 hown3 hgrow3 _)
        go_meet
        exact ⟨Lib.hid hown3, Lib.hid (below_own LowA.out hgrow3 Own0.out (Nat.le_refl _) (Nat.le_refl _))⟩
    · have hbW4 : b < W4.heap.size := Nat.lt_of_lt_of_le hb LW4.out.size
      have Hnews := Lib.hid (show ∀ j u, (xs.map (Value.int .i64))[j]? = some u → (W4.alloc (.cells #[] 3)).cell? ((⟨b, off, none⟩ : Addr).add j) = some u from fun j u hu => by
        rw [show (⟨b, off, none⟩ : Addr).add j = ⟨b, off + j, none⟩ by simp [Addr.add], World.cell?_alloc_lt W4 _ _ hbW4, LW4.out.cell (p := ⟨b, off + j, none⟩) hb]
        exact Hxat.out b off hc j u hu)
      have hone := Lib.hid (show ∀ u ∈ xs.map (Value.int .i64), u.oneCell' = true from fun u hu => by obtain ⟨x, _, rfl⟩ := List.mem_map.1 hu; rfl)
      have hl2 : (xs.map (Value.int .i64)).length = d * 1 := by simp [hxl]
      clear hc hmax
      by_cases h20 : len ≤ 20
      · have l1 : (len : Int) ≤ 20 := by omega
        obtain rfl : d = len := by omega
        go_wp2_with (at_builtin; refine wpList_append_own _ rfl _ _ 25 rfl W4.heap.size 3 i0 _ 1 8 Try.underlying25 Hi0.out Hz0.out Hz1.out Hz2.out rfl (by decide) _ _ _ rfl Own0.out ⟨b, off, none⟩ d cap (xs.map (Value.int .i64)) rfl hl2 Hnews.out hone.out (by unfold maxLen; omega) (by omega) (by simp) ?_; intro v' w3 hown3 hgrow3 _)
        go_meet
        rw [Nat.zero_add, List.nil_append] at hown3
        rw [hxl]
        exact ⟨Lib.hid hown3, Lib.hid (below_own LowA.out hgrow3 Own0.out (Nat.le_refl _) (Nat.le_refl _))⟩
      · have l1 : ¬ (len : Int) ≤ 20 := by omega
        have l3 : (20 : Int) < (len : Int) := by omega
        obtain rfl : d = 20 := by omega
        go_wp2_with (at_builtin; refine wpList_append_own _ rfl _ _ 25 rfl W4.heap.size 3 i0 _ 1 8 Try.underlying25 Hi0.out Hz0.out Hz1.out Hz2.out rfl (by decide) _ _ _ rfl Own0.out ⟨b, off, none⟩ 20 cap (xs.map (Value.int .i64)) rfl hl2 Hnews.out hone.out (by unfold maxLen; omega) (by omega) (by simp) ?_; intro v' w3 hown3 hgrow3 _)
        go_meet
        rw [Nat.zero_add, List.nil_append] at hown3
        rw [hxl]
        exact ⟨Lib.hid hown3, Lib.hid (below_own LowA.out hgrow3 Own0.out (Nat.le_refl _) (Nat.le_refl _))⟩
  case rest =>
    obtain ⟨hO, hB5⟩ := hcut
    subst hxl
    have HI5 := Lib.hid (own_ints hO.out rfl)
    obtain ⟨va, vc, rfl, _⟩ := HI5.out
    have hd20 : xs.length ≤ 20 := by have := Hd.out; omega
    have bW5 := BW4.out.below hB5.out (Nat.lt_of_lt_of_le (by have := BW4.out.lt; exact this) (Nat.le_refl _))
    have c0 := bW5.cell 0
    have c1 := bW5.cell 1
    have hPw := Lib.hid (refpath_any wc m (.slice ha L.length hcp) L (hP4.out.off hB5.out) (by omega) (.slice va xs.length vc) xs HI5.out (by omega) (by omega))
    have HG5 := Lib.hid (hG4.out.below hB5.out (Nat.le_refl _))
    have HB5 := Lib.hid bW5
    have LW5 := Lib.hid (LW4.out.trans (hB5.out.mono LW4.out.size))
    clear bW5 Own0 LowA Hat hG4 hP4 BW4 L24 LW4 hO hB5 Hi0 Hz0 Hz1 Hz2 Hle Hmax Hd Hxat
    rcases hq : pathB m L xs with _ | _
    · go_upto_region 4 with (go_at_call 5; refine hPw.out.mono ?_; rintro e W6 ⟨rfl, b6⟩; rw [hq])
      have HS := Lib.hid (fun (w' : World) (h : Below W6.heap.size W6 w') => (show Below W6.heap.size W6 w' ∧ w'.cell? ⟨w2.heap.size, 0, none⟩ = some (.int .i64 (m : Nat)) from ⟨h, ((HB5.out.below b6 HB5.out.lt).below h (Nat.lt_of_lt_of_le HB5.out.lt b6.size)).cell 0⟩))
      have HPa := Lib.hid (fun (w' : World) (h : Below W6.heap.size W6 w') => path_any m L ((HG5.out.below b6 (Nat.le_refl _)).below h (Nat.le_refl _)) hMt.out (by omega) _ _ (HI5.out.below (b6.trans (h.mono b6.size))) Hxw.out (by omega))
      have HPn := Lib.hid (fun (w' : World) (h : Below W6.heap.size W6 w') => path_nil w' _ _ (HI5.out.below (b6.trans (h.mono b6.size))) (by omega))
      have HLi := Lib.hid (fun (w' : World) (h : Below W6.heap.size W6 w') => limit_any ((HG5.out.below b6 (Nat.le_refl _)).below h (Nat.le_refl _)) (by omega))
      have lW6 := Lib.hid (LW5.out.trans (b6.mono LW5.out.size))
      have e1 : IntKind.i64.wrap ((m : Int) - 1) = (m : Int) - 1 := IntWalk.i64_in _ (by omega)
      clear b6 hPw HG5 HB5 LW5 HI5 Hxw
      refine wp_region_held_drew (S := fun w' => Below W6.heap.size W6 w' ∧ w'.cell? ⟨w2.heap.size, 0, none⟩ = some (.int .i64 (m : Nat))) (by kernel_rfl) (HS.out _ (Below.refl _ _).drew) (fun hHeld => ?_)
      refine Take.take (i := 0) (oi := _) (t := 23) (v := ?v1) rfl (by kernel_rfl) (by kernel_rfl) (by kernel_rfl) (by kernel_rfl) (fun _ _ _ h => h) (by kernel_rfl) ?hy1 (by assumption) ?_
      case hy1 => (intro w hSw; (try dsimp only at hSw); go_simp; try with_reducible rfl)
      try simp only [Act.put, List.setIfInBounds_toArray, List.set_cons_zero, List.set_cons_succ]
      refine Take.take (i := 1) (oi := _) (t := 24) (v := ?v2) rfl (by kernel_rfl) (by kernel_rfl) (by kernel_rfl) (by kernel_rfl) (fun _ _ _ h => h) (by kernel_rfl) ?hy2 (by assumption) ?_
      case hy2 => (intro w hSw; (try dsimp only at hSw); go_simp; try with_reducible rfl)
      try simp only [Act.put, List.setIfInBounds_toArray, List.set_cons_zero, List.set_cons_succ]
      refine Take.take (i := 3) (oi := _) (t := 26) (v := ?v3) rfl (by kernel_rfl) (by kernel_rfl) (by kernel_rfl) (by kernel_rfl) (fun _ _ _ h => h) (by kernel_rfl) ?hy3 (by assumption) ?_
      case hy3 => (intro w hSw; (try dsimp only at hSw); go_simp; try with_reducible rfl)
      try simp only [Act.put, List.setIfInBounds_toArray, List.set_cons_zero, List.set_cons_succ]
      refine wpAnyH_ready (rs := [2]) (by kernel_rfl) (by simp) ?_
      refine AllReadyH.cons (o := _) rfl (fun K hK => ?_) AllReadyH.nil
      obtain ⟨hB, _⟩ : Below W6.heap.size W6 _ ∧ _ := (by assumption)
      go_simp
      go_at_call 6
      refine (HPa.out _ hB).mono ?_
      rintro e w4 ⟨rfl, b4⟩; rw [hq]
      try dsimp only
      refine hK.out _ _ ?hS4 (fun hHeld => ?_)
      case hS4 => (first | exact HS.out _ (by assumption) | (obtain ⟨hB, _⟩ : Below W6.heap.size W6 _ ∧ _ := (by assumption); exact HS.out _ (Below.trans hB (Below.mono (by assumption) hB.size))) | (obtain ⟨hB, _⟩ : Below W6.heap.size W6 _ ∧ _ := (by assumption); exact HS.out _ hB))
      clear hB hK K
      try simp only [Act.put, List.setIfInBounds_toArray, List.set_cons_zero, List.set_cons_succ]
      refine Take.take (i := 4) (oi := _) (t := 27) (v := ?v5) rfl (by kernel_rfl) (by kernel_rfl) (by kernel_rfl) (by kernel_rfl) (fun _ _ _ h => h) (by kernel_rfl) ?hy5 (by assumption) ?_
      case hy5 => (intro w hSw; (try dsimp only at hSw); go_simp; try with_reducible rfl)
      try simp only [Act.put, List.setIfInBounds_toArray, List.set_cons_zero, List.set_cons_succ]
      refine Take.take (i := 5) (oi := _) (t := 28) (v := ?v6) rfl (by kernel_rfl) (by kernel_rfl) (by kernel_rfl) (by kernel_rfl) (fun _ _ _ h => h) (by kernel_rfl) ?hy6 (by assumption) ?_
      case hy6 => (intro w hSw; (try dsimp only at hSw); go_simp; try with_reducible rfl)
      try simp only [Act.put, List.setIfInBounds_toArray, List.set_cons_zero, List.set_cons_succ]
      refine Take.take (i := 6) (oi := _) (t := 29) (v := ?v7) rfl (by kernel_rfl) (by kernel_rfl) (by kernel_rfl) (by kernel_rfl) (fun _ _ _ h => h) (by kernel_rfl) ?hy7 (by assumption) ?_
      case hy7 => (intro w hSw; (try dsimp only at hSw); go_simp; try with_reducible rfl)
      try simp only [Act.put, List.setIfInBounds_toArray, List.set_cons_zero, List.set_cons_succ]
      refine Take.take (i := 8) (oi := _) (t := 31) (v := ?v8) rfl (by kernel_rfl) (by kernel_rfl) (by kernel_rfl) (by kernel_rfl) (fun _ _ _ h => h) (by kernel_rfl) ?hy8 (by assumption) ?_
      case hy8 => (intro w hSw; (try dsimp only at hSw); go_simp; try with_reducible rfl)
      try simp only [Act.put, List.setIfInBounds_toArray, List.set_cons_zero, List.set_cons_succ]
      refine Take.take (i := 9) (oi := _) (t := 32) (v := ?v9) rfl (by kernel_rfl) (by kernel_rfl) (by kernel_rfl) (by kernel_rfl) (fun _ _ _ h => h) (by kernel_rfl) ?hy9 (by assumption) ?_
      case hy9 => (intro w hSw; (try dsimp only at hSw); go_simp; try with_reducible rfl)
      try simp only [Act.put, List.setIfInBounds_toArray, List.set_cons_zero, List.set_cons_succ]
      refine Take.take (i := 10) (oi := _) (t := 33) (v := ?v10) rfl (by kernel_rfl) (by kernel_rfl) (by kernel_rfl) (by kernel_rfl) (fun _ _ _ h => h) (by kernel_rfl) ?hy10 (by assumption) ?_
      case hy10 => (intro w hSw; (try dsimp only at hSw); go_simp; try with_reducible rfl)
      try simp only [Act.put, List.setIfInBounds_toArray, List.set_cons_zero, List.set_cons_succ]
      refine wpAnyH_ready (rs := [7]) (by kernel_rfl) (by simp) ?_
      refine AllReadyH.cons (o := _) rfl (fun K hK => ?_) AllReadyH.nil
      obtain ⟨hB, _⟩ : Below W6.heap.size W6 _ ∧ _ := (by assumption)
      go_simp
      go_at_call 7
      refine (HLi.out _ hB).mono ?_
      rintro e w4 ⟨rfl, hw⟩; rw [hw]; clear hw w4
      try dsimp only
      refine hK.out _ _ ?hS11 (fun hHeld => ?_)
      case hS11 => (first | exact HS.out _ (by assumption) | (obtain ⟨hB, _⟩ : Below W6.heap.size W6 _ ∧ _ := (by assumption); exact HS.out _ (Below.trans hB (Below.mono (by assumption) hB.size))) | (obtain ⟨hB, _⟩ : Below W6.heap.size W6 _ ∧ _ := (by assumption); exact HS.out _ hB))
      clear hB hK K
      try simp only [Act.put, List.setIfInBounds_toArray, List.set_cons_zero, List.set_cons_succ]
      refine Take.take (i := 11) (oi := _) (t := 34) (v := ?v12) rfl (by kernel_rfl) (by kernel_rfl) (by kernel_rfl) (by kernel_rfl) (fun _ _ _ h => h) (by kernel_rfl) ?hy12 (by assumption) ?_
      case hy12 => (intro w hSw; (try dsimp only at hSw); go_simp; try with_reducible rfl)
      try simp only [Act.put, List.setIfInBounds_toArray, List.set_cons_zero, List.set_cons_succ]
      refine Take.take (i := 12) (oi := _) (t := 35) (v := ?v13) rfl (by kernel_rfl) (by kernel_rfl) (by kernel_rfl) (by kernel_rfl) (fun _ _ _ h => h) (by kernel_rfl) ?hy13 (by assumption) ?_
      case hy13 => (intro w hSw; (try dsimp only at hSw); go_simp; try with_reducible rfl)
      try simp only [Act.put, List.setIfInBounds_toArray, List.set_cons_zero, List.set_cons_succ]
      refine Take.take (i := 13) (oi := _) (t := 36) (v := ?v14) rfl (by kernel_rfl) (by kernel_rfl) (by kernel_rfl) (by kernel_rfl) (fun _ _ _ h => h) (by kernel_rfl) ?hy14 (by assumption) ?_
      case hy14 => (intro w hSw; (try dsimp only at hSw); go_simp; try with_reducible rfl)
      try simp only [Act.put, List.setIfInBounds_toArray, List.set_cons_zero, List.set_cons_succ]
      refine Take.take (i := 14) (oi := _) (t := 37) (v := ?v15) rfl (by kernel_rfl) (by kernel_rfl) (by kernel_rfl) (by kernel_rfl) (fun _ _ _ h => h) (by kernel_rfl) ?hy15 (by assumption) ?_
      case hy15 => (intro w hSw; (try dsimp only at hSw); go_simp; try with_reducible rfl)
      try simp only [Act.put, List.setIfInBounds_toArray, List.set_cons_zero, List.set_cons_succ]
      refine Take.take (i := 15) (oi := _) (t := 38) (v := ?v16) rfl (by kernel_rfl) (by kernel_rfl) (by kernel_rfl) (by kernel_rfl) (fun _ _ _ h => h) (by kernel_rfl) ?hy16 (by assumption) ?_
      case hy16 => (intro w hSw; (try dsimp only at hSw); go_simp; try with_reducible rfl)
      try simp only [Act.put, List.setIfInBounds_toArray, List.set_cons_zero, List.set_cons_succ]
      refine Take.take (i := 16) (oi := _) (t := 39) (v := ?v17) rfl (by kernel_rfl) (by kernel_rfl) (by kernel_rfl) (by kernel_rfl) (fun _ _ _ h => h) (by kernel_rfl) ?hy17 (by assumption) ?_
      case hy17 => (intro w hSw; (try dsimp only at hSw); go_simp; try with_reducible rfl)
      try simp only [Act.put, List.setIfInBounds_toArray, List.set_cons_zero, List.set_cons_succ]
      refine Take.skip (i := 17) (t := 40) (g := 16) (b := false) (by kernel_rfl) (by kernel_rfl) (by kernel_rfl) (by kernel_rfl) (fun _ _ _ h => h) (by kernel_rfl) (by assumption) ?_
      try simp only [Act.put, List.setIfInBounds_toArray, List.set_cons_zero, List.set_cons_succ]
      refine Take.skip (i := 18) (t := 41) (g := 16) (b := false) (by kernel_rfl) (by kernel_rfl) (by kernel_rfl) (by kernel_rfl) (fun _ _ _ h => h) (by kernel_rfl) (by assumption) ?_
      try simp only [Act.put, List.setIfInBounds_toArray, List.set_cons_zero, List.set_cons_succ]
      refine Take.skip (i := 19) (t := 42) (g := 16) (b := false) (by kernel_rfl) (by kernel_rfl) (by kernel_rfl) (by kernel_rfl) (fun _ _ _ h => h) (by kernel_rfl) (by assumption) ?_
      try simp only [Act.put, List.setIfInBounds_toArray, List.set_cons_zero, List.set_cons_succ]
      refine Take.skip (i := 20) (t := 43) (g := 16) (b := false) (by kernel_rfl) (by kernel_rfl) (by kernel_rfl) (by kernel_rfl) (fun _ _ _ h => h) (by kernel_rfl) (by assumption) ?_
      try simp only [Act.put, List.setIfInBounds_toArray, List.set_cons_zero, List.set_cons_succ]
      refine Take.skip (i := 21) (t := 44) (g := 16) (b := false) (by kernel_rfl) (by kernel_rfl) (by kernel_rfl) (by kernel_rfl) (fun _ _ _ h => h) (by kernel_rfl) (by assumption) ?_
      try simp only [Act.put, List.setIfInBounds_toArray, List.set_cons_zero, List.set_cons_succ]
      refine Take.skip (i := 22) (t := 45) (g := 16) (b := false) (by kernel_rfl) (by kernel_rfl) (by kernel_rfl) (by kernel_rfl) (fun _ _ _ h => h) (by kernel_rfl) (by assumption) ?_
      try simp only [Act.put, List.setIfInBounds_toArray, List.set_cons_zero, List.set_cons_succ]
      refine Take.take (i := 23) (oi := _) (t := 46) (v := ?v18) rfl (by kernel_rfl) (by kernel_rfl) (by kernel_rfl) (by kernel_rfl) (fun _ _ _ h => h) (by kernel_rfl) ?hy18 (by assumption) ?_
      case hy18 => (intro w hSw; (try dsimp only at hSw); go_simp; try with_reducible rfl)
      try simp only [Act.put, List.setIfInBounds_toArray, List.set_cons_zero, List.set_cons_succ]
      refine Take.take (i := 24) (oi := _) (t := 47) (v := ?v19) rfl (by kernel_rfl) (by kernel_rfl) (by kernel_rfl) (by kernel_rfl) (fun _ _ _ h => h) (by kernel_rfl) ?hy19 (by assumption) ?_
      case hy19 => (intro w hSw; (try dsimp only at hSw); go_simp; try with_reducible rfl)
      try simp only [Act.put, List.setIfInBounds_toArray, List.set_cons_zero, List.set_cons_succ]
      refine Take.take (i := 25) (oi := _) (t := 48) (v := ?v20) rfl (by kernel_rfl) (by kernel_rfl) (by kernel_rfl) (by kernel_rfl) (fun _ _ _ h => h) (by kernel_rfl) ?hy20 (by assumption) ?_
      case hy20 => (intro w hSw; (try dsimp only at hSw); go_simp; try with_reducible rfl)
      try simp only [Act.put, List.setIfInBounds_toArray, List.set_cons_zero, List.set_cons_succ]
      refine Take.take (i := 26) (oi := _) (t := 49) (v := ?v21) rfl (by kernel_rfl) (by kernel_rfl) (by kernel_rfl) (by kernel_rfl) (fun _ _ _ h => h) (by kernel_rfl) ?hy21 (by assumption) ?_
      case hy21 => (intro w hSw; (try dsimp only at hSw); go_simp; try with_reducible rfl)
      try simp only [Act.put, List.setIfInBounds_toArray, List.set_cons_zero, List.set_cons_succ]
      refine wpAnyH_ready (rs := [27]) (by kernel_rfl) (by simp) ?_
      refine AllReadyH.cons (o := _) rfl (fun K hK => ?_) AllReadyH.nil
      obtain ⟨hB, _⟩ : Below W6.heap.size W6 _ ∧ _ := (by assumption)
      go_simp
      go_at_call 6
      refine (HPn.out _ hB).mono ?_
      rintro e w4 ⟨rfl, b4⟩
      try dsimp only
      refine hK.out _ _ ?hS22 (fun hHeld => ?_)
      case hS22 => (first | exact HS.out _ (by assumption) | (obtain ⟨hB, _⟩ : Below W6.heap.size W6 _ ∧ _ := (by assumption); exact HS.out _ (Below.trans hB (Below.mono (by assumption) hB.size))) | (obtain ⟨hB, _⟩ : Below W6.heap.size W6 _ ∧ _ := (by assumption); exact HS.out _ hB))
      clear hB hK K
      try simp only [Act.put, List.setIfInBounds_toArray, List.set_cons_zero, List.set_cons_succ]
      refine Take.take (i := 28) (oi := _) (t := 51) (v := ?v23) rfl (by kernel_rfl) (by kernel_rfl) (by kernel_rfl) (by kernel_rfl) (fun _ _ _ h => h) (by kernel_rfl) ?hy23 (by assumption) ?_
      case hy23 => (intro w hSw; (try dsimp only at hSw); go_simp; try with_reducible rfl)
      try simp only [Act.put, List.setIfInBounds_toArray, List.set_cons_zero, List.set_cons_succ]
      refine Take.take (i := 29) (oi := _) (t := 52) (v := ?v24) rfl (by kernel_rfl) (by kernel_rfl) (by kernel_rfl) (by kernel_rfl) (fun _ _ _ h => h) (by kernel_rfl) ?hy24 (by assumption) ?_
      case hy24 => (intro w hSw; (try dsimp only at hSw); go_simp; try with_reducible rfl)
      try simp only [Act.put, List.setIfInBounds_toArray, List.set_cons_zero, List.set_cons_succ]
      refine Take.take (i := 30) (oi := _) (t := 53) (v := ?v25) rfl (by kernel_rfl) (by kernel_rfl) (by kernel_rfl) (by kernel_rfl) (fun _ _ _ h => h) (by kernel_rfl) ?hy25 (by assumption) ?_
      case hy25 => (intro w hSw; (try dsimp only at hSw); go_simp; try with_reducible rfl)
      try simp only [Act.put, List.setIfInBounds_toArray, List.set_cons_zero, List.set_cons_succ]
      refine wpAnyH_ready (rs := [31]) (by kernel_rfl) (by simp) ?_
      refine AllReadyH.cons (o := _) rfl (fun K hK => ?_) AllReadyH.nil
      obtain ⟨hB, _⟩ : Below W6.heap.size W6 _ ∧ _ := (by assumption)
      go_simp
      go_at_call 7
      refine (limit_nil _).mono ?_
      rintro e w4 ⟨rfl, hw⟩; rw [hw]; clear hw w4
      try dsimp only
      refine hK.out _ _ ?hS26 (fun hHeld => ?_)
      case hS26 => (first | exact HS.out _ (by assumption) | (obtain ⟨hB, _⟩ : Below W6.heap.size W6 _ ∧ _ := (by assumption); exact HS.out _ (Below.trans hB (Below.mono (by assumption) hB.size))) | (obtain ⟨hB, _⟩ : Below W6.heap.size W6 _ ∧ _ := (by assumption); exact HS.out _ hB))
      clear hB hK K
      try simp only [Act.put, List.setIfInBounds_toArray, List.set_cons_zero, List.set_cons_succ]
      refine Take.take (i := 32) (oi := _) (t := 55) (v := ?v27) rfl (by kernel_rfl) (by kernel_rfl) (by kernel_rfl) (by kernel_rfl) (fun _ _ _ h => h) (by kernel_rfl) ?hy27 (by assumption) ?_
      case hy27 => (intro w hSw; (try dsimp only at hSw); go_simp; try with_reducible rfl)
      try simp only [Act.put, List.setIfInBounds_toArray, List.set_cons_zero, List.set_cons_succ]
      refine Take.take (i := 33) (oi := _) (t := 56) (v := ?v28) rfl (by kernel_rfl) (by kernel_rfl) (by kernel_rfl) (by kernel_rfl) (fun _ _ _ h => h) (by kernel_rfl) ?hy28 (by assumption) ?_
      case hy28 => (intro w hSw; (try dsimp only at hSw); go_simp; try with_reducible rfl)
      try simp only [Act.put, List.setIfInBounds_toArray, List.set_cons_zero, List.set_cons_succ]
      refine Take.take (i := 34) (oi := _) (t := 57) (v := ?v29) rfl (by kernel_rfl) (by kernel_rfl) (by kernel_rfl) (by kernel_rfl) (fun _ _ _ h => h) (by kernel_rfl) ?hy29 (by assumption) ?_
      case hy29 => (intro w hSw; (try dsimp only at hSw); go_simp; try with_reducible rfl)
      try simp only [Act.put, List.setIfInBounds_toArray, List.set_cons_zero, List.set_cons_succ]
      refine wpAnyH_ready (rs := [35]) (by kernel_rfl) (by simp) ?_
      refine AllReadyH.cons (o := _) rfl (fun K hK => ?_) AllReadyH.nil
      obtain ⟨hB, _⟩ : Below W6.heap.size W6 _ ∧ _ := (by assumption)
      go_simp
      go_at_call 8
      refine (Hops.works_any _).mono ?_
      rintro e w4 ⟨rfl, hw⟩; rw [← hw]; clear hw w4
      try dsimp only
      refine hK.out _ _ ?hS30 (fun hHeld => ?_)
      case hS30 => (first | exact HS.out _ (by assumption) | (obtain ⟨hB, _⟩ : Below W6.heap.size W6 _ ∧ _ := (by assumption); exact HS.out _ (Below.trans hB (Below.mono (by assumption) hB.size))) | (obtain ⟨hB, _⟩ : Below W6.heap.size W6 _ ∧ _ := (by assumption); exact HS.out _ hB))
      clear hB hK K
      try simp only [Act.put, List.setIfInBounds_toArray, List.set_cons_zero, List.set_cons_succ]
      refine Take.take (i := 36) (oi := _) (t := 59) (v := ?v31) rfl (by kernel_rfl) (by kernel_rfl) (by kernel_rfl) (by kernel_rfl) (fun _ _ _ h => h) (by kernel_rfl) ?hy31 (by assumption) ?_
      case hy31 => (intro w hSw; (try dsimp only at hSw); go_simp; try with_reducible rfl)
      try simp only [Act.put, List.setIfInBounds_toArray, List.set_cons_zero, List.set_cons_succ]
      refine Take.take (i := 37) (oi := _) (t := 4) (v := ?v32) rfl (by kernel_rfl) (by kernel_rfl) (by kernel_rfl) (by kernel_rfl) (fun _ _ _ h => h) (by kernel_rfl) ?hy32 (by assumption) ?_
      case hy32 => (intro w hSw; (try dsimp only at hSw); go_simp; try with_reducible rfl)
      try simp only [Act.put, List.setIfInBounds_toArray, List.set_cons_zero, List.set_cons_succ]
      refine wpAnyH_done (by kernel_rfl) ?_ _
      go_wp2_with fail
      go_ret
      obtain ⟨hB, _⟩ : Below W6.heap.size W6 _ ∧ _ := (by assumption)
      exact ⟨rfl, lW6.out.trans (Below.mono hB lW6.out.size)⟩
    · have hle := Lib.hid (pathB_len hq)
      go_upto_region 4 with (go_at_call 5; refine hPw.out.mono ?_; rintro e W6 ⟨rfl, b6⟩; rw [hq])
      have HS := Lib.hid (fun (w' : World) (h : Below W6.heap.size W6 w') => (show Below W6.heap.size W6 w' ∧ w'.cell? ⟨w2.heap.size, 0, none⟩ = some (.int .i64 (m : Nat)) from ⟨h, ((HB5.out.below b6 HB5.out.lt).below h (Nat.lt_of_lt_of_le HB5.out.lt b6.size)).cell 0⟩))
      have HPa := Lib.hid (fun (w' : World) (h : Below W6.heap.size W6 w') => path_any m L ((HG5.out.below b6 (Nat.le_refl _)).below h (Nat.le_refl _)) hMt.out (by omega) _ _ (HI5.out.below (b6.trans (h.mono b6.size))) Hxw.out (by omega))
      have HPn := Lib.hid (fun (w' : World) (h : Below W6.heap.size W6 w') => path_nil w' _ _ (HI5.out.below (b6.trans (h.mono b6.size))) (by omega))
      have HLi := Lib.hid (fun (w' : World) (h : Below W6.heap.size W6 w') => limit_any ((HG5.out.below b6 (Nat.le_refl _)).below h (Nat.le_refl _)) (by omega))
      have lW6 := Lib.hid (LW5.out.trans (b6.mono LW5.out.size))
      have e1 : IntKind.i64.wrap ((m : Int) - 1) = (m : Int) - 1 := IntWalk.i64_in _ (by omega)
      clear b6 hPw HG5 HB5 LW5 HI5 Hxw
      have e2 : IntKind.i64.wrap ((xs.length : Int) - 1) = (xs.length : Int) - 1 := IntWalk.i64_in _ (by omega)
      have hle2 := hle.out
      have e3 : decide ((xs.length : Int) ≤ (m : Int)) = true := by simp; omega
      have e4 : (xs.length : Int) ≤ (m : Int) := by omega
      have e5 : xs.length ≤ m := hle2
      refine wp_region_held_drew (S := fun w' => Below W6.heap.size W6 w' ∧ w'.cell? ⟨w2.heap.size, 0, none⟩ = some (.int .i64 (m : Nat))) (by kernel_rfl) (HS.out _ (Below.refl _ _).drew) (fun hHeld => ?_)
      refine Take.take (i := 0) (oi := _) (t := 23) (v := ?v33) rfl (by kernel_rfl) (by kernel_rfl) (by kernel_rfl) (by kernel_rfl) (fun _ _ _ h => h) (by kernel_rfl) ?hy33 (by assumption) ?_
      case hy33 => (intro w hSw; (try dsimp only at hSw); go_simp; try with_reducible rfl)
      try simp only [Act.put, List.setIfInBounds_toArray, List.set_cons_zero, List.set_cons_succ]
      refine Take.take (i := 1) (oi := _) (t := 24) (v := ?v34) rfl (by kernel_rfl) (by kernel_rfl) (by kernel_rfl) (by kernel_rfl) (fun _ _ _ h => h) (by kernel_rfl) ?hy34 (by assumption) ?_
      case hy34 => (intro w hSw; (try dsimp only at hSw); go_simp; try with_reducible rfl)
      try simp only [Act.put, List.setIfInBounds_toArray, List.set_cons_zero, List.set_cons_succ]
      refine Take.take (i := 3) (oi := _) (t := 26) (v := ?v35) rfl (by kernel_rfl) (by kernel_rfl) (by kernel_rfl) (by kernel_rfl) (fun _ _ _ h => h) (by kernel_rfl) ?hy35 (by assumption) ?_
      case hy35 => (intro w hSw; (try dsimp only at hSw); go_simp; try with_reducible rfl)
      try simp only [Act.put, List.setIfInBounds_toArray, List.set_cons_zero, List.set_cons_succ]
      refine wpAnyH_ready (rs := [2]) (by kernel_rfl) (by simp) ?_
      refine AllReadyH.cons (o := _) rfl (fun K hK => ?_) AllReadyH.nil
      obtain ⟨hB, _⟩ : Below W6.heap.size W6 _ ∧ _ := (by assumption)
      go_simp
      go_at_call 6
      refine (HPa.out _ hB).mono ?_
      rintro e w4 ⟨rfl, b4⟩; rw [hq]
      try dsimp only
      refine hK.out _ _ ?hS36 (fun hHeld => ?_)
      case hS36 => (first | exact HS.out _ (by assumption) | (obtain ⟨hB, _⟩ : Below W6.heap.size W6 _ ∧ _ := (by assumption); exact HS.out _ (Below.trans hB (Below.mono (by assumption) hB.size))) | (obtain ⟨hB, _⟩ : Below W6.heap.size W6 _ ∧ _ := (by assumption); exact HS.out _ hB))
      clear hB hK K
      try simp only [Act.put, List.setIfInBounds_toArray, List.set_cons_zero, List.set_cons_succ]
      refine Take.take (i := 4) (oi := _) (t := 27) (v := ?v37) rfl (by kernel_rfl) (by kernel_rfl) (by kernel_rfl) (by kernel_rfl) (fun _ _ _ h => h) (by kernel_rfl) ?hy37 (by assumption) ?_
      case hy37 => (intro w hSw; (try dsimp only at hSw); go_simp; try with_reducible rfl)
      try simp only [Act.put, List.setIfInBounds_toArray, List.set_cons_zero, List.set_cons_succ]
      refine Take.take (i := 5) (oi := _) (t := 28) (v := ?v38) rfl (by kernel_rfl) (by kernel_rfl) (by kernel_rfl) (by kernel_rfl) (fun _ _ _ h => h) (by kernel_rfl) ?hy38 (by assumption) ?_
      case hy38 => (intro w hSw; (try dsimp only at hSw); go_simp; try with_reducible rfl)
      try simp only [Act.put, List.setIfInBounds_toArray, List.set_cons_zero, List.set_cons_succ]
      refine Take.take (i := 6) (oi := _) (t := 29) (v := ?v39) rfl (by kernel_rfl) (by kernel_rfl) (by kernel_rfl) (by kernel_rfl) (fun _ _ _ h => h) (by kernel_rfl) ?hy39 (by assumption) ?_
      case hy39 => (intro w hSw; (try dsimp only at hSw); go_simp; try with_reducible rfl)
      try simp only [Act.put, List.setIfInBounds_toArray, List.set_cons_zero, List.set_cons_succ]
      refine Take.take (i := 8) (oi := _) (t := 31) (v := ?v40) rfl (by kernel_rfl) (by kernel_rfl) (by kernel_rfl) (by kernel_rfl) (fun _ _ _ h => h) (by kernel_rfl) ?hy40 (by assumption) ?_
      case hy40 => (intro w hSw; (try dsimp only at hSw); go_simp; try with_reducible rfl)
      try simp only [Act.put, List.setIfInBounds_toArray, List.set_cons_zero, List.set_cons_succ]
      refine Take.take (i := 9) (oi := _) (t := 32) (v := ?v41) rfl (by kernel_rfl) (by kernel_rfl) (by kernel_rfl) (by kernel_rfl) (fun _ _ _ h => h) (by kernel_rfl) ?hy41 (by assumption) ?_
      case hy41 => (intro w hSw; (try dsimp only at hSw); go_simp; try with_reducible rfl)
      try simp only [Act.put, List.setIfInBounds_toArray, List.set_cons_zero, List.set_cons_succ]
      refine Take.take (i := 10) (oi := _) (t := 33) (v := ?v42) rfl (by kernel_rfl) (by kernel_rfl) (by kernel_rfl) (by kernel_rfl) (fun _ _ _ h => h) (by kernel_rfl) ?hy42 (by assumption) ?_
      case hy42 => (intro w hSw; (try dsimp only at hSw); go_simp; try with_reducible rfl)
      try simp only [Act.put, List.setIfInBounds_toArray, List.set_cons_zero, List.set_cons_succ]
      refine wpAnyH_ready (rs := [7]) (by kernel_rfl) (by simp) ?_
      refine AllReadyH.cons (o := _) rfl (fun K hK => ?_) AllReadyH.nil
      obtain ⟨hB, _⟩ : Below W6.heap.size W6 _ ∧ _ := (by assumption)
      go_simp
      go_at_call 7
      refine (HLi.out _ hB).mono ?_
      rintro e w4 ⟨rfl, hw⟩; rw [hw]; clear hw w4
      try dsimp only
      refine hK.out _ _ ?hS43 (fun hHeld => ?_)
      case hS43 => (first | exact HS.out _ (by assumption) | (obtain ⟨hB, _⟩ : Below W6.heap.size W6 _ ∧ _ := (by assumption); exact HS.out _ (Below.trans hB (Below.mono (by assumption) hB.size))) | (obtain ⟨hB, _⟩ : Below W6.heap.size W6 _ ∧ _ := (by assumption); exact HS.out _ hB))
      clear hB hK K
      try simp only [Act.put, List.setIfInBounds_toArray, List.set_cons_zero, List.set_cons_succ]
      refine Take.take (i := 11) (oi := _) (t := 34) (v := ?v44) rfl (by kernel_rfl) (by kernel_rfl) (by kernel_rfl) (by kernel_rfl) (fun _ _ _ h => h) (by kernel_rfl) ?hy44 (by assumption) ?_
      case hy44 => (intro w hSw; (try dsimp only at hSw); go_simp; try with_reducible rfl)
      try simp only [Act.put, List.setIfInBounds_toArray, List.set_cons_zero, List.set_cons_succ]
      refine Take.take (i := 12) (oi := _) (t := 35) (v := ?v45) rfl (by kernel_rfl) (by kernel_rfl) (by kernel_rfl) (by kernel_rfl) (fun _ _ _ h => h) (by kernel_rfl) ?hy45 (by assumption) ?_
      case hy45 => (intro w hSw; (try dsimp only at hSw); go_simp; try with_reducible rfl)
      try simp only [Act.put, List.setIfInBounds_toArray, List.set_cons_zero, List.set_cons_succ]
      refine Take.take (i := 13) (oi := _) (t := 36) (v := ?v46) rfl (by kernel_rfl) (by kernel_rfl) (by kernel_rfl) (by kernel_rfl) (fun _ _ _ h => h) (by kernel_rfl) ?hy46 (by assumption) ?_
      case hy46 => (intro w hSw; (try dsimp only at hSw); go_simp; try with_reducible rfl)
      try simp only [Act.put, List.setIfInBounds_toArray, List.set_cons_zero, List.set_cons_succ]
      refine Take.take (i := 14) (oi := _) (t := 37) (v := ?v47) rfl (by kernel_rfl) (by kernel_rfl) (by kernel_rfl) (by kernel_rfl) (fun _ _ _ h => h) (by kernel_rfl) ?hy47 (by assumption) ?_
      case hy47 => (intro w hSw; (try dsimp only at hSw); go_simp; try with_reducible rfl)
      try simp only [Act.put, List.setIfInBounds_toArray, List.set_cons_zero, List.set_cons_succ]
      refine Take.take (i := 15) (oi := _) (t := 38) (v := ?v48) rfl (by kernel_rfl) (by kernel_rfl) (by kernel_rfl) (by kernel_rfl) (fun _ _ _ h => h) (by kernel_rfl) ?hy48 (by assumption) ?_
      case hy48 => (intro w hSw; (try dsimp only at hSw); go_simp; try with_reducible rfl)
      try simp only [Act.put, List.setIfInBounds_toArray, List.set_cons_zero, List.set_cons_succ]
      refine Take.take (i := 16) (oi := _) (t := 39) (v := ?v49) rfl (by kernel_rfl) (by kernel_rfl) (by kernel_rfl) (by kernel_rfl) (fun _ _ _ h => h) (by kernel_rfl) ?hy49 (by assumption) ?_
      case hy49 => (intro w hSw; (try dsimp only at hSw); go_simp; try with_reducible rfl)
      try simp only [Act.put, List.setIfInBounds_toArray, List.set_cons_zero, List.set_cons_succ]
      refine Take.take (i := 17) (oi := _) (t := 40) (v := ?v50) rfl (by kernel_rfl) (by kernel_rfl) (by kernel_rfl) (by kernel_rfl) (fun _ _ _ h => h) (by kernel_rfl) ?hy50 (by assumption) ?_
      case hy50 => (intro w hSw; (try dsimp only at hSw); go_simp; try with_reducible rfl)
      try simp only [Act.put, List.setIfInBounds_toArray, List.set_cons_zero, List.set_cons_succ]
      refine Take.take (i := 18) (oi := _) (t := 41) (v := ?v51) rfl (by kernel_rfl) (by kernel_rfl) (by kernel_rfl) (by kernel_rfl) (fun _ _ _ h => h) (by kernel_rfl) ?hy51 (by assumption) ?_
      case hy51 => (intro w hSw; (try dsimp only at hSw); go_simp; try with_reducible rfl)
      try simp only [Act.put, List.setIfInBounds_toArray, List.set_cons_zero, List.set_cons_succ]
      refine Take.take (i := 19) (oi := _) (t := 42) (v := ?v52) rfl (by kernel_rfl) (by kernel_rfl) (by kernel_rfl) (by kernel_rfl) (fun _ _ _ h => h) (by kernel_rfl) ?hy52 (by assumption) ?_
      case hy52 => (intro w hSw; (try dsimp only at hSw); go_simp; try with_reducible rfl)
      try simp only [Act.put, List.setIfInBounds_toArray, List.set_cons_zero, List.set_cons_succ]
      refine Take.take (i := 20) (oi := _) (t := 43) (v := ?v53) rfl (by kernel_rfl) (by kernel_rfl) (by kernel_rfl) (by kernel_rfl) (fun _ _ _ h => h) (by kernel_rfl) ?hy53 (by assumption) ?_
      case hy53 => (intro w hSw; (try dsimp only at hSw); go_simp; try with_reducible rfl)
      try simp only [Act.put, List.setIfInBounds_toArray, List.set_cons_zero, List.set_cons_succ]
      refine wpAnyH_ready (rs := [21]) (by kernel_rfl) (by simp) ?_
      refine AllReadyH.cons (o := _) rfl (fun K hK => ?_) AllReadyH.nil
      obtain ⟨hB, _⟩ : Below W6.heap.size W6 _ ∧ _ := (by assumption)
      go_simp
      go_at_call 7
      refine (HLi.out _ hB).mono ?_
      rintro e w4 ⟨rfl, hw⟩; rw [hw]; clear hw w4
      try dsimp only
      refine hK.out _ _ ?hS54 (fun hHeld => ?_)
      case hS54 => (first | exact HS.out _ (by assumption) | (obtain ⟨hB, _⟩ : Below W6.heap.size W6 _ ∧ _ := (by assumption); exact HS.out _ (Below.trans hB (Below.mono (by assumption) hB.size))) | (obtain ⟨hB, _⟩ : Below W6.heap.size W6 _ ∧ _ := (by assumption); exact HS.out _ hB))
      clear hB hK K
      try simp only [Act.put, List.setIfInBounds_toArray, List.set_cons_zero, List.set_cons_succ]
      refine Take.take (i := 22) (oi := _) (t := 45) (v := ?v55) rfl (by kernel_rfl) (by kernel_rfl) (by kernel_rfl) (by kernel_rfl) (fun _ _ _ h => h) (by kernel_rfl) ?hy55 (by assumption) ?_
      case hy55 => (intro w hSw; (try dsimp only at hSw); go_simp; try with_reducible rfl)
      try simp only [Act.put, List.setIfInBounds_toArray, List.set_cons_zero, List.set_cons_succ]
      refine Take.take (i := 23) (oi := _) (t := 46) (v := ?v56) rfl (by kernel_rfl) (by kernel_rfl) (by kernel_rfl) (by kernel_rfl) (fun _ _ _ h => h) (by kernel_rfl) ?hy56 (by assumption) ?_
      case hy56 => (intro w hSw; (try dsimp only at hSw); go_simp; try with_reducible rfl)
      try simp only [Act.put, List.setIfInBounds_toArray, List.set_cons_zero, List.set_cons_succ]
      refine Take.take (i := 24) (oi := _) (t := 47) (v := ?v57) rfl (by kernel_rfl) (by kernel_rfl) (by kernel_rfl) (by kernel_rfl) (fun _ _ _ h => h) (by kernel_rfl) ?hy57 (by assumption) ?_
      case hy57 => (intro w hSw; (try dsimp only at hSw); go_simp; try with_reducible rfl)
      try simp only [Act.put, List.setIfInBounds_toArray, List.set_cons_zero, List.set_cons_succ]
      refine Take.take (i := 25) (oi := _) (t := 48) (v := ?v58) rfl (by kernel_rfl) (by kernel_rfl) (by kernel_rfl) (by kernel_rfl) (fun _ _ _ h => h) (by kernel_rfl) ?hy58 (by assumption) ?_
      case hy58 => (intro w hSw; (try dsimp only at hSw); go_simp; try with_reducible rfl)
      try simp only [Act.put, List.setIfInBounds_toArray, List.set_cons_zero, List.set_cons_succ]
      refine Take.take (i := 26) (oi := _) (t := 49) (v := ?v59) rfl (by kernel_rfl) (by kernel_rfl) (by kernel_rfl) (by kernel_rfl) (fun _ _ _ h => h) (by kernel_rfl) ?hy59 (by assumption) ?_
      case hy59 => (intro w hSw; (try dsimp only at hSw); go_simp; try with_reducible rfl)
      try simp only [Act.put, List.setIfInBounds_toArray, List.set_cons_zero, List.set_cons_succ]
      refine wpAnyH_ready (rs := [27]) (by kernel_rfl) (by simp) ?_
      refine AllReadyH.cons (o := _) rfl (fun K hK => ?_) AllReadyH.nil
      obtain ⟨hB, _⟩ : Below W6.heap.size W6 _ ∧ _ := (by assumption)
      go_simp
      go_at_call 6
      refine (HPn.out _ hB).mono ?_
      rintro e w4 ⟨rfl, b4⟩
      try dsimp only
      refine hK.out _ _ ?hS60 (fun hHeld => ?_)
      case hS60 => (first | exact HS.out _ (by assumption) | (obtain ⟨hB, _⟩ : Below W6.heap.size W6 _ ∧ _ := (by assumption); exact HS.out _ (Below.trans hB (Below.mono (by assumption) hB.size))) | (obtain ⟨hB, _⟩ : Below W6.heap.size W6 _ ∧ _ := (by assumption); exact HS.out _ hB))
      clear hB hK K
      try simp only [Act.put, List.setIfInBounds_toArray, List.set_cons_zero, List.set_cons_succ]
      refine Take.take (i := 28) (oi := _) (t := 51) (v := ?v61) rfl (by kernel_rfl) (by kernel_rfl) (by kernel_rfl) (by kernel_rfl) (fun _ _ _ h => h) (by kernel_rfl) ?hy61 (by assumption) ?_
      case hy61 => (intro w hSw; (try dsimp only at hSw); go_simp; try with_reducible rfl)
      try simp only [Act.put, List.setIfInBounds_toArray, List.set_cons_zero, List.set_cons_succ]
      refine Take.take (i := 29) (oi := _) (t := 52) (v := ?v62) rfl (by kernel_rfl) (by kernel_rfl) (by kernel_rfl) (by kernel_rfl) (fun _ _ _ h => h) (by kernel_rfl) ?hy62 (by assumption) ?_
      case hy62 => (intro w hSw; (try dsimp only at hSw); go_simp; try with_reducible rfl)
      try simp only [Act.put, List.setIfInBounds_toArray, List.set_cons_zero, List.set_cons_succ]
      refine Take.take (i := 30) (oi := _) (t := 53) (v := ?v63) rfl (by kernel_rfl) (by kernel_rfl) (by kernel_rfl) (by kernel_rfl) (fun _ _ _ h => h) (by kernel_rfl) ?hy63 (by assumption) ?_
      case hy63 => (intro w hSw; (try dsimp only at hSw); go_simp; try with_reducible rfl)
      try simp only [Act.put, List.setIfInBounds_toArray, List.set_cons_zero, List.set_cons_succ]
      refine wpAnyH_ready (rs := [31]) (by kernel_rfl) (by simp) ?_
      refine AllReadyH.cons (o := _) rfl (fun K hK => ?_) AllReadyH.nil
      obtain ⟨hB, _⟩ : Below W6.heap.size W6 _ ∧ _ := (by assumption)
      go_simp
      go_at_call 7
      refine (limit_nil _).mono ?_
      rintro e w4 ⟨rfl, hw⟩; rw [hw]; clear hw w4
      try dsimp only
      refine hK.out _ _ ?hS64 (fun hHeld => ?_)
      case hS64 => (first | exact HS.out _ (by assumption) | (obtain ⟨hB, _⟩ : Below W6.heap.size W6 _ ∧ _ := (by assumption); exact HS.out _ (Below.trans hB (Below.mono (by assumption) hB.size))) | (obtain ⟨hB, _⟩ : Below W6.heap.size W6 _ ∧ _ := (by assumption); exact HS.out _ hB))
      clear hB hK K
      try simp only [Act.put, List.setIfInBounds_toArray, List.set_cons_zero, List.set_cons_succ]
      refine Take.take (i := 32) (oi := _) (t := 55) (v := ?v65) rfl (by kernel_rfl) (by kernel_rfl) (by kernel_rfl) (by kernel_rfl) (fun _ _ _ h => h) (by kernel_rfl) ?hy65 (by assumption) ?_
      case hy65 => (intro w hSw; (try dsimp only at hSw); go_simp; try with_reducible rfl)
      try simp only [Act.put, List.setIfInBounds_toArray, List.set_cons_zero, List.set_cons_succ]
      refine Take.take (i := 33) (oi := _) (t := 56) (v := ?v66) rfl (by kernel_rfl) (by kernel_rfl) (by kernel_rfl) (by kernel_rfl) (fun _ _ _ h => h) (by kernel_rfl) ?hy66 (by assumption) ?_
      case hy66 => (intro w hSw; (try dsimp only at hSw); go_simp; try with_reducible rfl)
      try simp only [Act.put, List.setIfInBounds_toArray, List.set_cons_zero, List.set_cons_succ]
      refine Take.take (i := 34) (oi := _) (t := 57) (v := ?v67) rfl (by kernel_rfl) (by kernel_rfl) (by kernel_rfl) (by kernel_rfl) (fun _ _ _ h => h) (by kernel_rfl) ?hy67 (by assumption) ?_
      case hy67 => (intro w hSw; (try dsimp only at hSw); go_simp; try with_reducible rfl)
      try simp only [Act.put, List.setIfInBounds_toArray, List.set_cons_zero, List.set_cons_succ]
      refine wpAnyH_ready (rs := [35]) (by kernel_rfl) (by simp) ?_
      refine AllReadyH.cons (o := _) rfl (fun K hK => ?_) AllReadyH.nil
      obtain ⟨hB, _⟩ : Below W6.heap.size W6 _ ∧ _ := (by assumption)
      go_simp
      go_at_call 8
      refine (Hops.works_any _).mono ?_
      rintro e w4 ⟨rfl, hw⟩; rw [← hw]; clear hw w4
      try dsimp only
      refine hK.out _ _ ?hS68 (fun hHeld => ?_)
      case hS68 => (first | exact HS.out _ (by assumption) | (obtain ⟨hB, _⟩ : Below W6.heap.size W6 _ ∧ _ := (by assumption); exact HS.out _ (Below.trans hB (Below.mono (by assumption) hB.size))) | (obtain ⟨hB, _⟩ : Below W6.heap.size W6 _ ∧ _ := (by assumption); exact HS.out _ hB))
      clear hB hK K
      try simp only [Act.put, List.setIfInBounds_toArray, List.set_cons_zero, List.set_cons_succ]
      refine Take.take (i := 36) (oi := _) (t := 59) (v := ?v69) rfl (by kernel_rfl) (by kernel_rfl) (by kernel_rfl) (by kernel_rfl) (fun _ _ _ h => h) (by kernel_rfl) ?hy69 (by assumption) ?_
      case hy69 => (intro w hSw; (try dsimp only at hSw); go_simp; try with_reducible rfl)
      try simp only [Act.put, List.setIfInBounds_toArray, List.set_cons_zero, List.set_cons_succ]
      refine Take.take (i := 37) (oi := _) (t := 4) (v := ?v70) rfl (by kernel_rfl) (by kernel_rfl) (by kernel_rfl) (by kernel_rfl) (fun _ _ _ h => h) (by kernel_rfl) ?hy70 (by assumption) ?_
      case hy70 => (intro w hSw; (try dsimp only at hSw); go_simp; try with_reducible rfl)
      try simp only [Act.put, List.setIfInBounds_toArray, List.set_cons_zero, List.set_cons_succ]
      refine wpAnyH_done (by kernel_rfl) ?_ _
      go_wp2_with fail
      go_ret
      obtain ⟨hB, _⟩ : Below W6.heap.size W6 _ ∧ _ := (by assumption)
      exact ⟨rfl, lW6.out.trans (Below.mono hB lW6.out.size)⟩
end Go.Proofs.Ytcangalpccppbaa.Graph
