/- How many clocks are out of pace: drift's out, walked. -/
import Derived.Test.YtpbabpbinojodaaDoorDriftGap
namespace Go.Proofs.YtpbabpbinojodaaDoor.Drift
open Go.RowKit
open Go.Proofs.YtpbabpbinojodaaDoor.Arith Go.Proofs.YtpbabpbinojodaaDoor.Nodes Go.Proofs.YtpbabpbinojodaaDoor.Heap Go.Proofs.YtpbabpbinojodaaDoor.RF
set_option linter.unusedVariables false
set_option linter.unusedSimpArgs false
attribute [local go_sem] Oper.semAt_some
theorem wl_slow (c : Wt) (ns : List Value) : (wl c ns)[1]? = some (.int .i64 c.slow) := rfl
theorem wl_fast (c : Wt) (ns : List Value) : (wl c ns)[2]? = some (.int .i64 c.fast) := rfl
theorem cnt_snoc (f : Nat → Bool) (pre : List Nat) (x : Nat) : (pre ++ [x]).countP f = pre.countP f + if f x = true then 1 else 0 := by
  rw [List.countP_append, List.countP_singleton]
theorem wrap64_in' {x : Int} (h : I64 x) : IntKind.i64.wrap x = x := IntWalk.i64_in x h
theorem prefix_len' {pre l : List Nat} (h : pre <+: l) : pre.length ≤ l.length := h.length_le
theorem ones_len' (s : Nat) : (ones s).length ≤ 64 := by
  unfold ones
  exact Nat.le_trans (List.length_filter_le _ _) (by simp)
theorem outof_is {a b : Nt} {T U : Int} {A B : List Int} {m k : Nat} (ha : Told a T A m) (hb : Told b U B k) (s f : Int) (h1 : 1 ≤ U - T) :
    (ones (k &&& m)).countP (fun i => bad (B.getD i 0 - A.getD i 0) (U - T) s f) = outOf a b s f := ha.out hb s f h1
/-- What the rounds of out keep. -/
structure OInv (w : World) (p q : Nat) (t : Int) (f : Nat → Bool) (pre : List Nat) (V : World) : Prop where
  wt : Blk V w.heap.size 24 #[.pointer (some ⟨q, 0, none⟩)]
  nt : Blk V (w.heap.size + 1) 60 #[.pointer (some ⟨p, 0, none⟩)]
  tk : Blk V (w.heap.size + 2) 2 #[.int .i64 t]
  mn : Blk V (w.heap.size + 3) 3 #[.int .i64 (pre.countP f : Nat)]
  box : ∃ x, Blk V (w.heap.size + 4) 33 x
  low : Below w.heap.size w V
theorem OInv.hush {w : World} {p q : Nat} {t : Int} {f : Nat → Bool} {pre : List Nat} {V V' : World} (h : OInv w p q t f pre V) {b : Nat} (c : Hush (fun k => k = w.heap.size + 4) b V V') (hb : w.heap.size ≤ b) : OInv w p q t f pre V' := by
  obtain ⟨x, hx⟩ := h.box
  exact ⟨c.blk h.wt (by omega), c.blk h.nt (by omega), c.blk h.tk (by omega), c.blk h.mn (by omega), c.kind _ _ _ hx, c.below h.low (Nat.le_refl _) hb (fun k hk => by omega)⟩
theorem OInv.same {w : World} {p q : Nat} {t : Int} {f : Nat → Bool} {pre : List Nat} {V : World} (h : OInv w p q t f pre V) {x b : Nat} (hf : f x = false) (hw : 0 < w.heap.size) (hb : w.heap.size + 5 = b) (hV : b ≤ V.heap.size) :
    Stays b (fun k => k = w.heap.size + 4 ∨ k = 0) V V.drew.drew ∧ OInv w p q t f (pre ++ [x]) V.drew.drew := by
  obtain ⟨y, hy⟩ := h.box
  refine ⟨off_stays (K := fun _ => False) (Off.refl _ V).drew.drew (fun k hk => hk.elim) (fun k hk => ?_), h.wt, h.nt, h.tk, ?_, ⟨y, hy⟩, h.low.drew.drew⟩
  · rcases hk with rfl | rfl
    · exact ⟨hy.lt, id⟩
    · exact ⟨by omega, id⟩
  · rw [cnt_snoc, hf]; exact h.mn
theorem OInv.more {w : World} {p q : Nat} {t : Int} {f : Nat → Bool} {pre : List Nat} {V : World} (h : OInv w p q t f pre V) {x b cnt : Nat} (hc : pre.countP f = cnt) (hf : f x = true) (hw : 0 < w.heap.size) (hb : w.heap.size + 5 = b) (hV : b ≤ V.heap.size) :
    Stays b (fun k => k = w.heap.size + 4 ∨ k = 0) V (V.setCell ⟨w.heap.size + 1 + 1 + 1, 0, none⟩ (.int .i64 ((cnt : Nat) + 1))).drew.drew ∧ OInv w p q t f (pre ++ [x]) (V.setCell ⟨w.heap.size + 1 + 1 + 1, 0, none⟩ (.int .i64 ((cnt : Nat) + 1))).drew.drew := by
  obtain ⟨y, hy⟩ := h.box
  refine ⟨off_stays (K := fun k => k = w.heap.size + 3) ((Off.refl (fun k => k = w.heap.size + 3) V).setCell (p := ⟨w.heap.size + 1 + 1 + 1, 0, none⟩) (.inl (show w.heap.size + 1 + 1 + 1 = w.heap.size + 3 from rfl)) _).drew.drew (fun k hk => ?_) (fun k hk => ?_), h.wt.far (by show w.heap.size ≠ w.heap.size + 1 + 1 + 1; omega) _, h.nt.far (by show w.heap.size + 1 ≠ w.heap.size + 1 + 1 + 1; omega) _, h.tk.far (by show w.heap.size + 2 ≠ w.heap.size + 1 + 1 + 1; omega) _, ?_, ⟨y, hy.far (by show w.heap.size + 4 ≠ w.heap.size + 1 + 1 + 1; omega) _⟩, (h.low.setCell (p := ⟨w.heap.size + 1 + 1 + 1, 0, none⟩) (by show w.heap.size ≤ w.heap.size + 1 + 1 + 1; omega) _).drew.drew⟩
  · subst hk; exact ⟨_, _, h.mn⟩
  · rcases hk with rfl | rfl
    · exact ⟨hy.lt, by omega⟩
    · exact ⟨by omega, by omega⟩
  · rw [cnt_snoc, hf, hc]; exact h.mn.put 0 _
set_option maxRecDepth 100000 in
set_option maxHeartbeats 4000000 in
theorem out_any {w : World} {p q : Nat} {a b : Nt} {T U : Int} {A B : List Int} {m k : Nat} {c : Wt} (hq : Blk w q 52 (wl c (nl T A m)).toArray) (hp : Blk w p 50 (nl U B k).toArray) (ha : Told a T A m) (hb : Told b U B k)
    (hs : I64 c.slow) (hf : I64 c.fast) (hT : Tab w) :
    Calls Tryd.prog 20 #[.pointer (some ⟨q, 0, none⟩), .pointer (some ⟨p, 0, none⟩)] w fun e w' => e = .returned (.int .i64 (outOf a b c.slow c.fast : Nat)) ∧ Below w.heap.size w w' := by
  have lq := hq.lt
  have lp := hp.lt
  have rT := tm_in a.tick
  have rU := tm_in b.tick
  rw [← ha.tick] at rT
  rw [← hb.tick] at rU
  refine callsIn_wide.1 (callsIn_of_wp_marks (n := 0) Tryd.func20 rfl trivial ?_ rfl)
  simp only [Tryd.ntmps20, List.size_toArray, List.length_cons, List.length_nil, Nat.reduceAdd, Nat.reduceSub, Array.replicate_succ, Array.replicate_zero, List.push_toArray, List.append_toArray, List.nil_append, List.cons_append]
  refine wpIn_wide.2 ?_
  go_upto_region 1 with fail
  obtain ⟨W, hW⟩ : ∃ W, (w.alloc (.cells #[.pointer (some ⟨q, 0, none⟩)] 24)).alloc (.cells #[.pointer (some ⟨p, 0, none⟩)] 60) = W := ⟨_, rfl⟩
  have z1 : (w.alloc (.cells #[.pointer (some ⟨q, 0, none⟩)] 24)).heap.size = w.heap.size + 1 := by simp
  have b0 : Blk W w.heap.size 24 #[.pointer (some ⟨q, 0, none⟩)] := by rw [← hW]; exact (Blk.new w _ _).alloc _
  have b1 : Blk W (w.heap.size + 1) 60 #[.pointer (some ⟨p, 0, none⟩)] := by
    rw [← hW]
    have := Blk.new (w.alloc (.cells #[.pointer (some ⟨q, 0, none⟩)] 24)) 60 #[.pointer (some ⟨p, 0, none⟩)]
    rwa [z1] at this
  have low : Below w.heap.size w W := by rw [← hW]; exact ((Below.refl _ w).alloc (Nat.le_refl _) _).alloc (by simp) _
  have zr : W.heap.size = w.heap.size + 1 + 1 := by rw [← hW]; simp
  rw [hW]
  clear hW z1
  have c0 : W.cell? ⟨w.heap.size, 0, none⟩ = some (.pointer (some ⟨q, 0, none⟩)) := b0.cell 0
  have c1 : W.cell? ⟨w.heap.size + 1, 0, none⟩ = some (.pointer (some ⟨p, 0, none⟩)) := b1.cell 0
  have c2 : W.cell? ⟨p, 0, none⟩ = some (.int .i64 U) := (hp.below low lp).cell 0
  have c3 : W.cell? ⟨q, 3, none⟩ = some (.int .i64 T) := by
    have := (hq.below low lq).cell 3
    rwa [List.getElem?_toArray, wl_mid (i := 0) (nl_len ha.len) (by omega)] at this
  go_cut [5] from 9 to 18 (fun s5 V => s5 = .pointer (some ⟨w.heap.size + 1 + 1, 0, none⟩) ∧ RowKit.Hid (Blk V (w.heap.size + 2) 2 #[.int .i64 (U - T)]) ∧ RowKit.Hid (Below W.heap.size W V) ∧ V.heap.size = w.heap.size + 1 + 1 + 1)
  case first =>
    go_region_held3 (fun v => v.cell? ⟨w.heap.size, 0, none⟩ = some (.pointer (some ⟨q, 0, none⟩)) ∧ v.cell? ⟨w.heap.size + 1, 0, none⟩ = some (.pointer (some ⟨p, 0, none⟩)) ∧ v.cell? ⟨p, 0, none⟩ = some (.int .i64 U) ∧ v.cell? ⟨q, 3, none⟩ = some (.int .i64 T)) ((go_keep; done)) (fail)
    all_goals
      go_wp2_with fail
      go_meet
      have e1 : IntKind.i64.wrap (U - T) = U - T := wrap64_in' (by unfold I64; omega)
      rw [e1]
      exact ⟨rfl, Lib.hid (by have := Blk.new W 2 #[.int .i64 (U - T)]; rw [zr] at this; exact this), Lib.hid (((Below.refl _ W).alloc (Nat.le_refl _) _).drew), by simp [World.drew, zr]⟩
  case rest =>
    obtain ⟨rfl, hB, hL, hz⟩ := hcut
    have bV := hL.out
    have lV : Below w.heap.size w wc := low.trans (bV.mono (by omega))
    have d0 := b0.below bV b0.lt
    have d1 := b1.below bV b1.lt
    have d2 := hB.out
    obtain ⟨t, htt⟩ : ∃ t, U - T = t := ⟨_, rfl⟩
    have rt : -1152921504606846976 ≤ t ∧ t ≤ 1152921504606846976 := by omega
    rw [htt] at d2
    have e2 : wc.cell? ⟨w.heap.size + 1 + 1, 0, none⟩ = some (.int .i64 t) := d2.cell 0
    have Ht := Lib.hid htt
    have hw0 := hT.size
    clear c0 c1 c2 c3 hB hL b0 b1 bV low zr htt rU rT
    by_cases h1 : 1 ≤ t
    · have ho := outof_is ha hb c.slow c.fast (by rw [Ht.out]; exact h1)
      rw [Ht.out] at ho
      have Ho := Lib.hid ho
      clear ho
      go_upto_region 5 with fail
      obtain ⟨W, hW⟩ : ∃ W, wc.alloc (.cells #[.int .i64 0] 3) = W := ⟨_, rfl⟩
      have g0 : Blk W w.heap.size 24 #[.pointer (some ⟨q, 0, none⟩)] := by rw [← hW]; exact d0.alloc _
      have g1 : Blk W (w.heap.size + 1) 60 #[.pointer (some ⟨p, 0, none⟩)] := by rw [← hW]; exact d1.alloc _
      have g2 : Blk W (w.heap.size + 2) 2 #[.int .i64 t] := by rw [← hW]; exact d2.alloc _
      have g3 : Blk W (w.heap.size + 3) 3 #[.int .i64 0] := by
        have := Blk.new wc 3 #[.int .i64 0]
        rw [hW, hz] at this
        exact this
      have low : Below w.heap.size w W := by rw [← hW]; exact lV.alloc (by omega) _
      have zr : W.heap.size = w.heap.size + 4 := by rw [← hW]; simp [hz]
      rw [hW]
      clear hW d0 d1 d2 e2 lV hz
      have c0 : W.cell? ⟨w.heap.size, 0, none⟩ = some (.pointer (some ⟨q, 0, none⟩)) := g0.cell 0
      have c1 : W.cell? ⟨w.heap.size + 1, 0, none⟩ = some (.pointer (some ⟨p, 0, none⟩)) := g1.cell 0
      have c2 : W.cell? ⟨p, 65, none⟩ = some (.int .u64 k) := by
        have := (hp.below low lp).cell 65
        rwa [List.getElem?_toArray, nl_set hb.len] at this
      have c3 : W.cell? ⟨q, 68, none⟩ = some (.int .u64 m) := by
        have := (hq.below low lq).cell 68
        rwa [List.getElem?_toArray, wl_mid (i := 65) (nl_len ha.len) (by omega), nl_set ha.len] at this
      have hand := bits_and_u64_nat k m hb.lt ha.lt
      have hsl : k &&& m < 2 ^ 64 := Nat.and_lt_two_pow _ ha.lt
      obtain ⟨s, hss⟩ : ∃ s, k &&& m = s := ⟨_, rfl⟩
      rw [hss] at hand hsl Ho
      have HE := Lib.hid (fun (V : World) => each_any s V)
      have Hs := Lib.hid hss
      clear hss
      refine wp_region_noPanic ?_
      go_region_held3 (fun v => v.cell? ⟨w.heap.size, 0, none⟩ = some (.pointer (some ⟨q, 0, none⟩)) ∧ v.cell? ⟨w.heap.size + 1, 0, none⟩ = some (.pointer (some ⟨p, 0, none⟩)) ∧ v.cell? ⟨p, 65, none⟩ = some (.int .u64 k) ∧ v.cell? ⟨q, 68, none⟩ = some (.int .u64 m)) ((go_keep; done)) ((go_at_call 24; refine (HE.out _).mono ?_; rintro e w' ⟨rfl, h⟩; rw [h]; clear h w'))
      refine NoPanic.normal ?_
      go_wp2_with fail
      have bB : Blk (W.alloc (.cells #[.int .u64 (s : Nat)] 33)).drew (w.heap.size + 4) 33 #[.int .u64 (s : Nat)] := by
        have := Blk.new W 33 #[.int .u64 (s : Nat)]
        rw [zr] at this
        exact this
      have hI0 : OInv w p q t (fun i => bad (B.getD i 0 - A.getD i 0) t c.slow c.fast) [] (W.alloc (.cells #[.int .u64 (s : Nat)] 33)).drew :=
        ⟨g0.alloc _, g1.alloc _, g2.alloc _, g3.alloc _, ⟨_, bB⟩, (low.alloc (by omega) _).drew⟩
      have hT1 : Tab (W.alloc (.cells #[.int .u64 (s : Nat)] 33)).drew := hT.below (low.alloc (by omega) _).drew hT.size
      have hz1 : (W.alloc (.cells #[.int .u64 (s : Nat)] 33)).drew.heap.size = w.heap.size + 5 := by simp [World.drew, zr]
      obtain ⟨Wr, hWr⟩ : ∃ Wr, (W.alloc (.cells #[.int .u64 (s : Nat)] 33)).drew = Wr := ⟨_, rfl⟩
      rw [hWr] at bB hI0 hT1 hz1
      rw [hWr]
      have hos : ∀ x ∈ ones s, x < 64 := fun x hx => (mem_ones.1 hx).1
      have Hos := Lib.hid hos
      have hfb : ∀ d, (bad d t c.slow c.fast) = ((if inr (t * c.slow) then decide (d < t * c.slow) else (decide (t < 0) == decide (c.slow < 0))) || (if inr (t * c.fast) then decide (t * c.fast < d) else (decide (t < 0) != decide (c.fast < 0)))) := fun d => by
        rw [below_is h1, above_is h1]; rfl
      have Hfb := Lib.hid hfb
      obtain ⟨f, hf'⟩ : ∃ f, (fun i => bad (B.getD i 0 - A.getD i 0) t c.slow c.fast) = f := ⟨_, rfl⟩
      rw [hf'] at hI0 Ho
      have Hf := Lib.hid hf'
      clear hWr g0 g1 g2 g3 c0 c1 c2 c3 low zr HE hand hos hfb hf'
      refine range_each (B := w.heap.size + 4) (s := s) rfl hsl bB hT1 (by omega) rfl (fun pre V => OInv w p q t f pre V) (fun _ _ _ => False)
        (fun xs A C h c => h.hush c (by omega)) (fun _ _ _ _ h _ => h) hI0
        (fun x => { tmps := #[.pointer (some ⟨q, 0, none⟩), .pointer (some ⟨p, 0, none⟩), .pointer (some ⟨w.heap.size, 0, none⟩), .pointer (some ⟨w.heap.size + 1, 0, none⟩), .int .i64 0, .pointer (some ⟨w.heap.size + 1 + 1, 0, none⟩), .pointer (some ⟨w.heap.size + 1 + 1 + 1, 0, none⟩), .int .i64 (x : Nat), undef, u9, u10, u11, u12, u13, u14, u15, u16, u17, u18, .int .i64 t, .bool (decide (t < 1)), .pointer (some ⟨p, 0, none⟩), .pointer (some ⟨p, 0, none⟩), .pointer (some ⟨p, 65, none⟩), .int .u64 (k : Nat), .pointer (some ⟨q, 0, none⟩), .pointer (some ⟨q, 0, none⟩), .pointer (some ⟨q, 3, none⟩), .pointer (some ⟨q, 68, none⟩), .int .u64 (m : Nat), .int .u64 (s : Nat), .func (.func 30) #[] #[.pointer (some ⟨w.heap.size + 4, 0, none⟩)], .int .i64 (x : Nat), undef, undef, undef, undef, undef, undef, undef, undef, undef, undef, undef, undef, undef, undef, undef, undef, undef, undef, undef, undef, undef, undef, undef, undef, undef, undef, undef, undef, undef, undef, undef, undef, undef], defers := [] }) ?assign ?body ?done ?stop
      case assign =>
        intro l x V R hR
        gi_wp2
        exact hR
      case stop =>
        rintro D c pre V _ _ h _
        exact h.elim
      case body =>
        rintro l pre x V hzV hIV hpre
        have hx64 : x < 64 := Hos.out x (hpre.subset (by simp))
        have lq' := lq
        have cA : V.cell? ⟨q, 4 + x, none⟩ = some (.int .i64 (A.getD x 0)) := by
          have := (hq.below hIV.low lq).cell (4 + x)
          rwa [List.getElem?_toArray, show 4 + x = (x + 1) + 3 by omega, wl_mid (nl_len ha.len) (by omega), nl_at ha.len hx64, show (x + 1) + 3 = 4 + x by omega] at this
        have cB : V.cell? ⟨p, 1 + x, none⟩ = some (.int .i64 (B.getD x 0)) := by
          have := (hp.below hIV.low lp).cell (1 + x)
          rwa [List.getElem?_toArray, Nat.add_comm 1 x, nl_at hb.len hx64, Nat.add_comm x 1] at this
        have rA := ha.inn x
        have rB := hb.inn x
        have hbx : f x = bad (B.getD x 0 - A.getD x 0) t c.slow c.fast := by rw [← Hf.out]
        rw [Hfb.out] at hbx
        obtain ⟨z, hzz⟩ : ∃ z, A.getD x 0 = z := ⟨_, rfl⟩
        obtain ⟨u, huu⟩ : ∃ u, B.getD x 0 = u := ⟨_, rfl⟩
        rw [hzz] at cA rA hbx
        rw [huu] at cB rB hbx
        have wr : IntKind.i64.wrap (u - z) = u - z := wrap64_in' (by unfold I64; omega)
        have cw : V.cell? ⟨w.heap.size, 0, none⟩ = some (.pointer (some ⟨q, 0, none⟩)) := hIV.wt.cell 0
        have cn : V.cell? ⟨w.heap.size + 1, 0, none⟩ = some (.pointer (some ⟨p, 0, none⟩)) := hIV.nt.cell 0
        have ct : V.cell? ⟨w.heap.size + 1 + 1, 0, none⟩ = some (.int .i64 t) := hIV.tk.cell 0
        have cm : V.cell? ⟨w.heap.size + 1 + 1 + 1, 0, none⟩ = some (.int .i64 (pre.countP f : Nat)) := hIV.mn.cell 0
        have fm : V.frozen? ⟨w.heap.size + 1 + 1 + 1, 0, none⟩ = false := hIV.mn.frozen 0
        have cs : V.cell? ⟨q, 1, none⟩ = some (.int .i64 c.slow) := (hq.below hIV.low lq).cell 1
        have cf : V.cell? ⟨q, 2, none⟩ = some (.int .i64 c.fast) := (hq.below hIV.low lq).cell 2
        have q1 : (0 : Int) ≤ (x : Int) := by omega
        have q3 : (x : Int) < 64 := by omega
        have hcn : pre.countP f ≤ 64 := Nat.le_trans List.countP_le_length (by have h1 := prefix_len' hpre; have h2 := ones_len' s; rw [List.length_append] at h1; omega)
        obtain ⟨cnt, hcnt⟩ : ∃ cnt, pre.countP f = cnt := ⟨_, rfl⟩
        rw [hcnt] at cm hcn
        have HB1 := Lib.hid (fun V => below_any (u - z) t c.slow (by unfold I64; omega) hs V)
        have HB2 := Lib.hid (fun V => above_any (u - z) t c.fast (by unfold I64; omega) hf V)
        obtain ⟨b1, hb1⟩ : ∃ b1, (if inr (t * c.slow) then decide (u - z < t * c.slow) else (decide (t < 0) == decide (c.slow < 0))) = b1 := ⟨_, rfl⟩
        obtain ⟨b2, hb2⟩ : ∃ b2, (if inr (t * c.fast) then decide (t * c.fast < u - z) else (decide (t < 0) != decide (c.fast < 0))) = b2 := ⟨_, rfl⟩
        rw [hb1] at hbx HB1
        rw [hb2] at hbx HB2
        have Hbad := Lib.hid hbx
        have hmx : Tryd.prog.follows .mixedOrders = true := by kernel_rfl
        have HIV := Lib.hid hIV
        have Hcnt := Lib.hid hcnt
        clear hIV hI0 hpre hbx hb1 hb2 hzz huu hcnt
        gi_wp2
        refine HeldIn.region_held (S := fun w' => w'.cell? ⟨w.heap.size + 1, 0, none⟩ = some (.pointer (some ⟨p, 0, none⟩)) ∧ w'.cell? ⟨w.heap.size, 0, none⟩ = some (.pointer (some ⟨q, 0, none⟩)) ∧ w'.cell? ⟨p, 1 + x, none⟩ = some (.int .i64 u) ∧ w'.cell? ⟨q, 4 + x, none⟩ = some (.int .i64 z)) hmx (by kernel_rfl) ⟨cn, cw, cB, cA⟩ (fun hHeld => ?_)
        refine Take.take (i := 0) (oi := _) (t := 33) (v := ?v1) rfl (by kernel_rfl) (by kernel_rfl) (by kernel_rfl) (by kernel_rfl) (fun _ _ _ h => h) (by kernel_rfl) ?hy1 (by assumption) ?_
        case hy1 => (intro w hSw; (try dsimp only at hSw); go_simp; try with_reducible rfl)
        try simp only [Act.put, List.setIfInBounds_toArray, List.set_cons_zero, List.set_cons_succ]
        refine Take.take (i := 1) (oi := _) (t := 34) (v := ?v2) rfl (by kernel_rfl) (by kernel_rfl) (by kernel_rfl) (by kernel_rfl) (fun _ _ _ h => h) (by kernel_rfl) ?hy2 (by assumption) ?_
        case hy2 => (intro w hSw; (try dsimp only at hSw); go_simp; try with_reducible rfl)
        try simp only [Act.put, List.setIfInBounds_toArray, List.set_cons_zero, List.set_cons_succ]
        refine Take.take (i := 2) (oi := _) (t := 35) (v := ?v3) rfl (by kernel_rfl) (by kernel_rfl) (by kernel_rfl) (by kernel_rfl) (fun _ _ _ h => h) (by kernel_rfl) ?hy3 (by assumption) ?_
        case hy3 => (intro w hSw; (try dsimp only at hSw); go_simp; try with_reducible rfl)
        try simp only [Act.put, List.setIfInBounds_toArray, List.set_cons_zero, List.set_cons_succ]
        refine Take.take (i := 3) (oi := _) (t := 36) (v := ?v4) rfl (by kernel_rfl) (by kernel_rfl) (by kernel_rfl) (by kernel_rfl) (fun _ _ _ h => h) (by kernel_rfl) ?hy4 (by assumption) ?_
        case hy4 => (intro w hSw; (try dsimp only at hSw); go_simp; try with_reducible rfl)
        try simp only [Act.put, List.setIfInBounds_toArray, List.set_cons_zero, List.set_cons_succ]
        refine Take.take (i := 4) (oi := _) (t := 37) (v := ?v5) rfl (by kernel_rfl) (by kernel_rfl) (by kernel_rfl) (by kernel_rfl) (fun _ _ _ h => h) (by kernel_rfl) ?hy5 (by assumption) ?_
        case hy5 => (intro w hSw; (try dsimp only at hSw); go_simp; try with_reducible rfl)
        try simp only [Act.put, List.setIfInBounds_toArray, List.set_cons_zero, List.set_cons_succ]
        refine Take.take (i := 5) (oi := _) (t := 38) (v := ?v6) rfl (by kernel_rfl) (by kernel_rfl) (by kernel_rfl) (by kernel_rfl) (fun _ _ _ h => h) (by kernel_rfl) ?hy6 (by assumption) ?_
        case hy6 => (intro w hSw; (try dsimp only at hSw); go_simp; try with_reducible rfl)
        try simp only [Act.put, List.setIfInBounds_toArray, List.set_cons_zero, List.set_cons_succ]
        refine Take.take (i := 6) (oi := _) (t := 39) (v := ?v7) rfl (by kernel_rfl) (by kernel_rfl) (by kernel_rfl) (by kernel_rfl) (fun _ _ _ h => h) (by kernel_rfl) ?hy7 (by assumption) ?_
        case hy7 => (intro w hSw; (try dsimp only at hSw); go_simp; try with_reducible rfl)
        try simp only [Act.put, List.setIfInBounds_toArray, List.set_cons_zero, List.set_cons_succ]
        refine Take.take (i := 7) (oi := _) (t := 40) (v := ?v8) rfl (by kernel_rfl) (by kernel_rfl) (by kernel_rfl) (by kernel_rfl) (fun _ _ _ h => h) (by kernel_rfl) ?hy8 (by assumption) ?_
        case hy8 => (intro w hSw; (try dsimp only at hSw); go_simp; try with_reducible rfl)
        try simp only [Act.put, List.setIfInBounds_toArray, List.set_cons_zero, List.set_cons_succ]
        refine Take.take (i := 8) (oi := _) (t := 41) (v := ?v9) rfl (by kernel_rfl) (by kernel_rfl) (by kernel_rfl) (by kernel_rfl) (fun _ _ _ h => h) (by kernel_rfl) ?hy9 (by assumption) ?_
        case hy9 => (intro w hSw; (try dsimp only at hSw); go_simp; try with_reducible rfl)
        try simp only [Act.put, List.setIfInBounds_toArray, List.set_cons_zero, List.set_cons_succ]
        refine Take.take (i := 9) (oi := _) (t := 42) (v := ?v10) rfl (by kernel_rfl) (by kernel_rfl) (by kernel_rfl) (by kernel_rfl) (fun _ _ _ h => h) (by kernel_rfl) ?hy10 (by assumption) ?_
        case hy10 => (intro w hSw; (try dsimp only at hSw); go_simp; try with_reducible rfl)
        try simp only [Act.put, List.setIfInBounds_toArray, List.set_cons_zero, List.set_cons_succ]
        refine Take.take (i := 10) (oi := _) (t := 43) (v := ?v11) rfl (by kernel_rfl) (by kernel_rfl) (by kernel_rfl) (by kernel_rfl) (fun _ _ _ h => h) (by kernel_rfl) ?hy11 (by assumption) ?_
        case hy11 => (intro w hSw; (try dsimp only at hSw); go_simp; try with_reducible rfl)
        try simp only [Act.put, List.setIfInBounds_toArray, List.set_cons_zero, List.set_cons_succ]
        refine Take.take (i := 11) (oi := _) (t := 44) (v := ?v12) rfl (by kernel_rfl) (by kernel_rfl) (by kernel_rfl) (by kernel_rfl) (fun _ _ _ h => h) (by kernel_rfl) ?hy12 (by assumption) ?_
        case hy12 => (intro w hSw; (try dsimp only at hSw); go_simp; try with_reducible rfl)
        try simp only [Act.put, List.setIfInBounds_toArray, List.set_cons_zero, List.set_cons_succ]
        refine Take.take (i := 12) (oi := _) (t := 45) (v := ?v13) rfl (by kernel_rfl) (by kernel_rfl) (by kernel_rfl) (by kernel_rfl) (fun _ _ _ h => h) (by kernel_rfl) ?hy13 (by assumption) ?_
        case hy13 => (intro w hSw; (try dsimp only at hSw); go_simp; try with_reducible rfl)
        try simp only [Act.put, List.setIfInBounds_toArray, List.set_cons_zero, List.set_cons_succ]
        refine Take.take (i := 13) (oi := _) (t := 46) (v := ?v14) rfl (by kernel_rfl) (by kernel_rfl) (by kernel_rfl) (by kernel_rfl) (fun _ _ _ h => h) (by kernel_rfl) ?hy14 (by assumption) ?_
        case hy14 => (intro w hSw; (try dsimp only at hSw); go_simp; try with_reducible rfl)
        try simp only [Act.put, List.setIfInBounds_toArray, List.set_cons_zero, List.set_cons_succ]
        refine Take.take (i := 14) (oi := _) (t := 8) (v := ?v15) rfl (by kernel_rfl) (by kernel_rfl) (by kernel_rfl) (by kernel_rfl) (fun _ _ _ h => h) (by kernel_rfl) ?hy15 (by assumption) ?_
        case hy15 => (intro w hSw; (try dsimp only at hSw); go_simp; try with_reducible rfl)
        try simp only [Act.put, List.setIfInBounds_toArray, List.set_cons_zero, List.set_cons_succ]
        refine wpAnyH_done (by kernel_rfl) ?_ _
        refine HeldIn.Calm.normal ?_
        clear hHeld
        gi_wp2
        rcases b1 with _ | _
        · rcases b2 with _ | _
          · skip
            refine HeldIn.region_held (S := fun w' => w'.cell? ⟨w.heap.size + 1 + 1, 0, none⟩ = some (.int .i64 t) ∧ w'.cell? ⟨w.heap.size, 0, none⟩ = some (.pointer (some ⟨q, 0, none⟩)) ∧ w'.cell? ⟨q, 1, none⟩ = some (.int .i64 c.slow) ∧ w'.cell? ⟨q, 2, none⟩ = some (.int .i64 c.fast)) hmx (by kernel_rfl) ⟨ct, cw, cs, cf⟩ (fun hHeld => ?_)
            refine Take.take (i := 0) (oi := _) (t := 47) (v := ?v16) rfl (by kernel_rfl) (by kernel_rfl) (by kernel_rfl) (by kernel_rfl) (fun _ _ _ h => h) (by kernel_rfl) ?hy16 (by assumption) ?_
            case hy16 => (intro w hSw; (try dsimp only at hSw); go_simp; try with_reducible rfl)
            try simp only [Act.put, List.setIfInBounds_toArray, List.set_cons_zero, List.set_cons_succ]
            refine Take.take (i := 1) (oi := _) (t := 48) (v := ?v17) rfl (by kernel_rfl) (by kernel_rfl) (by kernel_rfl) (by kernel_rfl) (fun _ _ _ h => h) (by kernel_rfl) ?hy17 (by assumption) ?_
            case hy17 => (intro w hSw; (try dsimp only at hSw); go_simp; try with_reducible rfl)
            try simp only [Act.put, List.setIfInBounds_toArray, List.set_cons_zero, List.set_cons_succ]
            refine Take.take (i := 2) (oi := _) (t := 49) (v := ?v18) rfl (by kernel_rfl) (by kernel_rfl) (by kernel_rfl) (by kernel_rfl) (fun _ _ _ h => h) (by kernel_rfl) ?hy18 (by assumption) ?_
            case hy18 => (intro w hSw; (try dsimp only at hSw); go_simp; try with_reducible rfl)
            try simp only [Act.put, List.setIfInBounds_toArray, List.set_cons_zero, List.set_cons_succ]
            refine Take.take (i := 3) (oi := _) (t := 50) (v := ?v19) rfl (by kernel_rfl) (by kernel_rfl) (by kernel_rfl) (by kernel_rfl) (fun _ _ _ h => h) (by kernel_rfl) ?hy19 (by assumption) ?_
            case hy19 => (intro w hSw; (try dsimp only at hSw); go_simp; try with_reducible rfl)
            try simp only [Act.put, List.setIfInBounds_toArray, List.set_cons_zero, List.set_cons_succ]
            refine Take.take (i := 4) (oi := _) (t := 51) (v := ?v20) rfl (by kernel_rfl) (by kernel_rfl) (by kernel_rfl) (by kernel_rfl) (fun _ _ _ h => h) (by kernel_rfl) ?hy20 (by assumption) ?_
            case hy20 => (intro w hSw; (try dsimp only at hSw); go_simp; try with_reducible rfl)
            try simp only [Act.put, List.setIfInBounds_toArray, List.set_cons_zero, List.set_cons_succ]
            refine Take.take (i := 5) (oi := _) (t := 52) (v := ?v21) rfl (by kernel_rfl) (by kernel_rfl) (by kernel_rfl) (by kernel_rfl) (fun _ _ _ h => h) (by kernel_rfl) ?hy21 (by assumption) ?_
            case hy21 => (intro w hSw; (try dsimp only at hSw); go_simp; try with_reducible rfl)
            try simp only [Act.put, List.setIfInBounds_toArray, List.set_cons_zero, List.set_cons_succ]
            refine wpAnyH_ready (rs := [6]) (by kernel_rfl) (by simp) ?_
            refine AllReadyH.cons (o := _) rfl (fun K hK => ?_) AllReadyH.nil
            go_simp
            go_at_call 25
            refine (HB1.out _).mono ?_
            rintro e w4 ⟨rfl, rfl⟩
            try dsimp only
            refine hK.out _ _ ?hS22 (fun hHeld => ?_)
            case hS22 => (exact hHeld)
            clear hK K
            try simp only [Act.put, List.setIfInBounds_toArray, List.set_cons_zero, List.set_cons_succ]
            refine Take.take (i := 7) (oi := _) (t := 54) (v := ?v23) rfl (by kernel_rfl) (by kernel_rfl) (by kernel_rfl) (by kernel_rfl) (fun _ _ _ h => h) (by kernel_rfl) ?hy23 (by assumption) ?_
            case hy23 => (intro w hSw; (try dsimp only at hSw); go_simp; try with_reducible rfl)
            try simp only [Act.put, List.setIfInBounds_toArray, List.set_cons_zero, List.set_cons_succ]
            refine Take.take (i := 8) (oi := _) (t := 55) (v := ?v24) rfl (by kernel_rfl) (by kernel_rfl) (by kernel_rfl) (by kernel_rfl) (fun _ _ _ h => h) (by kernel_rfl) ?hy24 (by assumption) ?_
            case hy24 => (intro w hSw; (try dsimp only at hSw); go_simp; try with_reducible rfl)
            try simp only [Act.put, List.setIfInBounds_toArray, List.set_cons_zero, List.set_cons_succ]
            refine Take.take (i := 9) (oi := _) (t := 56) (v := ?v25) rfl (by kernel_rfl) (by kernel_rfl) (by kernel_rfl) (by kernel_rfl) (fun _ _ _ h => h) (by kernel_rfl) ?hy25 (by assumption) ?_
            case hy25 => (intro w hSw; (try dsimp only at hSw); go_simp; try with_reducible rfl)
            try simp only [Act.put, List.setIfInBounds_toArray, List.set_cons_zero, List.set_cons_succ]
            refine Take.take (i := 10) (oi := _) (t := 57) (v := ?v26) rfl (by kernel_rfl) (by kernel_rfl) (by kernel_rfl) (by kernel_rfl) (fun _ _ _ h => h) (by kernel_rfl) ?hy26 (by assumption) ?_
            case hy26 => (intro w hSw; (try dsimp only at hSw); go_simp; try with_reducible rfl)
            try simp only [Act.put, List.setIfInBounds_toArray, List.set_cons_zero, List.set_cons_succ]
            refine Take.take (i := 11) (oi := _) (t := 58) (v := ?v27) rfl (by kernel_rfl) (by kernel_rfl) (by kernel_rfl) (by kernel_rfl) (fun _ _ _ h => h) (by kernel_rfl) ?hy27 (by assumption) ?_
            case hy27 => (intro w hSw; (try dsimp only at hSw); go_simp; try with_reducible rfl)
            try simp only [Act.put, List.setIfInBounds_toArray, List.set_cons_zero, List.set_cons_succ]
            refine Take.take (i := 12) (oi := _) (t := 59) (v := ?v28) rfl (by kernel_rfl) (by kernel_rfl) (by kernel_rfl) (by kernel_rfl) (fun _ _ _ h => h) (by kernel_rfl) ?hy28 (by assumption) ?_
            case hy28 => (intro w hSw; (try dsimp only at hSw); go_simp; try with_reducible rfl)
            try simp only [Act.put, List.setIfInBounds_toArray, List.set_cons_zero, List.set_cons_succ]
            refine Take.take (i := 13) (oi := _) (t := 60) (v := ?v29) rfl (by kernel_rfl) (by kernel_rfl) (by kernel_rfl) (by kernel_rfl) (fun _ _ _ h => h) (by kernel_rfl) ?hy29 (by assumption) ?_
            case hy29 => (intro w hSw; (try dsimp only at hSw); go_simp; try with_reducible rfl)
            try simp only [Act.put, List.setIfInBounds_toArray, List.set_cons_zero, List.set_cons_succ]
            refine wpAnyH_ready (rs := [14]) (by kernel_rfl) (by simp) ?_
            refine AllReadyH.cons (o := _) rfl (fun K hK => ?_) AllReadyH.nil
            go_simp
            go_at_call 26
            refine (HB2.out _).mono ?_
            rintro e w4 ⟨rfl, rfl⟩
            try dsimp only
            refine hK.out _ _ ?hS30 (fun hHeld => ?_)
            case hS30 => (exact hHeld)
            clear hK K
            try simp only [Act.put, List.setIfInBounds_toArray, List.set_cons_zero, List.set_cons_succ]
            refine Take.take (i := 15) (oi := _) (t := 62) (v := ?v31) rfl (by kernel_rfl) (by kernel_rfl) (by kernel_rfl) (by kernel_rfl) (fun _ _ _ h => h) (by kernel_rfl) ?hy31 (by assumption) ?_
            case hy31 => (intro w hSw; (try dsimp only at hSw); go_simp; try with_reducible rfl)
            try simp only [Act.put, List.setIfInBounds_toArray, List.set_cons_zero, List.set_cons_succ]
            refine wpAnyH_done (by kernel_rfl) ?_ _
            refine HeldIn.Calm.normal ?_
            gi_wp2
            exact HIV.out.same (by have := Hbad.out; simpa using this) (by omega) (by omega) (by omega)
          · skip
            refine HeldIn.region_held (S := fun w' => w'.cell? ⟨w.heap.size + 1 + 1, 0, none⟩ = some (.int .i64 t) ∧ w'.cell? ⟨w.heap.size, 0, none⟩ = some (.pointer (some ⟨q, 0, none⟩)) ∧ w'.cell? ⟨q, 1, none⟩ = some (.int .i64 c.slow) ∧ w'.cell? ⟨q, 2, none⟩ = some (.int .i64 c.fast)) hmx (by kernel_rfl) ⟨ct, cw, cs, cf⟩ (fun hHeld => ?_)
            refine Take.take (i := 0) (oi := _) (t := 47) (v := ?v32) rfl (by kernel_rfl) (by kernel_rfl) (by kernel_rfl) (by kernel_rfl) (fun _ _ _ h => h) (by kernel_rfl) ?hy32 (by assumption) ?_
            case hy32 => (intro w hSw; (try dsimp only at hSw); go_simp; try with_reducible rfl)
            try simp only [Act.put, List.setIfInBounds_toArray, List.set_cons_zero, List.set_cons_succ]
            refine Take.take (i := 1) (oi := _) (t := 48) (v := ?v33) rfl (by kernel_rfl) (by kernel_rfl) (by kernel_rfl) (by kernel_rfl) (fun _ _ _ h => h) (by kernel_rfl) ?hy33 (by assumption) ?_
            case hy33 => (intro w hSw; (try dsimp only at hSw); go_simp; try with_reducible rfl)
            try simp only [Act.put, List.setIfInBounds_toArray, List.set_cons_zero, List.set_cons_succ]
            refine Take.take (i := 2) (oi := _) (t := 49) (v := ?v34) rfl (by kernel_rfl) (by kernel_rfl) (by kernel_rfl) (by kernel_rfl) (fun _ _ _ h => h) (by kernel_rfl) ?hy34 (by assumption) ?_
            case hy34 => (intro w hSw; (try dsimp only at hSw); go_simp; try with_reducible rfl)
            try simp only [Act.put, List.setIfInBounds_toArray, List.set_cons_zero, List.set_cons_succ]
            refine Take.take (i := 3) (oi := _) (t := 50) (v := ?v35) rfl (by kernel_rfl) (by kernel_rfl) (by kernel_rfl) (by kernel_rfl) (fun _ _ _ h => h) (by kernel_rfl) ?hy35 (by assumption) ?_
            case hy35 => (intro w hSw; (try dsimp only at hSw); go_simp; try with_reducible rfl)
            try simp only [Act.put, List.setIfInBounds_toArray, List.set_cons_zero, List.set_cons_succ]
            refine Take.take (i := 4) (oi := _) (t := 51) (v := ?v36) rfl (by kernel_rfl) (by kernel_rfl) (by kernel_rfl) (by kernel_rfl) (fun _ _ _ h => h) (by kernel_rfl) ?hy36 (by assumption) ?_
            case hy36 => (intro w hSw; (try dsimp only at hSw); go_simp; try with_reducible rfl)
            try simp only [Act.put, List.setIfInBounds_toArray, List.set_cons_zero, List.set_cons_succ]
            refine Take.take (i := 5) (oi := _) (t := 52) (v := ?v37) rfl (by kernel_rfl) (by kernel_rfl) (by kernel_rfl) (by kernel_rfl) (fun _ _ _ h => h) (by kernel_rfl) ?hy37 (by assumption) ?_
            case hy37 => (intro w hSw; (try dsimp only at hSw); go_simp; try with_reducible rfl)
            try simp only [Act.put, List.setIfInBounds_toArray, List.set_cons_zero, List.set_cons_succ]
            refine wpAnyH_ready (rs := [6]) (by kernel_rfl) (by simp) ?_
            refine AllReadyH.cons (o := _) rfl (fun K hK => ?_) AllReadyH.nil
            go_simp
            go_at_call 25
            refine (HB1.out _).mono ?_
            rintro e w4 ⟨rfl, rfl⟩
            try dsimp only
            refine hK.out _ _ ?hS38 (fun hHeld => ?_)
            case hS38 => (exact hHeld)
            clear hK K
            try simp only [Act.put, List.setIfInBounds_toArray, List.set_cons_zero, List.set_cons_succ]
            refine Take.take (i := 7) (oi := _) (t := 54) (v := ?v39) rfl (by kernel_rfl) (by kernel_rfl) (by kernel_rfl) (by kernel_rfl) (fun _ _ _ h => h) (by kernel_rfl) ?hy39 (by assumption) ?_
            case hy39 => (intro w hSw; (try dsimp only at hSw); go_simp; try with_reducible rfl)
            try simp only [Act.put, List.setIfInBounds_toArray, List.set_cons_zero, List.set_cons_succ]
            refine Take.take (i := 8) (oi := _) (t := 55) (v := ?v40) rfl (by kernel_rfl) (by kernel_rfl) (by kernel_rfl) (by kernel_rfl) (fun _ _ _ h => h) (by kernel_rfl) ?hy40 (by assumption) ?_
            case hy40 => (intro w hSw; (try dsimp only at hSw); go_simp; try with_reducible rfl)
            try simp only [Act.put, List.setIfInBounds_toArray, List.set_cons_zero, List.set_cons_succ]
            refine Take.take (i := 9) (oi := _) (t := 56) (v := ?v41) rfl (by kernel_rfl) (by kernel_rfl) (by kernel_rfl) (by kernel_rfl) (fun _ _ _ h => h) (by kernel_rfl) ?hy41 (by assumption) ?_
            case hy41 => (intro w hSw; (try dsimp only at hSw); go_simp; try with_reducible rfl)
            try simp only [Act.put, List.setIfInBounds_toArray, List.set_cons_zero, List.set_cons_succ]
            refine Take.take (i := 10) (oi := _) (t := 57) (v := ?v42) rfl (by kernel_rfl) (by kernel_rfl) (by kernel_rfl) (by kernel_rfl) (fun _ _ _ h => h) (by kernel_rfl) ?hy42 (by assumption) ?_
            case hy42 => (intro w hSw; (try dsimp only at hSw); go_simp; try with_reducible rfl)
            try simp only [Act.put, List.setIfInBounds_toArray, List.set_cons_zero, List.set_cons_succ]
            refine Take.take (i := 11) (oi := _) (t := 58) (v := ?v43) rfl (by kernel_rfl) (by kernel_rfl) (by kernel_rfl) (by kernel_rfl) (fun _ _ _ h => h) (by kernel_rfl) ?hy43 (by assumption) ?_
            case hy43 => (intro w hSw; (try dsimp only at hSw); go_simp; try with_reducible rfl)
            try simp only [Act.put, List.setIfInBounds_toArray, List.set_cons_zero, List.set_cons_succ]
            refine Take.take (i := 12) (oi := _) (t := 59) (v := ?v44) rfl (by kernel_rfl) (by kernel_rfl) (by kernel_rfl) (by kernel_rfl) (fun _ _ _ h => h) (by kernel_rfl) ?hy44 (by assumption) ?_
            case hy44 => (intro w hSw; (try dsimp only at hSw); go_simp; try with_reducible rfl)
            try simp only [Act.put, List.setIfInBounds_toArray, List.set_cons_zero, List.set_cons_succ]
            refine Take.take (i := 13) (oi := _) (t := 60) (v := ?v45) rfl (by kernel_rfl) (by kernel_rfl) (by kernel_rfl) (by kernel_rfl) (fun _ _ _ h => h) (by kernel_rfl) ?hy45 (by assumption) ?_
            case hy45 => (intro w hSw; (try dsimp only at hSw); go_simp; try with_reducible rfl)
            try simp only [Act.put, List.setIfInBounds_toArray, List.set_cons_zero, List.set_cons_succ]
            refine wpAnyH_ready (rs := [14]) (by kernel_rfl) (by simp) ?_
            refine AllReadyH.cons (o := _) rfl (fun K hK => ?_) AllReadyH.nil
            go_simp
            go_at_call 26
            refine (HB2.out _).mono ?_
            rintro e w4 ⟨rfl, rfl⟩
            try dsimp only
            refine hK.out _ _ ?hS46 (fun hHeld => ?_)
            case hS46 => (exact hHeld)
            clear hK K
            try simp only [Act.put, List.setIfInBounds_toArray, List.set_cons_zero, List.set_cons_succ]
            refine Take.take (i := 15) (oi := _) (t := 62) (v := ?v47) rfl (by kernel_rfl) (by kernel_rfl) (by kernel_rfl) (by kernel_rfl) (fun _ _ _ h => h) (by kernel_rfl) ?hy47 (by assumption) ?_
            case hy47 => (intro w hSw; (try dsimp only at hSw); go_simp; try with_reducible rfl)
            try simp only [Act.put, List.setIfInBounds_toArray, List.set_cons_zero, List.set_cons_succ]
            refine wpAnyH_done (by kernel_rfl) ?_ _
            refine HeldIn.Calm.normal ?_
            gi_wp2
            exact HIV.out.more Hcnt.out (by have := Hbad.out; simpa using this) (by omega) (by omega) (by omega)
        · skip
          refine HeldIn.region_held (S := fun w' => w'.cell? ⟨w.heap.size + 1 + 1, 0, none⟩ = some (.int .i64 t) ∧ w'.cell? ⟨w.heap.size, 0, none⟩ = some (.pointer (some ⟨q, 0, none⟩)) ∧ w'.cell? ⟨q, 1, none⟩ = some (.int .i64 c.slow) ∧ w'.cell? ⟨q, 2, none⟩ = some (.int .i64 c.fast)) hmx (by kernel_rfl) ⟨ct, cw, cs, cf⟩ (fun hHeld => ?_)
          refine Take.take (i := 0) (oi := _) (t := 47) (v := ?v48) rfl (by kernel_rfl) (by kernel_rfl) (by kernel_rfl) (by kernel_rfl) (fun _ _ _ h => h) (by kernel_rfl) ?hy48 (by assumption) ?_
          case hy48 => (intro w hSw; (try dsimp only at hSw); go_simp; try with_reducible rfl)
          try simp only [Act.put, List.setIfInBounds_toArray, List.set_cons_zero, List.set_cons_succ]
          refine Take.take (i := 1) (oi := _) (t := 48) (v := ?v49) rfl (by kernel_rfl) (by kernel_rfl) (by kernel_rfl) (by kernel_rfl) (fun _ _ _ h => h) (by kernel_rfl) ?hy49 (by assumption) ?_
          case hy49 => (intro w hSw; (try dsimp only at hSw); go_simp; try with_reducible rfl)
          try simp only [Act.put, List.setIfInBounds_toArray, List.set_cons_zero, List.set_cons_succ]
          refine Take.take (i := 2) (oi := _) (t := 49) (v := ?v50) rfl (by kernel_rfl) (by kernel_rfl) (by kernel_rfl) (by kernel_rfl) (fun _ _ _ h => h) (by kernel_rfl) ?hy50 (by assumption) ?_
          case hy50 => (intro w hSw; (try dsimp only at hSw); go_simp; try with_reducible rfl)
          try simp only [Act.put, List.setIfInBounds_toArray, List.set_cons_zero, List.set_cons_succ]
          refine Take.take (i := 3) (oi := _) (t := 50) (v := ?v51) rfl (by kernel_rfl) (by kernel_rfl) (by kernel_rfl) (by kernel_rfl) (fun _ _ _ h => h) (by kernel_rfl) ?hy51 (by assumption) ?_
          case hy51 => (intro w hSw; (try dsimp only at hSw); go_simp; try with_reducible rfl)
          try simp only [Act.put, List.setIfInBounds_toArray, List.set_cons_zero, List.set_cons_succ]
          refine Take.take (i := 4) (oi := _) (t := 51) (v := ?v52) rfl (by kernel_rfl) (by kernel_rfl) (by kernel_rfl) (by kernel_rfl) (fun _ _ _ h => h) (by kernel_rfl) ?hy52 (by assumption) ?_
          case hy52 => (intro w hSw; (try dsimp only at hSw); go_simp; try with_reducible rfl)
          try simp only [Act.put, List.setIfInBounds_toArray, List.set_cons_zero, List.set_cons_succ]
          refine Take.take (i := 5) (oi := _) (t := 52) (v := ?v53) rfl (by kernel_rfl) (by kernel_rfl) (by kernel_rfl) (by kernel_rfl) (fun _ _ _ h => h) (by kernel_rfl) ?hy53 (by assumption) ?_
          case hy53 => (intro w hSw; (try dsimp only at hSw); go_simp; try with_reducible rfl)
          try simp only [Act.put, List.setIfInBounds_toArray, List.set_cons_zero, List.set_cons_succ]
          refine wpAnyH_ready (rs := [6]) (by kernel_rfl) (by simp) ?_
          refine AllReadyH.cons (o := _) rfl (fun K hK => ?_) AllReadyH.nil
          go_simp
          go_at_call 25
          refine (HB1.out _).mono ?_
          rintro e w4 ⟨rfl, rfl⟩
          try dsimp only
          refine hK.out _ _ ?hS54 (fun hHeld => ?_)
          case hS54 => (exact hHeld)
          clear hK K
          try simp only [Act.put, List.setIfInBounds_toArray, List.set_cons_zero, List.set_cons_succ]
          refine Take.take (i := 7) (oi := _) (t := 54) (v := ?v55) rfl (by kernel_rfl) (by kernel_rfl) (by kernel_rfl) (by kernel_rfl) (fun _ _ _ h => h) (by kernel_rfl) ?hy55 (by assumption) ?_
          case hy55 => (intro w hSw; (try dsimp only at hSw); go_simp; try with_reducible rfl)
          try simp only [Act.put, List.setIfInBounds_toArray, List.set_cons_zero, List.set_cons_succ]
          refine Take.skip (i := 8) (t := 55) (g := 7) (b := false) (by kernel_rfl) (by kernel_rfl) (by kernel_rfl) (by kernel_rfl) (fun _ _ _ h => h) (by kernel_rfl) (by assumption) ?_
          try simp only [Act.put, List.setIfInBounds_toArray, List.set_cons_zero, List.set_cons_succ]
          refine Take.skip (i := 9) (t := 56) (g := 7) (b := false) (by kernel_rfl) (by kernel_rfl) (by kernel_rfl) (by kernel_rfl) (fun _ _ _ h => h) (by kernel_rfl) (by assumption) ?_
          try simp only [Act.put, List.setIfInBounds_toArray, List.set_cons_zero, List.set_cons_succ]
          refine Take.skip (i := 10) (t := 57) (g := 7) (b := false) (by kernel_rfl) (by kernel_rfl) (by kernel_rfl) (by kernel_rfl) (fun _ _ _ h => h) (by kernel_rfl) (by assumption) ?_
          try simp only [Act.put, List.setIfInBounds_toArray, List.set_cons_zero, List.set_cons_succ]
          refine Take.skip (i := 11) (t := 58) (g := 7) (b := false) (by kernel_rfl) (by kernel_rfl) (by kernel_rfl) (by kernel_rfl) (fun _ _ _ h => h) (by kernel_rfl) (by assumption) ?_
          try simp only [Act.put, List.setIfInBounds_toArray, List.set_cons_zero, List.set_cons_succ]
          refine Take.skip (i := 12) (t := 59) (g := 7) (b := false) (by kernel_rfl) (by kernel_rfl) (by kernel_rfl) (by kernel_rfl) (fun _ _ _ h => h) (by kernel_rfl) (by assumption) ?_
          try simp only [Act.put, List.setIfInBounds_toArray, List.set_cons_zero, List.set_cons_succ]
          refine Take.skip (i := 13) (t := 60) (g := 7) (b := false) (by kernel_rfl) (by kernel_rfl) (by kernel_rfl) (by kernel_rfl) (fun _ _ _ h => h) (by kernel_rfl) (by assumption) ?_
          try simp only [Act.put, List.setIfInBounds_toArray, List.set_cons_zero, List.set_cons_succ]
          refine Take.skip (i := 14) (t := 61) (g := 7) (b := false) (by kernel_rfl) (by kernel_rfl) (by kernel_rfl) (by kernel_rfl) (fun _ _ _ h => h) (by kernel_rfl) (by assumption) ?_
          try simp only [Act.put, List.setIfInBounds_toArray, List.set_cons_zero, List.set_cons_succ]
          refine Take.take (i := 15) (oi := _) (t := 62) (v := ?v56) rfl (by kernel_rfl) (by kernel_rfl) (by kernel_rfl) (by kernel_rfl) (fun _ _ _ h => h) (by kernel_rfl) ?hy56 (by assumption) ?_
          case hy56 => (intro w hSw; (try dsimp only at hSw); go_simp; try with_reducible rfl)
          try simp only [Act.put, List.setIfInBounds_toArray, List.set_cons_zero, List.set_cons_succ]
          refine wpAnyH_done (by kernel_rfl) ?_ _
          refine HeldIn.Calm.normal ?_
          gi_wp2
          exact HIV.out.more Hcnt.out (by have := Hbad.out; simpa using this) (by omega) (by omega) (by omega)
      case done =>
        rintro D V hD hI hd
        have cm : V.cell? ⟨w.heap.size + 1 + 1 + 1, 0, none⟩ = some (.int .i64 ((ones s).countP f : Nat)) := hI.mn.cell 0
        rw [Ho.out] at cm
        have hlow := Lib.hid hI.low
        clear hI hI0
        go_wp2_with fail
        refine leaves_marks (mark_one (b := w.heap.size) (by omega) hd) fun w' hB hC => ?_
        exact ⟨_, results_tmp rfl _ _ _, rfl, hlow.out.trans hB⟩
    · have ho := Lib.hid (outOf_early ha hb c.slow c.fast (by rw [Ht.out]; exact h1))
      go_wp2_with fail
      refine leaves_marks (Marked.nil w.heap.size _) fun w' hB hC => ?_
      exact ⟨_, results_tmp rfl _ _ _, by rw [ho.out]; rfl, lV.trans hB⟩
end Go.Proofs.YtpbabpbinojodaaDoor.Drift
