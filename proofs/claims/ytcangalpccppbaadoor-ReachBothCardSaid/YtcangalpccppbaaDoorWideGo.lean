/- reach's Wide: walked. -/
import Derived.Test.YtcangalpccppbaaDoorDistGo
import Derived.LoopIn
import Derived.Deep.RegionHeld3
namespace Go.Proofs.YtcangalpccppbaaDoor.Reach
open Go.RowKit
open Go.Proofs.YtcangalpccppbaaDoor.RF Go.Proofs.YtcangalpccppbaaDoor.Heap Go.Proofs.YtcangalpccppbaaDoor.Nodes Go.Proofs.YtcangalpccppbaaDoor.Graph
set_option linter.unusedVariables false
set_option linter.unusedSimpArgs false
attribute [local go_sem] Oper.semAt_some

theorem results_int {P : Program} {fn : Func} {a : Tmp} {t : TypeId} {tmps : Array Value} {w : World} {b : Nat} {x : Int} (h : fn.results = #[.cell a t]) (ha : tmps.getD a undef = .pointer (some ⟨b, 0, none⟩))
    (hu : ∀ w, (isAgg t).run P w = .ok false w) (hc : w.cell? ⟨b, 0, none⟩ = some (.int .i64 x)) :
    (results fn tmps).run P w = .ok (.int .i64 x) w := by
  have hp : (asAddr (.pointer (some ⟨b, 0, none⟩) : Value)).run P w = .ok ⟨b, 0, none⟩ w := by simp [asAddr]
  rw [Array.getD_eq_getD_getElem?] at ha
  simp [results, h, ha, Sem.run_bind, hp, loadVar, hu, go_sem, hc, Result.andThen]
theorem orT_lt (out : List Nat) (h : ∀ j, out.getD j 0 < 2 ^ 64) : ∀ t, orT out t < 2 ^ 64
  | 0 => by simp [orT]
  | t + 1 => by
    rw [orT]
    exact Nat.or_lt_two_pow (orT_lt out h t) (h t)
/-- What lies while Wide goes on. -/
structure WInv (w : World) (G n off : Nat) (r m : Int) (W : World) : Prop where
  g : Blk W w.heap.size 24 #[.pointer (some ⟨G, 0, none⟩)]
  o : Blk W (w.heap.size + 1) 38 #[.int .u64 (off : Nat)]
  r : Blk W (w.heap.size + 2) 3 #[.int .i64 r]
  m : Blk W (w.heap.size + 3) 3 #[.int .i64 m]
  t : Blk W (w.heap.size + 4) 38 #[.int .u64 (thereN n off : Nat)]
  low : Below w.heap.size w W
theorem WInv.hush {w : World} {G n off B : Nat} {r m : Int} {W V : World} (h : WInv w G n off r m W) {b : Nat} (c : Hush (fun k => k = B) b W V) (hb : w.heap.size ≤ b) (hB : w.heap.size + 5 ≤ B) : WInv w G n off r m V :=
  ⟨c.blk h.g (by show ¬ w.heap.size = B; omega), c.blk h.o (by show ¬ w.heap.size + 1 = B; omega), c.blk h.r (by show ¬ w.heap.size + 2 = B; omega), c.blk h.m (by show ¬ w.heap.size + 3 = B; omega), c.blk h.t (by show ¬ w.heap.size + 4 = B; omega), c.below h.low (Nat.le_refl _) hb (fun k hk => by omega)⟩
theorem WInv.below {w : World} {G n off : Nat} {r m : Int} {W V : World} (h : WInv w G n off r m W) (c : Below W.heap.size W V) : WInv w G n off r m V :=
  ⟨h.g.below c h.g.lt, h.o.below c h.o.lt, h.r.below c h.r.lt, h.m.below c h.m.lt, h.t.below c h.t.lt, h.low.trans (c.mono h.low.size)⟩
theorem WInv.put_m {w : World} {G n off : Nat} {r m : Int} {W : World} (h : WInv w G n off r m W) (x : Int) : WInv w G n off r x (W.setCell ⟨w.heap.size + 3, 0, none⟩ (.int .i64 x)) :=
  ⟨h.g.far (by show w.heap.size ≠ w.heap.size + 3; omega) _, h.o.far (by show w.heap.size + 1 ≠ w.heap.size + 3; omega) _, h.r.far (by show w.heap.size + 2 ≠ w.heap.size + 3; omega) _, h.m.put 0 _, h.t.far (by show w.heap.size + 4 ≠ w.heap.size + 3; omega) _, h.low.setCell (p := ⟨w.heap.size + 3, 0, none⟩) (by show w.heap.size ≤ w.heap.size + 3; omega) _⟩
theorem WInv.put_r {w : World} {G n off : Nat} {r m : Int} {W : World} (h : WInv w G n off r m W) (x : Int) : WInv w G n off x m (W.setCell ⟨w.heap.size + 2, 0, none⟩ (.int .i64 x)) :=
  ⟨h.g.far (by show w.heap.size ≠ w.heap.size + 2; omega) _, h.o.far (by show w.heap.size + 1 ≠ w.heap.size + 2; omega) _, h.r.put 0 _, h.m.far (by show w.heap.size + 3 ≠ w.heap.size + 2; omega) _, h.t.far (by show w.heap.size + 4 ≠ w.heap.size + 2; omega) _, h.low.setCell (p := ⟨w.heap.size + 2, 0, none⟩) (by show w.heap.size ≤ w.heap.size + 2; omega) _⟩
/-- What lies where Wide tells that it is not whole. -/
def WStop (w : World) (G : Nat) (near : List Nat) (off : Nat) (c : Code) (V : World) : Prop := c = .ret ∧ (∃ m, WInv w G near.length off (-1) m V) ∧ (∃ x, Blk V (w.heap.size + 5) 38 x) ∧ whole near off = false
set_option maxRecDepth 100000 in
set_option maxHeartbeats 8000000 in
theorem wide_any {w : World} {G R : Nat} {near : List Nat} (hg : GraphAt w G R near) (hT : Tab w) (ok : Ok near) (off : Nat) (ho : off < 2 ^ 64) :
    Calls Tryd.prog 40 #[.pointer (some ⟨G, 0, none⟩), .int .u64 (off : Nat)] w fun e w' => e = .returned (.int .i64 (wideF near off)) ∧ Below w.heap.size w w' := by
  refine callsIn_wide.1 (callsIn_of_wp_marks (n := 0) Tryd.func40 rfl trivial ?_ rfl)
  simp only [Tryd.ntmps40, List.size_toArray, List.length_cons, List.length_nil, Nat.reduceAdd, Nat.reduceSub, Array.replicate_succ, Array.replicate_zero, List.push_toArray, List.append_toArray, List.nil_append, List.cons_append]
  refine wpIn_wide.2 ?_
  have hfew := ok.few
  have hw0 := hT.size
  have HW0 := Lib.hid (fun (V W' : World) (h : Below w.heap.size w V) => hg.below h (Nat.le_refl _))
  go_wp2_with fail
  obtain ⟨W0, hW0⟩ : ∃ W0, (((w.alloc (.cells #[.pointer (some ⟨G, 0, none⟩)] 24)).alloc (.cells #[.int .u64 (off : Nat)] 38)).alloc (.cells #[.int .i64 0] 3)).alloc (.cells #[.int .i64 (-1)] 3) = W0 := ⟨_, rfl⟩
  rw [hW0]
  have z1 : (w.alloc (.cells #[.pointer (some ⟨G, 0, none⟩)] 24)).heap.size = w.heap.size + 1 := by simp
  have z2 : ((w.alloc (.cells #[.pointer (some ⟨G, 0, none⟩)] 24)).alloc (.cells #[.int .u64 (off : Nat)] 38)).heap.size = w.heap.size + 2 := by simp
  have z3 : (((w.alloc (.cells #[.pointer (some ⟨G, 0, none⟩)] 24)).alloc (.cells #[.int .u64 (off : Nat)] 38)).alloc (.cells #[.int .i64 0] 3)).heap.size = w.heap.size + 3 := by simp
  have b0 : Blk W0 w.heap.size 24 #[.pointer (some ⟨G, 0, none⟩)] := by rw [← hW0]; exact (((Blk.new w _ _).alloc _).alloc _).alloc _
  have b1 : Blk W0 (w.heap.size + 1) 38 #[.int .u64 (off : Nat)] := by
    rw [← hW0]
    have := Blk.new (w.alloc (.cells #[.pointer (some ⟨G, 0, none⟩)] 24)) 38 #[.int .u64 (off : Nat)]
    rw [z1] at this
    exact (this.alloc _).alloc _
  have b2 : Blk W0 (w.heap.size + 2) 3 #[.int .i64 0] := by
    rw [← hW0]
    have := Blk.new ((w.alloc (.cells #[.pointer (some ⟨G, 0, none⟩)] 24)).alloc (.cells #[.int .u64 (off : Nat)] 38)) 3 #[.int .i64 0]
    rw [z2] at this
    exact this.alloc _
  have b3 : Blk W0 (w.heap.size + 3) 3 #[.int .i64 (-1)] := by
    rw [← hW0]
    have := Blk.new (((w.alloc (.cells #[.pointer (some ⟨G, 0, none⟩)] 24)).alloc (.cells #[.int .u64 (off : Nat)] 38)).alloc (.cells #[.int .i64 0] 3)) 3 #[.int .i64 (-1)]
    rwa [z3] at this
  have low0 : Below w.heap.size w W0 := by rw [← hW0]; exact ((((Below.refl _ w).alloc (Nat.le_refl _) _).alloc (by simp) _).alloc (by simp; omega) _).alloc (by simp; omega) _
  have s0 : W0.heap.size = w.heap.size + 4 := by rw [← hW0]; simp
  have c0 := b0.cell 0
  have c1 := b1.cell 0
  simp at c0 c1
  have HN := Lib.hid (fun (V : World) (h : Below W0.heap.size W0 V) => n_any (hg.below (low0.trans (h.mono low0.size)) (Nat.le_refl _)))
  have HA0 := fun (V : World) => all_any near.length hfew V
  have e1 := there_any hfew ho
  obtain ⟨p, hp⟩ : ∃ p, 2 ^ near.length - 1 = p := ⟨_, rfl⟩
  rw [hp] at e1 HA0
  have HA := Lib.hid HA0
  clear HA0
  obtain ⟨t, ht⟩ : ∃ t, thereN near.length off = t := ⟨_, rfl⟩
  have Ht := Lib.hid ht
  rw [ht] at e1
  have lt0 : w.heap.size < W0.heap.size := by omega
  have lt1 : w.heap.size + 1 < W0.heap.size := by omega
  clear z1 z2 z3 hW0 hp ht HW0
  go_cut [6] from 12 to 16 (fun s6 V => s6 = .pointer (some ⟨w.heap.size + 4, 0, none⟩) ∧ RowKit.Hid (WInv w G near.length off 0 (-1) V) ∧ V.heap.size = w.heap.size + 5)
  case first =>
    refine wp_region_noPanic ?_
    go_region_with (first
      | (go_at_call 27; refine (HN.out _ (by first | exact Below.refl _ _ | exact (Below.refl _ _).drew | exact ((Below.refl _ _).drew).alloc (by simp) _)).mono ?_; rintro e w' ⟨rfl, h⟩; rw [h]; clear h w')
      | (go_at_call 54; refine (HA.out _).mono ?_; rintro e w' ⟨rfl, h⟩; rw [h]; clear h w'))
    all_goals (refine NoPanic.normal ?_; go_wp2_with fail; go_meet; refine ⟨rfl, Lib.hid ⟨b0.alloc _, b1.alloc _, b2.alloc _, b3.alloc _, ?_, (low0.alloc (by omega) _).drew⟩, by simp [World.drew, s0]⟩; rw [Ht.out, ← s0]; exact Blk.new W0 _ _)
  case rest =>
    obtain ⟨rfl, hWI, hVz⟩ := hcut
    have hI := hWI.out
    have c4 := hI.t.cell 0
    rw [Ht.out] at c4
    simp at c4
    have htl : t < 2 ^ 64 := by rw [← Ht.out]; exact thereN_lt hfew
    have hon : ∀ x, x ∈ ones t → on near.length off x = true := fun x hx => by rw [← thereN_bit hfew ho, Ht.out]; exact (mem_ones.1 hx).2
    have hones : ones t = (List.range near.length).filter (on near.length off) := by rw [← Ht.out]; exact ones_there hfew ho
    have Hones := Lib.hid hones
    have hTc : Tab wc := hT.below hI.low hT.size
    have Hon := Lib.hid hon
    clear HN HA e1 c0 c1 b0 b1 b2 b3 lt0 lt1 hWI hones hon
    go_wp2_with (go_at_call 51; refine (each_any t _).mono ?_; rintro e w' ⟨rfl, h⟩; rw [h]; clear h w')
    have bB := Blk.new wc 38 #[.int .u64 (t : Nat)]
    have hI1 : WInv w G near.length off 0 (-1) (wc.alloc (.cells #[.int .u64 (t : Nat)] 38)) := hI.below ((Below.refl _ wc).alloc (Nat.le_refl _) _)
    have hT1 : Tab (wc.alloc (.cells #[.int .u64 (t : Nat)] 38)) := hTc.below ((Below.refl _ wc).alloc (Nat.le_refl _) _) hTc.size
    have hz1 : (wc.alloc (.cells #[.int .u64 (t : Nat)] 38)).heap.size = wc.heap.size + 1 := by simp
    obtain ⟨Wr, hWr⟩ : ∃ Wr, wc.alloc (.cells #[.int .u64 (t : Nat)] 38) = Wr := ⟨_, rfl⟩
    rw [hWr] at bB hI1 hT1 hz1
    rw [hVz] at bB hz1
    rw [hWr]
    clear hWr
    refine range_each (B := w.heap.size + 5) (s := t) rfl htl bB hT1 (by omega) rfl (fun pre V => WInv w G near.length off 0 (wdL near off pre) V ∧ (∃ x, Blk V (w.heap.size + 5) 38 x) ∧ ∀ j, j ∈ pre → okI near off j = true) (fun c pre V => WStop w G near off c V)
      (fun xs A C h c => ⟨h.1.hush c (by omega) (by omega), by obtain ⟨x, hx⟩ := h.2.1; exact c.kind _ _ _ hx, h.2.2⟩) (fun c xs A C h k => ⟨h.1, by obtain ⟨m, hm⟩ := h.2.1; exact ⟨m, hm.hush k (by omega) (by omega)⟩, by obtain ⟨x, hx⟩ := h.2.2.1; exact k.kind _ _ _ hx, h.2.2.2⟩)
      ⟨hI1, ⟨_, bB⟩, fun j hj => by cases hj⟩ (fun x => { tmps := #[.pointer (some ⟨G, 0, none⟩), .int .u64 (off : Nat), .pointer (some ⟨w.heap.size, 0, none⟩), .pointer (some ⟨w.heap.size + 1, 0, none⟩), .pointer (some ⟨w.heap.size + 1 + 1, 0, none⟩), .pointer (some ⟨w.heap.size + 1 + 1 + 1, 0, none⟩), .pointer (some ⟨w.heap.size + 4, 0, none⟩), .int .i64 (x : Nat), undef, undef, undef, undef, u12, u13, u14, u15, u16, .int .u64 (t : Nat), .func (.func 59) #[] #[.pointer (some ⟨w.heap.size + 5, 0, none⟩)], .int .i64 (x : Nat), undef, undef, undef, undef, undef, undef, undef, undef, undef, undef, undef, undef, undef, undef, undef, undef, undef, undef, undef, undef, undef, undef, undef], defers := [] }) ?assign ?body ?done ?stop
    case assign =>
      intro l x V R hR
      gi_wp2
      exact hR
    case body =>
      rintro l pre x V hzV ⟨hIV, ⟨x3, b3⟩, hok⟩ hpre
      have hTV : Tab V := hT.below hIV.low hT.size
      have hx : on near.length off x = true := Hon.out x (hpre.subset (by simp))
      have H1 := Lib.hid ((callsIn_wide (n := 0)).2 (rings_any (hg.below hIV.low (Nat.le_refl _)) hTV ok (x : Int) off ho))
      have hlt := rings_lt ok ho (x : Int)
      have hf := rings_few ok ho (x : Int)
      have hq := or_okI ok ho x
      rw [Ht.out] at hq
      have hms := wdL_snoc (near := near) (off := off) pre x
      have hbd : -1 ≤ wdL near off pre ∧ wdL near off pre ≤ 64 := by have := wdL_bd (near := near) (off := off) ok ho pre.reverse; rwa [List.reverse_reverse] at this
      obtain ⟨L, hL⟩ : ∃ L, rings near off (x : Int) = L := ⟨_, rfl⟩
      rw [hL] at H1 hlt hf hq hms
      obtain ⟨m, hm⟩ : ∃ m, wdL near off pre = m := ⟨_, rfl⟩
      rw [hm] at hIV hms hbd
      have c0 := hIV.g.cell 0
      have c1 := hIV.o.cell 0
      simp at c0 c1
      have HL := Lib.hid hL
      have Hlt := Lib.hid hlt
      have Hq := Lib.hid hq
      have Hms := Lib.hid hms
      have HIV := Lib.hid hIV
      clear hL hm hlt hq hms hIV hTV hI1 hI c4 hT1
      gi_wp2
      refine ⟨trivial, rfl, (CallsIn.inRound l H1.out).mono ?_⟩
      rintro e V1 ⟨v, rfl, own, b1⟩
      obtain ⟨a, cap, rfl, hc⟩ := own_sets own
      have Hc := Lib.hid hc
      have HI1 := Lib.hid (HIV.out.below b1)
      have cm := HI1.out.m.cell 0
      have ct := HI1.out.t.cell 0
      rw [Ht.out] at ct
      have cr : V1.cell? ⟨w.heap.size + 1 + 1, 0, none⟩ = some (.int .i64 0) := HI1.out.r.cell 0
      have fr : V1.frozen? ⟨w.heap.size + 1 + 1, 0, none⟩ = false := HI1.out.r.frozen 0
      have cm' : V1.cell? ⟨w.heap.size + 1 + 1 + 1, 0, none⟩ = some (.int .i64 m) := HI1.out.m.cell 0
      have fm : V1.frozen? ⟨w.heap.size + 1 + 1 + 1, 0, none⟩ = false := HI1.out.m.frozen 0
      simp at cm ct
      have b31 := b3.below b1 b3.lt
      have ofV : Off (fun k => k = w.heap.size + 3) V V1 := Off.of_below b1 (fun k h1 h2 => by omega)
      have zV1 := b1.size
      have zr := HIV.out.r.lt
      have bm := HIV.out.m
      have br := HIV.out.r
      clear own hc H1 c0 c1
      gi_wp2
      gi_loop [9, 26] (fun v9 v26 => ∃ k : Nat, v9 = .int .u64 (orT L k : Nat) ∧ v26 = .int .i64 k ∧ k ≤ L.length) (fun _ v26 => match v26 with | .int _ k => L.length - k.toNat | _ => 0)
      case atStart => exact ⟨0, rfl, rfl, Nat.zero_le _⟩
      case round =>
        obtain ⟨k, rfl, rfl, hk⟩ := hrel
        by_cases hlk : k < L.length
        · obtain ⟨b, rfl, hb, c0⟩ := Hc.out k hlk
          have l3 : (0 : Int) ≤ (k : Int) := by omega
          have l4 : (k : Int) < (L.length : Int) := by omega
          have hx := Hlt.out k
          have hy := orT_lt L Hlt.out k
          obtain ⟨x', hxx⟩ : ∃ x, L.getD k 0 = x := ⟨_, rfl⟩
          obtain ⟨y, hyy⟩ : ∃ y, orT L k = y := ⟨_, rfl⟩
          rw [hxx] at c0 hx
          rw [hyy] at hy ⊢
          have e1 : bits .or .u64 (y : Int) (x' : Int) = ((y ||| x' : Nat) : Int) := bits_or_u64_nat _ _ hy hx
          obtain ⟨z, hz⟩ : ∃ z, y ||| x' = z := ⟨_, rfl⟩
          have hst : orT L (k + 1) = z := by rw [orT, hyy, hxx, hz]
          rw [hz] at e1
          have Hst := Lib.hid hst
          clear hst hz hxx hyy hx hy
          gi_wp2
          go_round
          case rel => exact ⟨k + 1, by rw [Hst.out], rfl, hlk⟩
          case measure => simp; omega
        · obtain rfl : k = L.length := by omega
          have hq := Hq.out
          have hol := orT_lt L Hlt.out L.length
          obtain ⟨y, hyy⟩ : ∃ y, orT L L.length = y := ⟨_, rfl⟩
          rw [hyy] at hq hol ⊢
          rcases hoi : okI near off x with _ | _
          · have hne : ((y : Int) != (t : Int)) = true := by
              rw [hoi] at hq
              simp
              intro c
              exact absurd (hq.1 (by omega)) (by decide)
            have hw := whole_no hx hoi
            have hlow := HIV.out.low
            clear hq hyy hol
            gi_wp2
            have b5 : Blk (V1.setCell ⟨w.heap.size + 2, 0, none⟩ (.int .i64 (-1))) (w.heap.size + 5) 38 x3 := b31.far (by show w.heap.size + 5 ≠ w.heap.size + 2; omega) _
            refine ⟨off_stays (K := fun k => k = w.heap.size + 2) (off_put (Off.of_below b1 (fun k h1 h2 => by omega)) _ _) (fun k hk => by subst hk; exact ⟨_, _, br⟩) (fun k hk => ?_), rfl, ⟨m, HI1.out.put_r _⟩, ⟨_, b5⟩, hw⟩
            rcases hk with rfl | rfl
            · exact ⟨b3.lt, by omega⟩
            · exact ⟨by omega, by omega⟩
          · have hyt : y = t := hq.2 hoi
            subst hyt
            have hms := Hms.out
            have hlen : (1 : Int) ≤ (L.length : Int) := by
              have := (mxD_full (near := near) ok ho hx 0).1
              rw [HL.out] at this
              omega
            have hok2 : ∀ j, j ∈ pre ++ [x] → okI near off j = true := fun j hj => by
              rcases List.mem_append.1 hj with h | h
              · exact hok j h
              · simp at h; subst h; exact hoi
            have Hok2 := Lib.hid hok2
            clear hq hyy hol hok2 hok
            gi_wp2
            all_goals
              refine ⟨off_stays (K := fun k => k = w.heap.size + 3) (off_put ofV _ _) (fun k hk => by subst hk; exact ⟨_, _, bm⟩) (fun k hk => ?_), ?_, ⟨x3, b31.far (by show w.heap.size + 5 ≠ w.heap.size + 3; omega) _⟩, Hok2.out⟩
              · rcases hk with rfl | rfl
                · exact ⟨b3.lt, by omega⟩
                · exact ⟨by omega, by omega⟩
              · rw [hms]
                first
                  | (rw [show max m ((L.length : Int) - 1) = m by omega]; exact HI1.out.put_m _)
                  | (rw [show max m ((L.length : Int) - 1) = (L.length : Int) - 1 by omega]; exact HI1.out.put_m _)
    case done =>
      rintro D V hD ⟨hIV, _, hok⟩ hd
      have hw : whole near off = true := by
        rw [whole_spec]
        intro i hi
        exact hok i (by rw [Hones.out]; exact List.mem_filter.2 ⟨List.mem_range.2 (on_lt hi), hi⟩)
      have hv : wideF near off = wdL near off (ones t) := by rw [wideF, if_pos hw, Hones.out, wdL_to]
      obtain ⟨m, hm⟩ : ∃ m, wdL near off (ones t) = m := ⟨_, rfl⟩
      rw [hm] at hIV hv
      have cm : V.cell? ⟨w.heap.size + 1 + 1 + 1, 0, none⟩ = some (.int .i64 m) := hIV.m.cell 0
      have cr : V.cell? ⟨w.heap.size + 1 + 1, 0, none⟩ = some (.int .i64 0) := hIV.r.cell 0
      have fr : V.frozen? ⟨w.heap.size + 1 + 1, 0, none⟩ = false := hIV.r.frozen 0
      have hP := hIV.put_r m
      have Hv := Lib.hid hv
      have HP := Lib.hid hP
      clear hP hv hm hIV hok hw hI hI1 c4 hT1 hTc bB
      have hzD : w.heap.size ≤ D := by omega
      go_wp2_with fail
      refine leaves_marks (mark_one (b := w.heap.size) hzD ((Below.heap_setCell V ⟨w.heap.size + 1 + 1, 0, none⟩ _ D (by show D ≠ w.heap.size + 1 + 1; omega)).trans hd)) fun w' hB hC => ?_
      have cr2 := hC _ _ HP.out.r rfl
      exact ⟨_, results_int rfl rfl (fun v => rfl) (Blk.cell cr2 0), by rw [Hv.out], HP.out.low.trans hB⟩
    case stop =>
      rintro D c pre V hD hpre ⟨rfl, ⟨m, hIV⟩, _, hw⟩ hd
      have Hv := Lib.hid (show wideF near off = -1 by rw [wideF, hw]; rfl)
      have hzD : w.heap.size ≤ D := by omega
      have HP := Lib.hid hIV
      clear hw hIV hI hI1 c4 hT1 hTc bB
      go_wp2_with fail
      refine leaves_marks (mark_one (b := w.heap.size) hzD hd) fun w' hB hC => ?_
      have cr2 := hC _ _ HP.out.r rfl
      exact ⟨_, results_int rfl rfl (fun v => rfl) (Blk.cell cr2 0), by rw [Hv.out], HP.out.low.trans hB⟩
end Go.Proofs.YtcangalpccppbaaDoor.Reach
