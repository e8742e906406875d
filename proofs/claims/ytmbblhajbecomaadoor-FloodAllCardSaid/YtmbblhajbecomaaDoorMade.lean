/- The graphs of a world that is drawn: Made, walked. -/
import Derived.Test.YtmbblhajbecomaaDoorGraphNewWalk
namespace Go.Proofs.YtmbblhajbecomaaDoor.Graph
set_option maxRecDepth 100000
open Go.RowKit
open Go.Proofs.YtmbblhajbecomaaDoor.RF Go.Proofs.YtmbblhajbecomaaDoor.Heap Go.Proofs.YtmbblhajbecomaaDoor.Nodes Go.Proofs.YtmbblhajbecomaaDoor.Seen
set_option linter.unusedVariables false
set_option linter.unusedSimpArgs false

/-- How many nodes a world has. -/
def madeN (n : Int) : Nat := if n.tmod 11 < 1 then 5 else (n.tmod 11).toNat
theorem tmod_lt (n : Int) : n.tmod 11 < 11 ∧ -11 < n.tmod 11 := by
  rcases Int.le_total 0 n with h | h
  · rw [Int.tmod_eq_emod_of_nonneg h]; omega
  · obtain ⟨m, rfl⟩ : ∃ m, n = -m := ⟨-n, by omega⟩
    rw [Int.neg_tmod, Int.tmod_eq_emod_of_nonneg (by omega)]; omega
theorem madeN_bd (n : Int) : 1 ≤ madeN n ∧ madeN n ≤ 10 := by
  have := tmod_lt n
  unfold madeN
  split <;> omega
/-- The links that may be. -/
def madeL (m : Nat) (ls : List (Int × Int)) : List (Int × Int) := ls.foldl (fun S p => if bad m (S.map lk) p = 0 then S ++ [p] else S) []
theorem madeL_snoc (m : Nat) (ls : List (Int × Int)) (p : Int × Int) : madeL m (ls ++ [p]) = if bad m ((madeL m ls).map lk) p = 0 then madeL m ls ++ [p] else madeL m ls := by
  unfold madeL
  rw [List.foldl_append]
  rfl
theorem newE_snoc {n : Nat} : ∀ (l : List (Int × Int)) (S : List (Int × Int)) (p : Int × Int), newE n S l = 0 → bad n (S ++ l.map lk) p = 0 → newE n S (l ++ [p]) = 0
  | [], S, p, _, hb => by
    rw [List.map_nil, List.append_nil] at hb
    rw [List.nil_append, newE, if_pos hb, newE]
  | q :: r, S, p, h, hb => by
    rw [newE] at h
    split at h
    · rename_i hq
      rw [List.cons_append, newE, if_pos hq]
      exact newE_snoc r (S ++ [lk q]) p h (by simpa using hb)
    · rename_i hq
      exact absurd h hq
theorem madeL_spec (m : Nat) (ls : List (Int × Int)) : newE m [] (madeL m ls) = 0 ∧ (madeL m ls).length ≤ ls.length ∧ ∀ p ∈ madeL m ls, p ∈ ls := by
  have : ∀ l : List (Int × Int), newE m [] (madeL m l.reverse) = 0 ∧ (madeL m l.reverse).length ≤ l.reverse.length ∧ ∀ p ∈ madeL m l.reverse, p ∈ l.reverse := by
    intro l
    induction l with
    | nil => exact ⟨rfl, Nat.le_refl _, fun p h => by cases h⟩
    | cons q l ih =>
      obtain ⟨h1, h2, h3⟩ := ih
      rw [List.reverse_cons, madeL_snoc]
      split
      · rename_i hb
        refine ⟨newE_snoc _ _ _ h1 (by simpa using hb), by simp at h2 ⊢; omega, fun p hp => ?_⟩
        rcases List.mem_append.1 hp with c | c
        · exact List.mem_append_left _ (h3 p c)
        · exact List.mem_append_right _ c
      · refine ⟨h1, by simp at h2 ⊢; omega, fun p hp => List.mem_append_left _ (h3 p hp)⟩
  have h := this ls.reverse
  rwa [List.reverse_reverse] at h
theorem own_ge {w : World} {base : Nat} {e : TypeId} {s n : Nat} {v : Value} {xs : List Value} (h : w.ownsRow base e s v n xs) {b : Nat} (hb : some b = v.ownBlock) : base ≤ b := by
  rcases h.2 with ⟨rfl, _⟩ | ⟨g, cap, cur, rfl, hbg, _⟩
  · simp [Value.ownBlock] at hb
  · simp only [Value.ownBlock, Option.some.injEq] at hb; omega
theorem off_below {K : Nat → Prop} {A B C : World} {b : Nat} (h : Off K A B) (k : Below b B C) (hb : A.heap.size ≤ b) : Off K A C :=
  ⟨k.os.trans h.os, k.tape.trans h.tape, k.output.trans h.output, Nat.le_trans h.size k.size, fun i hi hn => (k.block i (by omega)).trans (h.block i hi hn)⟩
theorem bad_ok {n : Nat} {S : List (Int × Int)} {x y : Int} (h : bad n S (x, y) = 0) : 0 ≤ x ∧ x < (n : Int) ∧ 0 ≤ y ∧ y < (n : Int) ∧ x ≠ y := by
  have := (bad_zero h).1
  simp only [lk] at this
  omega
theorem results_tmp_cell {P : Program} {fn : Func} {a s : Tmp} {t : TypeId} {tmps : Array Value} {w : World} {b : Nat} {cs : List Value} {d : TypeDesc} (h : fn.results = #[.tmp s, .cell a t]) (ha : tmps.getD a undef = .pointer (some ⟨b, 0, none⟩))
    (hu : P.underlying t = some d) (hd : d.isRow = true) (hi : (P.info? t).map (·.size) = some cs.length) (hc : w.rangeAt b 0 cs) :
    (results fn tmps).run P w = .ok (.tuple #[tmps.getD s undef, .agg cs.toArray]) w := by
  have hl := run_loadVar_mid (P := P) w b 0 t cs d hc hu hd hi
  have hp : (asAddr (.pointer (some ⟨b, 0, none⟩) : Value)).run P w = .ok ⟨b, 0, none⟩ w := by simp [asAddr]
  rw [Array.getD_eq_getD_getElem?] at ha
  simp [results, h, ha, Sem.run_bind, hl, hp]
/-- What Made comes to. -/
def MadeEnds (w : World) (n : Int) (ls : List (Int × Int)) (e : Ending) (w' : World) : Prop :=
  Below w.heap.size w w' ∧ ∃ (G R : Nat) (v : Value), e = .returned (.tuple #[.pointer (some ⟨G, 0, none⟩), .agg #[.int .i64 (madeN n : Nat), v]]) ∧ RowKit.Hid (GraphAt w' G R (nearOf (madeN n) ((madeL (madeN n) (ls.take 60)).map lk))) ∧ RowKit.Hid (PairsAt w' v (madeL (madeN n) (ls.take 60)))
set_option maxRecDepth 100000 in
set_option maxHeartbeats 8000000 in
theorem made_any (w : World) (n : Int) (a : Option Addr) (len cap : Nat) (ls : List (Int × Int)) (hp : PairIn w a len cap ls) :
    Calls Tryd.prog 12 #[.agg #[.int .i64 n, .slice a len cap]] w fun e w' => MadeEnds w n ls e w' := by
  obtain ⟨i0, hi0, hz⟩ := Option.map_eq_some_iff.1 infoP
  simp only [Prod.mk.injEq] at hz
  obtain ⟨hz0, hz1, hz2⟩ := hz
  have Hi0 := Lib.hid hi0
  have Hz0 := Lib.hid hz0
  have Hz1 := Lib.hid hz1
  have Hz2 := Lib.hid hz2
  clear hi0 hz0 hz1 hz2
  have hbd := madeN_bd n
  obtain ⟨m, hm⟩ : ∃ m, madeN n = m := ⟨_, rfl⟩
  have hmi : (if n.tmod 11 < 1 then (5 : Int) else n.tmod 11) = (m : Int) := by
    rw [← hm]
    have := tmod_lt n
    unfold madeN
    split <;> omega
  obtain ⟨V, hV⟩ : ∃ V, ((w.alloc (.cells #[.int .i64 n, .slice a len cap] 24)).alloc (.cells #[.int .i64 0, .slice none 0 0] 27)).alloc (.cells #[.int .i64 (m : Nat), .slice none 0 0] 27) = V := ⟨_, rfl⟩
  have z1 : (w.alloc (.cells #[.int .i64 n, .slice a len cap] 24)).heap.size = w.heap.size + 1 := by simp
  have z2 : ((w.alloc (.cells #[.int .i64 n, .slice a len cap] 24)).alloc (.cells #[.int .i64 0, .slice none 0 0] 27)).heap.size = w.heap.size + 1 + 1 := by simp
  have bA : Blk V w.heap.size 24 #[.int .i64 n, .slice a len cap] := by rw [← hV]; exact ((Blk.new w _ _).alloc _).alloc _
  have bR : Blk V (w.heap.size + 1) 27 #[.int .i64 0, .slice none 0 0] := by
    rw [← hV]
    have := Blk.new (w.alloc (.cells #[.int .i64 n, .slice a len cap] 24)) 27 #[.int .i64 0, .slice none 0 0]
    rw [z1] at this
    exact this.alloc _
  have bH : Blk V (w.heap.size + 1 + 1) 27 #[.int .i64 (m : Nat), .slice none 0 0] := by
    rw [← hV]
    have := Blk.new ((w.alloc (.cells #[.int .i64 n, .slice a len cap] 24)).alloc (.cells #[.int .i64 0, .slice none 0 0] 27)) 27 #[.int .i64 (m : Nat), .slice none 0 0]
    rwa [z2] at this
  have lV : Below w.heap.size w V := by rw [← hV]; exact (((Below.refl _ w).alloc (Nat.le_refl _) _).alloc (by simp) _).alloc (by simp; omega) _
  have hpV : PairIn V a len cap ls := ⟨hp.le, hp.max, hp.size, hp.wf, by
    rcases hp.at' with h | h | ⟨b, off, h1, h2, h3⟩
    · exact .inl h
    · exact .inr (.inl h)
    · exact .inr (.inr ⟨b, off, h1, by have := lV.size; omega, fun j u hu => (lV.cell (p := ⟨b, off + j, none⟩) h2).trans (h3 j u hu)⟩)⟩
  have HV := Lib.hid hV
  have cA1 := bA.cell 1
  simp at cA1
  have hm2 : 1 ≤ m ∧ m ≤ 10 := by rw [← hm]; exact hbd
  have Hm := Lib.hid hm
  clear hV z1 z2 hp hm
  by_cases h1 : n.tmod 11 < 1
  all_goals
    first
      | rw [if_pos h1] at hmi
      | rw [if_neg h1] at hmi
    have Hmi := Lib.hid hmi
    clear hmi
    go_enter Tryd.func12, Tryd.ntmps12
    go_wp2_with fail
    first
      | rw [show Value.int IntKind.i64 5 = Value.int IntKind.i64 (m : Nat) by rw [Hmi.out]]
      | rw [show Value.int IntKind.i64 (n.tmod 11) = Value.int IntKind.i64 (m : Nat) by rw [Hmi.out]]
    rw [HV.out]
    clear h1
    refine (cut_any V a len cap ls hpV).mono ?_
    rintro e w1 ⟨vc, rfl, ownC, hP, b1⟩
    obtain ⟨C, hC⟩ : ∃ C, ls.take 60 = C := ⟨_, rfl⟩
    have hCl : C.length ≤ 60 := by rw [← hC, List.length_take]; omega
    rw [hC] at hP
    have HCe := Lib.hid hC
    obtain ⟨ca, cc, hvc, _⟩ := hP.1
    subst hvc
    have R1 := bR.below b1 bR.lt
    have H1 := bH.below b1 bH.lt
    have L1 := lV.trans (b1.mono (by have := bH.lt; omega))
    have HP := Lib.hid hP
    have Hge := Lib.hid (fun (b : Nat) (h : ca = some ⟨b, 0, none⟩) => (show w.heap.size + 1 + 1 < b from by have := own_ge ownC (b := b) (by rw [h]; rfl); have := bH.lt; omega))
    have s1 := L1.size
    clear hP hC bA bR bH lV hpV HV cA1 b1 ownC
    go_wp2_with fail
    go_loopw [25] (fun v25 wr => ∃ (k : Nat) (vl : Value), v25 = .int .i64 k ∧ k ≤ C.length ∧ Blk wr (w.heap.size + 1) 27 #[.int .i64 0, .slice none 0 0] ∧ Blk wr (w.heap.size + 1 + 1) 27 #[.int .i64 (m : Nat), vl] ∧ RowKit.Hid (wr.ownsRow w1.heap.size 55 2 vl (madeL m (C.take k)).length (pcI (madeL m (C.take k)))) ∧ RowKit.Hid (Off (fun j => j = w.heap.size + 1 + 1) w1 wr) ∧ Below w.heap.size w wr) (fun v25 _ => match v25 with | .int _ k => C.length - k.toNat | _ => 0)
    case atStart => exact ⟨0, _, rfl, Nat.zero_le _, R1, H1, Lib.hid (World.ownsRow_nil _ _ _ _), Lib.hid (Off.refl _ _), L1⟩
    case round =>
      clear R1 H1 L1
      obtain ⟨k, vl, rfl, hk, bR, bH, own, HO, lR⟩ := hrel
      have hlen := (madeL_spec m (C.take k)).2.1
      have htl : (C.take k).length = k := by rw [List.length_take]; omega
      rw [htl] at hlen
      obtain ⟨S, hS⟩ : ∃ S, madeL m (C.take k) = S := ⟨_, rfl⟩
      rw [hS] at own hlen
      obtain ⟨q, hq⟩ : ∃ q, S.length = q := ⟨_, rfl⟩
      rw [hq] at own hlen
      obtain ⟨sa, sc, hvl⟩ : ∃ a c, vl = .slice a q c := by
        rcases own.out.2 with ⟨h1, h2⟩ | ⟨g, c, cur, h1, _⟩
        · exact ⟨none, 0, by rw [h1, h2]⟩
        · exact ⟨_, c, h1⟩
      subst hvl
      by_cases hlt : k < C.length
      · obtain ⟨p, hpk⟩ : ∃ p, C[k]? = some p := ⟨_, List.getElem?_eq_getElem hlt⟩
        have Hwf := Lib.hid HP.out.2
        obtain ⟨_, _, hca, hcell⟩ := HP.out.1
        injection hca with hca1 _ hca2
        subst hca1 hca2
        obtain ⟨b, rfl, hb, c0, c1⟩ := hcell k p hpk
        have hbA := Hge.out b rfl
        replace c0 := (HO.out.cell (p := ⟨b, k * 2, none⟩) hb (by show ¬ b = _; omega)).trans c0
        replace c1 := (HO.out.cell (p := ⟨b, k * 2 + 1, none⟩) hb (by show ¬ b = _; omega)).trans c1
        have hbr : b < wr.heap.size := by have := HO.out.size; omega
        have l3 : (0 : Int) ≤ (k : Int) := by omega
        have l4 : (k : Int) < (C.length : Int) := by omega
        have l5 : (k : Int) ≤ 60 := by omega
        have hst : madeL m (C.take (k + 1)) = if bad m (S.map lk) p = 0 then S ++ [p] else S := by
          rw [List.take_add_one, hpk, Option.toList, madeL_snoc, hS]
        have hbad := bad_ref m S p.1 p.2
        obtain ⟨x, y⟩ := p
        simp only at c0 c1 hbad
        obtain ⟨X, hX⟩ : ∃ X, wr.alloc (.cells #[.int .i64 x, .int .i64 y] 55) = X := ⟨_, rfl⟩
        have bK : Blk X wr.heap.size 55 #[.int .i64 x, .int .i64 y] := by rw [← hX]; exact Blk.new wr _ _
        have xo : Below wr.heap.size wr X := by rw [← hX]; exact (Below.refl _ wr).alloc (Nat.le_refl _) _
        have HX := Lib.hid hX
        have Hst := Lib.hid hst
        have Hbad := Lib.hid hbad
        have HS := Lib.hid hS
        have Hq := Lib.hid hq
        have zR := bR.lt
        have zH := bH.lt
        have RX := bR.below xo zR
        have BX := bH.below xo zH
        have OX := Lib.hid (own_below own.out xo)
        have so := HO.out.size
        have OFX := Lib.hid (off_below HO.out xo so)
        have LX := lR.trans (xo.mono (by omega))
        have k0 := bK.cell 0
        have k1 := bK.cell 1
        have zX := BX.lt
        simp at k0 k1
        clear hX hst hbad hS hq hcell hpk bR bH own HO lR xo
        go_wp2_with fail
        rw [HX.out]
        clear c0 c1 HX
        go_quiet (fail)
        by_cases c1 : 0 ≤ x
        rotate_left
        · have Hs2 := Lib.hid (show madeL m (C.take (k + 1)) = S from by rw [Hst.out, if_neg (fun c => by have := bad_ok c; omega)])
          have Hs0 := Lib.hid (And.intro HS.out Hq.out)
          clear Hbad
          go_wp2_with fail
          go_round
          case rel => exact ⟨k + 1, _, rfl, hlt, RX.drewN nq, BX.drewN nq, Lib.hid (by rw [Hs2.out]; have := Hq.out; subst this; exact own_drewN OX.out nq), Lib.hid (OFX.out.drewN nq), ⟨LX.os, LX.tape, LX.output, LX.size, LX.block⟩⟩
          case measure => simp; omega
        by_cases c2 : x < (m : Int)
        rotate_left
        · have Hs2 := Lib.hid (show madeL m (C.take (k + 1)) = S from by rw [Hst.out, if_neg (fun c => by have := bad_ok c; omega)])
          have Hs0 := Lib.hid (And.intro HS.out Hq.out)
          clear Hbad
          go_wp2_with fail
          go_round
          case rel => exact ⟨k + 1, _, rfl, hlt, RX.drewN nq, BX.drewN nq, Lib.hid (by rw [Hs2.out]; have := Hq.out; subst this; exact own_drewN OX.out nq), Lib.hid (OFX.out.drewN nq), ⟨LX.os, LX.tape, LX.output, LX.size, LX.block⟩⟩
          case measure => simp; omega
        by_cases c3 : 0 ≤ y
        rotate_left
        · have Hs2 := Lib.hid (show madeL m (C.take (k + 1)) = S from by rw [Hst.out, if_neg (fun c => by have := bad_ok c; omega)])
          have Hs0 := Lib.hid (And.intro HS.out Hq.out)
          clear Hbad
          go_wp2_with fail
          go_round
          case rel => exact ⟨k + 1, _, rfl, hlt, RX.drewN nq, BX.drewN nq, Lib.hid (by rw [Hs2.out]; have := Hq.out; subst this; exact own_drewN OX.out nq), Lib.hid (OFX.out.drewN nq), ⟨LX.os, LX.tape, LX.output, LX.size, LX.block⟩⟩
          case measure => simp; omega
        by_cases c4 : y < (m : Int)
        rotate_left
        · have Hs2 := Lib.hid (show madeL m (C.take (k + 1)) = S from by rw [Hst.out, if_neg (fun c => by have := bad_ok c; omega)])
          have Hs0 := Lib.hid (And.intro HS.out Hq.out)
          clear Hbad
          go_wp2_with fail
          go_round
          case rel => exact ⟨k + 1, _, rfl, hlt, RX.drewN nq, BX.drewN nq, Lib.hid (by rw [Hs2.out]; have := Hq.out; subst this; exact own_drewN OX.out nq), Lib.hid (OFX.out.drewN nq), ⟨LX.os, LX.tape, LX.output, LX.size, LX.block⟩⟩
          case measure => simp; omega
        by_cases c5 : x = y
        · have Hs2 := Lib.hid (show madeL m (C.take (k + 1)) = S from by rw [Hst.out, if_neg (fun c => by have := bad_ok c; omega)])
          have Hs0 := Lib.hid (And.intro HS.out Hq.out)
          clear Hbad
          go_wp2_with fail
          go_round
          case rel => exact ⟨k + 1, _, rfl, hlt, RX.drewN nq, BX.drewN nq, Lib.hid (by rw [Hs2.out]; have := Hq.out; subst this; exact own_drewN OX.out nq), Lib.hid (OFX.out.drewN nq), ⟨LX.os, LX.tape, LX.output, LX.size, LX.block⟩⟩
          case measure => simp; omega
        · have hwf := Hwf.out
          have hpr := own_pairs (own_drewN OX.out nq) Hq.out (fun p hp => hwf p (List.mem_of_mem_take ((madeL_spec m (C.take k)).2.2 p (by rw [HS.out]; exact hp))))
          have Hpr := Lib.hid hpr
          have hbad2 := Lib.hid (Hbad.out.trans (by rw [if_neg (by rw [show isN m x = true by simp [isN, c1, c2], show isN m y = true by simp [isN, c3, c4]]; simp), if_neg c5]))
          clear hwf hpr Hbad
          have e0 := BX.cell 0
          have e1 := BX.cell 1
          simp at e0 e1
          go_wp2_with fail
          refine (reflinked_any m _ S x y _ Hpr.out (by rw [Hq.out]; omega)).mono ?_
          rintro e w4 ⟨rfl, o4d⟩
          have o4 : Below X.heap.size X w4 := ⟨o4d.os, o4d.tape, o4d.output, o4d.size, o4d.block⟩
          have bR4 := RX.below o4 (by omega)
          have bH4 := BX.below o4 zX
          have own4 := Lib.hid (own_below OX.out o4)
          have sX := OFX.out.size
          have OF4 := Lib.hid (off_below OFX.out o4 sX)
          have s4 := OF4.out.size
          have L4 := LX.trans (o4.mono (by omega))
          have z4 := bH4.lt
          have cB1 := bH4.cell 1
          simp at cB1
          clear RX BX OX OFX LX e0 e1 o4 o4d k0 k1 zX zR zH Hpr bK
          rcases hl : refL S x y with _ | _
          · have hs2 := Hst.out
            rw [if_pos (by rw [hbad2.out, hl]; rfl)] at hs2
            have Hs2 := Lib.hid hs2
            clear hs2 Hst hbad2
            go_wp2_with (at_builtin; refine wpList_append_own _ rfl _ _ 22 rfl w1.heap.size 55 i0 _ 2 16 Tryd.underlying22 Hi0.out Hz0.out Hz1.out Hz2.out rfl (by decide) _ _ _ rfl (own4.out.alloc _) ⟨w4.heap.size, 0, none⟩ 1 1 [.int .i64 x, .int .i64 y] rfl rfl (World.news_of_block (cs := #[.int .i64 x, .int .i64 y]) (t := 55) (fr := (0, 0)) (heap_alloc_new w4 _)) (by simp [Value.oneCell']) (by unfold maxLen; omega) (by omega) (by simp; omega) ?_; intro v5 w5 own5 g5 _; obtain ⟨gg, cap2, rfl⟩ := own_some own5 (by omega); have B5 := (bH4.alloc _).grown g5 (own_free own4.out bH4 (by decide)); have A5 := (bR4.alloc _).grown g5 (own_free own4.out bR4 (by decide)); have k5 := B5.cell 1; have f5 := B5.frozen 1; simp at k5)
            have B6 := B5.put 1 (.slice (some ⟨gg, 0, none⟩) (q + 1) cap2)
            simp at B6
            go_round
            case rel => exact ⟨k + 1, _, rfl, hlt, A5.far (by show w.heap.size + 1 ≠ w.heap.size + 1 + 1; omega) _, B6, Lib.hid (by rw [Hs2.out, pcI_snoc, List.length_append, Hq.out]; exact own_off own5 (Off.setCell (p := ⟨w.heap.size + 1 + 1, 1, none⟩) (Off.refl (fun j => j = w.heap.size + 1 + 1) w5) (.inl rfl) _) (fun g hg c => own_free own5 B5 (by decide) (by rw [c] at hg; exact hg.symm))), Lib.hid ((Off.grown (OF4.out.alloc _) g5 (fun j hj => .inr (own_ge own4.out hj.symm))).setCell (p := ⟨w.heap.size + 1 + 1, 1, none⟩) (.inl rfl) _), (below_own (L4.alloc L4.size _) g5 (own4.out.alloc _) s1 (Nat.le_refl _)).setCell (p := ⟨w.heap.size + 1 + 1, 1, none⟩) (by show w.heap.size ≤ w.heap.size + 1 + 1; omega) _⟩
            case measure => simp; omega
          · have Hs2 := Lib.hid (show madeL m (C.take (k + 1)) = S from by rw [Hst.out, if_neg (by rw [hbad2.out, hl]; simp)])
            clear Hst hbad2
            go_wp2_with fail
            go_round
            case rel => exact ⟨k + 1, _, rfl, hlt, bR4, bH4, Lib.hid (by rw [Hs2.out]; have := Hq.out; subst this; exact own4.out), OF4, L4⟩
            case measure => simp; omega
      · obtain rfl : k = C.length := by omega
        rw [List.take_length] at hS
        have hwf := HP.out.2
        have so := HO.out.size
        have hsp := madeL_spec m C
        have hpr := own_pairs own.out hq (fun p hp => hwf p (hsp.2.2 p (by rw [hS]; exact hp)))
        have hnew := Lib.hid (show newE m [] S = 0 by rw [← hS]; exact hsp.1)
        have c1 := bH.cell 1
        simp at c1
        have Hown := Lib.hid own.out
        have Hwf2 := Lib.hid (show ∀ p ∈ S, wfp p from fun p hp => hwf p (hsp.2.2 p (by rw [hS]; exact hp)))
        have Hpr := Lib.hid hpr
        have HSe := Lib.hid hS
        have Hq := Lib.hid hq
        have zR := bR.lt
        have zH := bH.lt
        clear hpr own HO hwf hsp hS hq htl
        go_wp2_with fail
        refine (newgo_any m _ S wr Hpr.out (by rw [Hq.out]; omega)).mono ?_
        rintro e w4 ⟨b4, ⟨_, k', G, R, hkk, _, _, rfl, hg, _⟩ | ⟨hc, _⟩⟩
        · obtain rfl : m = k' := by omega
          have R4 := bR.below b4 zR
          have H4 := bH.below b4 zH
          have L4 := lR.trans (b4.mono (by have := lR.size; omega))
          have own4 := Lib.hid (own_below Hown.out b4)
          have Fin := Lib.hid (fun (w' : World) (ho : Off (fun j => j = w.heap.size + 1) w4 w') (hb : Below w.heap.size w w') => (show MadeEnds w n ls (.returned (.tuple #[.pointer (some ⟨G, 0, none⟩), .agg #[.int .i64 (m : Nat), .slice sa q sc]])) w' from by
            refine ⟨hb, G, R, .slice sa q sc, by rw [Hm.out], ?_, ?_⟩
            · rw [Hm.out, HCe.out, HSe.out]
              exact Lib.hid (hg.out.off ho (hg.out.box.ne R4 (by decide)) (hg.out.row.ne R4 (by decide)))
            · rw [Hm.out, HCe.out, HSe.out]
              exact Lib.hid (own_pairs (own_off own4.out ho (fun g hg c => own_free own4.out R4 (by decide) (by rw [c] at hg; exact hg.symm))) Hq.out Hwf2.out)))
          have zR4 := R4.lt
          have zH4 := H4.lt
          have r0 := R4.cell 0
          have r1 := R4.cell 1
          have s0 := R4.frozen 0
          have s1 := R4.frozen 1
          simp at r0 r1
          have HS : ∀ v, Off (fun j => j = w.heap.size + 1) w4 v → (Off (fun j => j = w.heap.size + 1) w4 v ∧ v.cell? ⟨w.heap.size + 1 + 1, 0, none⟩ = some (.int .i64 (m : Nat)) ∧ v.cell? ⟨w.heap.size + 1 + 1, 1, none⟩ = some (.slice sa q sc)) := fun v hv => ⟨hv, (H4.off hv (by show ¬ (w.heap.size + 1 + 1 = w.heap.size + 1); omega)).cell 0, (H4.off hv (by show ¬ (w.heap.size + 1 + 1 = w.heap.size + 1); omega)).cell 1⟩
          replace HS := Lib.hid HS
          clear bR bH lR b4 c1 Hpr hkk
          go_wp2_with fail
          go_region_held3 (fun v => Off (fun j => j = w.heap.size + 1) w4 v ∧ v.cell? ⟨w.heap.size + 1 + 1, 0, none⟩ = some (.int .i64 (m : Nat)) ∧ v.cell? ⟨w.heap.size + 1 + 1, 1, none⟩ = some (.slice sa q sc))
            ((refine HS.out _ ?_; repeat (first | exact Off.refl _ _ | assumption | refine Off.drew ?_ | refine off_put ?_ _ _)))
            (fail)
          all_goals
            go_wp2_with fail
            refine bodyPost_ret (results_tmp_cell (b := w.heap.size + 1) Tryd.results12 rfl Tryd.underlying27 (by kernel_rfl) (by kernel_rfl) (range2 (c0 := .int .i64 (m : Nat)) (c1 := .slice sa q sc) ?_ ?_)) rfl ?_
            rotate_left 2
            · refine Fin.out _ ?_ ?_
              · repeat (first | exact Off.refl _ _ | refine Off.drew ?_ | refine off_put ?_ _ _)
              · repeat (first | exact L4 | refine Below.drew ?_ | refine Below.setCell (p := ⟨w.heap.size + 1, _, none⟩) ?_ (by show w.heap.size ≤ w.heap.size + 1; omega) _)
            all_goals go_simp
        · exact absurd hc (by simp only [newR, Int.toNat_natCast]; rw [if_neg (by omega), hnew.out]; simp)
end Go.Proofs.YtmbblhajbecomaaDoor.Graph
