/- cut's Cuts and First, walked. -/
import Derived.Test.YtmbblhajbecomaaDoorCutIter
import Derived.Test.YtmbblhajbecomaaDoorWideGo
namespace Go.Proofs.YtmbblhajbecomaaDoor.Cut
open Go.RowKit
open Go.Proofs.YtmbblhajbecomaaDoor.RF Go.Proofs.YtmbblhajbecomaaDoor.Heap Go.Proofs.YtmbblhajbecomaaDoor.Nodes Go.Proofs.YtmbblhajbecomaaDoor.Graph Go.Proofs.YtmbblhajbecomaaDoor.Reach
set_option linter.unusedVariables false
set_option linter.unusedSimpArgs false
attribute [local go_sem] Oper.semAt_some
/-- Do these nodes cut it? -/
def cutsB (near : List Nat) (s : Nat) : Bool := !decide (0 ≤ wideF near s)
theorem cuts_any {w : World} {G R : Nat} {near : List Nat} (hg : GraphAt w G R near) (hT : Tab w) (ok : Ok near) (sy : Sym near) (s : Nat) (hs : s < 2 ^ 64) :
    Calls Tryd.prog 16 #[.pointer (some ⟨G, 0, none⟩), .int .u64 (s : Nat)] w fun e w' => e = .returned (.bool (cutsB near s)) ∧ Below w.heap.size w w' := by
  have H := whole_any hg hT ok sy s hs
  unfold cutsB
  obtain ⟨b, hb⟩ : ∃ b, decide (0 ≤ wideF near s) = b := ⟨_, rfl⟩
  rw [hb] at H ⊢
  have H := Lib.hid H
  clear hb
  go_enter Tryd.func16, Tryd.ntmps16
  go_wp2_with (go_at_call 41; refine H.out.mono ?_; rintro e w' ⟨rfl, b1⟩)
  go_ret
  exact ⟨rfl, b1⟩
/-- The first set that cuts it. -/
def firstF (near : List Nat) (m : Int) : Option Nat := (setsF near.length m).find? (cutsB near)
theorem find_none {f : Nat → Bool} {l : List Nat} (h : ∀ x ∈ l, f x = false) : l.find? f = none := by
  rw [List.find?_eq_none]
  intro x hx
  rw [h x hx]; decide
theorem find_some {f : Nat → Bool} {p l : List Nat} {x : Nat} (h : ∀ y ∈ p, f y = false) (hx : f x = true) (hp : p ++ [x] <+: l) : l.find? f = some x := by
  obtain ⟨r, rfl⟩ := hp
  rw [List.append_assoc, List.find?_append, find_none h]
  simp [hx]
theorem results_two {P : Program} {fn : Func} {a b : Tmp} {t u : TypeId} {tmps : Array Value} {w : World} {g h : Nat} {x : Int} {p : Bool} (hr : fn.results = #[.cell a t, .cell b u]) (ha : tmps.getD a undef = .pointer (some ⟨g, 0, none⟩)) (hb : tmps.getD b undef = .pointer (some ⟨h, 0, none⟩))
    (hu : ∀ w, (isAgg t).run P w = .ok false w) (hv : ∀ w, (isAgg u).run P w = .ok false w) (hc : w.cell? ⟨g, 0, none⟩ = some (.int .u64 x)) (hd : w.cell? ⟨h, 0, none⟩ = some (.bool p)) :
    (results fn tmps).run P w = .ok (.tuple #[.int .u64 x, .bool p]) w := by
  have hp : (asAddr (.pointer (some ⟨g, 0, none⟩) : Value)).run P w = .ok ⟨g, 0, none⟩ w := by simp [asAddr]
  have hq : (asAddr (.pointer (some ⟨h, 0, none⟩) : Value)).run P w = .ok ⟨h, 0, none⟩ w := by simp [asAddr]
  rw [Array.getD_eq_getD_getElem?] at ha hb
  simp [results, hr, ha, hb, Sem.run_bind, hp, hq, loadVar, hu, hv, go_sem, hc, hd, Result.andThen]
/-- What lies while First goes on. -/
structure FInv (w : World) (G n : Nat) (m : Int) (r : Int) (b : Bool) (W : World) : Prop where
  g : Blk W w.heap.size 26 #[.pointer (some ⟨G, 0, none⟩)]
  r1 : Blk W (w.heap.size + 1) 31 #[.int .u64 r]
  r2 : Blk W (w.heap.size + 2) 4 #[.bool b]
  e1 : Blk W (w.heap.size + 3) 3 #[.int .i64 (n : Nat)]
  e2 : Blk W (w.heap.size + 4) 3 #[.int .i64 m]
  low : Below w.heap.size w W
theorem FInv.hush {w : World} {G n : Nat} {m r : Int} {b : Bool} {W V : World} (h : FInv w G n m r b W) {c : Nat} (k : Hush (fun _ => False) c W V) (hc : w.heap.size ≤ c) : FInv w G n m r b V :=
  ⟨k.blk h.g id, k.blk h.r1 id, k.blk h.r2 id, k.blk h.e1 id, k.blk h.e2 id, k.below h.low (Nat.le_refl _) hc (fun _ h => h.elim)⟩
theorem FInv.below {w : World} {G n : Nat} {m r : Int} {b : Bool} {W V : World} (h : FInv w G n m r b W) (k : Below W.heap.size W V) : FInv w G n m r b V :=
  ⟨h.g.below k h.g.lt, h.r1.below k h.r1.lt, h.r2.below k h.r2.lt, h.e1.below k h.e1.lt, h.e2.below k h.e2.lt, h.low.trans (k.mono h.low.size)⟩
theorem FInv.put {w : World} {G n : Nat} {m r : Int} {b : Bool} {W : World} (h : FInv w G n m r b W) (x : Int) (c : Bool) : FInv w G n m x c ((W.setCell ⟨w.heap.size + 1, 0, none⟩ (.int .u64 x)).setCell ⟨w.heap.size + 2, 0, none⟩ (.bool c)) :=
  ⟨(h.g.far (by show w.heap.size ≠ w.heap.size + 1; omega) _).far (by show w.heap.size ≠ w.heap.size + 2; omega) _, (h.r1.put 0 _).far (by show w.heap.size + 1 ≠ w.heap.size + 2; omega) _, (h.r2.far (by show w.heap.size + 2 ≠ w.heap.size + 1; omega) _).put 0 _,
    (h.e1.far (by show w.heap.size + 3 ≠ w.heap.size + 1; omega) _).far (by show w.heap.size + 3 ≠ w.heap.size + 2; omega) _, (h.e2.far (by show w.heap.size + 4 ≠ w.heap.size + 1; omega) _).far (by show w.heap.size + 4 ≠ w.heap.size + 2; omega) _,
    (h.low.setCell (p := ⟨w.heap.size + 1, 0, none⟩) (by show w.heap.size ≤ w.heap.size + 1; omega) _).setCell (p := ⟨w.heap.size + 2, 0, none⟩) (by show w.heap.size ≤ w.heap.size + 2; omega) _⟩
/-- Where First tells a set. -/
def FStop (w : World) (G : Nat) (near : List Nat) (m : Int) (c : Code) (pre : List Nat) (V : World) : Prop := c = .ret ∧ ∃ (p : List Nat) (x : Nat), pre = p ++ [x] ∧ (∀ y ∈ p, cutsB near y = false) ∧ cutsB near x = true ∧ FInv w G near.length m x true V
/-- What First tells. -/
def Firsts (near : List Nat) (m : Int) (w : World) (e : Ending) (w' : World) : Prop := e = .returned (.tuple #[.int .u64 ((firstF near m).getD 0 : Nat), .bool (firstF near m).isSome]) ∧ Below w.heap.size w w'
theorem min3 (f : Int) : min f 3 = if f < 3 then f else 3 := by split <;> omega
set_option maxRecDepth 100000 in
set_option maxHeartbeats 4000000 in
theorem first_any {w : World} {G R : Nat} {near : List Nat} (hg : GraphAt w G R near) (hT : Tab w) (ok : Ok near) (sy : Sym near) (h9 : near.length < 9) (f : Int) :
    Calls Tryd.prog 14 #[.pointer (some ⟨G, 0, none⟩), .int .i64 f] w fun e w' => Firsts near (min f 3) w e w' := by
  refine callsIn_wide.1 (callsIn_of_wp_marks (n := 0) Tryd.func14 rfl trivial ?_ rfl)
  simp only [Tryd.ntmps14, List.size_toArray, List.length_cons, List.length_nil, Nat.reduceAdd, Nat.reduceSub, Array.replicate_succ, Array.replicate_zero, List.push_toArray, List.append_toArray, List.nil_append, List.cons_append]
  refine wpIn_wide.2 ?_
  obtain ⟨m, hm⟩ : ∃ m, min f 3 = m := ⟨_, rfl⟩
  rw [hm]
  have hm4 : m ≤ 4 := by omega
  have hw0 := hT.size
  obtain ⟨W, hW⟩ : ∃ W, ((w.alloc (.cells #[.pointer (some ⟨G, 0, none⟩)] 26)).alloc (.cells #[.int .u64 0] 31)).alloc (.cells #[.bool false] 4) = W := ⟨_, rfl⟩
  have z1 : (w.alloc (.cells #[.pointer (some ⟨G, 0, none⟩)] 26)).heap.size = w.heap.size + 1 := by simp
  have z2 : ((w.alloc (.cells #[.pointer (some ⟨G, 0, none⟩)] 26)).alloc (.cells #[.int .u64 0] 31)).heap.size = w.heap.size + 2 := by simp
  have bG : Blk W w.heap.size 26 #[.pointer (some ⟨G, 0, none⟩)] := by rw [← hW]; exact ((Blk.new w _ _).alloc _).alloc _
  have b1 : Blk W (w.heap.size + 1) 31 #[.int .u64 0] := by
    rw [← hW]
    have := Blk.new (w.alloc (.cells #[.pointer (some ⟨G, 0, none⟩)] 26)) 31 #[.int .u64 0]
    rw [z1] at this
    exact this.alloc _
  have b2 : Blk W (w.heap.size + 2) 4 #[.bool false] := by
    rw [← hW]
    have := Blk.new ((w.alloc (.cells #[.pointer (some ⟨G, 0, none⟩)] 26)).alloc (.cells #[.int .u64 0] 31)) 4 #[.bool false]
    rwa [z2] at this
  have low : Below w.heap.size w W := by rw [← hW]; exact (((Below.refl _ w).alloc (Nat.le_refl _) _).alloc (by simp) _).alloc (by simp; omega) _
  have zW : W.heap.size = w.heap.size + 3 := by rw [← hW]; simp
  have HW := Lib.hid hW
  have cg : W.cell? ⟨w.heap.size, 0, none⟩ = some (.pointer (some ⟨G, 0, none⟩)) := bG.cell 0
  have HN := Lib.hid (n_any (hg.below low (Nat.le_refl _)))
  have HE := Lib.hid (fun (x : Int) (hx : x = m) => (show Calls Tryd.prog 22 #[.int .i64 (near.length : Nat), .int .i64 x] W fun e w' => e = .returned (.func (.func 43) #[] #[.pointer (some ⟨w.heap.size + 3, 0, none⟩), .pointer (some ⟨w.heap.size + 4, 0, none⟩)]) ∧ EachAt W near.length m w' from by
    subst hx
    have := eachcut_any near.length (by omega) x W
    rwa [show W.heap.size = w.heap.size + 3 from zW] at this))
  clear hW z1 z2
  go_upto_region 1 with (rw [HW.out])
  go_cut [11] from 7 to 11 (fun s11 V => s11 = .func (.func 43) #[] #[.pointer (some ⟨w.heap.size + 3, 0, none⟩), .pointer (some ⟨w.heap.size + 4, 0, none⟩)] ∧ RowKit.Hid (EachAt W near.length m V))
  case first =>
    go_wp2_with (first
      | (go_at_call 40; refine HN.out.mono ?_; rintro e w' ⟨rfl, h⟩; rw [h]; clear h w')
      | (go_at_call 22; refine (HE.out _ (by omega)).mono ?_; rintro e w' ⟨rfl, hE⟩))
    all_goals
      go_meet
      exact ⟨rfl, Lib.hid hE⟩
  case rest =>
    obtain ⟨rfl, hE⟩ := hcut
    have hI0 : FInv w G near.length m 0 false wc := by
      have e1 := hE.out.b1
      have e2 := hE.out.b2
      have l1 := hE.out.low
      rw [zW] at e1 e2
      exact ⟨bG.below l1 bG.lt, b1.below l1 b1.lt, b2.below l1 b2.lt, e1, e2, low.trans (l1.mono (by omega))⟩
    have hzc := hI0.e2.lt
    clear bG b1 b2 low zW cg HN HE HW hE hm
    go_wp2_with fail
    have hseq := eachcut_gives (w.heap.size + 3) (w.heap.size + 4) near.length m h9 hm4 wc hI0.e1 hI0.e2
    refine wpIn_wide.1 (range_law (n := 0) rfl (enters_of Tryd.func43 (by kernel_rfl) rfl) hseq (K := fun _ => False) (fun A C h => by subst h; exact Off.refl _ _) (fun k hk => hk.elim) (fun k hk => by rcases hk with rfl | rfl <;> omega) (fun x => rfl)
      (fun pre V => FInv w G near.length m 0 false V ∧ ∀ y ∈ pre, cutsB near y = false) (fun c pre V => FStop w G near m c pre V)
      (own_of_hush (K := fun _ => False) fun s A B h k => ⟨h.1.hush k (by omega), h.2⟩) (fun c => own_of_hush (K := fun _ => False) fun s A B h k => by
        obtain ⟨h1, p, x, h2, h3, h4, h5⟩ := h
        exact ⟨h1, p, x, h2, h3, h4, h5.hush k (by omega)⟩) (fun s A B h hAB => by subst hAB; exact h) (fun c s A B h hAB => by subst hAB; exact h) ⟨hI0, fun y hy => by cases hy⟩
      (fun s => { tmps := #[.pointer (some ⟨G, 0, none⟩), .int .i64 f, .pointer (some ⟨w.heap.size, 0, none⟩), undef, .pointer (some ⟨w.heap.size + 1, 0, none⟩), .pointer (some ⟨w.heap.size + 1 + 1, 0, none⟩), .int .u64 (s : Nat), u7, u8, u9, u10, .func (.func 43) #[] #[.pointer (some ⟨w.heap.size + 3, 0, none⟩), .pointer (some ⟨w.heap.size + 4, 0, none⟩)], .int .u64 (s : Nat), undef, undef, undef, undef], defers := [] }) ?assign ?body ?done ?stop)
    case assign =>
      intro l x V R hR
      gi_wp2
      exact hR
    case body =>
      rintro l pre x V hzV ⟨hIV, hno⟩ hpre
      have hmem : x ∈ setsF near.length m := hpre.subset (by simp)
      have hx64 : x < 2 ^ 64 := by
        have h1 := (mem_setsTo.1 hmem).1
        have h2 : 2 ^ near.length ≤ 2 ^ 8 := Nat.pow_le_pow_right (by omega) (by omega)
        omega
      have HC := (callsIn_wide (n := 0)).2 (cuts_any (hg.below hIV.low (Nat.le_refl _)) (hT.below hIV.low hw0) ok sy x hx64)
      have cg : V.cell? ⟨w.heap.size, 0, none⟩ = some (.pointer (some ⟨G, 0, none⟩)) := hIV.g.cell 0
      obtain ⟨b, hb⟩ : ∃ b, cutsB near x = b := ⟨_, rfl⟩
      rw [hb] at HC
      have HC := Lib.hid HC
      have Hb := Lib.hid hb
      have HIV := Lib.hid hIV
      have Hno := Lib.hid hno
      clear hmem hb hIV hno hseq hI0 hpre
      gi_wp2
      refine ⟨trivial, rfl, (CallsIn.inRound l HC.out).mono ?_⟩
      rintro e V1 ⟨rfl, k1⟩
      have HI1 := Lib.hid (HIV.out.below k1)
      have le1 := HIV.out.e1.lt
      have le2 := HIV.out.e2.lt
      have zV := k1.size
      have oV : Off (fun _ => False) V V1 := Off.of_below k1 (fun k h1 h2 => by omega)
      cases b
      · gi_wp2
        refine ⟨off_stays (K := fun _ => False) oV (fun k hk => hk.elim) (fun k hk => ?_), HI1.out, fun y hy => ?_⟩
        · rcases hk with rfl | rfl
          · exact ⟨le1, id⟩
          · exact ⟨le2, id⟩
        · rcases List.mem_append.1 hy with h | h
          · exact Hno.out y h
          · simp at h; subst h; exact Hb.out
      · have f1 : V1.frozen? ⟨w.heap.size + 1, 0, none⟩ = false := HI1.out.r1.frozen 0
        have f2 : V1.frozen? ⟨w.heap.size + 1 + 1, 0, none⟩ = false := HI1.out.r2.frozen 0
        have g1 : V1.cell? ⟨w.heap.size + 1, 0, none⟩ = some (.int .u64 0) := HI1.out.r1.cell 0
        have g2 : V1.cell? ⟨w.heap.size + 1 + 1, 0, none⟩ = some (.bool false) := HI1.out.r2.cell 0
        have r1 := HIV.out.r1
        have r2 := HIV.out.r2
        gi_wp2
        refine ⟨off_stays (K := fun k => k = w.heap.size + 1 ∨ k = w.heap.size + 2) (((oV.mono (fun k _ h => h.elim)).setCell (p := ⟨w.heap.size + 1, 0, none⟩) (.inl (.inl rfl)) _).setCell (p := ⟨w.heap.size + 1 + 1, 0, none⟩) (.inl (.inr rfl)) _) (fun k hk => ?_) (fun k hk => ?_), rfl, pre, x, rfl, Hno.out, Hb.out, HI1.out.put _ _⟩
        · rcases hk with rfl | rfl
          · exact ⟨_, _, r1⟩
          · exact ⟨_, _, r2⟩
        · rcases hk with rfl | rfl
          · exact ⟨le1, by omega⟩
          · exact ⟨le2, by omega⟩
    case done =>
      rintro D xs V hD rfl ⟨hIV, hno⟩ hd
      have Hf := Lib.hid (show firstF near m = none from find_none hno)
      have f1 : V.frozen? ⟨w.heap.size + 1, 0, none⟩ = false := hIV.r1.frozen 0
      have f2 : V.frozen? ⟨w.heap.size + 1 + 1, 0, none⟩ = false := hIV.r2.frozen 0
      have g1 : V.cell? ⟨w.heap.size + 1, 0, none⟩ = some (.int .u64 0) := hIV.r1.cell 0
      have g2 : V.cell? ⟨w.heap.size + 1 + 1, 0, none⟩ = some (.bool false) := hIV.r2.cell 0
      have HP := Lib.hid (hIV.put 0 false)
      clear hIV hno hseq hI0
      go_wp2_with fail
      refine leaves_marks (mark_one (b := w.heap.size) (by omega) ?_) fun w' hB hC => ?_
      · rw [Below.heap_setCell _ ⟨w.heap.size + 1 + 1, 0, none⟩ _ D (by show D ≠ w.heap.size + 1 + 1; omega), Below.heap_setCell _ ⟨w.heap.size + 1, 0, none⟩ _ D (by show D ≠ w.heap.size + 1; omega)]
        exact hd
      have c1 := hC _ _ HP.out.r1 rfl
      have c2 := hC _ _ HP.out.r2 rfl
      exact ⟨_, results_two rfl rfl rfl (fun v => rfl) (fun v => rfl) (Blk.cell c1 0) (Blk.cell c2 0), by rw [Hf.out]; rfl, HP.out.low.trans hB⟩
    case stop =>
      rintro D c pre V hD hpre ⟨rfl, p, x, rfl, hno, hx, hIV⟩ hd
      have Hf := Lib.hid (show firstF near m = some x from find_some hno hx hpre)
      have HP := Lib.hid hIV
      clear hIV hno hseq hI0 hpre hx
      refine wpIn_wide.2 ?_
      go_wp2_with fail
      refine leaves_marks (mark_one (b := w.heap.size) (by omega) hd) fun w' hB hC => ?_
      have c1 := hC _ _ HP.out.r1 rfl
      have c2 := hC _ _ HP.out.r2 rfl
      exact ⟨_, results_two rfl rfl rfl (fun v => rfl) (fun v => rfl) (Blk.cell c1 0) (Blk.cell c2 0), by rw [Hf.out]; rfl, HP.out.low.trans hB⟩
end Go.Proofs.YtmbblhajbecomaaDoor.Cut
namespace Go.Proofs.YtmbblhajbecomaaDoor.Cut
open Go.RowKit
open Go.Proofs.YtmbblhajbecomaaDoor.RF Go.Proofs.YtmbblhajbecomaaDoor.Heap Go.Proofs.YtmbblhajbecomaaDoor.Nodes Go.Proofs.YtmbblhajbecomaaDoor.Graph Go.Proofs.YtmbblhajbecomaaDoor.Reach
set_option linter.unusedVariables false
set_option linter.unusedSimpArgs false
/-- Does it stay whole, whichever f nodes fail? -/
def safeF (near : List Nat) (f : Int) : Bool := decide (0 ≤ f) && decide (f ≤ 3) && decide (f < (near.length : Int)) && (firstF near f).isNone
theorem safe_no {near : List Nat} {f : Int} (h : f < 0 ∨ 3 < f ∨ (near.length : Int) ≤ f) : safeF near f = false := by
  unfold safeF
  rcases h with h | h | h
  · rw [decide_eq_false (by omega)]; rfl
  · rw [decide_eq_false (p := f ≤ 3) (by omega)]; simp
  · rw [decide_eq_false (p := f < (near.length : Int)) (by omega)]; simp
theorem safe_yes {near : List Nat} {f : Int} (h1 : 0 ≤ f) (h2 : f ≤ 3) (h3 : f < (near.length : Int)) : safeF near f = !(firstF near f).isSome := by
  unfold safeF
  rw [decide_eq_true h1, decide_eq_true h2, decide_eq_true h3]
  cases firstF near f <;> rfl
theorem safe_any {w : World} {G R : Nat} {near : List Nat} (hg : GraphAt w G R near) (hT : Tab w) (ok : Ok near) (sy : Sym near) (h9 : near.length < 9) (f : Int) :
    Calls Tryd.prog 20 #[.pointer (some ⟨G, 0, none⟩), .int .i64 f] w fun e w' => e = .returned (.bool (safeF near f)) ∧ Below w.heap.size w w' := by
  have HN := Lib.hid (n_any hg)
  by_cases h1 : f < 0
  · rw [safe_no (.inl h1)]
    clear HN
    go_enter Tryd.func20, Tryd.ntmps20
    go_wp2_with fail
    go_ret
    exact ⟨rfl, Below.refl _ _⟩
  · by_cases h2 : 3 < f
    · rw [safe_no (.inr (.inl h2))]
      clear HN
      go_enter Tryd.func20, Tryd.ntmps20
      go_wp2_with fail
      go_ret
      exact ⟨rfl, Below.refl _ _⟩
    · by_cases h3 : (near.length : Int) ≤ f
      · rw [safe_no (.inr (.inr h3))]
        go_enter Tryd.func20, Tryd.ntmps20
        go_wp2_with (go_at_call 40; refine HN.out.mono ?_; rintro e w' ⟨rfl, h⟩; rw [h]; clear h w')
        go_ret
        exact ⟨rfl, Below.refl _ _⟩
      · have HF := first_any hg hT ok sy h9 f
        rw [show min f 3 = f by omega] at HF
        unfold Firsts at HF
        rw [safe_yes (by omega) (by omega) (by omega)]
        obtain ⟨s, hs⟩ : ∃ s, (firstF near f).getD 0 = s := ⟨_, rfl⟩
        obtain ⟨b, hb⟩ : ∃ b, (firstF near f).isSome = b := ⟨_, rfl⟩
        rw [hs, hb] at HF
        rw [hb]
        have HF := Lib.hid HF
        clear hs hb
        go_enter Tryd.func20, Tryd.ntmps20
        go_wp2_with (first
          | (go_at_call 40; refine HN.out.mono ?_; rintro e w' ⟨rfl, h⟩; rw [h]; clear h w')
          | (go_at_call 14; refine HF.out.mono ?_; rintro e w1 ⟨rfl, l1⟩))
        go_ret
        exact ⟨rfl, l1⟩
/-- How many may fail. -/
def strF (near : List Nat) : Int := if safeF near 3 = true then 3 else if safeF near 2 = true then 2 else if safeF near 1 = true then 1 else if safeF near 0 = true then 0 else -1
theorem strF_at {near : List Nat} {f : Int} (h : f = 3 ∨ f = 2 ∨ f = 1 ∨ f = 0) (hn : ∀ k, f < k → k ≤ 3 → safeF near k = false) (hy : safeF near f = true) : strF near = f := by
  unfold strF
  rcases h with rfl | rfl | rfl | rfl
  · rw [if_pos hy]
  · rw [if_neg (by rw [hn 3 (by omega) (by omega)]; decide), if_pos hy]
  · rw [if_neg (by rw [hn 3 (by omega) (by omega)]; decide), if_neg (by rw [hn 2 (by omega) (by omega)]; decide), if_pos hy]
  · rw [if_neg (by rw [hn 3 (by omega) (by omega)]; decide), if_neg (by rw [hn 2 (by omega) (by omega)]; decide), if_neg (by rw [hn 1 (by omega) (by omega)]; decide), if_pos hy]
theorem strF_none {near : List Nat} (hn : ∀ k, -1 < k → k ≤ 3 → safeF near k = false) : strF near = -1 := by
  unfold strF
  rw [if_neg (by rw [hn 3 (by omega) (by omega)]; decide), if_neg (by rw [hn 2 (by omega) (by omega)]; decide), if_neg (by rw [hn 1 (by omega) (by omega)]; decide), if_neg (by rw [hn 0 (by omega) (by omega)]; decide)]
theorem strength_any {w : World} {G R : Nat} {near : List Nat} (hg : GraphAt w G R near) (hT : Tab w) (ok : Ok near) (sy : Sym near) (h9 : near.length < 9) :
    Calls Tryd.prog 21 #[.pointer (some ⟨G, 0, none⟩)] w fun e w' => e = .returned (.int .i64 (strF near)) ∧ Below w.heap.size w w' := by
  have HS := Lib.hid (fun (f : Int) (V : World) (k : Below w.heap.size w V) => safe_any (hg.below k (Nat.le_refl _)) (hT.below k hT.size) ok sy h9 f)
  go_enter Tryd.func21, Tryd.ntmps21
  go_wp2_with fail
  go_loopw [3] (fun v3 wr => ∃ f : Int, v3 = .int .i64 f ∧ -1 ≤ f ∧ f ≤ 3 ∧ RowKit.Hid (∀ k, f < k → k ≤ 3 → safeF near k = false) ∧ Below w.heap.size w wr) (fun v3 _ => match v3 with | .int _ f => (f + 1).toNat | _ => 0)
  case atStart => exact ⟨3, rfl, by omega, by omega, Lib.hid (fun k h1 h2 => by omega), Below.refl _ _⟩
  case round =>
    obtain ⟨f, rfl, h1, h3, Hn, lR⟩ := hrel
    have HR := Lib.hid lR
    by_cases h0 : 0 ≤ f
    · have HSf := HS.out f wr lR
      rcases hb : safeF near f with _ | _
      · rw [hb] at HSf
        have HSf := Lib.hid HSf
        have Hn2 := Lib.hid (show ∀ k, f - 1 < k → k ≤ 3 → safeF near k = false from fun k h4 h5 => by
          rcases Int.lt_or_le f k with c | c
          · exact Hn.out k c h5
          · rw [show k = f by omega]; exact hb)
        clear hb lR HS
        go_wp2_with (go_at_call 20; refine HSf.out.mono ?_; rintro e w1 ⟨rfl, l1⟩)
        go_round
        case rel => exact ⟨f - 1, rfl, by omega, by omega, Hn2, HR.out.trans (l1.mono HR.out.size)⟩
        case measure => simp; omega
      · rw [hb] at HSf
        have HSf := Lib.hid HSf
        have Hst := Lib.hid (strF_at (by omega) Hn.out hb)
        clear hb lR HS
        go_wp2_with (go_at_call 20; refine HSf.out.mono ?_; rintro e w1 ⟨rfl, l1⟩)
        go_ret
        exact ⟨by rw [Hst.out]; rfl, HR.out.trans (l1.mono HR.out.size)⟩
    · obtain rfl : f = -1 := by omega
      have Hst := Lib.hid (strF_none Hn.out)
      clear lR
      go_wp2_with fail
      go_ret
      exact ⟨by rw [Hst.out]; rfl, HR.out⟩
end Go.Proofs.YtmbblhajbecomaaDoor.Cut
