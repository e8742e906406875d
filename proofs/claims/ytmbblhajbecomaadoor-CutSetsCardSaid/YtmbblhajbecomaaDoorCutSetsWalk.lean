/- The laws' walks: CutSets. -/
import Derived.Test.YtmbblhajbecomaaDoorCutWorks
import Derived.Test.YtmbblhajbecomaaDoorCutLaw
namespace Go.Proofs.YtmbblhajbecomaaDoor.Cut
open Go.RowKit
open Go.Proofs.YtmbblhajbecomaaDoor.RF Go.Proofs.YtmbblhajbecomaaDoor.Heap Go.Proofs.YtmbblhajbecomaaDoor.Nodes Go.Proofs.YtmbblhajbecomaaDoor.Graph Go.Proofs.YtmbblhajbecomaaDoor.Reach
set_option linter.unusedVariables false
set_option linter.unusedSimpArgs false
attribute [local go_sem] Oper.semAt_some
theorem results_bool {P : Program} {fn : Func} {a : Tmp} {t : TypeId} {tmps : Array Value} {w : World} {g : Nat} {p : Bool} (hr : fn.results = #[.cell a t]) (ha : tmps.getD a undef = .pointer (some ⟨g, 0, none⟩))
    (hu : ∀ w, (isAgg t).run P w = .ok false w) (hc : w.cell? ⟨g, 0, none⟩ = some (.bool p)) :
    (results fn tmps).run P w = .ok (.bool p) w := by
  have hp : (asAddr (.pointer (some ⟨g, 0, none⟩) : Value)).run P w = .ok ⟨g, 0, none⟩ w := by simp [asAddr]
  rw [Array.getD_eq_getD_getElem?] at ha
  simp [results, hr, ha, Sem.run_bind, hp, loadVar, hu, go_sem, hc, Result.andThen]
/-- What lies while the law goes on. -/
structure SInv (w : World) (f : Int) (n : Nat) (m : Int) (v : Value) (l : List Nat) (B P : Nat) (k : Nat) (b : Bool) (V : World) : Prop where
  f : Blk V w.heap.size 44 #[.int .u16 f]
  r : Blk V (w.heap.size + 1) 4 #[.bool b]
  e1 : Blk V (w.heap.size + 2) 3 #[.int .i64 (n : Nat)]
  e2 : Blk V (w.heap.size + 3) 3 #[.int .i64 m]
  own : V.ownsRow B 25 1 v l.length (uc l)
  s : Blk V P 48 #[v]
  a : Blk V (P + 1) 3 #[.int .i64 (k : Nat)]
  low : Below w.heap.size w V
theorem SInv.hush {w : World} {f : Int} {n : Nat} {m : Int} {v : Value} {l : List Nat} {B P k : Nat} {b : Bool} {V V' : World} (h : SInv w f n m v l B P k b V) {c : Nat} (t : Hush (fun _ => False) c V V') (hc : w.heap.size ≤ c) : SInv w f n m v l B P k b V' :=
  ⟨t.blk h.f id, t.blk h.r id, t.blk h.e1 id, t.blk h.e2 id, t.own h.own (fun _ h => h.elim), t.blk h.s id, t.blk h.a id, t.below h.low (Nat.le_refl _) hc (fun _ h => h.elim)⟩
theorem SInv.put {w : World} {f : Int} {n : Nat} {m : Int} {v : Value} {l : List Nat} {B P k : Nat} {b : Bool} {V : World} (h : SInv w f n m v l B P k b V) (hP : w.heap.size + 4 ≤ P) (k' : Nat) : SInv w f n m v l B P k' b (V.setCell ⟨P + 1, 0, none⟩ (.int .i64 (k' : Nat))) :=
  ⟨h.f.far (by show w.heap.size ≠ P + 1; omega) _, h.r.far (by show w.heap.size + 1 ≠ P + 1; omega) _, h.e1.far (by show w.heap.size + 2 ≠ P + 1; omega) _, h.e2.far (by show w.heap.size + 3 ≠ P + 1; omega) _,
    own_off h.own (Off.setCell (p := ⟨P + 1, 0, none⟩) (Off.refl (fun j => j = P + 1) V) (.inl rfl) _) (fun g hg c => own_free h.own h.a (by decide) (by rw [c] at hg; exact hg.symm)),
    h.s.far (by show P ≠ P + 1; omega) _, h.a.put 0 _, h.low.setCell (p := ⟨P + 1, 0, none⟩) (by show w.heap.size ≤ P + 1; omega) _⟩
theorem pre_at {p l : List Nat} {x : Nat} (h : p ++ [x] <+: l) : p.length < l.length ∧ l[p.length]? = some x := by
  obtain ⟨r, rfl⟩ := h
  simp
theorem fn_nil (a b : Nat) (w : World) : (Go.binOp .eql 46 (.func (.func 43) #[] #[.pointer (some ⟨a, 0, none⟩), .pointer (some ⟨b, 0, none⟩)]) .nilFunc).run Tryd.prog w = .ok (.bool false) w := by
  have hu := run_underlying (w := w) Tryd.underlying46
  unfold Go.binOp Op.equal Op.maxDepth Op.equalIn
  simp [Sem.run_bind, hu, Result.andThen]
set_option maxRecDepth 100000 in
set_option maxHeartbeats 8000000 in
theorem cutsets_walk (w : World) (hT : Tab w) (x y f : Int) (hx : 0 ≤ x ∧ x ≤ 255) (hy : 0 ≤ y ∧ y ≤ 255) (hf : 0 ≤ f ∧ f ≤ 65535) :
    Calls Tryd.prog 5 #[.int .u8 x, .int .u8 y, .int .u16 f] w fun e w' => e = .returned (.bool true) ∧ Below w.heap.size w w' := by
  refine callsIn_wide.1 (callsIn_of_wp_marks (n := 0) Tryd.func5 rfl trivial ?_ rfl)
  simp only [Tryd.ntmps5, List.size_toArray, List.length_cons, List.length_nil, Nat.reduceAdd, Nat.reduceSub, Array.replicate_succ, Array.replicate_zero, List.push_toArray, List.append_toArray, List.nil_append, List.cons_append]
  refine wpIn_wide.2 ?_
  obtain ⟨n, hn⟩ : ∃ n : Nat, x % 9 = (n : Int) := ⟨(x % 9).toNat, by omega⟩
  obtain ⟨m, hm⟩ : ∃ m : Int, y % 5 = m := ⟨_, rfl⟩
  have hn9 : n < 9 := by omega
  have hm4 : 0 ≤ m ∧ m ≤ 4 := by omega
  have Hn := Lib.hid hn
  have Hm := Lib.hid hm
  clear hn hm
  have hw0 := hT.size
  have wf1 : IntKind.i64.wrap f = f := IntWalk.i64_in _ (by omega)
  have wf2 : IntKind.i64.wrap (f + 1) = f + 1 := IntWalk.i64_in _ (by omega)
  obtain ⟨W, hW⟩ : ∃ W, (w.alloc (.cells #[.int .u16 f] 44)).alloc (.cells #[.bool false] 4) = W := ⟨_, rfl⟩
  have bF : Blk W w.heap.size 44 #[.int .u16 f] := by rw [← hW]; exact (Blk.new w _ _).alloc _
  have bR : Blk W (w.heap.size + 1) 4 #[.bool false] := by
    rw [← hW]
    have := Blk.new (w.alloc (.cells #[.int .u16 f] 44)) 4 #[.bool false]
    rwa [show (w.alloc (.cells #[.int .u16 f] 44)).heap.size = w.heap.size + 1 by simp] at this
  have low : Below w.heap.size w W := by rw [← hW]; exact ((Below.refl _ w).alloc (Nat.le_refl _) _).alloc (by simp) _
  have zW : W.heap.size = w.heap.size + 2 := by rw [← hW]; simp
  have HW := Lib.hid hW
  have HE := Lib.hid (fun (a b : Int) (ha : a = (n : Int)) (hb : b = m) => (show Calls Tryd.prog 22 #[.int .i64 a, .int .i64 b] W fun e w' => e = .returned (.func (.func 43) #[] #[.pointer (some ⟨w.heap.size + 2, 0, none⟩), .pointer (some ⟨w.heap.size + 3, 0, none⟩)]) ∧ EachAt W n m w' from by
    subst ha; subst hb
    have := eachcut_any n (by omega) b W
    rwa [show W.heap.size = w.heap.size + 2 from zW] at this))
  clear hW
  go_upto_region 1 with (fail)
  rw [HW.out]
  clear HW
  go_upto_region 2 with (go_at_call 22; refine (HE.out _ _ Hn.out Hm.out).mono ?_; rintro e w2 ⟨rfl, hE⟩)
  have e1 := hE.b1
  have e2 := hE.b2
  have l2 := hE.low
  rw [zW] at e1 e2
  have bF2 := bF.below l2 bF.lt
  have bR2 := bR.below l2 bR.lt
  have low2 : Below w.heap.size w w2 := low.trans (l2.mono low.size)
  have z2 : w.heap.size + 4 ≤ w2.heap.size := e2.lt
  have HR := Lib.hid (fun (a b : Int) (ha : a = (n : Int)) (hb : b = m) => (show Calls Tryd.prog 23 #[.int .i64 a, .int .i64 b] w2 fun e w' => ∃ v, e = .returned v ∧ w'.ownsRow w2.heap.size 25 1 v (setsF n m).length (uc (setsF n m)) ∧ Below w2.heap.size w2 w' from by
    subst ha; subst hb
    exact refsets_any w2 n hn9 b hm4.2))
  clear bF bR low l2 hE HE zW
  have hfn := fn_nil (w.heap.size + 2) (w.heap.size + 3) w2
  go_upto_region 5 with (go_at_call 23; refine (HR.out _ _ Hn.out Hm.out).mono ?_; rintro e w3 ⟨v, rfl, own, b3⟩; obtain ⟨A, C, rfl⟩ := own_form own)
  have z3 := b3.size
  obtain ⟨Wc, hWc⟩ : ∃ Wc, (w3.alloc (.cells #[.slice A (setsF n m).length C] 48)).alloc (.cells #[.int .i64 0] 3) = Wc := ⟨_, rfl⟩
  have hI0 : SInv w f n m (.slice A (setsF n m).length C) (setsF n m) w2.heap.size w3.heap.size 0 false Wc := by
    have lc : Below w3.heap.size w3 Wc := by rw [← hWc]; exact ((Below.refl _ w3).alloc (Nat.le_refl _) _).alloc (by simp) _
    have k1 := bF2.below b3 bF2.lt
    have k2 := bR2.below b3 bR2.lt
    have k3 := e1.below b3 e1.lt
    have k4 := e2.below b3 e2.lt
    have ka := Blk.new (w3.alloc (.cells #[.slice A (setsF n m).length C] 48)) 3 #[.int .i64 0]
    rw [hWc, show (w3.alloc (.cells #[.slice A (setsF n m).length C] 48)).heap.size = w3.heap.size + 1 by simp] at ka
    exact ⟨k1.below lc k1.lt, k2.below lc k2.lt, k3.below lc k3.lt, k4.below lc k4.lt, own_below own lc, by rw [← hWc]; exact (Blk.new w3 _ _).alloc _, ka, (low2.trans (b3.mono low2.size)).trans (lc.mono (by omega))⟩
  rw [hWc]
  have hz4 : w.heap.size + 4 ≤ w3.heap.size := by omega
  have hzc : w.heap.size + 3 < Wc.heap.size := hI0.e2.lt
  have hfew := sets_few (m := m) hn9
  clear hWc e1 e2 bF2 bR2 low2 own b3 hfn HR z3
  go_wp2_with fail
  have hseq := eachcut_gives (w.heap.size + 2) (w.heap.size + 3) n m hn9 hm4.2 Wc hI0.e1 hI0.e2
  refine wpIn_wide.1 (range_law (n := 0) rfl (enters_of Tryd.func43 (by kernel_rfl) rfl) hseq (K := fun _ => False) (fun A C h => by subst h; exact Off.refl _ _) (fun k hk => hk.elim) (fun k hk => by rcases hk with rfl | rfl <;> omega) (fun x => rfl)
    (fun pre V => SInv w f n m (.slice A (setsF n m).length C) (setsF n m) w2.heap.size w3.heap.size pre.length false V ∧ (pre.length : Int) ≤ f)
    (fun c pre V => c = .exit 0 ∧ SInv w f n m (.slice A (setsF n m).length C) (setsF n m) w2.heap.size w3.heap.size pre.length false V ∧ (pre.length : Int) = f + 1)
    (own_of_hush (K := fun _ => False) fun s A B h k => ⟨h.1.hush k (by omega), h.2⟩) (fun c => own_of_hush (K := fun _ => False) fun s A B h k => ⟨h.1, h.2.1.hush k (by omega), h.2.2⟩)
    (fun s A B h hAB => by subst hAB; exact h) (fun c s A B h hAB => by subst hAB; exact h) ⟨hI0, hf.1⟩ ?a1 ?assign ?body ?done ?stop)
  case assign =>
    intro l x V R hR
    gi_wp2
    exact hR
  case body =>
    rintro l pre z V hzV ⟨hIV, hle⟩ hpre
    obtain ⟨h1, h2⟩ := pre_at hpre
    obtain ⟨g, cap, hv, hcell, hg⟩ := own_at hIV.own (show (uc (setsF n m))[pre.length]? = some (.int .u64 (z : Nat)) by simp [uc, h2])
    simp only [Value.slice.injEq] at hv
    obtain ⟨rfl, _, rfl⟩ := hv
    have cs : V.cell? ⟨w3.heap.size, 0, none⟩ = some (.slice (some ⟨g, 0, none⟩) (setsF n m).length C) := hIV.s.cell 0
    have ca : V.cell? ⟨w3.heap.size + 1, 0, none⟩ = some (.int .i64 (pre.length : Nat)) := hIV.a.cell 0
    have cf : V.cell? ⟨w.heap.size, 0, none⟩ = some (.int .u16 f) := hIV.f.cell 0
    have fa : V.frozen? ⟨w3.heap.size + 1, 0, none⟩ = false := hIV.a.frozen 0
    have HI := Lib.hid (hIV.put hz4 (pre.length + 1))
    have lea := hIV.a
    have le1 := hIV.e1.lt
    have le2 := hIV.e2.lt
    have hpl : (pre ++ [z]).length = pre.length + 1 := by simp
    have t1 : ¬ ((setsF n m).length : Int) ≤ (pre.length : Int) := by omega
    have t2 : IntKind.i64.wrap ((pre.length : Int) + 1) = ((pre.length + 1 : Nat) : Int) := by rw [show (pre.length : Int) + 1 = ((pre.length + 1 : Nat) : Int) by omega]; exact IntWalk.i64_in _ (by omega)
    have t3 : (0 : Int) ≤ (pre.length : Int) := by omega
    have t4 : (pre.length : Int) < ((setsF n m).length : Int) := by omega
    have oV : Off (fun k => k = w3.heap.size + 1) V (V.setCell ⟨w3.heap.size + 1, 0, none⟩ (.int .i64 ((pre.length + 1 : Nat) : Int))) := Off.setCell (p := ⟨w3.heap.size + 1, 0, none⟩) (Off.refl (fun k => k = w3.heap.size + 1) V) (.inl rfl) _
    have HO := Lib.hid oV
    have HA := Lib.hid lea
    clear oV lea hIV hseq hI0 hpre
    by_cases hgt : f < ((pre.length + 1 : Nat) : Int)
    · have hgt2 : (pre.length : Int) + 1 > f := by omega
      gi_wp2
      refine ⟨off_stays (K := fun k => k = w3.heap.size + 1) HO.out (fun k hk => by subst hk; exact ⟨_, _, HA.out⟩) (fun k hk => by
        rcases hk with rfl | rfl
        · exact ⟨le1, by omega⟩
        · exact ⟨le2, by omega⟩), rfl, by rw [hpl]; exact HI.out, by rw [hpl]; omega⟩
    · have hgt2 : ¬ (pre.length : Int) + 1 > f := by omega
      gi_wp2
      refine ⟨off_stays (K := fun k => k = w3.heap.size + 1) HO.out (fun k hk => by subst hk; exact ⟨_, _, HA.out⟩) (fun k hk => by
        rcases hk with rfl | rfl
        · exact ⟨le1, by omega⟩
        · exact ⟨le2, by omega⟩), by rw [hpl]; exact HI.out, by rw [hpl]; omega⟩
  case done =>
    rintro D xs V hD rfl ⟨hIV, hle⟩ hd
    have HWk := Lib.hid (cutworks_any V (hT.below hIV.low hw0))
    have cs : V.cell? ⟨w3.heap.size, 0, none⟩ = some (.slice A (setsF n m).length C) := hIV.s.cell 0
    have ca : V.cell? ⟨w3.heap.size + 1, 0, none⟩ = some (.int .i64 ((setsF n m).length : Nat)) := hIV.a.cell 0
    have cf : V.cell? ⟨w.heap.size, 0, none⟩ = some (.int .u16 f) := hIV.f.cell 0
    have HR := Lib.hid hIV.r
    have HLo := Lib.hid hIV.low
    have hmin : min ((setsF n m).length : Int) (f + 1) = ((setsF n m).length : Nat) := by omega
    clear hseq hI0 hIV hT
    go_wp2_with (go_at_call 18; refine HWk.out.mono ?_; rintro e w9 ⟨rfl, b9⟩; have r9 := HR.out.below b9 HR.out.lt; have f9 : w9.frozen? ⟨w.heap.size + 1, 0, none⟩ = false := r9.frozen 0; have c9 : w9.cell? ⟨w.heap.size + 1, 0, none⟩ = some (.bool false) := r9.cell 0; have d9 := (b9.block D (Array.getElem?_eq_some_iff.1 hd).1).trans hd)
    all_goals
     refine leaves_marks (mark_one (b := w.heap.size) (by omega) ?_) fun w' hB hC => ?_
     · rw [Below.heap_setCell _ ⟨w.heap.size + 1, 0, none⟩ _ D (by show D ≠ w.heap.size + 1; omega)]
       exact d9
     have c1 := hC _ _ (r9.put 0 (.bool true)) rfl
     exact ⟨_, results_bool rfl rfl (fun v => rfl) (Blk.cell c1 0), rfl, ((HLo.out.trans (b9.mono HLo.out.size)).setCell (p := ⟨w.heap.size + 1, 0, none⟩) (by show w.heap.size ≤ w.heap.size + 1; omega) _).trans hB⟩
  case stop =>
    rintro D c pre V hD hpre ⟨rfl, hIV, hle⟩ hd
    have hpl : pre.length ≤ (setsF n m).length := hpre.length_le
    have HWk := Lib.hid (cutworks_any V (hT.below hIV.low hw0))
    have cs : V.cell? ⟨w3.heap.size, 0, none⟩ = some (.slice A (setsF n m).length C) := hIV.s.cell 0
    have ca : V.cell? ⟨w3.heap.size + 1, 0, none⟩ = some (.int .i64 (pre.length : Nat)) := hIV.a.cell 0
    have cf : V.cell? ⟨w.heap.size, 0, none⟩ = some (.int .u16 f) := hIV.f.cell 0
    have HR := Lib.hid hIV.r
    have HLo := Lib.hid hIV.low
    have hmin : min ((setsF n m).length : Int) (f + 1) = (pre.length : Nat) := by omega
    clear hseq hI0 hIV hT
    refine wpIn_wide.2 ?_
    go_wp2_with (go_at_call 18; refine HWk.out.mono ?_; rintro e w9 ⟨rfl, b9⟩; have r9 := HR.out.below b9 HR.out.lt; have f9 : w9.frozen? ⟨w.heap.size + 1, 0, none⟩ = false := r9.frozen 0; have c9 : w9.cell? ⟨w.heap.size + 1, 0, none⟩ = some (.bool false) := r9.cell 0; have d9 := (b9.block D (Array.getElem?_eq_some_iff.1 hd).1).trans hd)
    all_goals
     refine leaves_marks (mark_one (b := w.heap.size) (by omega) ?_) fun w' hB hC => ?_
     · rw [Below.heap_setCell _ ⟨w.heap.size + 1, 0, none⟩ _ D (by show D ≠ w.heap.size + 1; omega)]
       exact d9
     have c1 := hC _ _ (r9.put 0 (.bool true)) rfl
     exact ⟨_, results_bool rfl rfl (fun v => rfl) (Blk.cell c1 0), rfl, ((HLo.out.trans (b9.mono HLo.out.size)).setCell (p := ⟨w.heap.size + 1, 0, none⟩) (by show w.heap.size ≤ w.heap.size + 1; omega) _).trans hB⟩
end Go.Proofs.YtmbblhajbecomaaDoor.Cut
