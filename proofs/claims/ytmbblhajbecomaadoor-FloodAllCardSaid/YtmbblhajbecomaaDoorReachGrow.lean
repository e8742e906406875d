/- reach's grow: walked. -/
import Derived.Test.YtmbblhajbecomaaDoorReachStart
namespace Go.Proofs.YtmbblhajbecomaaDoor.Reach
set_option maxRecDepth 100000
open Go.RowKit
open Go.Proofs.YtmbblhajbecomaaDoor.RF Go.Proofs.YtmbblhajbecomaaDoor.Heap Go.Proofs.YtmbblhajbecomaaDoor.Nodes Go.Proofs.YtmbblhajbecomaaDoor.Graph
set_option linter.unusedVariables false
set_option linter.unusedSimpArgs false
attribute [local go_sem] Oper.semAt_some

theorem off_stays {K T : Nat → Prop} {b : Nat} {A B : World} (h : Off K A B) (hK : ∀ k, K k → ∃ t cs, Blk A k t cs) (hT : ∀ k, T k → k < A.heap.size ∧ ¬ K k) : Stays b T A B :=
  ⟨⟨h.size, fun k o _ hk ho => (h.block k (Array.getElem?_eq_some_iff.1 hk).1 (fun c => by
    obtain ⟨t, cs, hb⟩ := hK k c
    unfold Blk at hb
    rw [hk] at hb; cases hb; cases ho)).trans hk⟩, fun k hk => h.block k (hT k hk).1 (hT k hk).2⟩
theorem nearR_nat (near : List Nat) (x : Nat) : nearR near (x : Int) = near.getD x 0 := by
  unfold nearR
  rw [isN_nat]
  split
  · rfl
  · rename_i h
    rw [List.getD_eq_getElem?_getD, List.getElem?_eq_none (by simpa using h)]; rfl
theorem mark_one {b D : Nat} {w : World} (hb : b ≤ D) (hd : w.heap[D]? = some (Obj.deferred (some []))) : Marked b [{ target := .collected D, args := #[] }] w :=
  ⟨[D], rfl, by simp, fun E hE => by simp at hE; subst hE; exact ⟨hb, hd⟩⟩
/-- What the rounds of grow keep. -/
structure GInv (w : World) (near : List Nat) (s G : Nat) (pre : List Nat) (V : World) : Prop where
  g : Blk V w.heap.size 26 #[.pointer (some ⟨G, 0, none⟩)]
  out : Blk V (w.heap.size + 1) 31 #[.int .u64 (pre.foldl (fun o a => o ||| near.getD a 0) s : Nat)]
  box : ∃ x, Blk V (w.heap.size + 2) 31 x
  low : Below w.heap.size w V
theorem GInv.hush {w : World} {near : List Nat} {s G : Nat} {pre : List Nat} {V V' : World} (h : GInv w near s G pre V) {b : Nat} (c : Hush (fun k => k = w.heap.size + 2) b V V') (hb : w.heap.size ≤ b) : GInv w near s G pre V' := by
  obtain ⟨x, hx⟩ := h.box
  exact ⟨c.blk h.g (by omega), c.blk h.out (by omega), c.kind _ _ _ hx, c.below h.low (Nat.le_refl _) hb (fun k hk => by omega)⟩
set_option maxRecDepth 100000 in
set_option maxHeartbeats 8000000 in
theorem grow_any {w : World} {G R : Nat} {near : List Nat} (hg : GraphAt w G R near) (hT : Tab w) (ok : Ok near) (s off : Nat) (hs : s < 2 ^ 64) (ho : off < 2 ^ 64) :
    Calls Tryd.prog 85 #[.pointer (some ⟨G, 0, none⟩), .int .u64 (s : Nat), .int .u64 (off : Nat)] w fun e w' => e = .returned (.int .u64 (growN near off s : Nat)) ∧ Below w.heap.size w w' := by
  refine callsIn_wide.1 (callsIn_of_wp_marks (n := 0) Tryd.func85 rfl trivial ?_ rfl)
  simp only [Tryd.ntmps85, List.size_toArray, List.length_cons, List.length_nil, Nat.reduceAdd, Nat.reduceSub, Array.replicate_succ, Array.replicate_zero, List.push_toArray, List.append_toArray, List.nil_append, List.cons_append]
  refine wpIn_wide.2 ?_
  obtain ⟨Wr, hWr⟩ : ∃ Wr, ((w.alloc (.cells #[.pointer (some ⟨G, 0, none⟩)] 26)).alloc (.cells #[.int .u64 (s : Nat)] 31)).alloc (.cells #[.int .u64 (s : Nat)] 31) = Wr := ⟨_, rfl⟩
  have z1 : (w.alloc (.cells #[.pointer (some ⟨G, 0, none⟩)] 26)).heap.size = w.heap.size + 1 := by simp
  have z2 : ((w.alloc (.cells #[.pointer (some ⟨G, 0, none⟩)] 26)).alloc (.cells #[.int .u64 (s : Nat)] 31)).heap.size = w.heap.size + 2 := by simp
  have bG : Blk Wr w.heap.size 26 #[.pointer (some ⟨G, 0, none⟩)] := by rw [← hWr]; exact ((Blk.new w _ _).alloc _).alloc _
  have bO : Blk Wr (w.heap.size + 1) 31 #[.int .u64 (s : Nat)] := by
    rw [← hWr]
    have := Blk.new (w.alloc (.cells #[.pointer (some ⟨G, 0, none⟩)] 26)) 31 #[.int .u64 (s : Nat)]
    rw [z1] at this
    exact this.alloc _
  have bB : Blk Wr (w.heap.size + 2) 31 #[.int .u64 (s : Nat)] := by
    rw [← hWr]
    have := Blk.new ((w.alloc (.cells #[.pointer (some ⟨G, 0, none⟩)] 26)).alloc (.cells #[.int .u64 (s : Nat)] 31)) 31 #[.int .u64 (s : Nat)]
    rwa [z2] at this
  have low : Below w.heap.size w Wr := by rw [← hWr]; exact (((Below.refl _ w).alloc (Nat.le_refl _) _).alloc (by simp) _).alloc (by simp; omega) _
  have zr : Wr.heap.size = w.heap.size + 3 := by rw [← hWr]; simp
  have HW := Lib.hid hWr
  clear hWr z1 z2
  go_wp2_with (go_at_call 72; refine (each_any s _).mono ?_; rintro e w' ⟨rfl, h⟩; rw [h]; clear h w')
  rw [HW.out]
  clear HW
  have hTr := hT.below low hT.size
  have hw0 := hT.size
  refine range_each (B := w.heap.size + 2) (s := s) rfl hs bB hTr (by omega) rfl (fun pre V => GInv w near s G pre V) (fun _ _ _ => False) (fun xs A C h c => h.hush c (by omega)) (fun _ _ _ _ h _ => h)
    ⟨bG, bO, ⟨_, bB⟩, low⟩ (fun x => { tmps := #[.pointer (some ⟨G, 0, none⟩), .int .u64 (s : Nat), .int .u64 (off : Nat), .pointer (some ⟨w.heap.size, 0, none⟩), undef, undef, .int .u64 0, .pointer (some ⟨w.heap.size + 1, 0, none⟩), .int .i64 (x : Nat), .int .u64 (s : Nat), .int .u64 (s : Nat), .func (.func 79) #[] #[.pointer (some ⟨w.heap.size + 1 + 1, 0, none⟩)], .int .i64 (x : Nat), undef, undef, undef, undef, undef, undef, undef, undef], defers := [] }) ?assign ?body ?done ?stop
  case assign =>
    intro l x V R hR
    gi_wp2
    exact hR
  case body =>
    rintro l pre x V hzV ⟨b1, b2, ⟨x3, b3⟩, lowV⟩ hpre
    have hN := near_any (hg.below lowV.drew (Nat.le_refl _)) (x : Int)
    rw [nearR_nat] at hN
    have hN2 := Lib.hid ((callsIn_wide (n := 0)).2 hN)
    obtain ⟨o, hoo⟩ : ∃ o, pre.foldl (fun o a => o ||| near.getD a 0) s = o := ⟨_, rfl⟩
    have hol := fold_lt ok hs pre
    rw [hoo] at hol b2
    have c1 := b1.cell 0
    have c2 := b2.cell 0
    have f2 := b2.frozen 0
    simp at c1 c2
    obtain ⟨y, hy⟩ : ∃ y, near.getD x 0 = y := ⟨_, rfl⟩
    have hyl := hg.lt x
    rw [hy] at hyl hN2
    have e1 : bits .or .u64 (o : Int) (y : Int) = ((o ||| y : Nat) : Int) := bits_or_u64_nat _ _ (by omega) (by omega)
    obtain ⟨z, hz⟩ : ∃ z, o ||| y = z := ⟨_, rfl⟩
    rw [hz] at e1
    have hfold : (pre ++ [x]).foldl (fun o a => o ||| near.getD a 0) s = z := by rw [List.foldl_append, hoo, ← hz, ← hy]; rfl
    have Hf := Lib.hid hfold
    have hmx : Tryd.prog.follows .mixedOrders = true := by kernel_rfl
    have lz := lowV.size
    clear hoo hN hy hz hfold hol hyl
    gi_wp2
    gi_region_with_o (refine ⟨trivial, rfl, ?_⟩; gi_at_call 28; refine (CallsIn.inRound l hN2.out).mono ?_; rintro e w' ⟨rfl, h⟩; rw [h]; clear h w')
    all_goals gi_wp2
    all_goals
      refine ⟨off_stays (K := fun k => k = w.heap.size + 1) ((off_put (Off.refl _ V) _ _).drew) (fun k hk => by subst hk; exact ⟨_, _, b2⟩) (fun k hk => ?_), ⟨b1.far (by show w.heap.size ≠ w.heap.size + 1; omega) _, by rw [Hf.out]; exact b2.put 0 _, ⟨x3, b3.far (by show w.heap.size + 2 ≠ w.heap.size + 1; omega) _⟩, (lowV.setCell (p := ⟨w.heap.size + 1, 0, none⟩) (by show w.heap.size ≤ w.heap.size + 1; omega) _).drew⟩⟩
      rcases hk with rfl | rfl
      · exact ⟨b3.lt, by omega⟩
      · exact ⟨by omega, by omega⟩
  case done =>
    rintro D V hD ⟨b1, b2, _, lowV⟩ hd
    obtain ⟨o, hoo⟩ : ∃ o, (ones s).foldl (fun o a => o ||| near.getD a 0) s = o := ⟨_, rfl⟩
    have hol := fold_lt ok hs (ones s)
    have hr : growN near off s = anotN o off := by rw [growN, hoo]
    rw [hoo] at hol b2
    have c2 := b2.cell 0
    simp at c2
    have e1 := bits_andNot_nat o off hol ho
    change _ = ((anotN o off : Nat) : Int) at e1
    obtain ⟨q, hq⟩ : ∃ q, anotN o off = q := ⟨_, rfl⟩
    rw [hq] at e1 hr
    have Hr := Lib.hid hr
    clear hoo hr hq
    go_wp2_with fail
    refine leaves_marks (mark_one (b := w.heap.size) (by omega) hd) fun w' hB hC => ?_
    exact ⟨_, results_tmp rfl _ _ _, by rw [Hr.out]; rfl, lowV.trans hB⟩
  case stop =>
    rintro D c pre W _ _ h _
    exact h.elim
end Go.Proofs.YtmbblhajbecomaaDoor.Reach
