/- A range over the members of a set: the law of the loop. -/
import Derived.Test.YtmbblhajbecomaaDoorEach
import Derived.Shelf.Abstract
namespace Go.Proofs.YtmbblhajbecomaaDoor.Nodes
set_option maxRecDepth 100000
open Go.RowKit
open Go.Proofs.YtmbblhajbecomaaDoor.RF Go.Proofs.YtmbblhajbecomaaDoor.Heap
set_option linter.unusedVariables false

/-- What lies off K lies as it lay: what was there before b, and the cells; what lies in K keeps its type. -/
structure Hush (K : Nat → Prop) (b : Nat) (A B : World) : Prop where
  os : B.os = A.os
  tape : B.tape = A.tape
  output : B.output = A.output
  size : A.heap.size ≤ B.heap.size
  rest : ∀ (k : Nat) (o : Obj), A.heap[k]? = some o → ¬ K k → (k < b ∨ o.isCells = true) → B.heap[k]? = some o
  kind : ∀ (k : Nat) (t : TypeId) (cs : Array Value), Blk A k t cs → ∃ cs', Blk B k t cs'
section
variable {K : Nat → Prop} {b : Nat} {A B : World}
theorem Hush.of_put {B : Nat} (b : Nat) (A : World) (u : Value) : Hush (fun k => k = B) b A (A.setCell ⟨B, 0, none⟩ u) :=
  ⟨rfl, rfl, rfl, by simp [World.setCell], fun k o hk hn _ => (Below.heap_setCell A ⟨B, 0, none⟩ u k hn).trans hk, fun k t cs h => by
    by_cases c : k = B
    · subst c; exact ⟨_, h.put 0 u⟩
    · exact ⟨cs, h.far c u⟩⟩
theorem Hush.of_grown {row : Option Nat} (hg : A.grownBy B row) (hr : ∀ r, row = some r → b ≤ r ∧ ∃ o : Obj, A.heap[r]? = some o ∧ o.isCells = false) : Hush K b A B :=
  ⟨hg.os, hg.tape, hg.output, hg.size, fun k o hk hn hc => (hg.block k (Array.getElem?_eq_some_iff.1 hk).1 (fun e => by
    obtain ⟨h1, o', h2, h3⟩ := hr k e.symm
    rw [hk] at h2; cases h2
    rcases hc with hc | hc
    · omega
    · rw [h3] at hc; cases hc)).trans hk, fun k t cs h => ⟨cs, h.grown hg (fun e => by
    obtain ⟨_, o', h2, h3⟩ := hr k e.symm
    unfold Blk at h
    rw [h] at h2; cases h2; cases h3)⟩⟩
theorem own_of_hush {α : Type} {I : α → World → Prop} (hI : ∀ s A B, I s A → Hush K b A B → I s B) : OwnFrom b I := fun s _ _ _ hs hg hr => hI s _ _ hs (Hush.of_grown hg hr)
theorem Hush.blk {g : Nat} {t : TypeId} {cs : Array Value} (h : Hush K b A B) (k : Blk A g t cs) (hn : ¬ K g) : Blk B g t cs := h.rest g _ k hn (.inr rfl)
theorem Hush.own {base : Nat} {e : TypeId} {s n : Nat} {v : Value} {xs : List Value} (h : Hush K b A B) (k : A.ownsRow base e s v n xs) (hn : ∀ k, K k → ∃ t cs, Blk A k t cs ∧ t ≠ e) : B.ownsRow base e s v n xs := by
  rcases k.2 with ⟨rfl, h0⟩ | ⟨g, cap, cur, rfl, hb, hg, rest⟩
  · exact ⟨k.1, .inl ⟨rfl, h0⟩⟩
  · refine ⟨k.1, .inr ⟨g, cap, cur, rfl, hb, h.rest g _ hg (fun c => ?_) (.inr rfl), rest⟩⟩
    obtain ⟨t, cs, h1, h2⟩ := hn g c
    exact h2 (h1.uniq (show Blk A g e cur from hg)).1
theorem Hush.fr {w : World} {b0 : Nat} {ts : List TypeId} (h0 : Fr b0 ts w A) (h : Hush K b A B) (hb : w.heap.size ≤ b) (hK : ∀ k, K k → w.heap.size ≤ k) : Fr b0 ts w B :=
  ⟨h.os.trans h0.os, h.tape.trans h0.tape, h.output.trans h0.output, Nat.le_trans h0.size h.size, fun k hk hA => by
    have e := h0.below k hk hA
    rw [Array.getElem?_eq_getElem hA] at e
    exact (h.rest k _ e (fun c => by have := hK k c; omega) (.inl (by omega))).trans (Array.getElem?_eq_getElem hA).symm, fun k o hA ho => by
    have := (Array.getElem?_eq_some_iff.1 hA).1
    exact h.rest k o (h0.rest k o hA ho) (fun c => by have := hK k c; omega) (.inl (by omega))⟩
theorem Hush.below {w : World} {c : Nat} (h0 : Below c w A) (h : Hush K b A B) (hc : c ≤ w.heap.size) (hb : c ≤ b) (hK : ∀ k, K k → c ≤ k) : Below c w B :=
  ⟨h.os.trans h0.os, h.tape.trans h0.tape, h.output.trans h0.output, Nat.le_trans h0.size h.size, fun k hk => by
    have e := h0.block k hk
    have hA : k < w.heap.size := by omega
    rw [Array.getElem?_eq_getElem hA] at e
    exact (h.rest k _ e (fun c => by have := hK k c; omega) (.inl (by omega))).trans (Array.getElem?_eq_getElem hA).symm⟩
end
theorem noncell_isOf {o : Obj} (ts : List TypeId) (h : o.isCells = false) : isOf ts o = false := by
  cases o <;> first | rfl | cases h
theorem Fr.stays {b b0 : Nat} {ts : List TypeId} {T : Nat → Prop} {A B : World} (h : Fr b0 ts A B) (hT : ∀ k, T k → k < b0 ∧ k < A.heap.size ∨ ∃ o, A.heap[k]? = some o ∧ isOf ts o = false) : Stays b T A B :=
  ⟨⟨h.size, fun k o _ hk ho => h.rest k o hk (noncell_isOf ts ho)⟩, fun k hk => by
    rcases hT k hk with ⟨h1, h2⟩ | ⟨o, hA, ho⟩
    · exact h.below k h1 h2
    · exact (h.rest k o hA ho).trans hA.symm⟩
theorem Fr.marks {b b0 : Nat} {ts : List TypeId} {A B : World} {ds : List Deferred} (h : Fr b0 ts A B) (hm : Marked b ds A) : Marked b ds B := hm.keep fun k hk => h.rest k _ hk rfl
theorem below_marks {b c : Nat} {A B : World} {ds : List Deferred} (h : Below c A B) (hc : A.heap.size ≤ c) (hm : Marked b ds A) : Marked b ds B := hm.keep fun k hk => (h.block k (by have := (Array.getElem?_eq_some_iff.1 hk).1; omega)).trans hk
theorem off_marks {K : Nat → Prop} {b : Nat} {A B : World} {ds : List Deferred} (h : Off K A B) (hK : ∀ k, K k → ∃ t cs, Blk A k t cs) (hm : Marked b ds A) : Marked b ds B :=
  hm.keep fun k hk => (h.block k (Array.getElem?_eq_some_iff.1 hk).1 (fun c => by
    obtain ⟨t, cs, hb⟩ := hK k c
    unfold Blk at hb
    rw [hk] at hb; cases hb)).trans hk
/-- THE LOOP: 'for i := range nodes.Each(s)'. -/
theorem range_each {g : Operand} {ps : Array Tmp} {assign body : Code} {Q : Exit → Act → World → Prop} {a : Act} {w : World} {B s : Nat}
    (hg : a.eval g = .func (.func 79) #[] #[.pointer (some ⟨B, 0, none⟩)]) (hs : s < 2 ^ 64) (hB : Blk w B 31 #[.int .u64 s]) (hT : Tab w) (hB0 : B ≠ 0) (hps : ps.size = 1)
    (I : List Nat → World → Prop) (Ix : Code → List Nat → World → Prop) (hI : ∀ xs A C, I xs A → Hush (fun k => k = B) w.heap.size A C → I xs C)
    (hIx : ∀ c xs A C, Ix c xs A → Hush (fun k => k = B) w.heap.size A C → Ix c xs C) (h0 : I [] w) (a₁ : Nat → Act)
    (hassign : ∀ (l : Nat) (x : Nat) (W : World) (R : Act → World → Prop), R (a₁ x) W →
      assign.wpIn (Fence.wide.inRound l) 0 Tryd.prog (Exit.then R (fun _ _ _ => False)) { tmps := (ps.zip #[.int .i64 x]).foldl (fun t (p, v) => t.setIfInBounds p v) a.tmps, defers := [] } W)
    (hbody : ∀ (l : Nat) (pre : List Nat) (x : Nat) (W : World), w.heap.size ≤ W.heap.size → I pre W → pre ++ [x] <+: ones s →
      body.wpIn (Fence.wide.inRound l) 0 Tryd.prog (ends w.heap.size (fun k => k = B ∨ k = 0) I Ix (pre ++ [x]) W) (a₁ x) W)
    (hdone : ∀ (D : Nat) (W : World), w.heap.size ≤ D → I (ones s) W → W.heap[D]? = some (Obj.deferred (some [])) → Q .normal { a with defers := { target := .collected D, args := #[] } :: a.defers } W)
    (hstop : ∀ (D : Nat) (c : Code) (pre : List Nat) (W : World), w.heap.size ≤ D → pre <+: ones s → Ix c pre W → W.heap[D]? = some (Obj.deferred (some [])) → c.wp Tryd.prog Q { a with defers := { target := .collected D, args := #[] } :: a.defers } W) :
    (Code.rangeFunc g ps assign body).wp Tryd.prog Q a w := by
  refine wpIn_wide.1 (range_law (n := 0) hg (enters_of Tryd.func79 (by kernel_rfl) rfl) (each_gives B s hs w hB hT hB0) (K := fun k => k = B) (fun A C hu => by obtain ⟨u, rfl⟩ := hu; exact Off.setCell (p := ⟨B, 0, none⟩) (Off.refl (fun k => k = B) A) (.inl rfl) u) (fun k hk => by subst hk; exact hB.lt) (fun k hk => by
    rcases hk with hk | hk
    · subst hk; exact hB.lt
    · subst hk; exact hT.size) (fun x => by simp [hps]) I Ix (own_of_hush hI) (fun c => own_of_hush (hIx c)) (fun xs A C hi ho => by obtain ⟨u, rfl⟩ := ho; exact hI xs A _ hi (Hush.of_put _ A u)) (fun c xs A C hi ho => by obtain ⟨u, rfl⟩ := ho; exact hIx c xs A _ hi (Hush.of_put _ A u)) h0 a₁ hassign hbody ?_ ?_)
  · rintro D xs W hD rfl hi hd
    exact hdone D W hD hi hd
  · intro D c pre W hD hpre hi hd
    exact wpIn_wide.2 (hstop D c pre W hD hpre hi hd)
end Go.Proofs.YtmbblhajbecomaaDoor.Nodes
