/- A range over a function whose iterator keeps state of its own in cells, and may hand yield on to a function of its own: who owns which block is said by a set of blocks. For whatever program, without a bound on the depth. -/
import Derived.RangeFuncNested
import Derived.RangeFuncBound
import Derived.RangeFuncCalls
import Derived.RangeFuncLeaves
import Derived.OwnWalkIn
import Derived.TacticsInMore
import Derived.LoopNIn
import Derived.LoopIn
import Derived.WalkKit
import Derived.Deep.Draws
namespace Go.Proofs.YtmbblhajbecomaaDoor.RF
set_option maxRecDepth 100000
open Go.RowKit
variable {P : Program} {α : Type}

/-- All blocks that lay lie as they lay, but for those in K. -/
structure Off (K : Nat → Prop) (A B : World) : Prop where
  os : B.os = A.os
  tape : B.tape = A.tape
  output : B.output = A.output
  size : A.heap.size ≤ B.heap.size
  block : ∀ k, k < A.heap.size → ¬ K k → B.heap[k]? = A.heap[k]?
section
variable {K : Nat → Prop} {A B C : World}
theorem Off.refl (K : Nat → Prop) (A : World) : Off K A A := ⟨rfl, rfl, rfl, Nat.le_refl _, fun _ _ _ => rfl⟩
theorem Off.trans (h : Off K A B) (k : Off K B C) : Off K A C :=
  ⟨k.os.trans h.os, k.tape.trans h.tape, k.output.trans h.output, Nat.le_trans h.size k.size, fun i hi hn => (k.block i (Nat.lt_of_lt_of_le hi h.size) hn).trans (h.block i hi hn)⟩
theorem Off.mono {K' : Nat → Prop} (h : Off K A B) (hk : ∀ k, k < A.heap.size → K k → K' k) : Off K' A B := ⟨h.os, h.tape, h.output, h.size, fun i hi hn => h.block i hi (fun c => hn (hk i hi c))⟩
theorem Off.drew (h : Off K A B) : Off K A B.drew := ⟨h.os, h.tape, h.output, h.size, h.block⟩
theorem Off.drewN (h : Off K A B) (n : Nat) : Off K A (B.drewN n) := ⟨h.os, h.tape, h.output, h.size, h.block⟩
theorem Off.alloc (h : Off K A B) (o : Obj) : Off K A (B.alloc o) :=
  ⟨h.os, h.tape, h.output, Nat.le_trans h.size (by simp), fun i hi hn => (Below.heap_alloc B o i (Nat.lt_of_lt_of_le hi h.size)).trans (h.block i hi hn)⟩
theorem Off.setCell (h : Off K A B) {p : Addr} (hp : K p.block ∨ A.heap.size ≤ p.block) (u : Value) : Off K A (B.setCell p u) :=
  ⟨h.os, h.tape, h.output, Nat.le_trans h.size (KeepsWalks.setCell B p u).size, fun i hi hn => (Below.heap_setCell B p u i (by
    rintro rfl
    rcases hp with hp | hp
    · exact hn hp
    · omega)).trans (h.block i hi hn)⟩
theorem Off.below {b : Nat} (h : Off K A B) (hk : ∀ k, k < A.heap.size → K k → b ≤ k) : Below b A B ∨ A.heap.size < b := by
  rcases Nat.lt_or_ge A.heap.size b with c | c
  · exact .inr c
  · exact .inl ⟨h.os, h.tape, h.output, h.size, fun i hi => h.block i (by omega) (fun c => by have := hk i (by omega) c; omega)⟩
theorem Off.of_below {b : Nat} (h : Below b A B) (hk : ∀ k, k < A.heap.size → b ≤ k → K k) : Off K A B :=
  ⟨h.os, h.tape, h.output, h.size, fun i hi hn => h.block i (by
    rcases Nat.lt_or_ge i b with c | c
    · exact c
    · exact absurd (hk i hi c) hn)⟩
theorem Off.grown {row : Option Nat} (h : Off K A B) (hg : B.grownBy C row) (hr : ∀ k, row = some k → K k ∨ A.heap.size ≤ k) : Off K A C :=
  ⟨hg.os.trans h.os, hg.tape.trans h.tape, hg.output.trans h.output, Nat.le_trans h.size hg.size, fun i hi hn => (hg.block i (Nat.lt_of_lt_of_le hi h.size) (fun e => by
    rcases hr i e.symm with c | c
    · exact hn c
    · omega)).trans (h.block i hi hn)⟩
theorem Off.none (h : Off (fun _ => False) A B) : Off K A B := h.mono fun _ _ c => c.elim
theorem Off.cell (h : Off K A B) {p : Addr} (hp : p.block < A.heap.size) (hn : ¬ K p.block) : B.cell? p = A.cell? p := World.cell?_of_block (h.block _ hp hn)
theorem Off.frozen (h : Off K A B) {p : Addr} (hp : p.block < A.heap.size) (hn : ¬ K p.block) : B.frozen? p = A.frozen? p := World.frozen?_of_block (h.block _ hp hn)
theorem Off.boxed {b : Nat} {t : TypeId} {v : Value} (h : Off K A B) (hb : Boxed A b t v) (hn : ¬ K b) : Boxed B b t v := (h.block b hb.lt hn).trans hb
end

/-- The contract of an iterator's value: Rel: what it does to memory between two rounds; T: the blocks that the body leaves alone. -/
def Gives (P : Program) (g : Nat) (lb : Array Value) (encs : α → Array Value) (Rel : World → World → Prop) (T : Nat → Prop) (S Sp : List α → Prop) (W : World) : Prop :=
  ∀ (l : Nat) (J Jx : List α → World → Prop) (W1 : World), Off (fun _ => False) W W1 →
    (∀ s A B, J s A → Rel A B → J s B) → (∀ s A B, Jx s A → Rel A B → Jx s B) →
    (∀ pre x A, J pre A → Sp (pre ++ [x]) → YieldAt Fence.wide 0 P l (encs x) A fun e B =>
      (e = .returned (.bool true) ∧ J (pre ++ [x]) B ∧ (A.heap.size ≤ B.heap.size ∧ ∀ k, T k → B.heap[k]? = A.heap[k]?)) ∨ (e = .returned (.bool false) ∧ Jx (pre ++ [x]) B)) →
    J [] W1 →
    CallsIn Fence.wide 0 P g (#[.func (.yield l) #[] #[]] ++ lb) W1 fun e B => (∃ v, e = .returned v) ∧ ((∃ xs, S xs ∧ J xs B) ∨ (∃ pre, Sp pre ∧ Jx pre B))

theorem room0 (n : Nat) : Fence.wide.room n := room_wide n
theorem YieldAt.any {m : Nat} (m' : Nat) {l : Nat} {args : Array Value} {W : World} {R : Ending → World → Prop} (h : YieldAt Fence.wide m P l args W R) : YieldAt Fence.wide m' P l args W R := by
  obtain ⟨fn, tmps, assign, body, hy, hR⟩ := h
  exact ⟨fn, tmps, assign, body, hy, hR.1, fun c cs _ => hR.2 c cs (room0 _)⟩

/-- How the body of a round may be left: the blocks from b on that are no cells, and the iterator's own, lie as they lay. -/
structure Stays (b : Nat) (T : Nat → Prop) (A B : World) : Prop where
  from_ : KeepsFrom b A B
  own : ∀ k, T k → B.heap[k]? = A.heap[k]?
def ends (b : Nat) (T : Nat → Prop) (I : List α → World → Prop) (Ix : Code → List α → World → Prop) (xs : List α) (A : World) : Exit → Act → World → Prop
  | .normal, _, B => Stays b T A B ∧ I xs B
  | .ret, _, B => Stays b T A B ∧ Ix .ret xs B
  | .exit id, _, B => Stays b T A B ∧ Ix (.exit id) xs B
  | .goto t, _, B => Stays b T A B ∧ Ix (.goto t) xs B
  | .panic _, _, _ => False
  | .outgrown, _, _ => False

theorem range_law {g : Operand} {ps : Array Tmp} {assign body : Code} {Q : Exit → Act → World → Prop} {a : Act} {w : World} {n : Nat}
    {gf : Nat} {lb : Array Value} (hg : a.eval g = .func (.func gf) #[] lb) (eg : ∀ args w, (callFunc gf args).run P w = .ok (.enter gf args) w)
    {encs : α → Array Value} {K T : Nat → Prop} {Rel : World → World → Prop} {S Sp : List α → Prop} (hseq : Gives P gf lb encs Rel T S Sp w) (hRel : ∀ A B, Rel A B → Off K A B) (hK : ∀ k, K k → k < w.heap.size) (hT : ∀ k, T k → k < w.heap.size) (hps : ∀ x, (encs x).size = ps.size)
    (I : List α → World → Prop) (Ix : Code → List α → World → Prop) (hI : OwnFrom w.heap.size I) (hIx : ∀ c, OwnFrom w.heap.size (Ix c))
    (hIo : ∀ s A B, I s A → Rel A B → I s B) (hIxo : ∀ c s A B, Ix c s A → Rel A B → Ix c s B) (h0 : I [] w) (a₁ : α → Act)
    (hassign : ∀ (l : Nat) (x : α) (W : World) (R : Act → World → Prop), R (a₁ x) W →
      assign.wpIn (Fence.wide.inRound l) 0 P (Exit.then R (fun _ _ _ => False)) { tmps := (ps.zip (encs x)).foldl (fun t (p, v) => t.setIfInBounds p v) a.tmps, defers := [] } W)
    (hbody : ∀ (l : Nat) (pre : List α) (x : α) (W : World), w.heap.size ≤ W.heap.size → I pre W → Sp (pre ++ [x]) → body.wpIn (Fence.wide.inRound l) 0 P (ends w.heap.size T I Ix (pre ++ [x]) W) (a₁ x) W)
    (hdone : ∀ (D : Nat) (xs : List α) (W : World), w.heap.size ≤ D → S xs → I xs W → W.heap[D]? = some (.deferred (some [])) → Q .normal { a with defers := { target := .collected D, args := #[] } :: a.defers } W)
    (hstop : ∀ (D : Nat) (c : Code) (pre : List α) (W : World), w.heap.size ≤ D → Sp pre → Ix c pre W → W.heap[D]? = some (.deferred (some [])) → c.wpIn Fence.wide n P Q { a with defers := { target := .collected D, args := #[] } :: a.defers } W) :
    (Code.rangeFunc g ps assign body).wpIn Fence.wide n P Q a w := by
  refine wpIn_rangeFunc fun fn hfn => ?_
  -- the record of the loop at 'w.heap.size + 1', the block for deferred calls at 'w.heap.size'
  obtain ⟨rec, hrec⟩ : ∃ rec : LoopState → Option Code → Loop, rec = fun st pe => { state := st, pending := pe, fn, tmps := a.tmps, params := ps, assign, body, defers := w.heap.size } := ⟨_, rfl⟩
  obtain ⟨W1, hW1⟩ : ∃ W1, (w.alloc (.deferred (some []))).alloc (.loop (rec .ready none)) = W1 := ⟨_, rfl⟩
  let Bk : LoopState → Option Code → World → Prop := fun st pe W => W.heap[w.heap.size + 1]? = some (.loop (rec st pe)) ∧ W.heap[w.heap.size]? = some (.deferred (some []))
  have hB1 : Bk .ready none W1 := by
    constructor
    · rw [← hW1]; have := World.alloc_heap_new (w.alloc (.deferred (some []))) (.loop (rec .ready none)); rwa [World.size_alloc] at this
    · rw [← hW1]; exact (Below.heap_alloc _ _ _ (by simp)).trans (World.alloc_heap_new w _)
  have hBo : ∀ st pe A B, Bk st pe A → Off K A B → Bk st pe B := fun st pe A B h o =>
    ⟨(o.block _ (Array.getElem?_eq_some_iff.1 h.1).1 (fun c => by have := hK _ c; omega)).trans h.1, (o.block _ (Array.getElem?_eq_some_iff.1 h.2).1 (fun c => by have := hK _ c; omega)).trans h.2⟩
  have hBs : ∀ st pe A B, Bk st pe A → KeepsFrom w.heap.size A B → Bk st pe B := fun st pe A B h k =>
    ⟨k.same _ _ (by omega) h.1 rfl, k.same _ _ (Nat.le_refl _) h.2 rfl⟩
  have hBp : ∀ st pe st' pe' A, Bk st pe A → Bk st' pe' (A.putObj (w.heap.size + 1) (.loop (rec st' pe'))) := fun st pe st' pe' A h =>
    ⟨World.putObj_heap_same (Array.getElem?_eq_some_iff.1 h.1).1, (World.putObj_heap_other (by omega)).trans h.2⟩
  have hKp : ∀ A o k, T k → (World.putObj A (w.heap.size + 1) o).heap[k]? = A.heap[k]? := fun A o k hk => World.putObj_heap_other (by have := hT k hk; omega)
  have hIp : ∀ st pe s A o, Bk st pe A → I s A → I s (A.putObj (w.heap.size + 1) o) := fun st pe s A o h hi => hI.putObj o hi (by omega) h.1 rfl
  have hIxp : ∀ c st pe s A o, Bk st pe A → Ix c s A → Ix c s (A.putObj (w.heap.size + 1) o) := fun c st pe s A o h hi => (hIx c).putObj o hi (by omega) h.1 rfl
  refine ⟨w.heap.size + 1, [{ target := .collected w.heap.size, args := #[] }], W1, { target := .fn (.func gf) lb, args := #[.func (.yield (w.heap.size + 1)) #[] #[]] }, W1, gf,
    #[.func (.yield (w.heap.size + 1)) #[] #[]] ++ lb, W1, ?_, ?_, fun _ _ => trivial, ?_, (fun h => by cases h), ?_⟩
  · rw [← hW1, hrec]; exact run_enterLoop_outer _ _ _ _ _
  · simp only [resolve, hg]
    simp [go_sem]
  · simp [invoke, go_sem, eg]
  refine callsIn_wide.2 (callsIn_wide.1 ((hseq (w.heap.size + 1) (fun pre W => I pre W ∧ w.heap.size ≤ W.heap.size ∧ Bk .ready none W) (fun pre W => ∃ c, Ix c pre W ∧ Bk .done (some c) W) W1 ?_ ?_ ?_ ?_ ?_).mono ?_))
  · rw [← hW1]; exact ((Off.refl _ _).alloc _).alloc _
  · exact fun s A B h o => ⟨hIo s A B h.1 o, Nat.le_trans h.2.1 (hRel A B o).size, hBo _ _ A B h.2.2 (hRel A B o)⟩
  · rintro s A B ⟨c, h, hb⟩ o
    exact ⟨c, hIxo c s A B h o, hBo _ _ A B hb (hRel A B o)⟩
  · rintro pre x W ⟨hi, hsz, hb⟩ hsp
    have hy := run_yield (P := P) (args := encs x) hb.1 (by rw [hrec]; exact hps x)
    rw [hrec] at hy
    refine ⟨fn, _, assign, body, hy, roundIn_of_wpIn hfn (hassign _ x W _ ⟨_, run_beginRound hb.1 (by rw [hrec]), ?_⟩)⟩
    obtain ⟨V, hV⟩ : ∃ V, W.putObj (w.heap.size + 1) (.loop (rec .busy none)) = V := ⟨_, rfl⟩
    have hbV : Bk .busy none V := by rw [← hV]; exact hBp _ _ _ _ _ hb
    have hiV : I pre V := by rw [← hV]; exact hIp _ _ _ _ _ hb hi
    have hzV : V.heap.size = W.heap.size := by rw [← hV]; simp
    have hkV : ∀ k, T k → V.heap[k]? = W.heap[k]? := fun k hk => by rw [← hV]; exact hKp _ _ k hk
    have e0 : W.putObj (w.heap.size + 1) (.loop { rec .ready none with state := .busy }) = V := by rw [← hV, hrec]
    rw [e0]
    refine wpIn_mono (hbody _ pre x V (by omega) hiV hsp) ?_
    have fin : ∀ (jump : Option Code) (U : World), Stays w.heap.size T V U →
        (Instr.endRound (w.heap.size + 1) jump).run P U = .ok (.bool jump.isNone) (U.putObj (w.heap.size + 1) (.loop (rec (if jump.isNone then .ready else .done) jump))) ∧ Bk .busy none U := fun jump U hs => by
      have hbU := hBs _ _ _ _ hbV hs.from_
      have := run_endRound (P := P) jump hbU.1
      rw [hrec] at this ⊢
      exact ⟨this, hbU⟩
    rintro e a3 U hp
    cases e with
    | normal =>
      obtain ⟨hs, hiU⟩ := hp
      obtain ⟨hr, hbU⟩ := fin none U hs
      have z := hs.from_.size
      exact ⟨_, _, hr, .inl ⟨rfl, ⟨hIp _ _ _ _ _ hbU hiU, by simp; omega, hBp _ _ _ _ _ hbU⟩, by simp; omega, fun k hk => (hKp _ _ k hk).trans ((hs.own k hk).trans (hkV k hk))⟩⟩
    | ret =>
      obtain ⟨hs, hiU⟩ := hp
      obtain ⟨hr, hbU⟩ := fin (some .ret) U hs
      exact ⟨_, _, hr, .inr ⟨rfl, .ret, hIxp _ _ _ _ _ _ hbU hiU, hBp _ _ _ _ _ hbU⟩⟩
    | exit id =>
      obtain ⟨hs, hiU⟩ := hp
      obtain ⟨hr, hbU⟩ := fin (some (.exit id)) U hs
      exact ⟨_, _, hr, .inr ⟨rfl, .exit id, hIxp _ _ _ _ _ _ hbU hiU, hBp _ _ _ _ _ hbU⟩⟩
    | goto t =>
      obtain ⟨hs, hiU⟩ := hp
      obtain ⟨hr, hbU⟩ := fin (some (.goto t)) U hs
      exact ⟨_, _, hr, .inr ⟨rfl, .goto t, hIxp _ _ _ _ _ _ hbU hiU, hBp _ _ _ _ _ hbU⟩⟩
    | panic ch => exact hp.elim
    | outgrown => exact hp.elim
  · refine ⟨?_, ?_, hB1⟩
    · rw [← hW1]; exact hI.alloc _ (hI.alloc _ h0)
    · rw [← hW1]; simp; omega
  · rintro e U ⟨⟨v, rfl⟩, (⟨xs, hS, hi, hsz, hb⟩ | ⟨pre, hSp, c, hi, hb⟩)⟩
    · exact ⟨none, _, by have := run_endLoop (P := P) hb.1 (by rw [hrec]; simp); rw [hrec] at this; exact this, hdone _ xs _ (Nat.le_refl _) hS (hIp _ _ _ _ _ hb hi) ((World.putObj_heap_other (by omega)).trans hb.2)⟩
    · exact ⟨some c, _, by have := run_endLoop (P := P) hb.1 (by rw [hrec]; simp); rw [hrec] at this; exact this, hstop _ c pre _ (Nat.le_refl _) hSp (hIxp _ _ _ _ _ _ hb hi) ((World.putObj_heap_other (by omega)).trans hb.2)⟩

/-! ### A frame's marks -/
def mark (D : Nat) : Deferred := { target := .collected D, args := #[] }
/-- The frame's deferred calls are marks alone, each of a block of its own from b on that has gathered nothing. -/
def Marked (b : Nat) (ds : List Deferred) (w : World) : Prop := ∃ Ds : List Nat, ds = Ds.map mark ∧ Ds.Nodup ∧ ∀ D ∈ Ds, b ≤ D ∧ w.heap[D]? = some (.deferred (some []))
theorem Marked.nil (b : Nat) (w : World) : Marked b [] w := ⟨[], rfl, List.nodup_nil, fun _ h => by cases h⟩
theorem Marked.cons {b D : Nat} {ds : List Deferred} {w w' : World} (h : Marked b ds w) (hk : ∀ k : Nat, w.heap[k]? = some (Obj.deferred (some [])) → w'.heap[k]? = some (Obj.deferred (some []))) (hD : w.heap.size ≤ D) (hb : b ≤ D)
    (hd : w'.heap[D]? = some (.deferred (some []))) : Marked b ({ target := .collected D, args := #[] } :: ds) w' := by
  obtain ⟨Ds, rfl, hn, hl⟩ := h
  refine ⟨D :: Ds, rfl, List.nodup_cons.2 ⟨fun c => ?_, hn⟩, fun E hE => ?_⟩
  · have := (Array.getElem?_eq_some_iff.1 (hl D c).2).1
    omega
  · rcases List.mem_cons.1 hE with c | c
    · subst c; exact ⟨hb, hd⟩
    · exact ⟨(hl E c).1, hk E (hl E c).2⟩
theorem Marked.keep {b : Nat} {ds : List Deferred} {w w' : World} (h : Marked b ds w) (hk : ∀ k : Nat, w.heap[k]? = some (Obj.deferred (some [])) → w'.heap[k]? = some (Obj.deferred (some []))) : Marked b ds w' := by
  obtain ⟨Ds, rfl, hn, hl⟩ := h
  exact ⟨Ds, rfl, hn, fun E hE => ⟨(hl E hE).1, hk E (hl E hE).2⟩⟩
/-- The frame comes to its end through the marks; what the contract says bears that those blocks are shut. -/
theorem leaves_marks {F : Fence} {n b : Nat} {fn : Func} {tmps : Array Value} {R : Ending → World → Prop} {ds : List Deferred} {w : World} (h : Marked b ds w)
    (hR : ∀ w', Below b w w' → (∀ (k : Nat) (o : Obj), w.heap[k]? = some o → o.isCells = true → w'.heap[k]? = some o) → LeavesIn F n P fn tmps R [] .returning w') : LeavesInM F n P fn tmps R ds .returning w := by
  obtain ⟨Ds, rfl, hn, hl⟩ := h
  have key : ∀ (Ds : List Nat) (v : World), Ds.Nodup → (∀ D ∈ Ds, b ≤ D ∧ v.heap[D]? = some (.deferred (some []))) → Below b w v → (∀ (k : Nat) (o : Obj), w.heap[k]? = some o → o.isCells = true → v.heap[k]? = some o) → LeavesInM F n P fn tmps R (Ds.map mark) .returning v := by
    intro Ds
    induction Ds with
    | nil => exact fun v _ _ hB hC => hR v hB hC
    | cons D Ds ih =>
      intro v hn hl hB hC
      obtain ⟨h1, h2⟩ := List.nodup_cons.1 hn
      obtain ⟨hb, hd⟩ := hl D List.mem_cons_self
      refine ⟨by simp, .inl ⟨D, _, rfl, run_takeDeferred hd, ?_⟩⟩
      refine ih _ h2 (fun E hE => ?_) ?_ ?_
      · refine ⟨(hl E (List.mem_cons_of_mem _ hE)).1, (World.putObj_heap_other ?_).trans (hl E (List.mem_cons_of_mem _ hE)).2⟩
        rintro rfl; exact h1 hE
      · exact ⟨hB.os, hB.tape, hB.output, by simpa using hB.size, fun k hk => (World.putObj_heap_other (by omega)).trans (hB.block k hk)⟩
      · intro k o hk ho
        refine (World.putObj_heap_other ?_).trans (hC k o hk ho)
        rintro rfl
        have := hC _ o hk ho
        rw [hd] at this; cases this; cases ho
  exact key Ds w hn hl ⟨rfl, rfl, rfl, Nat.le_refl _, fun _ _ => rfl⟩ (fun _ _ h _ => h)
end Go.Proofs.YtmbblhajbecomaaDoor.RF
