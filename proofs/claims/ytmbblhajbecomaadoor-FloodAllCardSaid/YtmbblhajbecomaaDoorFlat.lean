/- A list of things as the cells of a row: where each thing's cells lie, and what a store of one thing makes of the row; blocks known whole. For whatever program. -/
import Derived.Test.YtmbblhajbecomaaDoorAgendaPure
import Derived.Test.YtmbblhajbecomaaDoorRange
import Derived.Deep.AppendLies
import Derived.Laws.OwnMore
import Derived.Laws.Rows
namespace Go.Proofs.YtmbblhajbecomaaDoor.Heap
set_option maxRecDepth 100000
open Go.RowKit
open Go.Proofs.YtmbblhajbecomaaDoor.RF
set_option linter.unusedVariables false

/-- A row of lists of s cells each. -/
def flatS (l : List (List Value)) : List Value := l.flatten
theorem flat_len {s : Nat} : ∀ {l : List (List Value)}, (∀ x ∈ l, x.length = s) → l.flatten.length = l.length * s
  | [], _ => by simp
  | x :: l, h => by
    rw [List.flatten_cons, List.length_append, flat_len (fun y hy => h y (List.mem_cons_of_mem _ hy)), h x (List.mem_cons_self), List.length_cons, Nat.add_mul, Nat.one_mul, Nat.add_comm]
theorem flat_get {s : Nat} : ∀ {l : List (List Value)} {i k : Nat} {x : List Value}, (∀ x ∈ l, x.length = s) → l[i]? = some x → k < s → l.flatten[i * s + k]? = x[k]?
  | [], i, k, x, _, h, _ => by simp at h
  | y :: l, 0, k, x, h, hx, hk => by
    simp at hx
    subst hx
    rw [List.flatten_cons, List.getElem?_append_left (by rw [h y List.mem_cons_self]; omega)]
    simp
  | y :: l, i + 1, k, x, h, hx, hk => by
    simp at hx
    have hy := h y List.mem_cons_self
    rw [List.flatten_cons, List.getElem?_append_right (by rw [hy, Nat.add_mul]; omega), hy, show (i + 1) * s + k - s = i * s + k by rw [Nat.add_mul]; omega]
    exact flat_get (fun z hz => h z (List.mem_cons_of_mem _ hz)) hx hk
/-- Cells put into a list, one after the other. -/
def puts (xs : List Value) (o : Nat) : List Value → List Value
  | [] => xs
  | v :: vs => puts (xs.set o v) (o + 1) vs
theorem puts_get : ∀ (vs : List Value) (xs : List Value) (o k : Nat), o + vs.length ≤ xs.length → (puts xs o vs)[k]? = if o ≤ k ∧ k < o + vs.length then vs[k - o]? else xs[k]?
  | [], xs, o, k, _ => by simp [puts]; omega
  | v :: vs, xs, o, k, h => by
    simp only [List.length_cons] at h
    rw [puts, puts_get vs _ _ _ (by simp; omega), List.getElem?_set]
    by_cases c : k = o
    · subst c
      rw [if_neg (by omega), if_pos rfl, if_pos (by omega), if_pos (by simp), Nat.sub_self]
      rfl
    · rw [if_neg (Ne.symm c)]
      by_cases d : o + 1 ≤ k ∧ k < o + 1 + vs.length
      · rw [if_pos d, if_pos (by simp; omega), show k - o = (k - (o + 1)) + 1 by omega]; rfl
      · rw [if_neg d, if_neg (by simp; omega)]
theorem puts_len : ∀ (vs : List Value) (xs : List Value) (o : Nat), (puts xs o vs).length = xs.length
  | [], xs, o => rfl
  | v :: vs, xs, o => by rw [puts, puts_len vs]; simp
theorem flat_puts {s : Nat} : ∀ {l : List (List Value)} {i : Nat} {x : List Value}, (∀ x ∈ l, x.length = s) → i < l.length → x.length = s → puts l.flatten (i * s) x = (l.set i x).flatten := by
  intro l i x h hi hx
  have h' : ∀ y ∈ l.set i x, y.length = s := fun y hy => by
    rcases List.mem_or_eq_of_mem_set hy with c | c
    · exact h y c
    · subst c; exact hx
  have hl := flat_len h
  have hm : (i + 1) * s ≤ l.length * s := Nat.mul_le_mul_right s hi
  have hs : i * s + s ≤ l.length * s := by rw [Nat.add_mul] at hm; omega
  refine List.ext_getElem? fun k => ?_
  rw [puts_get _ _ _ _ (by rw [hl, hx]; exact hs), hx]
  by_cases hk : k < l.length * s
  · have s0 : 0 < s := by
      rcases Nat.eq_zero_or_pos s with c | c
      · subst c; omega
      · exact c
    have hkd : k / s < l.length := Nat.div_lt_of_lt_mul (by rw [Nat.mul_comm]; exact hk)
    have hke : k / s * s + k % s = k := by rw [Nat.mul_comm]; exact Nat.div_add_mod k s
    have hkm := Nat.mod_lt k s0
    have g1 := flat_get (k := k % s) h' (List.getElem?_eq_getElem (by simpa using hkd)) hkm
    have g2 := flat_get (k := k % s) h (List.getElem?_eq_getElem hkd) hkm
    rw [hke] at g1 g2
    rw [g1, g2]
    by_cases c : k / s = i
    · have e : i * s + k % s = k := by rw [← c]; exact hke
      rw [if_pos ⟨by omega, by omega⟩]
      simp only [c, List.getElem_set_self]
      congr 1
      omega
    · rw [if_neg, List.getElem_set_ne (Ne.symm c)]
      rintro ⟨c1, c2⟩
      apply c
      have d1 : i ≤ k / s := (Nat.le_div_iff_mul_le s0).2 c1
      have d2 : k / s < i + 1 := Nat.div_lt_of_lt_mul (by rw [Nat.mul_comm, Nat.add_mul]; omega)
      omega
  · rw [if_neg (by omega), List.getElem?_eq_none (by omega), List.getElem?_eq_none (by rw [flat_len h']; simp; omega)]

/-- A thing's cells. -/
def cel {α : Type} (enc : α → List Value) (t : Th α) : List Value := .int .i64 t.due :: .int .u64 t.no :: enc t.x
def flat {α : Type} (enc : α → List Value) (L : List (Th α)) : List Value := (L.map (cel enc)).flatten
def encI (x : Int) : List Value := [.int .i64 x]
section
variable {α : Type} {enc : α → List Value} {m : Nat}
theorem cels (he : ∀ x, (enc x).length = m) (L : List (Th α)) : ∀ x ∈ L.map (cel enc), x.length = m + 2 := fun x hx => by
  obtain ⟨t, _, rfl⟩ := List.mem_map.1 hx
  simp [cel, he]
theorem flat_length (he : ∀ x, (enc x).length = m) (L : List (Th α)) : (flat enc L).length = L.length * (m + 2) := by rw [flat, flat_len (cels he L)]; simp
theorem flat_at (he : ∀ x, (enc x).length = m) {L : List (Th α)} {i k : Nat} {t : Th α} (h : L[i]? = some t) (hk : k < m + 2) : (flat enc L)[i * (m + 2) + k]? = (cel enc t)[k]? :=
  flat_get (cels he L) (by rw [List.getElem?_map, h]; rfl) hk
theorem flat_put (he : ∀ x, (enc x).length = m) {L : List (Th α)} {i : Nat} (hi : i < L.length) (t : Th α) : puts (flat enc L) (i * (m + 2)) (cel enc t) = flat enc (L.set i t) := by
  rw [flat, flat_puts (cels he L) (by simpa using hi) (by simp [cel, he]), flat, List.map_set]
theorem flat_snoc (L : List (Th α)) (t : Th α) : flat enc (L ++ [t]) = flat enc L ++ cel enc t := by simp [flat]
theorem flat_take (he : ∀ x, (enc x).length = m) (L : List (Th α)) (n : Nat) (hn : n ≤ L.length) : flat enc (L.take n) = (flat enc L).take (n * (m + 2)) := by
  have e : flat enc L = flat enc (L.take n) ++ flat enc (L.drop n) := by
    unfold flat
    rw [← List.flatten_append, ← List.map_append, List.take_append_drop]
  have hl : (flat enc (L.take n)).length = n * (m + 2) := by rw [flat_length he]; simp [Nat.min_eq_left hn]
  rw [e, List.take_append_of_le_length (by omega), List.take_of_length_le (l := flat enc (L.take n)) (by omega)]
end

/-- A block that is known whole. -/
def Blk (w : World) (g : Nat) (t : TypeId) (cs : Array Value) : Prop := w.heap[g]? = some (.cells cs t (0, 0))
section
variable {w w' : World} {g : Nat} {t : TypeId} {cs : Array Value}
theorem Blk.lt (h : Blk w g t cs) : g < w.heap.size := (Array.getElem?_eq_some_iff.1 h).1
theorem Blk.cell (h : Blk w g t cs) (i : Nat) : w.cell? ⟨g, i, none⟩ = cs[i]? := cell_of_row w g i cs t (0, 0) h
theorem Blk.frozen (h : Blk w g t cs) (i : Nat) : w.frozen? ⟨g, i, none⟩ = false := by
  unfold Blk at h
  simp [World.frozen?, h]
theorem Blk.new (w : World) (t : TypeId) (cs : Array Value) : Blk (w.alloc (.cells cs t)) w.heap.size t cs := World.alloc_heap_new w _
theorem Blk.alloc (h : Blk w g t cs) (o : Obj) : Blk (w.alloc o) g t cs := (Below.heap_alloc w o g h.lt).trans h
theorem Blk.drewN (h : Blk w g t cs) (n : Nat) : Blk (w.drewN n) g t cs := h
theorem Blk.put (h : Blk w g t cs) (i : Nat) (u : Value) : Blk (w.setCell ⟨g, i, none⟩ u) g t (cs.setIfInBounds i u) := by
  unfold Blk at h ⊢
  simp [World.setCell, Array.getElem?_modify, h]
theorem Blk.far (h : Blk w g t cs) {p : Addr} (hp : g ≠ p.block) (u : Value) : Blk (w.setCell p u) g t cs := (Below.heap_setCell w p u g hp).trans h
theorem Blk.grown {row : Option Nat} (h : Blk w g t cs) (hb : w.grownBy w' row) (hg : some g ≠ row) : Blk w' g t cs := (hb.block g h.lt hg).trans h
theorem Blk.off {K : Nat → Prop} (h : Blk w g t cs) (hb : Off K w w') (hg : ¬ K g) : Blk w' g t cs := (hb.block g h.lt hg).trans h
theorem Blk.below {b : Nat} (h : Blk w g t cs) (hb : Below b w w') (hg : g < b) : Blk w' g t cs := (hb.block g hg).trans h
theorem Blk.uniq {t' : TypeId} {cs' : Array Value} (h : Blk w g t cs) (k : Blk w g t' cs') : t = t' ∧ cs = cs' := by
  unfold Blk at h k
  rw [h] at k
  injection k with k
  injection k with k1 k2
  exact ⟨k2, k1⟩
theorem Blk.ne {g' : Nat} {t' : TypeId} {cs' : Array Value} (h : Blk w g t cs) (k : Blk w g' t' cs') (hn : t ≠ t') : g ≠ g' := by rintro rfl; exact hn (h.uniq k).1
/-- A slice's row is a block. -/
theorem row_blk {base : Nat} {e : TypeId} {s n cap : Nat} {xs : List Value} (h : w.ownsRow base e s (.slice (some ⟨g, 0, none⟩) n cap) n xs) :
    ∃ cur, Blk w g e cur ∧ base ≤ g ∧ n ≤ cap ∧ cap ≤ maxLen ∧ cur.size = cap * s ∧ cur.toList.take (n * s) = xs := by
  rcases h.2 with ⟨h', _⟩ | ⟨g', cap', cur, h', hb, hg, hnc, hcm, hcs, ht⟩
  · simp at h'
  · simp only [Value.slice.injEq, Option.some.injEq, Addr.mk.injEq, and_true, true_and] at h'
    obtain ⟨rfl, rfl⟩ := h'
    exact ⟨cur, hg, hb, hnc, hcm, hcs, ht⟩
theorem row_of_blk {base : Nat} {e : TypeId} {s n cap : Nat} {cur : Array Value} (h : Blk w g e cur) (hb : base ≤ g) (hn : n ≤ cap) (hm : cap ≤ maxLen) (hs : cur.size = cap * s) :
    w.ownsRow base e s (.slice (some ⟨g, 0, none⟩) n cap) n (cur.toList.take (n * s)) := by
  refine ⟨?_, .inr ⟨g, cap, cur, rfl, hb, h, hn, hm, hs, rfl⟩⟩
  have : n * s ≤ cap * s := Nat.mul_le_mul_right s hn
  rw [List.length_take, Array.length_toList, hs]; omega
end
/-- The row is as long as it was, or shorter. -/
theorem row_less {w : World} {base : Nat} {e : TypeId} {s n m g cap : Nat} {xs : List Value} (h : w.ownsRow base e s (.slice (some ⟨g, 0, none⟩) n cap) n xs) (hm : m ≤ n) :
    w.ownsRow base e s (.slice (some ⟨g, 0, none⟩) m cap) m (xs.take (m * s)) := by
  obtain ⟨cur, hg, hb, hnc, hcm, hcs, ht⟩ := row_blk h
  have := row_of_blk (n := m) hg hb (by omega) hcm hcs
  have hms : m * s ≤ n * s := Nat.mul_le_mul_right s hm
  rwa [← ht, List.take_take, Nat.min_eq_left hms]
/-- Three cells stored into a row, one after the other. -/
theorem stored3 {w : World} {base : Nat} {e : TypeId} {s n g cap : Nat} {xs : List Value} (h : w.ownsRow base e s (.slice (some ⟨g, 0, none⟩) n cap) n xs) (o : Nat) (u v x : Value) :
    (((w.setCell ⟨g, o, none⟩ u).setCell ⟨g, o + 1, none⟩ v).setCell ⟨g, o + 2, none⟩ x).ownsRow base e s (.slice (some ⟨g, 0, none⟩) n cap) n (puts xs o [u, v, x]) ∧
      w.grownBy (((w.setCell ⟨g, o, none⟩ u).setCell ⟨g, o + 1, none⟩ v).setCell ⟨g, o + 2, none⟩ x) (some g) := by
  obtain ⟨h1, g1⟩ := h.stored o u
  obtain ⟨h2, g2⟩ := h1.stored (o + 1) v
  obtain ⟨h3, g3⟩ := h2.stored (o + 2) x
  exact ⟨h3, (g1.trans g2).trans g3⟩
theorem size_setCell (w : World) (a : Addr) (v : Value) : (w.setCell a v).heap.size = w.heap.size := by simp [World.setCell]
theorem own_drew {w : World} {base : Nat} {e : TypeId} {s n : Nat} {v : Value} {xs : List Value} (h : w.ownsRow base e s v n xs) : w.drew.ownsRow base e s v n xs := h
theorem own_drewN {w : World} {base : Nat} {e : TypeId} {s n : Nat} {v : Value} {xs : List Value} (h : w.ownsRow base e s v n xs) (k : Nat) : (w.drewN k).ownsRow base e s v n xs := h
theorem gr_drew {a w : World} {row : Option Nat} (h : a.grownBy w row) : a.grownBy w.drew row := ⟨h.os, h.tape, h.output, h.size, h.block⟩
theorem gr_drewN {a w : World} {row : Option Nat} (h : a.grownBy w row) (n : Nat) : a.grownBy (w.drewN n) row := ⟨h.os, h.tape, h.output, h.size, h.block⟩
theorem blk_drew {w : World} {g : Nat} {t : TypeId} {cs : Array Value} (h : Blk w g t cs) : Blk w.drew g t cs := h
theorem size_drew (w : World) : w.drew.heap.size = w.heap.size := rfl
theorem own_off {w w' : World} {K : Nat → Prop} {base : Nat} {e : TypeId} {s n : Nat} {v : Value} {xs : List Value} (h : w.ownsRow base e s v n xs) (o : Off K w w') (hn : ∀ g, v.ownBlock = some g → ¬ K g) : w'.ownsRow base e s v n xs := by
  rcases h.2 with ⟨rfl, h0⟩ | ⟨g, cap, cur, rfl, hb, hg, rest⟩
  · exact ⟨h.1, .inl ⟨rfl, h0⟩⟩
  · exact ⟨h.1, .inr ⟨g, cap, cur, rfl, hb, (o.block g (Array.getElem?_eq_some_iff.1 hg).1 (hn g rfl)).trans hg, rest⟩⟩
theorem own_ne {w : World} {base : Nat} {e t : TypeId} {s n g p cap : Nat} {xs : List Value} {cs : Array Value} (h : w.ownsRow base e s (.slice (some ⟨g, 0, none⟩) n cap) n xs) (hp : Blk w p t cs) (hn : t ≠ e) : p ≠ g := by
  obtain ⟨cur, hg, _⟩ := row_blk h
  exact hp.ne hg hn
theorem off_grown {a w : World} {g : Nat} (h : a.grownBy w (some g)) : Off (fun k => k = g) a w := ⟨h.os, h.tape, h.output, h.size, fun i hi hn => h.block i hi (fun c => hn (by cases c; rfl))⟩
theorem frz_new {w : World} {a : Addr} {o : Obj} (h : w.frozen? a = false) (hl : a.block < w.heap.size) : (w.alloc o).drew.frozen? a = false :=
  (World.frozen?_of_block (w := w) (Below.heap_alloc w o _ hl)).trans h
theorem own_below {w w' : World} {base : Nat} {e : TypeId} {s n : Nat} {v : Value} {xs : List Value} (h : w.ownsRow base e s v n xs) (k : Below w.heap.size w w') : w'.ownsRow base e s v n xs := by
  rcases h.2 with ⟨rfl, h0⟩ | ⟨g, cap, cur, rfl, hb, hg, rest⟩
  · exact ⟨h.1, .inl ⟨rfl, h0⟩⟩
  · exact ⟨h.1, .inr ⟨g, cap, cur, rfl, hb, (k.block g (Array.getElem?_eq_some_iff.1 hg).1).trans hg, rest⟩⟩
/-- Is it a block of cells of one of these types? -/
def isOf (ts : List TypeId) : Obj → Bool
  | .cells _ t _ => ts.contains t
  | _ => false
/-- Nothing below b has turned; of what lay from b on, blocks of these types alone may have. -/
structure Fr (b : Nat) (ts : List TypeId) (A B : World) : Prop where
  os : B.os = A.os
  tape : B.tape = A.tape
  output : B.output = A.output
  size : A.heap.size ≤ B.heap.size
  below : ∀ k, k < b → k < A.heap.size → B.heap[k]? = A.heap[k]?
  rest : ∀ (k : Nat) (o : Obj), A.heap[k]? = some o → isOf ts o = false → B.heap[k]? = some o
section
variable {b : Nat} {ts : List TypeId} {A B C : World}
theorem Fr.refl (b : Nat) (ts : List TypeId) (A : World) : Fr b ts A A := ⟨rfl, rfl, rfl, Nat.le_refl _, fun _ _ _ => rfl, fun _ _ h _ => h⟩
theorem Fr.trans (h : Fr b ts A B) (k : Fr b ts B C) : Fr b ts A C :=
  ⟨k.os.trans h.os, k.tape.trans h.tape, k.output.trans h.output, Nat.le_trans h.size k.size, fun i hi hA => (k.below i hi (Nat.lt_of_lt_of_le hA h.size)).trans (h.below i hi hA), fun i o hA ho => k.rest i o (h.rest i o hA ho) ho⟩
theorem Fr.of_off {K : Nat → Prop} (h : Off K A B) (hK : ∀ k, k < A.heap.size → K k → b ≤ k ∧ ∃ o, A.heap[k]? = some o ∧ isOf ts o = true) : Fr b ts A B :=
  ⟨h.os, h.tape, h.output, h.size, fun k hk hA => h.block k hA (fun c => by have := (hK k hA c).1; omega), fun k o hA ho => by
    have lt := (Array.getElem?_eq_some_iff.1 hA).1
    refine (h.block k lt (fun c => ?_)).trans hA
    obtain ⟨_, _, h1, h2⟩ := hK k lt c
    rw [hA] at h1; cases h1; rw [ho] at h2; cases h2⟩
theorem Fr.of_none (h : Off (fun _ => False) A B) : Fr b ts A B := Fr.of_off h fun _ _ c => c.elim
theorem isOf_more {ts ts' : List TypeId} (hs : ∀ t ∈ ts, t ∈ ts') {o : Obj} (ho : isOf ts' o = false) : isOf ts o = false := by
  cases o <;> first | rfl | (simp only [isOf, List.contains_eq_mem, decide_eq_false_iff_not] at ho ⊢; exact fun c => ho (hs _ c))
theorem Fr.more {ts' : List TypeId} (h : Fr b ts A B) (hs : ∀ t ∈ ts, t ∈ ts') : Fr b ts' A B := ⟨h.os, h.tape, h.output, h.size, h.below, fun k o hA ho => h.rest k o hA (isOf_more hs ho)⟩
theorem Fr.toBelow (h : Fr b ts A B) (hb : b ≤ A.heap.size) : Below b A B := ⟨h.os, h.tape, h.output, h.size, fun k hk => h.below k hk (by omega)⟩
theorem Fr.of_below (h : Below A.heap.size A B) : Fr b ts A B := ⟨h.os, h.tape, h.output, h.size, fun k _ hA => h.block k hA, fun k o hA _ => (h.block k (Array.getElem?_eq_some_iff.1 hA).1).trans hA⟩
theorem Fr.blk {g : Nat} {t : TypeId} {cs : Array Value} (h : Fr b ts A B) (k : Blk A g t cs) (hn : ts.contains t = false) : Blk B g t cs := h.rest g _ k hn
theorem Fr.cell {p : Addr} (h : Fr b ts A B) (hp : p.block < b) (hA : p.block < A.heap.size) : B.cell? p = A.cell? p := World.cell?_of_block (h.below _ hp hA)
theorem Fr.own {base : Nat} {e : TypeId} {s n : Nat} {v : Value} {xs : List Value} (h : Fr b ts A B) (k : A.ownsRow base e s v n xs) (hn : ts.contains e = false) : B.ownsRow base e s v n xs := by
  rcases k.2 with ⟨rfl, h0⟩ | ⟨g, cap, cur, rfl, hb, hg, rest⟩
  · exact ⟨k.1, .inl ⟨rfl, h0⟩⟩
  · exact ⟨k.1, .inr ⟨g, cap, cur, rfl, hb, h.rest g _ hg hn, rest⟩⟩
theorem Fr.low (h : Fr b ts A B) {b' : Nat} (hb : b' ≤ b) : Fr b' ts A B := ⟨h.os, h.tape, h.output, h.size, fun k hk => h.below k (by omega), h.rest⟩
theorem Fr.drewN (h : Fr b ts A B) (n : Nat) : Fr b ts A (B.drewN n) := ⟨h.os, h.tape, h.output, h.size, h.below, h.rest⟩
theorem Fr.drew (h : Fr b ts A B) : Fr b ts A B.drew := ⟨h.os, h.tape, h.output, h.size, h.below, h.rest⟩
theorem Fr.alloc (h : Fr b ts A B) (o : Obj) : Fr b ts A (B.alloc o) := h.trans (Fr.of_none ((Off.refl _ _).alloc o))
/-- A store into a block of one of the types, or into a block that is new. -/
theorem Fr.put (h : Fr b ts A B) {g : Nat} {t : TypeId} {cs : Array Value} (k : Blk B g t cs) (hb : b ≤ g) (hc : ts.contains t = true ∨ A.heap.size ≤ g) (i : Nat) (u : Value) : Fr b ts A (B.setCell ⟨g, i, none⟩ u) :=
  ⟨h.os, h.tape, h.output, by rw [size_setCell]; exact h.size, fun j hj hA => (Below.heap_setCell B ⟨g, i, none⟩ u j (by show j ≠ g; omega)).trans (h.below j hj hA), fun j o hA ho => by
    refine (Below.heap_setCell B ⟨g, i, none⟩ u j ?_).trans (h.rest j o hA ho)
    intro (e : j = g)
    rw [e] at hA
    rcases hc with hc | hc
    · have := h.rest _ o hA ho
      rw [show B.heap[g]? = _ from k] at this
      cases this
      simp only [isOf] at ho
      rw [hc] at ho; cases ho
    · have := (Array.getElem?_eq_some_iff.1 hA).1
      omega⟩
theorem Fr.grown_own {base : Nat} {e : TypeId} {s n : Nat} {v : Value} {xs : List Value} (hg : A.grownBy B v.ownBlock) (o : A.ownsRow base e s v n xs) (hc : ts.contains e = true) : Fr base ts A B := by
  refine Fr.of_off (K := fun k => some k = v.ownBlock) ⟨hg.os, hg.tape, hg.output, hg.size, fun i hi hn => hg.block i hi hn⟩ fun k _ hk => ?_
  rcases o.2 with ⟨rfl, _⟩ | ⟨g, cap, cur, rfl, hb, hh, _⟩
  · simp [Value.ownBlock] at hk
  · simp only [Value.ownBlock, Option.some.injEq] at hk
    subst hk
    exact ⟨hb, _, hh, hc⟩
theorem Fr.off_own {base g cap : Nat} {e : TypeId} {s n : Nat} {xs : List Value} (h : Off (fun k => k = g) A B) (o : A.ownsRow base e s (.slice (some ⟨g, 0, none⟩) n cap) n xs) (hc : ts.contains e = true) : Fr base ts A B := by
  obtain ⟨cur, hg, hb, _⟩ := row_blk o
  exact Fr.of_off h fun k _ hk => by subst hk; exact ⟨hb, _, hg, hc⟩
theorem Fr.grown_new {row : Option Nat} (h : Fr b ts A B) (hg : B.grownBy C row) (hr : ∀ k, row = some k → A.heap.size ≤ k) : Fr b ts A C :=
  ⟨hg.os.trans h.os, hg.tape.trans h.tape, hg.output.trans h.output, Nat.le_trans h.size hg.size, fun k hk hA => (hg.block k (Nat.lt_of_lt_of_le hA h.size) (fun e => by have := hr k e.symm; omega)).trans (h.below k hk hA), fun k o hA ho => by
    have lt := (Array.getElem?_eq_some_iff.1 hA).1
    exact (hg.block k (Nat.lt_of_lt_of_le lt h.size) (fun e => by have := hr k e.symm; omega)).trans (h.rest k o hA ho)⟩
end
end Go.Proofs.YtmbblhajbecomaaDoor.Heap
