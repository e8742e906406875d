/- What cells that can be read as data hold: a reading taken apart by the type's shape; for whatever program. -/
import Derived.WalkKit
import Derived.ProofKit
import Derived.OpenShut
namespace Go.Proofs.YtmbblhajbecomaaDoor.Read
set_option maxRecDepth 100000
open Go.ChangeShapes Go.WideShapes Go.ChangeAt Go.RowKit

variable {P : Program} {w : World} {t e : TypeId} {cs : List Value} {k : IntKind}

/-- The cells read as data of type t. -/
def Rd (P : Program) (w : World) (t : TypeId) (cs : List Value) : Prop :=
  ∃ (H : Type) (enc : TypeId × Value → H) (fuel : Nat) (x : DataW H × List MemPlace), DataW.trod enc P w 0 (fun _ => true) true fuel t cs = some x

theorem Rd.int (ht : P.underlying t = some (.int k)) (h : Rd P w t cs) : ∃ n, cs = [.int k n] ∧ (Lit.int k n).wf = true := by
  obtain ⟨H, enc, fuel, x, h⟩ := h
  cases fuel with
  | zero => simp [DataW.trod] at h
  | succ n =>
    unfold DataW.trod at h
    rw [ht] at h
    split at h <;> simp_all
theorem Rd.bool (ht : P.underlying t = some .bool) (h : Rd P w t cs) : ∃ b, cs = [.bool b] := by
  obtain ⟨H, enc, fuel, x, h⟩ := h
  cases fuel with
  | zero => simp [DataW.trod] at h
  | succ n =>
    unfold DataW.trod at h
    rw [ht] at h
    split at h <;> simp_all
theorem Rd.struct {fs : Array Field} (ht : P.underlying t = some (.struct fs)) (h : Rd P w t cs) :
    cs.length = P.cellsOf t ∧ ∀ (i : Nat) (f : Field), fs[i]? = some f → Rd P w f.type ((cs.drop f.offset).take (P.cellsOf f.type)) := by
  obtain ⟨H, enc, fuel, x, h⟩ := h
  obtain ⟨xs, n, _, _, hl, hn, hf⟩ := DataW.trod_struct ht h
  refine ⟨hl, fun i f hi => ⟨H, enc, n, ?_⟩⟩
  have hlt : i < xs.length := by
    rw [hn]
    rcases Nat.lt_or_ge i fs.size with c | c
    · exact c
    · rw [Array.getElem?_eq_none c] at hi; cases hi
  exact ⟨xs[i], by rw [hf i f hi]; simp [hlt]⟩
theorem Rd.array {n : Nat} (ht : P.underlying t = some (.array n e)) (h : Rd P w t cs) :
    cs.length = P.cellsOf t ∧ ∀ (i : Nat), i < n → Rd P w e ((cs.drop (i * P.cellsOf e)).take (P.cellsOf e)) := by
  obtain ⟨H, enc, fuel, x, h⟩ := h
  obtain ⟨xs, m, _, _, hl, hn, hf⟩ := DataW.trod_array ht h
  refine ⟨hl, fun i hi => ⟨H, enc, m, xs[i]'(by omega), ?_⟩⟩
  rw [hf i hi]
  simp [hn, hi]
theorem Rd.slice (ht : P.underlying t = some (.slice e)) (h : Rd P w t cs) :
    cs = [.slice none 0 0] ∨ ∃ a len cap, cs = [.slice (some a) len cap] ∧ len ≤ cap ∧ cap ≤ maxLen ∧
      ∀ (i : Nat), i < cap → ∃ es, w.cells? 0 (a.add (i * P.cellsOf e)) (P.cellsOf e) = some es ∧ Rd P w e es := by
  obtain ⟨H, enc, fuel, x, h⟩ := h
  rcases DataW.trod_slice ht h with ⟨h1, _⟩ | ⟨a, len, cap, xs, ys, n, _, hcs, _, _, hl, hm, hx, h1, h2, _⟩
  · exact .inl h1
  · refine .inr ⟨a, len, cap, hcs, hl, hm, fun i hi => ?_⟩
    obtain ⟨hy, h3⟩ := h2 rfl
    by_cases c : i < len
    · have h4 := h1 i c
      rw [List.getElem?_eq_getElem (by omega : i < xs.length)] at h4
      obtain ⟨es, h5, h6⟩ := Option.bind_eq_some_iff.1 h4
      exact ⟨es, h5, H, enc, n, _, h6⟩
    · have h4 := h3 (i - len) (by omega)
      rw [List.getElem?_eq_getElem (by omega : i - len < ys.length)] at h4
      obtain ⟨es, h5, h6⟩ := Option.bind_eq_some_iff.1 h4
      rw [show len + (i - len) = i by omega] at h5
      exact ⟨es, h5, H, enc, n, _, h6⟩

/-- Cells read at an address. -/
theorem cells_at {a : Addr} {n : Nat} {es : List Value} (h : w.cells? 0 a n = some es) : es.length = n ∧ ∀ j, j < n → w.cell? (a.add j) = es[j]? := by
  unfold World.cells? at h
  rw [if_pos (Nat.zero_le _)] at h
  refine ⟨by simpa using mapM_some_length h, fun j hj => ?_⟩
  exact mapM_some_get h j j (by simp [hj])

/-- A slice of integers of kind k that came in: its numbers up to its capacity, and where they lie. -/
structure IntRow (k : IntKind) (w : World) (a : Option Addr) (len cap : Nat) (zs : List Int) : Prop where
  le : len ≤ cap
  max : cap ≤ 9223372036854775807
  size : zs.length = cap
  wf : ∀ x ∈ zs, (Lit.int k x).wf = true
  at' : cap = 0 ∨ ∃ b off, a = some ⟨b, off, none⟩ ∧ b < w.heap.size ∧ ∀ i, i < cap → w.cell? ⟨b, off + i, none⟩ = some (.int k (zs[i]?.getD 0))
theorem choose_list {α : Type} {p : Nat → α → Prop} : ∀ n : Nat, (∀ i, i < n → ∃ x, p i x) → ∃ l : List α, l.length = n ∧ ∀ i x, l[i]? = some x → p i x
  | 0, _ => ⟨[], rfl, by intro i x h; simp at h⟩
  | n + 1, h => by
    obtain ⟨l, hl, hp⟩ := choose_list n (fun i hi => h i (by omega))
    obtain ⟨x, hx⟩ := h n (by omega)
    refine ⟨l ++ [x], by simp [hl], fun i y hy => ?_⟩
    by_cases c : i < n
    · rw [List.getElem?_append_left (by omega)] at hy
      exact hp i y hy
    · rw [List.getElem?_append_right (by omega), hl] at hy
      have : i = n := by
        by_cases d : i = n
        · exact d
        · rw [List.getElem?_eq_none (by simp; omega)] at hy; cases hy
      subst this
      simp at hy
      subst hy
      exact hx
theorem Rd.ints {a : Option Addr} {len cap : Nat} (ht : P.underlying t = some (.slice e)) (he : P.underlying e = some (.int k)) (hc : P.cellsOf e = 1) (h : Rd P w t [.slice a len cap]) :
    ∃ zs, IntRow k w a len cap zs := by
  rcases h.slice ht with h1 | ⟨x, l, c, h1, hl, hm, hr⟩
  · simp at h1
    obtain ⟨rfl, rfl, rfl⟩ := h1
    exact ⟨[], Nat.le_refl _, by omega, rfl, by simp, .inl rfl⟩
  · simp at h1
    obtain ⟨rfl, rfl, rfl⟩ := h1
    have hr' : ∀ i, i < cap → ∃ n, w.cell? (x.add i) = some (.int k n) ∧ (Lit.int k n).wf = true := by
      intro i hi
      obtain ⟨es, h2, h3⟩ := hr i hi
      rw [hc] at h2
      obtain ⟨n, rfl, hw⟩ := h3.int he
      have := (cells_at h2).2 0 (by omega)
      refine ⟨n, ?_, hw⟩
      simpa [Addr.add] using this
    obtain ⟨zs, hz, hp⟩ := choose_list cap hr'
    refine ⟨zs, hl, by unfold maxLen at hm; omega, hz, fun n hn => ?_, ?_⟩
    · obtain ⟨i, hi⟩ := List.getElem?_of_mem hn
      exact (hp i n hi).2
    · rcases Nat.eq_zero_or_pos cap with c0 | c0
      · exact .inl c0
      · right
        have hcell : ∀ i, i < zs.length → w.cell? (x.add i) = some (.int k (zs.getD i 0)) := by
          intro i hi
          have := (hp i zs[i] (by simp [hi])).1
          rw [this]; simp [List.getD_eq_getElem?_getD, hi]
        obtain ⟨b, off, rfl, hb⟩ := ints_at hcell (by omega)
        refine ⟨b, off, rfl, World.block_lt_of_cell? w _ (hb 0 (by omega)), fun i hi => ?_⟩
        rw [hb i (by omega), List.getD_eq_getElem?_getD]
/-- An array of two integers. -/
theorem Rd.two (ht : P.underlying t = some (.array 2 e)) (he : P.underlying e = some (.int k)) (hc : P.cellsOf e = 1) (hC : P.cellsOf t = 2) (h : Rd P w t cs) :
    ∃ m n, cs = [.int k m, .int k n] ∧ (Lit.int k m).wf = true ∧ (Lit.int k n).wf = true := by
  obtain ⟨hl, hf⟩ := h.array ht
  rw [hC] at hl
  rw [hc] at hf
  obtain ⟨m, hm, wm⟩ := (hf 0 (by omega)).int he
  obtain ⟨n, hn, wn⟩ := (hf 1 (by omega)).int he
  match cs, hl with
  | [x, y], _ =>
    simp at hm hn
    subst hm hn
    exact ⟨m, n, rfl, wm, wn⟩
/-- A slice of integers, in whatever cell. -/
theorem Rd.ints' {v : Value} (ht : P.underlying t = some (.slice e)) (he : P.underlying e = some (.int k)) (hc : P.cellsOf e = 1) (h : Rd P w t [v]) :
    ∃ a len cap zs, v = .slice a len cap ∧ IntRow k w a len cap zs := by
  rcases h.slice ht with h1 | ⟨x, l, c, h1, hl, hm, hr⟩
  · simp at h1
    subst h1
    obtain ⟨zs, hz⟩ := h.ints ht he hc
    exact ⟨_, _, _, zs, rfl, hz⟩
  · simp at h1
    subst h1
    obtain ⟨zs, hz⟩ := h.ints ht he hc
    exact ⟨_, _, _, zs, rfl, hz⟩
theorem Rd.int' {v : Value} (ht : P.underlying t = some (.int k)) (h : Rd P w t [v]) : ∃ n, v = .int k n ∧ (Lit.int k n).wf = true := by
  obtain ⟨n, h1, h2⟩ := h.int ht
  simp at h1
  exact ⟨n, h1, h2⟩
theorem cells1 {cs : Array Value} (h : cs.toList.length = 1) : ∃ x0, cs = #[x0] := by
  obtain ⟨l⟩ := cs
  match l, h with
  | [x0], _ => exact ⟨x0, rfl⟩
theorem cells2 {cs : Array Value} (h : cs.toList.length = 2) : ∃ x0 x1, cs = #[x0, x1] := by
  obtain ⟨l⟩ := cs
  match l, h with
  | [x0, x1], _ => exact ⟨x0, x1, rfl⟩
theorem cells3 {cs : Array Value} (h : cs.toList.length = 3) : ∃ x0 x1 x2, cs = #[x0, x1, x2] := by
  obtain ⟨l⟩ := cs
  match l, h with
  | [x0, x1, x2], _ => exact ⟨x0, x1, x2, rfl⟩
theorem cells4 {cs : Array Value} (h : cs.toList.length = 4) : ∃ x0 x1 x2 x3, cs = #[x0, x1, x2, x3] := by
  obtain ⟨l⟩ := cs
  match l, h with
  | [x0, x1, x2, x3], _ => exact ⟨x0, x1, x2, x3, rfl⟩
theorem cells5 {cs : Array Value} (h : cs.toList.length = 5) : ∃ x0 x1 x2 x3 x4, cs = #[x0, x1, x2, x3, x4] := by
  obtain ⟨l⟩ := cs
  match l, h with
  | [x0, x1, x2, x3, x4], _ => exact ⟨x0, x1, x2, x3, x4, rfl⟩
theorem cells6 {cs : Array Value} (h : cs.toList.length = 6) : ∃ x0 x1 x2 x3 x4 x5, cs = #[x0, x1, x2, x3, x4, x5] := by
  obtain ⟨l⟩ := cs
  match l, h with
  | [x0, x1, x2, x3, x4, x5], _ => exact ⟨x0, x1, x2, x3, x4, x5, rfl⟩
theorem cells7 {cs : Array Value} (h : cs.toList.length = 7) : ∃ x0 x1 x2 x3 x4 x5 x6, cs = #[x0, x1, x2, x3, x4, x5, x6] := by
  obtain ⟨l⟩ := cs
  match l, h with
  | [x0, x1, x2, x3, x4, x5, x6], _ => exact ⟨x0, x1, x2, x3, x4, x5, x6, rfl⟩
theorem cells8 {cs : Array Value} (h : cs.toList.length = 8) : ∃ x0 x1 x2 x3 x4 x5 x6 x7, cs = #[x0, x1, x2, x3, x4, x5, x6, x7] := by
  obtain ⟨l⟩ := cs
  match l, h with
  | [x0, x1, x2, x3, x4, x5, x6, x7], _ => exact ⟨x0, x1, x2, x3, x4, x5, x6, x7, rfl⟩
theorem cells9 {cs : Array Value} (h : cs.toList.length = 9) : ∃ x0 x1 x2 x3 x4 x5 x6 x7 x8, cs = #[x0, x1, x2, x3, x4, x5, x6, x7, x8] := by
  obtain ⟨l⟩ := cs
  match l, h with
  | [x0, x1, x2, x3, x4, x5, x6, x7, x8], _ => exact ⟨x0, x1, x2, x3, x4, x5, x6, x7, x8, rfl⟩
theorem cells10 {cs : Array Value} (h : cs.toList.length = 10) : ∃ x0 x1 x2 x3 x4 x5 x6 x7 x8 x9, cs = #[x0, x1, x2, x3, x4, x5, x6, x7, x8, x9] := by
  obtain ⟨l⟩ := cs
  match l, h with
  | [x0, x1, x2, x3, x4, x5, x6, x7, x8, x9], _ => exact ⟨x0, x1, x2, x3, x4, x5, x6, x7, x8, x9, rfl⟩
theorem cells11 {cs : Array Value} (h : cs.toList.length = 11) : ∃ x0 x1 x2 x3 x4 x5 x6 x7 x8 x9 x10, cs = #[x0, x1, x2, x3, x4, x5, x6, x7, x8, x9, x10] := by
  obtain ⟨l⟩ := cs
  match l, h with
  | [x0, x1, x2, x3, x4, x5, x6, x7, x8, x9, x10], _ => exact ⟨x0, x1, x2, x3, x4, x5, x6, x7, x8, x9, x10, rfl⟩
theorem cells12 {cs : Array Value} (h : cs.toList.length = 12) : ∃ x0 x1 x2 x3 x4 x5 x6 x7 x8 x9 x10 x11, cs = #[x0, x1, x2, x3, x4, x5, x6, x7, x8, x9, x10, x11] := by
  obtain ⟨l⟩ := cs
  match l, h with
  | [x0, x1, x2, x3, x4, x5, x6, x7, x8, x9, x10, x11], _ => exact ⟨x0, x1, x2, x3, x4, x5, x6, x7, x8, x9, x10, x11, rfl⟩
theorem cells13 {cs : Array Value} (h : cs.toList.length = 13) : ∃ x0 x1 x2 x3 x4 x5 x6 x7 x8 x9 x10 x11 x12, cs = #[x0, x1, x2, x3, x4, x5, x6, x7, x8, x9, x10, x11, x12] := by
  obtain ⟨l⟩ := cs
  match l, h with
  | [x0, x1, x2, x3, x4, x5, x6, x7, x8, x9, x10, x11, x12], _ => exact ⟨x0, x1, x2, x3, x4, x5, x6, x7, x8, x9, x10, x11, x12, rfl⟩
theorem cells14 {cs : Array Value} (h : cs.toList.length = 14) : ∃ x0 x1 x2 x3 x4 x5 x6 x7 x8 x9 x10 x11 x12 x13, cs = #[x0, x1, x2, x3, x4, x5, x6, x7, x8, x9, x10, x11, x12, x13] := by
  obtain ⟨l⟩ := cs
  match l, h with
  | [x0, x1, x2, x3, x4, x5, x6, x7, x8, x9, x10, x11, x12, x13], _ => exact ⟨x0, x1, x2, x3, x4, x5, x6, x7, x8, x9, x10, x11, x12, x13, rfl⟩
theorem cells15 {cs : Array Value} (h : cs.toList.length = 15) : ∃ x0 x1 x2 x3 x4 x5 x6 x7 x8 x9 x10 x11 x12 x13 x14, cs = #[x0, x1, x2, x3, x4, x5, x6, x7, x8, x9, x10, x11, x12, x13, x14] := by
  obtain ⟨l⟩ := cs
  match l, h with
  | [x0, x1, x2, x3, x4, x5, x6, x7, x8, x9, x10, x11, x12, x13, x14], _ => exact ⟨x0, x1, x2, x3, x4, x5, x6, x7, x8, x9, x10, x11, x12, x13, x14, rfl⟩
theorem cells16 {cs : Array Value} (h : cs.toList.length = 16) : ∃ x0 x1 x2 x3 x4 x5 x6 x7 x8 x9 x10 x11 x12 x13 x14 x15, cs = #[x0, x1, x2, x3, x4, x5, x6, x7, x8, x9, x10, x11, x12, x13, x14, x15] := by
  obtain ⟨l⟩ := cs
  match l, h with
  | [x0, x1, x2, x3, x4, x5, x6, x7, x8, x9, x10, x11, x12, x13, x14, x15], _ => exact ⟨x0, x1, x2, x3, x4, x5, x6, x7, x8, x9, x10, x11, x12, x13, x14, x15, rfl⟩
theorem cells17 {cs : Array Value} (h : cs.toList.length = 17) : ∃ x0 x1 x2 x3 x4 x5 x6 x7 x8 x9 x10 x11 x12 x13 x14 x15 x16, cs = #[x0, x1, x2, x3, x4, x5, x6, x7, x8, x9, x10, x11, x12, x13, x14, x15, x16] := by
  obtain ⟨l⟩ := cs
  match l, h with
  | [x0, x1, x2, x3, x4, x5, x6, x7, x8, x9, x10, x11, x12, x13, x14, x15, x16], _ => exact ⟨x0, x1, x2, x3, x4, x5, x6, x7, x8, x9, x10, x11, x12, x13, x14, x15, x16, rfl⟩
theorem cells18 {cs : Array Value} (h : cs.toList.length = 18) : ∃ x0 x1 x2 x3 x4 x5 x6 x7 x8 x9 x10 x11 x12 x13 x14 x15 x16 x17, cs = #[x0, x1, x2, x3, x4, x5, x6, x7, x8, x9, x10, x11, x12, x13, x14, x15, x16, x17] := by
  obtain ⟨l⟩ := cs
  match l, h with
  | [x0, x1, x2, x3, x4, x5, x6, x7, x8, x9, x10, x11, x12, x13, x14, x15, x16, x17], _ => exact ⟨x0, x1, x2, x3, x4, x5, x6, x7, x8, x9, x10, x11, x12, x13, x14, x15, x16, x17, rfl⟩
theorem okWide_array {r : Reach} {base n : Nat} {v : Value} (ht : P.underlying t = some (.array n e)) (h : Value.okWide P w r base t v) : ∃ cs, v = .agg cs ∧ cs.size = P.cellsOf t := by
  simp only [Value.okWide, ht] at h
  obtain ⟨cs, h1, h2, _⟩ := h
  exact ⟨cs, h1, h2⟩
end Go.Proofs.YtmbblhajbecomaaDoor.Read
