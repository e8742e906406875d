/- Notes that come in. -/
import Derived.Test.YtpbabpbinojodaaDoorDriftWorks
import Derived.Test.YtpbabpbinojodaaDoorRead
namespace Go.Proofs.YtpbabpbinojodaaDoor.Drift
open Go.RowKit
open Go.Proofs.YtpbabpbinojodaaDoor.Arith Go.Proofs.YtpbabpbinojodaaDoor.Nodes Go.Proofs.YtpbabpbinojodaaDoor.Heap Go.Proofs.YtpbabpbinojodaaDoor.RF
set_option linter.unusedVariables false
set_option linter.unusedSimpArgs false
/-- A note as it lies. -/
structure NC where
  tick : Int
  ad : Option Addr
  cap : Nat
  zs : List Int
  s : Nat
def NC.nt (x : NC) : Nt := ⟨x.tick, x.zs, x.s⟩
def NC.cells (x : NC) : Array Value := #[.int .i64 x.tick, .slice x.ad x.zs.length x.cap, .int .u64 (x.s : Nat)]
structure NoteAt (w : World) (b o : Nat) (x : NC) : Prop where
  lt : b < w.heap.size
  c0 : w.cell? ⟨b, o, none⟩ = some (.int .i64 x.tick)
  c1 : w.cell? ⟨b, o + 1, none⟩ = some (.slice x.ad x.zs.length x.cap)
  c2 : w.cell? ⟨b, o + 2, none⟩ = some (.int .u64 (x.s : Nat))
  row : Row64 w x.ad x.zs
  s64 : x.s < 2 ^ 64
  len : x.zs.length ≤ 9223372036854775807
theorem NoteAt.below {c : Nat} {w v : World} {b o : Nat} {x : NC} (h : NoteAt w b o x) (k : Below c w v) (hc : w.heap.size ≤ c) : NoteAt v b o x := by
  have hl := h.lt
  exact ⟨Nat.lt_of_lt_of_le h.lt k.size, (k.cell (p := ⟨b, _, none⟩) (by show b < c; omega)).trans h.c0, (k.cell (p := ⟨b, _, none⟩) (by show b < c; omega)).trans h.c1, (k.cell (p := ⟨b, _, none⟩) (by show b < c; omega)).trans h.c2, h.row.below k hc, h.s64, h.len⟩
def NotesAt (w : World) (a : Option Addr) (l : List NC) : Prop := ∀ (i : Nat) (x : NC), l[i]? = some x → ∃ b off, a = some ⟨b, off, none⟩ ∧ NoteAt w b (off + i * 3) x
theorem NotesAt.below {c : Nat} {w v : World} {a : Option Addr} {l : List NC} (h : NotesAt w a l) (k : Below c w v) (hc : w.heap.size ≤ c) : NotesAt v a l := fun i x hx => by
  obtain ⟨b, off, e, hn⟩ := h i x hx
  exact ⟨b, off, e, hn.below k hc⟩
theorem row_of_ints {w : World} {a : Option Addr} {len cap : Nat} {zs : List Int} (h : Read.IntRow .i64 w a len cap zs) : Row64 w a (zs.take len) ∧ (zs.take len).length = len := by
  have hl : (zs.take len).length = len := by rw [List.length_take, h.size]; have := h.le; omega
  refine ⟨fun i hi => ?_, hl⟩
  rw [hl] at hi
  rcases h.at' with c | ⟨b, off, e, hb, hc⟩
  · have := h.le; omega
  · refine ⟨b, off, e, hb, ?_⟩
    have h2 := h.le
    rw [hc i (by omega), List.getD_eq_getElem?_getD, List.getElem?_take, if_pos hi]
theorem wf_u64 {n : Int} (h : (Lit.int .u64 n).wf = true) : ∃ s : Nat, n = (s : Int) ∧ s < 2 ^ 64 := by
  have h' := h
  simp [Lit.wf, IntKind.min, IntKind.max, IntKind.bits, IntKind.signed] at h'
  exact ⟨n.toNat, by omega, by omega⟩
theorem note_in {w : World} {x : Addr} {es : List Value} (h2 : w.cells? 0 x 3 = some es) (h3 : Read.Rd Tryd.prog w 29 es) : ∃ b o, x = ⟨b, o, none⟩ ∧ ∃ y : NC, NoteAt w b o y := by
  obtain ⟨hl, hf⟩ := h3.struct Tryd.underlying29
  obtain ⟨he, hc⟩ := Read.cells_at h2
  match es, he with
  | [v0, v1, v2], _ =>
    have q0 : Read.Rd Tryd.prog w 2 [v0] := by simpa [show Tryd.prog.cellsOf 2 = 1 by kernel_rfl] using hf 0 _ rfl
    have q1 : Read.Rd Tryd.prog w 26 [v1] := by simpa [show Tryd.prog.cellsOf 26 = 1 by kernel_rfl] using hf 1 _ rfl
    have q2 : Read.Rd Tryd.prog w 27 [v2] := by simpa [show Tryd.prog.cellsOf 27 = 1 by kernel_rfl] using hf 2 _ rfl
    obtain ⟨t, rfl, _⟩ := q0.int' Tryd.underlying2
    obtain ⟨a, len, cap, zs, rfl, hz⟩ := q1.ints' Tryd.underlying26 Tryd.underlying2 (by kernel_rfl)
    obtain ⟨n, rfl, hn⟩ := q2.int' Tryd.underlying27
    obtain ⟨s, rfl, hs⟩ := wf_u64 hn
    obtain ⟨hr, hrl⟩ := row_of_ints hz
    obtain ⟨b, o, spot⟩ := x
    have e0 := hc 0 (by omega)
    have hspot : spot = none := by simpa [Addr.add] using World.cell?_spot e0
    subst hspot
    have e1 := hc 1 (by omega)
    have e2 := hc 2 (by omega)
    simp only [Go.WideShapes.add_plain] at e0 e1 e2
    refine ⟨b, o, rfl, ⟨t, a, cap, zs.take len, s⟩, World.block_lt_of_cell? w _ e0, e0, ?_, e2, hr, hs, by rw [hrl]; have := hz.le; have := hz.max; omega⟩
    show w.cell? ⟨b, o + 1, none⟩ = some (.slice a (zs.take len).length cap)
    rw [hrl]; exact e1
theorem notes_in {w : World} {a : Option Addr} {len cap : Nat} (g : Read.Rd Tryd.prog w 23 [.slice a len cap]) : ∃ l : List NC, l.length = len ∧ len ≤ 9223372036854775807 ∧ NotesAt w a l := by
  rcases g.slice Tryd.underlying23 with h1 | ⟨x, l, c, h1, hl, hm, hr⟩
  · simp at h1
    obtain ⟨rfl, rfl, rfl⟩ := h1
    exact ⟨[], rfl, by omega, fun i x h => by simp at h⟩
  · simp at h1
    obtain ⟨rfl, rfl, rfl⟩ := h1
    rcases Nat.eq_zero_or_pos len with c0 | c0
    · subst c0; exact ⟨[], rfl, by omega, fun i x h => by simp at h⟩
    obtain ⟨xb, xo, rfl⟩ : ∃ b o, x = ⟨b, o, none⟩ := by
      obtain ⟨es, h2, h3⟩ := hr 0 (by omega)
      rw [show Tryd.prog.cellsOf 29 = 3 by kernel_rfl] at h2
      obtain ⟨b, o, e, y, hy⟩ := note_in h2 h3
      exact ⟨b, o, by simpa [Addr.add] using e⟩
    obtain ⟨ys, hy, hp⟩ := Read.choose_list (p := fun i y => ∃ b off, some (⟨xb, xo, none⟩ : Addr) = some ⟨b, off, none⟩ ∧ NoteAt w b (off + i * 3) y) len (fun i hi => by
      obtain ⟨es, h2, h3⟩ := hr i (by omega)
      rw [show Tryd.prog.cellsOf 29 = 3 by kernel_rfl] at h2
      obtain ⟨b, o, e, y, hy⟩ := note_in h2 h3
      simp only [Go.WideShapes.add_plain, Addr.mk.injEq, and_true] at e
      obtain ⟨rfl, rfl⟩ := e
      exact ⟨y, xb, xo, rfl, hy⟩)
    exact ⟨ys, hy, by unfold maxLen at hm; omega, fun i y h => hp i y h⟩
theorem wf_i64 {n : Int} (h : (Lit.int .i64 n).wf = true) : I64 n := by
  have h' := h
  simp [Lit.wf, IntKind.min, IntKind.max, IntKind.bits, IntKind.signed] at h'
  unfold I64; omega
theorem two64_in {w : World} {cs : Array Value} (g : Read.Rd Tryd.prog w 22 cs.toList) : ∃ x y : Int, cs = #[.int .i64 x, .int .i64 y] ∧ I64 x ∧ I64 y := by
  obtain ⟨x, y, h, hx, hy⟩ := g.two Tryd.underlying22 Tryd.underlying2 (by kernel_rfl) (by kernel_rfl)
  exact ⟨x, y, by rw [← Array.toArray_toList (xs := cs), h], wf_i64 hx, wf_i64 hy⟩
end Go.Proofs.YtpbabpbinojodaaDoor.Drift
