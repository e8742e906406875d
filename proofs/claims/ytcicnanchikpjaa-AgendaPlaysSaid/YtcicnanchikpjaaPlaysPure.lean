/- What AgendaPlays reads, and what its two agendas have in common: plain. -/
import Derived.Test.YtcicnanchikpjaaRefAgendaC
import Derived.Test.YtcicnanchikpjaaDrain
import Derived.Test.YtcicnanchikpjaaRead
namespace Go.Proofs.Ytcicnanchikpjaa.Heap
open Go.RowKit
open Go.Proofs.Ytcicnanchikpjaa.RF
set_option linter.unusedVariables false
set_option linter.unusedSimpArgs false

theorem cell_plain {w : World} {x : Addr} {v : Value} (h : w.cell? x = some v) : ∃ b off, x = ⟨b, off, none⟩ ∧ b < w.heap.size := by
  have hb := World.block_lt_of_cell? w x h
  obtain ⟨b, off, s⟩ := x
  cases s with
  | none => exact ⟨b, off, rfl, hb⟩
  | some y =>
    simp only [World.cell?] at h
    split at h <;> cases h
/-- Acts lie as they came. -/
def ActsIn (w : World) (a : Option Addr) (len cap : Nat) : Prop :=
  len ≤ cap ∧ cap ≤ maxLen ∧ ∀ i, i < len → ∃ (b off : Nat) (k d v : Int), a = some ⟨b, off, none⟩ ∧ b < w.heap.size ∧ w.cell? ⟨b, off + i * 3, none⟩ = some (.int .u8 k) ∧ w.cell? ⟨b, off + i * 3 + 1, none⟩ = some (.int .i64 d) ∧ w.cell? ⟨b, off + i * 3 + 2, none⟩ = some (.int .i64 v) ∧ (Lit.int .u8 k).wf = true ∧ (Lit.int .i64 d).wf = true ∧ (Lit.int .i64 v).wf = true
theorem ActsIn.below {w w' : World} {a : Option Addr} {len cap : Nat} (h : ActsIn w a len cap) (k : Below w.heap.size w w') : ActsIn w' a len cap := by
  refine ⟨h.1, h.2.1, fun i hi => ?_⟩
  obtain ⟨b, off, x, d, v, h1, h2, h3, h4, h5, h6⟩ := h.2.2 i hi
  exact ⟨b, off, x, d, v, h1, Nat.lt_of_lt_of_le h2 k.size, (k.cell (p := ⟨b, _, none⟩) h2).trans h3, (k.cell (p := ⟨b, _, none⟩) h2).trans h4, (k.cell (p := ⟨b, _, none⟩) h2).trans h5, h6⟩
theorem add_plain (b off k : Nat) : (⟨b, off, none⟩ : Addr).add k = ⟨b, off + k, none⟩ := by
  unfold Addr.add
  split
  · rename_i h; rw [h]; rfl
  · rfl
set_option maxRecDepth 100000 in
theorem acts_in {w : World} {a : Option Addr} {len cap : Nat} (h : Read.Rd Try.prog w 40 [.slice a len cap]) : ActsIn w a len cap := by
  rcases h.slice Try.underlying40 with h1 | ⟨x, l, c, h1, hl, hm, hr⟩
  · simp at h1
    obtain ⟨rfl, rfl, rfl⟩ := h1
    exact ⟨Nat.le_refl _, by unfold maxLen; omega, fun i hi => by omega⟩
  · simp at h1
    obtain ⟨rfl, rfl, rfl⟩ := h1
    have hx : 0 < len → ∃ b off, x = ⟨b, off, none⟩ ∧ b < w.heap.size := fun h0 => by
      obtain ⟨es, h2, h3⟩ := hr 0 (by omega)
      rw [show Try.prog.cellsOf 46 = 3 by kernel_rfl] at h2
      obtain ⟨h4, h5⟩ := Read.cells_at h2
      have g0 := h5 0 (by omega)
      rw [Addr.add_add, show 0 * 3 + 0 = 0 from rfl, show x.add 0 = x from rfl, List.getElem?_eq_getElem (by omega)] at g0
      exact cell_plain g0
    refine ⟨hl, hm, fun i hi => ?_⟩
    obtain ⟨b, off, rfl, hb⟩ := hx (by omega)
    have c3 : Try.prog.cellsOf 46 = 3 := by kernel_rfl
    have cu : Try.prog.cellsOf 5 = 1 := by kernel_rfl
    have ci : Try.prog.cellsOf 2 = 1 := by kernel_rfl
    obtain ⟨es, h2, h3⟩ := hr i (by omega)
    rw [c3] at h2
    obtain ⟨h4, h5⟩ := Read.cells_at h2
    obtain ⟨_, hf⟩ := Read.Rd.struct Try.underlying46 h3
    match es, h4 with
    | [e0, e1, e2], _ =>
      have q0 : Read.Rd Try.prog w 5 [e0] := by simpa [cu] using hf 0 _ rfl
      have q1 : Read.Rd Try.prog w 2 [e1] := by simpa [ci] using hf 1 _ rfl
      have q2 : Read.Rd Try.prog w 2 [e2] := by simpa [ci] using hf 2 _ rfl
      obtain ⟨k, rfl, w0⟩ := Read.Rd.int' Try.underlying5 q0
      obtain ⟨d, rfl, w1⟩ := Read.Rd.int' Try.underlying2 q1
      obtain ⟨v, rfl, w2⟩ := Read.Rd.int' Try.underlying2 q2
      have g0 := h5 0 (by omega)
      have g1 := h5 1 (by omega)
      have g2 := h5 2 (by omega)
      simp only [List.getElem?_cons_zero, List.getElem?_cons_succ] at g0 g1 g2
      rw [add_plain, add_plain] at g0 g1 g2
      exact ⟨b, off, k, d, v, rfl, hb, g0, g1, g2, w0, w1, w2⟩
/-- What both agendas hold. -/
structure Both (base p bw : Nat) (most : Int) (no : Nat) (S : List (Th Int)) (a : Option Addr) (cap : Nat) (wr : World) : Prop where
  ag : Agenda.I64.Ag base p most no S wr
  box : Blk wr bw 43 #[.slice a S.length cap, .int .i64 most]
  row : TAt wr a cap S
  rise : Rising S
  low : ∀ (j : Nat) (u : Th Int), S[j]? = some u → u.no < no
  len : (S.length : Int) ≤ most
theorem TAt.fr {A B : World} {a : Option Addr} {cap b : Nat} {S : List (Th Int)} {us : List TypeId} (h : TAt A a cap S) (k : Fr b us A B) (hn : us.contains 54 = false) : TAt B a cap S := by
  refine ⟨h.le, h.max, ?_⟩
  rcases h.at_ with c | ⟨g, h1, h2, h3, cur, hcur⟩
  · exact .inl c
  · have hk := k.blk hcur hn
    exact .inr ⟨g, h1, hk.lt, fun j u hu => (World.cell?_of_block ((show B.heap[g]? = A.heap[g]? from (show B.heap[g]? = _ from hk).trans (show A.heap[g]? = _ from hcur).symm))).trans (h3 j u hu), cur, hk⟩
/-- The document's agenda is set anew. -/
theorem Both.set {base p bw : Nat} {most : Int} {no : Nat} {S S' : List (Th Int)} {a a' : Option Addr} {cap cap' : Nat} {wr w4 : World} (h : Both base p bw most no S a cap wr) (b4 : Below wr.heap.size wr w4) (hT : TAt w4 a' cap' S') :
    Agenda.I64.Ag base p most no S ((w4.setCell ⟨bw, 0, none⟩ (.slice a' S'.length cap')).setCell ⟨bw, 1, none⟩ (.int .i64 most)) ∧ Blk ((w4.setCell ⟨bw, 0, none⟩ (.slice a' S'.length cap')).setCell ⟨bw, 1, none⟩ (.int .i64 most)) bw 43 #[.slice a' S'.length cap', .int .i64 most] ∧ TAt ((w4.setCell ⟨bw, 0, none⟩ (.slice a' S'.length cap')).setCell ⟨bw, 1, none⟩ (.int .i64 most)) a' cap' S' := by
  have hb := h.box.below b4 h.box.lt
  have f4 : Fr 0 [43] w4 ((w4.setCell ⟨bw, 0, none⟩ (.slice a' S'.length cap')).setCell ⟨bw, 1, none⟩ (.int .i64 most)) := ((Fr.refl _ _ w4).put hb (Nat.zero_le _) (.inl rfl) 0 _).put (hb.put 0 _) (Nat.zero_le _) (.inl rfl) 1 _
  exact ⟨(h.ag.fr (Fr.of_below (b := 0) (ts := []) b4) rfl rfl).fr f4 rfl rfl, (hb.put 0 _).put 1 _, hT.fr f4 rfl⟩
/-- A thing was added to both. -/
theorem both_add {base p bw : Nat} {most : Int} {no : Nat} {S : List (Th Int)} {a : Option Addr} {cap : Nat} {V V' : World} {due x : Int} (ag : Agenda.I64.Ag base p most (no + 1) (S ++ [⟨due, no, x⟩]) V') (box : Blk V bw 43 #[.slice a (S ++ [(⟨due, no, x⟩ : Th Int)]).length cap, .int .i64 most]) (row : TAt V a cap (S ++ [⟨due, no, x⟩]))
    (fr : Fr base Agenda.I64.ts V V') (rise : Rising S) (low : ∀ (j : Nat) (u : Th Int), S[j]? = some u → u.no < no) (hm : ¬ most ≤ (S.length : Int)) : Both base p bw most (no + 1) (S ++ [⟨due, no, x⟩]) a cap V' := by
  refine ⟨ag, fr.blk box rfl, row.fr fr rfl, rise.add (fun j u hu => low j u hu), fun j u hu => ?_, by simp; omega⟩
  rcases Nat.lt_or_ge j S.length with c | c
  · rw [List.getElem?_append_left c] at hu
    have := low j u hu
    omega
  · rw [List.getElem?_append_right c] at hu
    rcases hj : j - S.length with _ | k
    · rw [hj] at hu
      simp at hu
      subst hu
      exact Nat.lt_succ_self _
    · rw [hj] at hu; simp at hu
end Go.Proofs.Ytcicnanchikpjaa.Heap
