/- What is taken from both agendas: one step, told once. -/
import Derived.Test.YtcicnanchikpjaaPlaysPure
namespace Go.Proofs.Ytcicnanchikpjaa.Heap
open Go.RowKit
open Go.Proofs.Ytcicnanchikpjaa.RF
set_option linter.unusedVariables false
set_option linter.unusedSimpArgs false

def Step (S : List (Th Int)) (now : Int) (S' : List (Th Int)) (x : Int) (was : Bool) : Prop :=
  (was = false ∧ x = 0 ∧ S' = S ∧ Late S now) ∨ (was = true ∧ ∃ (i : Nat) (t : Th Int), First S i t ∧ t.due ≤ now ∧ S' = S.eraseIdx i ∧ x = t.x)
theorem late_or (S : List (Th Int)) (now : Int) : Late S now ∨ ∃ (i : Nat) (t : Th Int), First S i t ∧ t.due ≤ now := by
  by_cases h0 : S = []
  · subst h0; exact .inl fun j u hu => by simp at hu
  · obtain ⟨i, t, hf⟩ := exists_first S h0
    by_cases c : t.due ≤ now
    · exact .inr ⟨i, t, hf, c⟩
    · exact .inl fun j u hu => by have := hf.le j u hu; omega
theorem Step.uniq {S : List (Th Int)} {now : Int} {S1 S2 : List (Th Int)} {x1 x2 : Int} {b1 b2 : Bool} (h : Step S now S1 x1 b1) (k : Step S now S2 x2 b2) : S1 = S2 ∧ x1 = x2 ∧ b1 = b2 := by
  rcases h with ⟨rfl, rfl, rfl, hl⟩ | ⟨rfl, i, t, hf, hd, rfl, rfl⟩
  · rcases k with ⟨rfl, rfl, rfl, _⟩ | ⟨rfl, i, t, hf, hd, _, _⟩
    · exact ⟨rfl, rfl, rfl⟩
    · have := hl _ _ hf.get; omega
  · rcases k with ⟨_, _, _, hl⟩ | ⟨rfl, j, u, hg, _, rfl, rfl⟩
    · have := hl _ _ hf.get; omega
    · obtain ⟨rfl, rfl⟩ := hf.uniq hg
      exact ⟨rfl, rfl, rfl⟩
theorem Step.len {S : List (Th Int)} {now : Int} {S' : List (Th Int)} {x : Int} {b : Bool} (h : Step S now S' x b) : S'.length ≤ S.length := by
  rcases h with ⟨_, _, rfl, _⟩ | ⟨_, i, t, _, _, rfl, _⟩
  · exact Nat.le_refl _
  · rw [List.length_eraseIdx]; split <;> omega
theorem Step.rise {S : List (Th Int)} {now : Int} {S' : List (Th Int)} {x : Int} {b : Bool} (h : Step S now S' x b) (hr : Rising S) : Rising S' := by
  rcases h with ⟨_, _, rfl, _⟩ | ⟨_, i, t, _, _, rfl, _⟩
  · exact hr
  · exact hr.erase i
theorem Step.low {S : List (Th Int)} {now : Int} {S' : List (Th Int)} {x : Int} {b : Bool} {no : Nat} (h : Step S now S' x b) (hl : ∀ (j : Nat) (u : Th Int), S[j]? = some u → u.no < no) : ∀ (j : Nat) (u : Th Int), S'[j]? = some u → u.no < no := by
  rcases h with ⟨_, _, rfl, _⟩ | ⟨_, i, t, _, _, rfl, _⟩
  · exact hl
  · intro j u hu
    obtain ⟨k, hk, _⟩ := get_erase hu
    exact hl k u hk
theorem reftake_ex (most : Int) (a : Option Addr) (cap : Nat) (S : List (Th Int)) (now : Int) (w : World) (h : TAt w a cap S) (hS : S.length ≤ 65536) :
    Calls Try.prog 28 #[.agg #[.slice a S.length cap, .int .i64 most], .int .i64 now] w fun e w' => ∃ (S' : List (Th Int)) (a' : Option Addr) (cap' : Nat) (x : Int) (was : Bool), e = .returned (.tuple #[.agg #[.slice a' S'.length cap', .int .i64 most], .int .i64 x, .bool was]) ∧ TAt w' a' cap' S' ∧ Below w.heap.size w w' ∧ Step S now S' x was := by
  rcases late_or S now with hl | ⟨i, t, hf, hd⟩
  · refine (reftake_no most a cap S now w h hS hl).mono ?_
    rintro e w' ⟨rfl, b⟩
    exact ⟨S, a, cap, 0, false, rfl, h.below b, b, .inl ⟨rfl, rfl, rfl, hl⟩⟩
  · refine (reftake_yes most a cap S now w h hS i t hf hd).mono ?_
    rintro e w' ⟨b, cap', rfl, hT, hb⟩
    exact ⟨S.eraseIdx i, some ⟨b, 0, none⟩, cap', t.x, true, rfl, hT, hb, .inr ⟨rfl, i, t, hf, hd, rfl, rfl⟩⟩
theorem agtake_ex (base p : Nat) (most : Int) (no : Nat) (S : List (Th Int)) (now : Int) (w : World) (h : Agenda.I64.Ag base p most no S w) (hr : Rising S) (hS : S.length ≤ 65536) :
    Calls Try.prog 27 #[.pointer (some ⟨p, 0, none⟩), .int .i64 now] w fun e w' => ∃ (S' : List (Th Int)) (x : Int) (was : Bool), e = .returned (.tuple #[.int .i64 x, .bool was]) ∧ Agenda.I64.Ag base p most no S' w' ∧ Fr base Agenda.I64.ts w w' ∧ Step S now S' x was := by
  rcases late_or S now with hl | ⟨i, t, hf, hd⟩
  · by_cases h0 : S = []
    · subst h0
      refine (Agenda.I64.take_none base p most no now w h).mono ?_
      rintro e w' ⟨rfl, rfl⟩
      exact ⟨[], 0, false, rfl, h, Fr.refl _ _ _, .inl ⟨rfl, rfl, rfl, hl⟩⟩
    · obtain ⟨i, t, hf⟩ := exists_first S h0
      refine (Agenda.I64.take_late base p most no S now w h hr i t hf hS (hl _ _ hf.get)).mono ?_
      rintro e w' ⟨rfl, rfl⟩
      exact ⟨S, 0, false, rfl, h, Fr.refl _ _ _, .inl ⟨rfl, rfl, rfl, hl⟩⟩
  · refine (Agenda.I64.take_yes base p most no S now w h hr i t hf hS hd).mono ?_
    rintro e w' ⟨rfl, ha, hfr⟩
    exact ⟨S.eraseIdx i, t.x, true, rfl, ha, hfr, .inr ⟨rfl, i, t, hf, hd, rfl, rfl⟩⟩
theorem set_box {base p bw : Nat} {most : Int} {no : Nat} {S S' : List (Th Int)} {a' : Option Addr} {cap' : Nat} {V Y : World} {c0 c1 : Value} (ag : Agenda.I64.Ag base p most no S V) (box : Blk V bw 43 #[c0, c1]) (b4 : Below V.heap.size V Y) (hT : TAt Y a' cap' S') :
    Agenda.I64.Ag base p most no S ((Y.setCell ⟨bw, 0, none⟩ (.slice a' S'.length cap')).setCell ⟨bw, 1, none⟩ (.int .i64 most)) ∧ Blk ((Y.setCell ⟨bw, 0, none⟩ (.slice a' S'.length cap')).setCell ⟨bw, 1, none⟩ (.int .i64 most)) bw 43 #[.slice a' S'.length cap', .int .i64 most] ∧ TAt ((Y.setCell ⟨bw, 0, none⟩ (.slice a' S'.length cap')).setCell ⟨bw, 1, none⟩ (.int .i64 most)) a' cap' S' := by
  have hb := box.below b4 box.lt
  have f4 : Fr 0 [43] Y ((Y.setCell ⟨bw, 0, none⟩ (.slice a' S'.length cap')).setCell ⟨bw, 1, none⟩ (.int .i64 most)) := ((Fr.refl _ _ Y).put hb (Nat.zero_le _) (.inl rfl) 0 _).put (hb.put 0 _) (Nat.zero_le _) (.inl rfl) 1 _
  exact ⟨(ag.fr (Fr.of_below (b := 0) (ts := []) b4) rfl rfl).fr f4 rfl rfl, (hb.put 0 _).put 1 _, hT.fr f4 rfl⟩
/-- A fresh cell of the document's agenda is set. -/
theorem TAt.set {Y : World} {a : Option Addr} {cap n : Nat} {S : List (Th Int)} {c0 c1 : Value} (h : TAt Y a cap S) (hn : Blk Y n 43 #[c0, c1]) (u v : Value) : TAt ((Y.setCell ⟨n, 0, none⟩ u).setCell ⟨n, 1, none⟩ v) a cap S :=
  h.fr (((Fr.refl 0 [43] Y).put hn (Nat.zero_le _) (.inl rfl) 0 u).put (hn.put 0 u) (Nat.zero_le _) (.inl rfl) 1 v) rfl
/-- What Next tells. -/
def NextTo (S : List (Th Int)) (x : Int) (b : Bool) : Prop := (S = [] ∧ x = 0 ∧ b = false) ∨ (∃ (i : Nat) (t : Th Int), First S i t ∧ x = t.due ∧ b = true)
theorem agnext_ex (base p : Nat) (most : Int) (no : Nat) (S : List (Th Int)) (w : World) (h : Agenda.I64.Ag base p most no S w) (hr : Rising S) (hS : S.length ≤ 65536) :
    Calls Try.prog 23 #[.pointer (some ⟨p, 0, none⟩)] w fun e w' => ∃ (x : Int) (b : Bool), e = .returned (.tuple #[.int .i64 x, .bool b]) ∧ w' = w ∧ NextTo S x b := by
  by_cases h0 : S = []
  · subst h0
    refine (Agenda.I64.next_no base p most no w h).mono ?_
    rintro e w' ⟨rfl, rfl⟩
    exact ⟨_, _, rfl, rfl, .inl ⟨rfl, rfl, rfl⟩⟩
  · obtain ⟨i, t, hf⟩ := exists_first S h0
    refine (Agenda.I64.next_yes base p most no S w h hr i t hf hS).mono ?_
    rintro e w' ⟨rfl, rfl⟩
    exact ⟨_, _, rfl, rfl, .inr ⟨i, t, hf, rfl, rfl⟩⟩
/-- Draining against taking: what holds from take to take. -/
structure Dr (base p bw : Nat) (most : Int) (no : Nat) (due : Int) (S1 : List (Th Int)) (xs : List Int) (A : Option Addr) (c2 k : Nat) (S : List (Th Int)) (a : Option Addr) (cap : Nat) (wr : World) : Prop where
  ag : Agenda.I64.Ag base p most no S1 wr
  box : Blk wr bw 43 #[.slice a S.length cap, .int .i64 most]
  row : TAt wr a cap S
  own : wr.ownsRow base 2 1 (.slice A xs.length c2) xs.length (xs.map (.int .i64))
  dr : Drained due S (xs.drop k) S1
  kle : k ≤ xs.length
  rise : Rising S
  low : ∀ (j : Nat) (u : Th Int), S[j]? = some u → u.no < no
  len : (S.length : Int) ≤ most
theorem Dr.stop {base p bw : Nat} {most : Int} {no : Nat} {due : Int} {S1 : List (Th Int)} {xs : List Int} {A : Option Addr} {c2 k : Nat} {S : List (Th Int)} {a : Option Addr} {cap : Nat} {wr : World} (h : Dr base p bw most no due S1 xs A c2 k S a cap wr) (hl : Late S due) : k = xs.length ∧ S1 = S := by
  have hd := h.dr
  have hk := h.kle
  generalize hy : xs.drop k = ys at hd
  cases hd with
  | stop _ hs =>
    have := congrArg List.length hy
    simp at this
    exact ⟨by omega, rfl⟩
  | take _ i t _ _ hf hd _ => have := hl i t hf.get; omega
theorem Dr.take {base p bw : Nat} {most : Int} {no : Nat} {due : Int} {S1 : List (Th Int)} {xs : List Int} {A : Option Addr} {c2 k : Nat} {S : List (Th Int)} {a : Option Addr} {cap : Nat} {wr : World} (h : Dr base p bw most no due S1 xs A c2 k S a cap wr) {i : Nat} {t : Th Int} (hf : First S i t) (hd : t.due ≤ due) :
    k < xs.length ∧ xs[k]? = some t.x ∧ Drained due (S.eraseIdx i) (xs.drop (k + 1)) S1 := by
  have hdr := h.dr
  generalize hy : xs.drop k = ys at hdr
  cases hdr with
  | stop _ hs => have := hs i t hf.get; omega
  | take _ j u ys _ hf' _ k' =>
    obtain ⟨rfl, rfl⟩ := hf.uniq hf'
    have hl : k < xs.length := by
      have := congrArg List.length hy
      simp at this
      omega
    rw [List.drop_eq_getElem_cons hl] at hy
    simp only [List.cons.injEq] at hy
    exact ⟨hl, by rw [List.getElem?_eq_getElem hl, hy.1], by rw [hy.2]; exact k'⟩
theorem Dr.cell {base p bw : Nat} {most : Int} {no : Nat} {due : Int} {S1 : List (Th Int)} {xs : List Int} {A : Option Addr} {c2 k : Nat} {S : List (Th Int)} {a : Option Addr} {cap : Nat} {wr : World} (h : Dr base p bw most no due S1 xs A c2 k S a cap wr) {j : Nat} {x : Int} (hj : j < xs.length) (hx : xs[j]? = some x) :
    ∃ g, A = some ⟨g, 0, none⟩ ∧ wr.cell? ⟨g, j, none⟩ = some (.int .i64 x) := by
  obtain ⟨g, c3, hA, _, hg⟩ := h.own.form (by omega)
  obtain ⟨rfl, rfl⟩ : A = some ⟨g, 0, none⟩ ∧ c2 = c3 := by simpa using hA
  exact ⟨g, rfl, by have := h.own.cellAt j (by omega); rw [this, List.getElem?_map, hx]; rfl⟩
theorem Dr.set {base p bw : Nat} {most : Int} {no : Nat} {due : Int} {S1 : List (Th Int)} {xs : List Int} {A : Option Addr} {c2 k : Nat} {S S' : List (Th Int)} {a a' : Option Addr} {cap cap' : Nat} {V Y : World} {x : Int} {b : Bool} (h : Dr base p bw most no due S1 xs A c2 k S a cap V) (bY : Below V.heap.size V Y) (tY : TAt Y a' cap' S') (hk : k < xs.length) (hst : Step S due S' x b) (hdr : Drained due S' (xs.drop (k + 1)) S1) :
    Dr base p bw most no due S1 xs A c2 (k + 1) S' a' cap' ((Y.setCell ⟨bw, 0, none⟩ (.slice a' S'.length cap')).setCell ⟨bw, 1, none⟩ (.int .i64 most)) := by
  have hb := h.box.below bY h.box.lt
  have f4 : Fr 0 [43] Y ((Y.setCell ⟨bw, 0, none⟩ (.slice a' S'.length cap')).setCell ⟨bw, 1, none⟩ (.int .i64 most)) := ((Fr.refl _ _ Y).put hb (Nat.zero_le _) (.inl rfl) 0 _).put (hb.put 0 _) (Nat.zero_le _) (.inl rfl) 1 _
  exact ⟨(h.ag.fr (Fr.of_below (b := 0) (ts := []) bY) rfl rfl).fr f4 rfl rfl, (hb.put 0 _).put 1 _, tY.fr f4 rfl, Fr.own f4 (own_below h.own bY) rfl, hdr, hk, hst.rise h.rise, hst.low h.low, by have := hst.len; have := h.len; omega⟩
theorem Dr.both {base p bw : Nat} {most : Int} {no : Nat} {due : Int} {S1 : List (Th Int)} {xs : List Int} {A : Option Addr} {c2 k : Nat} {a : Option Addr} {cap : Nat} {V Y : World} (h : Dr base p bw most no due S1 xs A c2 k S1 a cap V) (bY : Below V.heap.size V Y) : Both base p bw most no S1 a cap Y :=
  ⟨h.ag.fr (Fr.of_below (b := 0) (ts := []) bY) rfl rfl, h.box.below bY h.box.lt, h.row.below bY, h.rise, h.low, h.len⟩
end Go.Proofs.Ytcicnanchikpjaa.Heap
