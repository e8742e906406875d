/- A map from pairs of integers to integers that the call makes, each pair entered once: what its look-up answers, what 'm[k]++' makes of it. For whatever program. -/
import Derived.Test.YtmbblhajbecomaaDoorRange
import Derived.WideKeyPair
import Derived.WideKeyEntry
namespace Go.Proofs.YtmbblhajbecomaaDoor.Seen
set_option maxRecDepth 100000
open Go.RowKit
open Go.WideMaps (KeyLaw ArrKey keyOf_pair)
open Go.ChangeMaps (setBlock heap_setBlock_same heap_setBlock_other)
open Go.Proofs.YtmbblhajbecomaaDoor.RF
set_option linter.unusedVariables false

def pk (p : Int × Int) : Value := .agg #[.int .i64 p.1, .int .i64 p.2]
def wfp (p : Int × Int) : Prop := (Lit.int .i64 p.1).wf = true ∧ (Lit.int .i64 p.2).wf = true
/-- Block b is a map with an entry for each pair of S. -/
structure Good (es : Array MapEntry) (clock : Nat) (S : List (Int × Int)) : Prop where
  mem : ∀ x ∈ es.toList, ∃ p ∈ S, x.key = pk p ∧ x.val = .int .i64 1
  all : ∀ p ∈ S, ∃ x ∈ es.toList, x.key = pk p
  age : ∀ x ∈ es.toList, x.born < clock
  apart : (es.toList.map (·.born)).Nodup
  wf : ∀ p ∈ S, wfp p
def SeenAt (w : World) (b : Nat) (S : List (Int × Int)) : Prop := ∃ es clock, w.heap[b]? = some (.map es clock) ∧ Good es clock S
theorem pk_inj {p q : Int × Int} (h : pk p = pk q) : p = q := by
  simp [pk] at h
  exact Prod.ext h.1 h.2
theorem SeenAt.nil (w : World) : SeenAt (w.alloc (.map #[] 0)) w.heap.size [] := ⟨#[], 0, World.alloc_heap_new w _, ⟨by simp, by simp, by simp, by simp, by simp⟩⟩
theorem SeenAt.same {w w' : World} {b : Nat} {S : List (Int × Int)} (h : SeenAt w b S) (e : w'.heap[b]? = w.heap[b]?) : SeenAt w' b S := by
  obtain ⟨es, c, h1, h2⟩ := h
  exact ⟨es, c, e.trans h1, h2⟩
theorem SeenAt.lt {w : World} {b : Nat} {S : List (Int × Int)} (h : SeenAt w b S) : b < w.heap.size := by
  obtain ⟨es, c, h1, h2⟩ := h
  exact (Array.getElem?_eq_some_iff.1 h1).1
section
variable {P : Program} {k e t : TypeId} (A : ArrKey P k e 2) (he : P.underlying e = some (.int .i64)) (hsz : ∃ m, P.types.size = m + 1) (ht : P.underlying t = some (.map k e)) (hz : ∀ w : World, (zeroValue e).run P w = .ok (.int .i64 0) w)
include A he hsz
theorem key_of {p : Int × Int} (hp : wfp p) : ∃ kl, keyOf P k (pk p) = some kl := ⟨_, keyOf_pair A he hsz hp.1 hp.2⟩
include ht hz
theorem SeenAt.look {w : World} {b : Nat} {S : List (Int × Int)} (h : SeenAt w b S) {p : Int × Int} (hp : wfp p) : (Instr.lookup t (.map (some b)) (pk p) false).run P w = .ok (.int .i64 (if p ∈ S then 1 else 0)) w := by
  obtain ⟨es, c, hb, G⟩ := h
  obtain ⟨kl, hkey⟩ := key_of A he hsz hp
  have K : KeyLaw P k := A.law
  rcases K.find w hkey es.toList (fun x hx => by obtain ⟨q, hq, h1, _⟩ := G.mem x hx; rw [h1]; exact key_of A he hsz (G.wf q hq)) with ⟨h1, h2⟩ | ⟨j, e0, h1, h2, h3⟩
  · have hn : p ∉ S := fun hm => by
      obtain ⟨x, hx, hk⟩ := G.all p hm
      exact h2 x hx hk
    rw [if_neg hn]
    simp [Instr.lookup, run_underlying ht, MapKept.run_getObj_map hb, K.check w _ hkey, h1, hz, Result.andThen]
  · obtain ⟨q, hq, h4, h5⟩ := G.mem e0 (List.mem_of_getElem? h2)
    have : p = q := pk_inj (h3.symm.trans h4)
    subst this
    rw [if_pos hq]
    simp [Instr.lookup, run_underlying ht, MapKept.run_getObj_map hb, K.check w _ hkey, h1, h5, Result.andThen]
/-- A pair that has not been seen is entered: the look-up, the entry, the store. -/
theorem SeenAt.enter {w : World} {b : Nat} {S : List (Int × Int)} (h : SeenAt w b S) {p : Int × Int} (hp : wfp p) (hn : p ∉ S) :
    ∃ (st : Nat) (w1 : World), (Instr.mapEntry t (.map (some b)) (pk p)).run P w = .ok (.tuple #[.int .i64 0, .int .i64 st]) w1 ∧ Off (fun j => j = b) w w1 ∧
      (Instr.lookup t (.map (some b)) (pk p) false).run P w1 = .ok (.int .i64 0) w1 ∧
      ∀ w2 : World, w2.heap[b]? = w1.heap[b]? → ∃ w3, (Instr.entryStore t (.map (some b)) (.int .i64 st) (.int .i64 1)).run P w2 = .ok () w3 ∧ Off (fun j => j = b) w2 w3 ∧ SeenAt w3 b (S ++ [p]) := by
  obtain ⟨es, c, hb, G⟩ := h
  obtain ⟨kl, hkey⟩ := key_of A he hsz hp
  have K : KeyLaw P k := A.law
  have off : ∀ (u : World) (es : Array MapEntry) (c : Nat) (o' : Obj), u.heap[b]? = some (.map es c) → Off (fun j => j = b) u (setBlock u b o') := fun u es c o' hu =>
    ⟨rfl, rfl, rfl, by simp [setBlock], fun j hj hne => heap_setBlock_other hu _ (fun e => hne e)⟩
  have keys : ∀ x ∈ es.toList, ∃ l, keyOf P k x.key = some l := fun x hx => by
    obtain ⟨q, hq, h1, _⟩ := G.mem x hx
    rw [h1]; exact key_of A he hsz (G.wf q hq)
  have fresh : ∀ x ∈ es.toList, x.key ≠ pk p := fun x hx c => by
    obtain ⟨q, hq, h1, _⟩ := G.mem x hx
    exact hn (by rw [pk_inj (c.symm.trans h1)]; exact hq)
  have h1 : (Instr.findKey k (pk p) es.toList).run P w = .ok none w := by
    rcases K.find w hkey es.toList keys with ⟨h1, _⟩ | ⟨j, e0, _, h2, h3⟩
    · exact h1
    · exact absurd h3 (fresh e0 (List.mem_of_getElem? h2))
  refine ⟨c, setBlock w b (.map (es.push ⟨pk p, .int .i64 0, c⟩) (c + 1)), ?_, off w es c _ hb, ?_, fun w2 hw2 => ⟨setBlock w2 b (.map (es.push ⟨pk p, .int .i64 1, c⟩) (c + 1)), ?_, ?_, ?_⟩⟩
  · simp [Instr.mapEntry, run_underlying ht, MapKept.run_getObj_map hb, K.check w false hkey, h1, hz, MapKept.run_setObj_map _ hb, Result.andThen, setBlock, goInt]
  · have hb1 := heap_setBlock_same hb (.map (es.push ⟨pk p, .int .i64 0, c⟩) (c + 1))
    obtain ⟨w1, hw1⟩ : ∃ w1, setBlock w b (.map (es.push ⟨pk p, .int .i64 0, c⟩) (c + 1)) = w1 := ⟨_, rfl⟩
    rw [hw1] at hb1 ⊢
    rcases K.find w1 hkey (es.push ⟨pk p, .int .i64 0, c⟩).toList (fun x hx => by
      simp only [Array.toList_push, List.mem_append, List.mem_singleton] at hx
      rcases hx with hx | rfl
      · exact keys x hx
      · exact ⟨kl, hkey⟩) with ⟨_, h2⟩ | ⟨j, e0, h2, h3, h4⟩
    · exact absurd rfl (h2 ⟨pk p, .int .i64 0, c⟩ (by simp))
    · have hm := List.mem_of_getElem? h3
      simp only [Array.toList_push, List.mem_append, List.mem_singleton] at hm
      rcases hm with hm | rfl
      · exact absurd h4 (fresh e0 hm)
      · simp only [Array.toList_push] at h2
        simp [Instr.lookup, run_underlying ht, MapKept.run_getObj_map hb1, K.check w1 _ hkey, h2, Result.andThen]
  · have hw2' : w2.heap[b]? = some (.map (es.push ⟨pk p, .int .i64 0, c⟩) (c + 1)) := hw2.trans (heap_setBlock_same hb _)
    have hidx : (es.push ⟨pk p, .int .i64 0, c⟩).findIdx? (fun e => ((e.born : Nat) : Int) == ((c : Nat) : Int)) = some es.size := by
      rw [WideElems.findIdx_arr]
      have := WideElems.findIdx_born (l := (es.push ⟨pk p, .int .i64 0, c⟩).toList) (j := es.size) (e0 := ⟨pk p, .int .i64 0, c⟩) (by
        simp only [Array.toList_push, List.map_append, List.map_cons, List.map_nil]
        refine List.nodup_append.2 ⟨G.apart, by simp, fun a ha c' hc e1 => ?_⟩
        simp only [List.mem_singleton] at hc
        obtain ⟨x, hx, rfl⟩ := List.mem_map.1 ha
        have := G.age x hx
        omega) (by simp)
      exact this
    have hmod : (es.push ⟨pk p, .int .i64 0, c⟩).modify es.size (fun e => { e with val := .int .i64 1 }) = es.push ⟨pk p, .int .i64 1, c⟩ := by
      apply Array.ext'
      rw [Array.toList_modify, Array.toList_push, Array.toList_push, ← Array.length_toList, WideElems.modify_last]
    simp [Instr.entryStore, MapKept.run_getObj_map hw2', asInt, asIntOf, hidx, hmod, MapKept.run_setObj_map _ hw2', Result.andThen, setBlock]
  · exact off w2 _ _ _ (hw2.trans (heap_setBlock_same hb _))
  · refine ⟨_, _, heap_setBlock_same (hw2.trans (heap_setBlock_same hb _)) _, ⟨fun x hx => ?_, fun q hq => ?_, fun x hx => ?_, ?_, fun q hq => ?_⟩⟩
    · simp only [Array.toList_push, List.mem_append, List.mem_singleton] at hx
      rcases hx with hx | rfl
      · obtain ⟨q, hq, h2, h3⟩ := G.mem x hx
        exact ⟨q, List.mem_append_left _ hq, h2, h3⟩
      · exact ⟨p, by simp, rfl, rfl⟩
    · rcases List.mem_append.1 hq with hq | hq
      · obtain ⟨x, hx, h2⟩ := G.all q hq
        exact ⟨x, by simp [hx], h2⟩
      · simp only [List.mem_singleton] at hq
        subst hq
        exact ⟨⟨pk q, .int .i64 1, c⟩, by simp, rfl⟩
    · simp only [Array.toList_push, List.mem_append, List.mem_singleton] at hx
      rcases hx with hx | rfl
      · have := G.age x hx; omega
      · simp
    · simp only [Array.toList_push, List.map_append, List.map_cons, List.map_nil]
      refine List.nodup_append.2 ⟨G.apart, by simp, fun a ha c' hc e1 => ?_⟩
      simp only [List.mem_singleton] at hc
      obtain ⟨x, hx, rfl⟩ := List.mem_map.1 ha
      have := G.age x hx
      omega
    · rcases List.mem_append.1 hq with hq | hq
      · exact G.wf q hq
      · simp only [List.mem_singleton] at hq
        subst hq; exact hp
end
end Go.Proofs.YtmbblhajbecomaaDoor.Seen
