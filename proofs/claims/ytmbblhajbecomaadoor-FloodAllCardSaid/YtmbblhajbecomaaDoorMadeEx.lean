/- Made, with what it made given names. -/
import Derived.Test.YtmbblhajbecomaaDoorMade
namespace Go.Proofs.YtmbblhajbecomaaDoor.Graph
set_option maxRecDepth 100000
open Go.RowKit
open Go.Proofs.YtmbblhajbecomaaDoor.RF Go.Proofs.YtmbblhajbecomaaDoor.Heap Go.Proofs.YtmbblhajbecomaaDoor.Nodes Go.Proofs.YtmbblhajbecomaaDoor.Seen
set_option linter.unusedVariables false
set_option linter.unusedSimpArgs false

theorem PairIn.below {w w' : World} {a : Option Addr} {len cap : Nat} {ls : List (Int × Int)} (h : PairIn w a len cap ls) (k : Below w.heap.size w w') : PairIn w' a len cap ls := by
  refine ⟨h.le, h.max, h.size, h.wf, ?_⟩
  rcases h.at' with c | c | ⟨b, off, h1, h2, h3⟩
  · exact .inl c
  · exact .inr (.inl c)
  · exact .inr (.inr ⟨b, off, h1, Nat.lt_of_lt_of_le h2 k.size, fun j u hu => (k.cell (p := ⟨b, off + j, none⟩) h2).trans (h3 j u hu)⟩)
/-- Made, with what it made given names. -/
theorem made_ex (w : World) (n : Int) (a : Option Addr) (len cap : Nat) (ls : List (Int × Int)) (hp : PairIn w a len cap ls) :
    Calls Tryd.prog 12 #[.agg #[.int .i64 n, .slice a len cap]] w fun e w' => Below w.heap.size w w' ∧ ∃ (m G R : Nat) (near : List Nat) (L : List (Int × Int)) (ha : Option Addr) (hc : Nat),
      e = .returned (.tuple #[.pointer (some ⟨G, 0, none⟩), .agg #[.int .i64 (m : Nat), .slice ha L.length hc]]) ∧ 1 ≤ m ∧ m ≤ 10 ∧ near.length = m ∧ L.length ≤ 60 ∧ RowKit.Hid (Match m near L) ∧ RowKit.Hid (GraphAt w' G R near) ∧ RowKit.Hid (PairsAt w' (.slice ha L.length hc) L) := by
  refine (made_any w n a len cap ls hp).mono fun e w' h => ?_
  obtain ⟨b, G, R, v, rfl, hG, hP⟩ := h
  obtain ⟨ha, hc, rfl, _⟩ := hP.out.1
  have hs := madeL_spec (madeN n) (ls.take 60)
  have hM := match_new hs.1
  have hbd := madeN_bd n
  exact ⟨b, _, G, R, _, _, ha, hc, rfl, hbd.1, hbd.2, hM.1, Nat.le_trans hs.2.1 (by rw [List.length_take]; omega), Lib.hid hM, hG, hP⟩
end Go.Proofs.YtmbblhajbecomaaDoor.Graph
