/- The laws of New and of Linked, walked. -/
import Derived.Test.YtmbblhajbecomaaDoorCut
namespace Go.Proofs.YtmbblhajbecomaaDoor.Graph
set_option maxRecDepth 100000
open Go.RowKit
open Go.Proofs.YtmbblhajbecomaaDoor.RF Go.Proofs.YtmbblhajbecomaaDoor.Heap Go.Proofs.YtmbblhajbecomaaDoor.Nodes Go.Proofs.YtmbblhajbecomaaDoor.Seen
set_option linter.unusedVariables false
set_option linter.unusedSimpArgs false

theorem pairs_in {w : World} {a : Option Addr} {len cap : Nat} (g : Read.Rd Tryd.prog w 22 [.slice a len cap]) : ∃ ls, PairIn w a len cap ls :=
  rd_pairs Tryd.underlying22 Tryd.underlying55 Tryd.underlying3 (by kernel_rfl) (by kernel_rfl) g
theorem two_in {w : World} {cs : Array Value} (g : Read.Rd Tryd.prog w 55 cs.toList) : ∃ x y : Int, cs = #[.int .i64 x, .int .i64 y] := by
  obtain ⟨x, y, h, _, _⟩ := g.two Tryd.underlying55 Tryd.underlying3 (by kernel_rfl) (by kernel_rfl)
  exact ⟨x, y, by rw [← Array.toArray_toList (xs := cs), h]⟩
/-- What graph.New comes to. -/
def GoEnds (w : World) (n : Int) (ls : List (Int × Int)) (e : Ending) (w' : World) : Prop :=
  Below w.heap.size w w' ∧ ((newR n ls = 0 ∧ ∃ (k G R : Nat), n = k ∧ 1 ≤ k ∧ k ≤ 64 ∧ e = .returned (.tuple #[.pointer (some ⟨G, 0, none⟩), .int .i64 0]) ∧ RowKit.Hid (GraphAt w' G R (nearOf k (ls.map lk))) ∧ RowKit.Hid (newE k [] ls = 0)) ∨ (newR n ls ≠ 0 ∧ e = .returned (.tuple #[.pointer none, .int .i64 (newR n ls)])))
theorem newgo_any (n : Int) (v : Value) (ls : List (Int × Int)) (w : World) (hp : PairsAt w v ls) (hlen : ls.length ≤ 65536) :
    Calls Tryd.prog 26 #[.int .i64 n, v] w fun e w' => GoEnds w n ls e w' := by
  by_cases h : n < 1 ∨ 64 < n
  · have hr : newR n ls = 1 := by simp only [newR]; rw [if_pos (by omega)]
    refine (new_no n v w h).mono fun e w' he => ?_
    obtain ⟨rfl, rfl⟩ := he
    exact ⟨Below.refl _ _, .inr ⟨by rw [hr]; decide, by rw [hr]⟩⟩
  · obtain ⟨k, rfl⟩ : ∃ k : Nat, n = k := ⟨n.toNat, by omega⟩
    have hr : newR k ls = newE k [] ls := by simp only [newR, Int.toNat_natCast]; rw [if_neg (by omega)]
    refine (new_yes k v ls w ⟨by omega, by omega⟩ hp hlen).mono fun e w' he => ?_
    obtain ⟨hb, ⟨h0, G, R, rfl, hg⟩ | ⟨h0, rfl⟩⟩ := he
    · exact ⟨hb, .inl ⟨by rw [hr]; exact h0, k, G, R, rfl, by omega, by omega, rfl, Lib.hid hg, Lib.hid h0⟩⟩
    · exact ⟨hb, .inr ⟨by rw [hr]; exact h0, by rw [hr]⟩⟩
end Go.Proofs.YtmbblhajbecomaaDoor.Graph
