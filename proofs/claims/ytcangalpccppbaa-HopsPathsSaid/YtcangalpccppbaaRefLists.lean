/- The document's lists of nodes and links: in, power, Of, Near, Links, walked. -/
import Derived.Test.YtcangalpccppbaaPairs
import Derived.OwnWalk
namespace Go.Proofs.Ytcangalpccppbaa.Graph
open Go.RowKit
open Go.Proofs.Ytcangalpccppbaa.RF Go.Proofs.Ytcangalpccppbaa.Heap Go.Proofs.Ytcangalpccppbaa.Nodes Go.Proofs.Ytcangalpccppbaa.Seen
set_option linter.unusedVariables false
set_option linter.unusedSimpArgs false

theorem infoI : (Try.prog.info? 3).map (fun i => (i.zero, i.size, i.bytes)) = some (some (.int .i64 0), 1, 8) := by kernel_rfl
/-- A list of numbers lies. -/
def IntsAt (w : World) (v : Value) (xs : List Int) : Prop := ∃ a cap, v = .slice a xs.length cap ∧ ∀ (j : Nat) (x : Int), xs[j]? = some x → ∃ b, a = some ⟨b, 0, none⟩ ∧ w.cell? ⟨b, j, none⟩ = some (.int .i64 x)
theorem own_ints {w : World} {base : Nat} {v : Value} {xs : List Int} {n : Nat} (h : w.ownsRow base 3 1 v n (xs.map (Value.int .i64))) (hn : xs.length = n) : IntsAt w v xs := by
  subst hn
  rcases h.2 with ⟨rfl, h0⟩ | ⟨g, cap, cur, rfl, hb, hg, hnc, hcm, hcs, ht⟩
  · refine ⟨none, 0, by rw [h0], fun i p hp => ?_⟩
    rw [List.length_eq_zero_iff.1 h0] at hp
    simp at hp
  · refine ⟨_, _, rfl, fun j x hx => ⟨g, rfl, ?_⟩⟩
    rw [cell_of_row w g j cur _ _ hg]
    have hk : (xs.map (Value.int .i64))[j]? = some (.int .i64 x) := by simp [hx]
    rw [← ht, List.getElem?_take] at hk
    split at hk
    · simpa using hk
    · cases hk
theorem refNear_succ (k : Nat) (L : List (Int × Int)) (i : Int) : refNear (k + 1) L i = refNear k L i ++ if refL L i k = true then [k] else [] := by
  rw [refNear, List.range_succ, List.filter_append, refNear]
  congr 1
  cases h : refL L i k <;> simp [h]
theorem refNear_len (k : Nat) (L : List (Int × Int)) (i : Int) : (refNear k L i).length ≤ k := by
  have := List.length_filter_le (fun k : Nat => refL L i k) (List.range k)
  simpa [refNear] using this
/-- Numbers as cells. -/
def nc (l : List Nat) : List Value := l.map fun k : Nat => Value.int .i64 (k : Int)
theorem nc_snoc (l : List Nat) (k : Nat) : nc (l ++ [k]) = nc l ++ [.int .i64 (k : Int)] := by simp [nc]
theorem nc_map (l : List Nat) : nc l = (l.map fun k : Nat => (k : Int)).map (Value.int .i64) := by simp [nc]
theorem nc_ints {w : World} {base n : Nat} {v : Value} {l : List Nat} (h : w.ownsRow base 3 1 v n (nc l)) (hn : l.length = n) : IntsAt w v (l.map fun k : Nat => (k : Int)) := by
  rw [nc_map] at h
  exact own_ints h (by simpa using hn)
end Go.Proofs.Ytcangalpccppbaa.Graph
