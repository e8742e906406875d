/- What graph.New comes to, in plain Lean; a list of pairs in memory. -/
import Derived.Test.YtmbblhajbecomaaDoorJoin
import Derived.Test.YtmbblhajbecomaaDoorSeen
namespace Go.Proofs.YtmbblhajbecomaaDoor.Graph
set_option maxRecDepth 100000
open Go.RowKit
open Go.Proofs.YtmbblhajbecomaaDoor.RF Go.Proofs.YtmbblhajbecomaaDoor.Heap Go.Proofs.YtmbblhajbecomaaDoor.Nodes Go.Proofs.YtmbblhajbecomaaDoor.Seen
set_option linter.unusedVariables false

/-- A link, the lesser node first. -/
def lk (l : Int × Int) : Int × Int := (min l.1 l.2, max l.1 l.2)
/-- What is wrong with one link more. -/
def bad (n : Nat) (S : List (Int × Int)) (l : Int × Int) : Int :=
  if isN n (lk l).1 = false ∨ isN n (lk l).2 = false then 8 else if (lk l).1 = (lk l).2 then 5 else if lk l ∈ S then 12 else 0
def newE (n : Nat) (S : List (Int × Int)) : List (Int × Int) → Int
  | [] => 0
  | l :: r => if bad n S l = 0 then newE n (S ++ [lk l]) r else bad n S l
/-- What is wrong with nodes and links; 0: nothing. -/
def newR (n : Int) (ls : List (Int × Int)) : Int := if n < 1 ∨ 64 < n then 1 else newE n.toNat [] ls
def joinR (near : List Nat) (p : Int × Int) : List Nat := (near.set p.1.toNat (near.getD p.1.toNat 0 ||| 2 ^ p.2.toNat)).set p.2.toNat (near.getD p.2.toNat 0 ||| 2 ^ p.1.toNat)
def nearOf (n : Nat) (S : List (Int × Int)) : List Nat := S.foldl joinR (List.replicate n 0)
theorem nearOf_snoc (n : Nat) (S : List (Int × Int)) (p : Int × Int) : nearOf n (S ++ [p]) = joinR (nearOf n S) p := by simp [nearOf]
theorem nearOf_len (n : Nat) (S : List (Int × Int)) : (nearOf n S).length = n := by
  have : ∀ (S : List (Int × Int)) (near : List Nat), (S.foldl joinR near).length = near.length := by
    intro S
    induction S with
    | nil => exact fun _ => rfl
    | cons p S ih => intro near; rw [List.foldl_cons, ih]; simp [joinR]
  rw [nearOf, this]; simp
theorem newE_at {n : Nat} {ls : List (Int × Int)} {k : Nat} {S : List (Int × Int)} {p : Int × Int} (hp : ls[k]? = some p) (h : bad n S p = 0) : newE n S (ls.drop k) = newE n (S ++ [lk p]) (ls.drop (k + 1)) := by
  obtain ⟨hk, e⟩ := List.getElem?_eq_some_iff.1 hp
  rw [List.drop_eq_getElem_cons hk, e, newE, if_pos h]
theorem newE_bad {n : Nat} {ls : List (Int × Int)} {k : Nat} {S : List (Int × Int)} {p : Int × Int} (hp : ls[k]? = some p) (h : bad n S p ≠ 0) : newE n S (ls.drop k) = bad n S p := by
  obtain ⟨hk, e⟩ := List.getElem?_eq_some_iff.1 hp
  rw [List.drop_eq_getElem_cons hk, e, newE, if_neg h]
/-- A list of pairs lies. -/
def PairsAt (w : World) (v : Value) (ls : List (Int × Int)) : Prop :=
  (∃ a cap, v = .slice a ls.length cap ∧ ∀ (i : Nat) (p : Int × Int), ls[i]? = some p → ∃ b, a = some ⟨b, 0, none⟩ ∧ b < w.heap.size ∧ w.cell? ⟨b, i * 2, none⟩ = some (.int .i64 p.1) ∧ w.cell? ⟨b, i * 2 + 1, none⟩ = some (.int .i64 p.2)) ∧ ∀ p ∈ ls, wfp p
theorem PairsAt.below {w w' : World} {b : Nat} {v : Value} {ls : List (Int × Int)} (h : PairsAt w v ls) (k : Below b w w') (hb : w.heap.size ≤ b) : PairsAt w' v ls := by
  obtain ⟨⟨a, cap, h1, h2⟩, h3⟩ := h
  refine ⟨⟨a, cap, h1, fun i p hp => ?_⟩, h3⟩
  obtain ⟨b', e1, e2, e3, e4⟩ := h2 i p hp
  have := k.size
  exact ⟨b', e1, by omega, (k.cell (p := ⟨b', i * 2, none⟩) (by show b' < b; omega)).trans e3, (k.cell (p := ⟨b', i * 2 + 1, none⟩) (by show b' < b; omega)).trans e4⟩
theorem wfp_lk {p : Int × Int} (h : wfp p) : wfp (lk p) := by
  obtain ⟨h1, h2⟩ := h
  rcases Int.le_total p.1 p.2 with c | c
  · exact ⟨by rw [show (lk p).1 = p.1 by simp [lk]; omega]; exact h1, by rw [show (lk p).2 = p.2 by simp [lk]; omega]; exact h2⟩
  · exact ⟨by rw [show (lk p).1 = p.2 by simp [lk]; omega]; exact h2, by rw [show (lk p).2 = p.1 by simp [lk]; omega]; exact h1⟩
end Go.Proofs.YtmbblhajbecomaaDoor.Graph
