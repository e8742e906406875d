/- graph.Graph's N and Links, walked. -/
import Derived.Test.YtmbblhajbecomaaDoorLinks
import Derived.OwnWalkIn
import Derived.TacticsInMore
import Derived.LoopIn
import Derived.Deep.RegionLaw
import Derived.Test.YtmbblhajbecomaaDoorQuiet
namespace Go.Proofs.YtmbblhajbecomaaDoor.Graph
set_option maxRecDepth 100000
open Go.RowKit
open Go.Proofs.YtmbblhajbecomaaDoor.RF Go.Proofs.YtmbblhajbecomaaDoor.Heap Go.Proofs.YtmbblhajbecomaaDoor.Nodes
set_option linter.unusedVariables false
attribute [local go_sem] Oper.semAt_some

theorem infoP : (Tryd.prog.info? 55).map (fun i => (i.zero, i.size, i.bytes)) = some (some (.agg #[.int .i64 0, .int .i64 0]), 2, 16) := by kernel_rfl
theorem n_any {w : World} {G R : Nat} {near : List Nat} (hg : GraphAt w G R near) :
    Calls Tryd.prog 40 #[.pointer (some ⟨G, 0, none⟩)] w fun e w' => e = .returned (.int .i64 near.length) ∧ w' = w := by
  have cG := hg.box.cell 0
  simp at cG
  go_enter Tryd.func40, Tryd.ntmps40
  go_wp2
  go_ret
  exact ⟨rfl, rfl⟩
theorem n_nil (w : World) : Calls Tryd.prog 40 #[.pointer none] w fun e w' => e = .returned (.int .i64 0) ∧ w' = w := by
  go_enter Tryd.func40, Tryd.ntmps40
  go_wp2
  go_ret
  exact ⟨rfl, rfl⟩
theorem own_some {W : World} {base : Nat} {e : TypeId} {s n : Nat} {v : Value} {xs : List Value} (h : W.ownsRow base e s v n xs) (hn : 0 < n) : ∃ g cap, v = .slice (some ⟨g, 0, none⟩) n cap := by
  rcases h.2 with ⟨rfl, h0⟩ | ⟨g, cap, cur, rfl, _⟩
  · omega
  · exact ⟨g, cap, rfl⟩
theorem own_free {W : World} {base : Nat} {e t : TypeId} {s n p : Nat} {v : Value} {xs : List Value} {cs : Array Value} (h : W.ownsRow base e s v n xs) (hp : Blk W p t cs) (hn : t ≠ e) : some p ≠ v.ownBlock := by
  rcases h.2 with ⟨rfl, _⟩ | ⟨g, cap, cur, rfl, hb, hg, _⟩
  · simp [Value.ownBlock]
  · simp only [Value.ownBlock, ne_eq, Option.some.injEq]
    exact fun c => hp.ne (show Blk W g e cur from hg) hn c
theorem own_cells {W W' : World} {base : Nat} {e : TypeId} {s n : Nat} {v : Value} {xs : List Value} (h : W.ownsRow base e s v n xs) (hC : ∀ (k : Nat) (o : Obj), W.heap[k]? = some o → o.isCells = true → W'.heap[k]? = some o) : W'.ownsRow base e s v n xs := by
  rcases h.2 with ⟨rfl, h0⟩ | ⟨g, cap, cur, rfl, hb, hg, rest⟩
  · exact ⟨h.1, .inl ⟨rfl, h0⟩⟩
  · exact ⟨h.1, .inr ⟨g, cap, cur, rfl, hb, hC g _ hg rfl, rest⟩⟩

/-- A slot's number. -/
def slotNat (a : Act) (i : Nat) : Nat := match (a.tmps.getD i undef : Value) with | .int _ k => k.toNat | _ => 0
/-- Ahead of a round of the outer loop. -/
structure LInv (w : World) (near : List Nat) (k : Nat) (ds : List Deferred) (W : World) : Prop where
  marks : Marked w.heap.size ds W
  list : ∃ v, Blk W w.heap.size 22 #[v] ∧ W.ownsRow w.heap.size 55 2 v (linksTo near k).length (pc (linksTo near k))
  low : Below w.heap.size w W
/-- Ahead of a round of the inner loop. -/
structure RInv (w W : World) (B A k : Nat) (near pre : List Nat) (V : World) : Prop where
  list : ∃ v, Blk V w.heap.size 22 #[v] ∧ V.ownsRow w.heap.size 55 2 v (linksTo near k ++ up k pre).length (pc (linksTo near k ++ up k pre))
  var : Blk V A 3 #[.int .i64 k]
  box : ∃ x, Blk V B 31 x
  fr : Fr w.heap.size [22, 55] W V
theorem RInv.hush {w W : World} {B A k : Nat} {near pre : List Nat} {V V' : World} (h : RInv w W B A k near pre V) {b : Nat} (c : Hush (fun k => k = B) b V V') (hb : W.heap.size ≤ b) (hB : W.heap.size ≤ B) : RInv w W B A k near pre V' := by
  obtain ⟨x, hx⟩ := h.box
  obtain ⟨v, h1, h2⟩ := h.list
  refine ⟨⟨v, c.blk h1 (fun e => ?_), c.own h2 (fun k hk => ?_)⟩, c.blk h.var (fun e => ?_), c.kind B _ _ hx, c.fr h.fr hb (fun k hk => by subst hk; exact hB)⟩
  · subst e; exact absurd (h1.uniq hx).1 (by decide)
  · subst hk; exact ⟨_, _, hx, by decide⟩
  · subst e; exact absurd (h.var.uniq hx).1 (by decide)

end Go.Proofs.YtmbblhajbecomaaDoor.Graph
