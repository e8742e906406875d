/- How a storm lies; a coming to where it came already. -/
import Derived.Test.YtmbblhajbecomaaDoorFloodModel
import Derived.Test.YtmbblhajbecomaaDoorHeldIn
namespace Go.Proofs.YtmbblhajbecomaaDoor.Flood
open Go.RowKit
open Go.Proofs.YtmbblhajbecomaaDoor.RF Go.Proofs.YtmbblhajbecomaaDoor.Heap Go.Proofs.YtmbblhajbecomaaDoor.Nodes Go.Proofs.YtmbblhajbecomaaDoor.Graph Go.Proofs.YtmbblhajbecomaaDoor.Reach
set_option linter.unusedVariables false
set_option linter.unusedSimpArgs false

/-- Comings as cells. -/
def arrC (l : List Arr) : List Value := (l.map encA).flatten
theorem arrC_snoc (l : List Arr) (x : Arr) : arrC (l ++ [x]) = arrC l ++ encA x := by simp [arrC]
theorem encs (l : List Arr) : ∀ x ∈ l.map encA, x.length = 4 := fun x hx => by
  obtain ⟨t, _, rfl⟩ := List.mem_map.1 hx; rfl
theorem arrC_len (l : List Arr) : (arrC l).length = l.length * 4 := by rw [arrC, flat_len (encs l)]; simp
theorem arrC_at {l : List Arr} {i k : Nat} {x : Arr} (h : l[i]? = some x) (hk : k < 4) : (arrC l)[i * 4 + k]? = (encA x)[k]? :=
  flat_get (encs l) (by rw [List.getElem?_map, h]; rfl) hk
theorem encA_one (x : Arr) : ∀ u ∈ encA x, u.oneCell' = true := fun u hu => by
  simp only [encA, List.mem_cons, List.not_mem_nil, or_false] at hu
  rcases hu with rfl | rfl | rfl | rfl <;> rfl
theorem infoA : (Tryd.prog.info? 71).map (fun i => (i.zero, i.size, i.bytes)) = some (some (.agg #[.int .i64 0, .int .i64 0, .int .i64 0, .int .i64 0]), 4, 32) := by kernel_rfl
/-- A storm lies. -/
structure SAt (base P A G : Nat) (da : Option Addr) (dn dc : Nat) (ma : Option Addr) (mn mc : Nat) (no : Nat) (S : List (Th Arr)) (out : List Arr) (came : Nat) (o : Value) (w : World) : Prop where
  box : Blk w P 119 (stormC G da dn dc ma mn mc A o came)
  ag : Agenda.F.Ag base A 65536 no S w
  row : w.ownsRow base 71 4 o out.length (arrC out)
  low : base ≤ P
/-- What is kept tells what is under way and what came. -/
structure PInv (n : Nat) (S : List (Th Arr)) (no : Nat) (way out : List Arr) (came : Nat) : Prop where
  map : S.map Th.x = way
  due : ∀ t ∈ S, t.due = t.x.time
  rise : Rising S
  nos : ∀ t ∈ S, t.no < no
  nob : no ≤ n * out.length
  bits : ∀ k : Nat, k < 64 → came.testBit k = cameF out k
  lt : came < 2 ^ 64
theorem PInv.has {n : Nat} {S : List (Th Arr)} {no : Nat} {way out : List Arr} {came : Nat} (h : PInv n S no way out came) {i : Int} (h0 : 0 ≤ i) (h1 : i < 64) : hasR came i = cameF out i := by
  obtain ⟨k, rfl⟩ : ∃ k : Nat, i = k := ⟨i.toNat, by omega⟩
  have := h.bits k (by omega)
  simp only [hasR, Int.toNat_natCast, h0, h1, decide_true, Bool.true_and, this]
theorem PInv.start (n : Nat) : PInv n [] 0 [] [] 0 := ⟨rfl, by simp, rising_nil, by simp, by omega, fun k _ => by simp [cameF], by omega⟩
theorem PInv.came {n : Nat} {S : List (Th Arr)} {no : Nat} {way out : List Arr} {came : Nat} (h : PInv n S no way out came) {x : Arr} {k : Nat} (hx : x.node = k) (hk : k < 64) :
    (∀ j : Nat, j < 64 → (came ||| 2 ^ k).testBit j = cameF (out ++ [x]) j) ∧ came ||| 2 ^ k < 2 ^ 64 := by
  refine ⟨fun j hj => ?_, Nat.or_lt_two_pow h.lt (Nat.pow_lt_pow_right (by omega) hk)⟩
  rw [Nat.testBit_or, h.bits j hj, Nat.testBit_two_pow, cameF, cameF, List.any_append, List.any_cons, List.any_nil, Bool.or_false, hx]
  congr 1
  rw [Bool.eq_iff_iff, decide_eq_true_eq, beq_iff_eq]
  omega
/-- One is added. -/
theorem PInv.add {S : List (Th Arr)} {no : Nat} {way : List Arr} (hm : S.map Th.x = way) (hd : ∀ t ∈ S, t.due = t.x.time) (hr : Rising S) (hn : ∀ t ∈ S, t.no < no) (y : Arr) :
    (S ++ [(⟨y.time, no, y⟩ : Th Arr)]).map Th.x = way ++ [y] ∧ (∀ t ∈ S ++ [(⟨y.time, no, y⟩ : Th Arr)], t.due = t.x.time) ∧ Rising (S ++ [(⟨y.time, no, y⟩ : Th Arr)]) ∧ ∀ t ∈ S ++ [(⟨y.time, no, y⟩ : Th Arr)], t.no < no + 1 := by
  refine ⟨by simp [hm], fun t ht => ?_, hr.add fun j u hu => hn u (mem_of_get hu), fun t ht => ?_⟩
  · rcases List.mem_append.1 ht with c | c
    · exact hd t c
    · simp at c; subst c; rfl
  · rcases List.mem_append.1 ht with c | c
    · have := hn t c; omega
    · simp at c; subst c; exact Nat.lt_succ_self _
section
variable {base P A G : Nat} {da : Option Addr} {dn dc : Nat} {ma : Option Addr} {mn mc : Nat} {no : Nat} {S : List (Th Arr)} {out : List Arr} {came : Nat} {o : Value} {w w' : World}
theorem ag_below (h : Agenda.F.Ag base A 65536 no S w) (k : Below w.heap.size w w') : Agenda.F.Ag base A 65536 no S w' :=
  h.fr (b := w.heap.size) (us := []) (Fr.of_below k) rfl rfl
theorem SAt.below (h : SAt base P A G da dn dc ma mn mc no S out came o w) (k : Below w.heap.size w w') : SAt base P A G da dn dc ma mn mc no S out came o w' :=
  ⟨h.box.below k h.box.lt, ag_below h.ag k, own_below h.row k, h.low⟩
set_option maxRecDepth 100000 in
set_option maxHeartbeats 4000000 in
theorem come_no (h : SAt base P A G da dn dc ma mn mc no S out came o w) {n : Nat} {way : List Arr} (hp : PInv n S no way out came) (x : Arr) (h0 : 0 ≤ x.node) (h1 : x.node < 64) (hc : cameF out x.node = true) :
    Calls Tryd.prog 65 #[.pointer (some ⟨P, 0, none⟩), .agg #[.int .i64 x.node, .int .i64 x.time, .int .i64 x.hops, .int .i64 x.frm]] w fun e w' => (∃ v, e = .returned v) ∧ Below w.heap.size w w' := by
  obtain ⟨W, hW⟩ : ∃ W, (w.alloc (.cells #[.pointer (some ⟨P, 0, none⟩)] 115)).alloc (.cells #[.int .i64 x.node, .int .i64 x.time, .int .i64 x.hops, .int .i64 x.frm] 71) = W := ⟨_, rfl⟩
  have z1 : (w.alloc (.cells #[.pointer (some ⟨P, 0, none⟩)] 115)).heap.size = w.heap.size + 1 := by simp
  have b0 : Blk W w.heap.size 115 #[.pointer (some ⟨P, 0, none⟩)] := by rw [← hW]; exact (Blk.new w _ _).alloc _
  have b1 : Blk W (w.heap.size + 1) 71 #[.int .i64 x.node, .int .i64 x.time, .int .i64 x.hops, .int .i64 x.frm] := by
    rw [← hW]
    have := Blk.new (w.alloc (.cells #[.pointer (some ⟨P, 0, none⟩)] 115)) 71 #[.int .i64 x.node, .int .i64 x.time, .int .i64 x.hops, .int .i64 x.frm]
    rwa [z1] at this
  have low : Below w.heap.size w W := by rw [← hW]; exact ((Below.refl _ w).alloc (Nat.le_refl _) _).alloc (by simp) _
  have bP := h.box.below low h.box.lt
  have c0 : W.cell? ⟨w.heap.size, 0, none⟩ = some (.pointer (some ⟨P, 0, none⟩)) := b0.cell 0
  have c1 : W.cell? ⟨w.heap.size + 1, 0, none⟩ = some (.int .i64 x.node) := b1.cell 0
  have c5 : W.cell? ⟨P, 5, none⟩ = some (.int .u64 (came : Nat)) := bP.cell 5
  have hh := hp.has h0 h1
  rw [hc] at hh
  have HH := Lib.hid (fun V => has_any came hp.lt x.node V)
  rw [hh] at HH
  have HW := Lib.hid hW
  have Low := Lib.hid low
  clear hW z1 b0 b1 low bP hh hp h hc
  go_enter Tryd.func65, Tryd.ntmps65
  go_upto_region 1 with (fail)
  rw [HW.out]
  clear HW
  go_region_held3 (fun V => V.cell? ⟨w.heap.size, 0, none⟩ = some (.pointer (some ⟨P, 0, none⟩)) ∧ V.cell? ⟨w.heap.size + 1, 0, none⟩ = some (.int .i64 x.node) ∧ V.cell? ⟨P, 5, none⟩ = some (.int .u64 (came : Nat))) ((go_keep; done)) ((go_at_call 57; refine (HH.out _).mono ?_; rintro e w' ⟨rfl, h⟩; rw [h]; clear h w'))
  go_wp2_with fail
  refine bodyPost_ret (results_none rfl _ _ _) rfl ?_
  exact ⟨⟨_, rfl⟩, Low.out.drew⟩
end
end Go.Proofs.YtmbblhajbecomaaDoor.Flood
