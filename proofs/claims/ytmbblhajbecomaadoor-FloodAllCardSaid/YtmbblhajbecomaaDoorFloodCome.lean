/- A first coming: walked. -/
import Derived.Test.YtmbblhajbecomaaDoorFloodMem
import Derived.Test.YtmbblhajbecomaaDoorReachGrow
import Derived.Test.YtmbblhajbecomaaDoorTake
namespace Go.Proofs.YtmbblhajbecomaaDoor.Flood
open Go.RowKit
open Go.Proofs.YtmbblhajbecomaaDoor.RF Go.Proofs.YtmbblhajbecomaaDoor.Heap Go.Proofs.YtmbblhajbecomaaDoor.Nodes Go.Proofs.YtmbblhajbecomaaDoor.Graph Go.Proofs.YtmbblhajbecomaaDoor.Reach
set_option linter.unusedVariables false
set_option linter.unusedSimpArgs false
attribute [local go_sem] Oper.semAt_some
section
variable {base P A G : Nat} {da : Option Addr} {dn dc : Nat} {ma : Option Addr} {mn mc : Nat} {no : Nat} {S : List (Th Arr)} {out : List Arr} {came : Nat} {o : Value} {w V V' : World} {x : Arr}
/-- A storm, ahead of the sends. -/
structure CAt (w : World) (base P A G : Nat) (da : Option Addr) (dn dc : Nat) (ma : Option Addr) (mn mc : Nat) (no : Nat) (S : List (Th Arr)) (out : List Arr) (came : Nat) (o : Value) (x : Arr) (V : World) : Prop where
  b0 : Blk V w.heap.size 115 #[.pointer (some ⟨P, 0, none⟩)]
  b1 : Blk V (w.heap.size + 1) 71 #[.int .i64 x.node, .int .i64 x.time, .int .i64 x.hops, .int .i64 x.frm]
  at_ : SAt base P A G da dn dc ma mn mc no S out came o V
  low : Below base w V
  own : ∀ g, o.ownBlock = some g → g < w.heap.size
  le : base ≤ w.heap.size
theorem CAt.keep (h : CAt w base P A G da dn dc ma mn mc no S out came o x V) (k : Below V.heap.size V V') : CAt w base P A G da dn dc ma mn mc no S out came o x V' :=
  ⟨h.b0.below k h.b0.lt, h.b1.below k h.b1.lt, h.at_.below k, h.low.trans (k.mono (Nat.le_trans h.le h.low.size)), h.own, h.le⟩
theorem CAt.drew (h : CAt w base P A G da dn dc ma mn mc no S out came o x V) : CAt w base P A G da dn dc ma mn mc no S out came o x V.drew := h.keep (Below.refl _ _).drew
theorem CAt.alloc (h : CAt w base P A G da dn dc ma mn mc no S out came o x V) (b : Obj) : CAt w base P A G da dn dc ma mn mc no S out came o x (V.alloc b) := h.keep ((Below.refl _ _).alloc (Nat.le_refl _) _)
theorem own_far {e t : TypeId} {s n : Nat} {v : Value} {xs : List Value} {cs : Array Value} (h : w.ownsRow base e s v n xs) (k : Blk w P t cs) (hn : t ≠ e) (u : Value) (i : Nat) : (w.setCell ⟨P, i, none⟩ u).ownsRow base e s v n xs :=
  own_off h (off_put (Off.refl (fun k => k = P) w) i u) fun g hg c => by
    subst c
    rcases h.2 with ⟨rfl, _⟩ | ⟨g', cap, cur, rfl, _, hb, _⟩
    · simp [Value.ownBlock] at hg
    · simp only [Value.ownBlock, Option.some.injEq] at hg
      subst hg
      exact hn (k.uniq hb).1
theorem CAt.put5 (h : CAt w base P A G da dn dc ma mn mc no S out came o x V) (c : Nat) : CAt w base P A G da dn dc ma mn mc no S out c o x (V.setCell ⟨P, 5, none⟩ (.int .u64 (c : Nat))) :=
  ⟨h.b0.far (h.b0.ne h.at_.box (by decide)) _, h.b1.far (h.b1.ne h.at_.box (by decide)) _,
    ⟨h.at_.box.put 5 _, h.at_.ag.fr (b := 0) (us := [119]) ((Fr.refl _ _ _).put h.at_.box (Nat.zero_le _) (.inl (by decide)) 5 _) (by decide) (by decide), own_far h.at_.row h.at_.box (by decide) _ _, h.at_.low⟩,
    h.low.setCell (p := ⟨P, 5, none⟩) h.at_.low _, h.own, h.le⟩
/-- The same, behind the append. -/
structure CAt' (w : World) (base P A G : Nat) (da : Option Addr) (dn dc : Nat) (ma : Option Addr) (mn mc : Nat) (no : Nat) (S : List (Th Arr)) (out : List Arr) (came : Nat) (o : Value) (x : Arr) (V : World) : Prop where
  b0 : Blk V w.heap.size 115 #[.pointer (some ⟨P, 0, none⟩)]
  b1 : Blk V (w.heap.size + 1) 71 #[.int .i64 x.node, .int .i64 x.time, .int .i64 x.hops, .int .i64 x.frm]
  at_ : SAt base P A G da dn dc ma mn mc no S out came o V
  low : Below base w V
  le : base ≤ w.heap.size
theorem own_form {e : TypeId} {s n : Nat} {v : Value} {xs : List Value} (h : w.ownsRow base e s v n xs) : ∃ a c, v = .slice a n c := by
  rcases h.2 with ⟨h1, h2⟩ | ⟨g, c, cur, h1, _⟩
  · exact ⟨none, 0, by rw [h1, h2]⟩
  · exact ⟨_, c, h1⟩
theorem CAt.grown (h : CAt w base P A G da dn dc ma mn mc no S out came o x V) (hg : V.grownBy V' o.ownBlock) :
    Blk V' w.heap.size 115 #[.pointer (some ⟨P, 0, none⟩)] ∧ Blk V' (w.heap.size + 1) 71 #[.int .i64 x.node, .int .i64 x.time, .int .i64 x.hops, .int .i64 x.frm] ∧ Blk V' P 119 (stormC G da dn dc ma mn mc A o came) := by
  refine ⟨h.b0.grown hg fun e => ?_, h.b1.grown hg fun e => ?_, h.at_.box.grown hg fun e => ?_⟩
  · have := h.own _ e.symm; omega
  · have := h.own _ e.symm; omega
  · rcases h.at_.row.2 with ⟨c, _⟩ | ⟨g', cap, cur, c, _, hb, _⟩
    · rw [c] at e; simp [Value.ownBlock] at e
    · rw [c] at e
      simp only [Value.ownBlock, Option.some.injEq] at e
      subst e
      exact absurd (h.at_.box.uniq hb).1 (by decide)
theorem CAt.app (h : CAt w base P A G da dn dc ma mn mc no S out came o x V) {o' : Value} (hr : V'.ownsRow base 71 4 o' (out.length + 1) (arrC out ++ encA x)) (hg : V.grownBy V' o.ownBlock) :
    CAt' w base P A G da dn dc ma mn mc no S (out ++ [x]) came o' x (V'.setCell ⟨P, 4, none⟩ o') := by
  obtain ⟨k0, k1, kP⟩ := h.grown hg
  have hrow : V'.ownsRow base 71 4 o' (out ++ [x]).length (arrC (out ++ [x])) := by rw [arrC_snoc, List.length_append]; exact hr
  have f1 : Fr base [71] V V' := Fr.grown_own hg h.at_.row (by decide)
  exact ⟨k0.far (k0.ne kP (by decide)) _, k1.far (k1.ne kP (by decide)) _,
    ⟨kP.put 4 _, (h.at_.ag.fr f1 (by decide) (by decide)).fr (b := 0) (us := [119]) ((Fr.refl _ _ _).put kP (Nat.zero_le _) (.inl (by decide)) 4 _) (by decide) (by decide), own_far hrow kP (by decide) _ _, h.at_.low⟩,
    (h.low.trans (f1.toBelow (Nat.le_trans h.le h.low.size))).setCell (p := ⟨P, 4, none⟩) h.at_.low _, h.le⟩
theorem CAt'.keep (h : CAt' w base P A G da dn dc ma mn mc no S out came o x V) (k : Below V.heap.size V V') : CAt' w base P A G da dn dc ma mn mc no S out came o x V' :=
  ⟨h.b0.below k h.b0.lt, h.b1.below k h.b1.lt, h.at_.below k, h.low.trans (k.mono (Nat.le_trans h.le h.low.size)), h.le⟩
theorem graph_keep {R : Nat} {near : List Nat} (h : GraphAt w G R near) (k : Below base w V) (hG : G < base) (hR : R < base) : GraphAt V G R near :=
  ⟨h.box.below k hG, h.row.below k hR, h.word, h.few⟩
theorem own_cells' {e : TypeId} {s n : Nat} {v : Value} {xs : List Value} (h : w.ownsRow base e s v n xs) (c : ∀ (k : Nat) (o : Obj), w.heap[k]? = some o → o.isCells = true → V.heap[k]? = some o) : V.ownsRow base e s v n xs := by
  rcases h.2 with ⟨rfl, h0⟩ | ⟨g, cap, cur, rfl, hb, hg, rest⟩
  · exact ⟨h.1, .inl ⟨rfl, h0⟩⟩
  · exact ⟨h.1, .inr ⟨g, cap, cur, rfl, hb, c _ _ hg rfl, rest⟩⟩
theorem SAt.cells (h : SAt base P A G da dn dc ma mn mc no S out came o w) (c : ∀ (k : Nat) (o : Obj), w.heap[k]? = some o → o.isCells = true → V.heap[k]? = some o) (hs : w.heap.size ≤ V.heap.size) : SAt base P A G da dn dc ma mn mc no S out came o V := by
  obtain ⟨L, sl, a1, a2, a3, a4, a5, a6⟩ := h.ag
  exact ⟨c _ _ h.box rfl, ⟨L, sl, c _ _ a1 rfl, own_cells' a2 c, a3, a4, a5, Nat.le_trans a6 hs⟩, own_cells' h.row c, h.low⟩
/-- What is kept tells what is under way. -/
structure QInv (S : List (Th Arr)) (no : Nat) (way : List Arr) : Prop where
  map : S.map Th.x = way
  due : ∀ t ∈ S, t.due = t.x.time
  rise : Rising S
  nos : ∀ t ∈ S, t.no < no
theorem len_nos {S : List (Th Arr)} {no : Nat} (hr : Rising S) (hn : ∀ t ∈ S, t.no < no) : S.length ≤ no := by
  have h1 : (S.map Th.no).Nodup := by
    refine List.pairwise_iff_getElem.2 fun i j hi hj hij => ?_
    simp only [List.length_map] at hi hj
    have := hr i j _ _ hij (List.getElem?_eq_getElem hi) (List.getElem?_eq_getElem hj)
    simp only [List.getElem_map]
    omega
  have h2 := List.Nodup.length_le_of_subset (l₂ := List.range no) h1 fun v hv => by
    obtain ⟨t, ht, rfl⟩ := List.mem_map.1 hv
    exact List.mem_range.2 (hn t ht)
  simpa using h2
/-- What the sends keep. -/
structure LInv (w : World) (base P A G : Nat) (da : Option Addr) (dl : List (List Int)) (dc : Nat) (ma : Option Addr) (mn mc : Nat) (no : Nat) (out : List Arr) (came : Nat) (o : Value) (x : Arr) (way : List Arr) (B : Nat) (pre : List Nat) (V : World) : Prop where
  b0 : Blk V w.heap.size 115 #[.pointer (some ⟨P, 0, none⟩)]
  b1 : Blk V (w.heap.size + 1) 71 #[.int .i64 x.node, .int .i64 x.time, .int .i64 x.hops, .int .i64 x.frm]
  box : ∃ cs, Blk V B 31 cs
  low : Below base w V
  st : ∃ S', SAt base P A G da dl.length dc ma mn mc (no + pre.length) S' out came o V ∧ QInv S' (no + pre.length) (way ++ pre.map (sendF dl x))
theorem LInv.hush {dl : List (List Int)} {way : List Arr} {B : Nat} {pre : List Nat} (h : LInv w base P A G da dl dc ma mn mc no out came o x way B pre V) {b : Nat} (c : Hush (fun k => k = B) b V V') (hb : base ≤ b) (hw : base ≤ w.heap.size ∧ base ≤ B) : LInv w base P A G da dl dc ma mn mc no out came o x way B pre V' := by
  obtain ⟨cs, hB⟩ := h.box
  obtain ⟨S', hS, hQ⟩ := h.st
  have hk : ∀ k, k = B → ∃ t cs, Blk V k t cs ∧ t ≠ 71 := fun k hk => by subst hk; exact ⟨_, _, hB, by decide⟩
  have hk2 : ∀ k, k = B → ∃ t cs, Blk V k t cs ∧ t ≠ 137 := fun k hk => by subst hk; exact ⟨_, _, hB, by decide⟩
  obtain ⟨L, sl, a1, a2, a3, a4, a5, a6⟩ := hS.ag
  exact ⟨c.blk h.b0 (h.b0.ne hB (by decide)), c.blk h.b1 (h.b1.ne hB (by decide)), c.kind _ _ _ hB, c.below h.low hw.1 hb (fun k hk => by subst hk; exact hw.2),
    S', ⟨c.blk hS.box (hS.box.ne hB (by decide)), ⟨L, sl, c.blk a1 (a1.ne hB (by decide)), c.own a2 hk2, a3, a4, a5, Nat.le_trans a6 c.size⟩, c.own hS.row hk, hS.low⟩, hQ⟩
set_option maxRecDepth 100000 in
set_option maxHeartbeats 8000000 in
theorem come_yes (K R : Nat) (dl : List (List Int)) (mu near : List Nat) (h : SAt base P A G da dl.length dc ma mu.length mc no S out came o w) (hg : GraphAt w G R near) (ok : Ok near) (hT : Tab w) (hd : DelayAt K w da dl) (hm : MuteAt K w ma mu) (hK : K ≤ base) (hb : base ≤ w.heap.size)
    (hGb : G < base ∧ R < base ∧ 0 < base) {way : List Arr} (hp : PInv near.length S no way out came) (x : Arr) (h0 : 0 ≤ x.node) (h1 : x.node < (near.length : Int)) (hc : cameF out x.node = false) (ht : 0 ≤ x.time ∧ x.time ≤ 4096) (hh : 0 ≤ x.hops ∧ x.hops ≤ 64) (hl : out.length < 64) :
    Calls Tryd.prog 65 #[.pointer (some ⟨P, 0, none⟩), .agg #[.int .i64 x.node, .int .i64 x.time, .int .i64 x.hops, .int .i64 x.frm]] w fun e w' => (∃ v, e = .returned v) ∧ ∃ S' no' came' o', SAt base P A G da dl.length dc ma mu.length mc no' S' (out ++ [x]) came' o' w' ∧ PInv near.length S' no' (way ++ sendsF near mu dl x) (out ++ [x]) came' ∧ Below base w w' := by
  obtain ⟨W, hW⟩ : ∃ W, (w.alloc (.cells #[.pointer (some ⟨P, 0, none⟩)] 115)).alloc (.cells #[.int .i64 x.node, .int .i64 x.time, .int .i64 x.hops, .int .i64 x.frm] 71) = W := ⟨_, rfl⟩
  have z1 : (w.alloc (.cells #[.pointer (some ⟨P, 0, none⟩)] 115)).heap.size = w.heap.size + 1 := by simp
  have b0 : Blk W w.heap.size 115 #[.pointer (some ⟨P, 0, none⟩)] := by rw [← hW]; exact (Blk.new w _ _).alloc _
  have b1 : Blk W (w.heap.size + 1) 71 #[.int .i64 x.node, .int .i64 x.time, .int .i64 x.hops, .int .i64 x.frm] := by
    rw [← hW]
    have := Blk.new (w.alloc (.cells #[.pointer (some ⟨P, 0, none⟩)] 115)) 71 #[.int .i64 x.node, .int .i64 x.time, .int .i64 x.hops, .int .i64 x.frm]
    rwa [z1] at this
  have low : Below w.heap.size w W := by rw [← hW]; exact ((Below.refl _ w).alloc (Nat.le_refl _) _).alloc (by simp) _
  have bP := h.box.below low h.box.lt
  have lPw := h.box.lt
  have c0 : W.cell? ⟨w.heap.size, 0, none⟩ = some (.pointer (some ⟨P, 0, none⟩)) := b0.cell 0
  have c1 : W.cell? ⟨w.heap.size + 1, 0, none⟩ = some (.int .i64 x.node) := b1.cell 0
  have c5 : W.cell? ⟨P, 5, none⟩ = some (.int .u64 (came : Nat)) := bP.cell 5
  have hf := ok.few
  have hh := hp.has h0 (by omega)
  rw [hc] at hh
  have HH := Lib.hid (fun V => has_any came hp.lt x.node V)
  rw [hh] at HH
  have HW := Lib.hid hW
  have HC1 : RowKit.Hid (CAt w base P A G da dl.length dc ma mu.length mc no S out came o x W.drew) := Lib.hid (CAt.drew ⟨b0, b1, h.below low, low.mono hb, fun g hg => by
    rcases h.row.2 with ⟨e, _⟩ | ⟨g', cap, cur, e, _, hb, _⟩
    · subst e; simp [Value.ownBlock] at hg
    · subst e
      simp only [Value.ownBlock, Option.some.injEq] at hg
      subst hg
      exact (Array.getElem?_eq_some_iff.1 hb).1, hb⟩)
  obtain ⟨k, hk⟩ : ∃ k : Nat, x.node = k := ⟨x.node.toNat, by omega⟩
  have hk64 : k < 64 := by omega
  have hpc := hp.came hk hk64
  have Hpc := Lib.hid hpc
  have HWi := Lib.hid (fun V b hb => with_one came k b hp.lt hk64 V hb)
  obtain ⟨came', hcm⟩ : ∃ c, came ||| 2 ^ k = c := ⟨_, rfl⟩
  rw [hcm] at HWi Hpc
  have Hk := Lib.hid hk
  have Hp := Lib.hid hp
  have Hg := Lib.hid hg
  have HT := Lib.hid hT
  have Hd := Lib.hid hd
  have Hm := Lib.hid hm
  clear hW z1 b0 b1 low bP hh hp h hc hpc hcm hk hg hT hd hm
  refine callsIn_wide.1 (callsIn_of_wp_marks (n := 0) Tryd.func65 rfl trivial ?_ rfl)
  simp only [Tryd.ntmps65, List.size_toArray, List.length_cons, List.length_nil, Nat.reduceAdd, Nat.reduceSub, Array.replicate_succ, Array.replicate_zero, List.push_toArray, List.append_toArray, List.nil_append, List.cons_append]
  refine wpIn_wide.2 ?_
  go_upto_region 1 with (fail)
  rw [HW.out]
  clear HW
  refine wp_region_noPanic ?_
  go_region_held3 (fun V => V.cell? ⟨w.heap.size, 0, none⟩ = some (.pointer (some ⟨P, 0, none⟩)) ∧ V.cell? ⟨w.heap.size + 1, 0, none⟩ = some (.int .i64 x.node) ∧ V.cell? ⟨P, 5, none⟩ = some (.int .u64 (came : Nat))) ((go_keep; done)) ((go_at_call 57; refine (HH.out _).mono ?_; rintro e w' ⟨rfl, h⟩; rw [h]; clear h w'))
  refine NoPanic.normal ?_
  go_wp2_with fail
  obtain ⟨V, hV⟩ : ∃ V, W.drew = V := ⟨_, rfl⟩
  rw [hV] at HC1
  rw [hV]
  have HC := HC1
  clear HH c0 c1 c5 hV HC1
  have c0 : V.cell? ⟨w.heap.size, 0, none⟩ = some (.pointer (some ⟨P, 0, none⟩)) := HC.out.b0.cell 0
  have d0 : V.cell? ⟨w.heap.size + 1, 0, none⟩ = some (.int .i64 (k : Nat)) := by rw [← Hk.out]; exact HC.out.b1.cell 0
  have p5 : V.cell? ⟨P, 5, none⟩ = some (.int .u64 (came : Nat)) := HC.out.at_.box.cell 5
  have f5 : V.frozen? ⟨P, 5, none⟩ = false := HC.out.at_.box.frozen 5
  have lP : P < V.heap.size := HC.out.at_.box.lt
  have l0 : w.heap.size < V.heap.size := HC.out.b0.lt
  have l1 : w.heap.size + 1 < V.heap.size := HC.out.b1.lt
  go_cut [] from 13 to 23 (fun V => RowKit.Hid (CAt w base P A G da dl.length dc ma mu.length mc no S out came' o x V))
  case first =>
    refine wp_region_noPanic ?_
    refine wp_region_held_drew (S := fun w' => w'.cell? ⟨w.heap.size, 0, none⟩ = some (.pointer (some ⟨P, 0, none⟩)) ∧ w'.cell? ⟨w.heap.size + 1, 0, none⟩ = some (.int .i64 k)) (by kernel_rfl) ⟨c0, d0⟩ (fun hHeld => ?_)
    refine Take.take (i := 0) (oi := _) (t := 13) (v := ?v1) rfl (by kernel_rfl) (by kernel_rfl) (by kernel_rfl) (by kernel_rfl) (fun _ _ _ h => h) (by kernel_rfl) ?hy1 (by assumption) ?_
    case hy1 => (intro w hSw; (try dsimp only at hSw); go_simp; try with_reducible rfl)
    try simp only [Act.put, List.setIfInBounds_toArray, List.set_cons_zero, List.set_cons_succ]
    refine Take.take (i := 1) (oi := _) (t := 14) (v := ?v2) rfl (by kernel_rfl) (by kernel_rfl) (by kernel_rfl) (by kernel_rfl) (fun _ _ _ h => h) (by kernel_rfl) ?hy2 (by assumption) ?_
    case hy2 => (intro w hSw; (try dsimp only at hSw); go_simp; try with_reducible rfl)
    try simp only [Act.put, List.setIfInBounds_toArray, List.set_cons_zero, List.set_cons_succ]
    refine Take.take (i := 2) (oi := _) (t := 15) (v := ?v3) rfl (by kernel_rfl) (by kernel_rfl) (by kernel_rfl) (by kernel_rfl) (fun _ _ _ h => h) (by kernel_rfl) ?hy3 (by assumption) ?_
    case hy3 => (intro w hSw; (try dsimp only at hSw); go_simp; try with_reducible rfl)
    try simp only [Act.put, List.setIfInBounds_toArray, List.set_cons_zero, List.set_cons_succ]
    refine Take.take (i := 3) (oi := _) (t := 16) (v := ?v4) rfl (by kernel_rfl) (by kernel_rfl) (by kernel_rfl) (by kernel_rfl) (fun _ _ _ h => h) (by kernel_rfl) ?hy4 (by assumption) ?_
    case hy4 => (intro w hSw; (try dsimp only at hSw); go_simp; try with_reducible rfl)
    try simp only [Act.put, List.setIfInBounds_toArray, List.set_cons_zero, List.set_cons_succ]
    refine Take.take (i := 5) (oi := _) (t := 18) (v := ?v5) rfl (by kernel_rfl) (by kernel_rfl) (by kernel_rfl) (by kernel_rfl) (fun _ _ _ h => h) (by kernel_rfl) ?hy5 (by assumption) ?_
    case hy5 => (intro w hSw; (try dsimp only at hSw); go_simp; try with_reducible rfl)
    try simp only [Act.put, List.setIfInBounds_toArray, List.set_cons_zero, List.set_cons_succ]
    refine Take.take (i := 6) (oi := _) (t := 19) (v := ?v6) rfl (by kernel_rfl) (by kernel_rfl) (by kernel_rfl) (by kernel_rfl) (fun _ _ _ h => h) (by kernel_rfl) ?hy6 (by assumption) ?_
    case hy6 => (intro w hSw; (try dsimp only at hSw); go_simp; try with_reducible rfl)
    try simp only [Act.put, List.setIfInBounds_toArray, List.set_cons_zero, List.set_cons_succ]
    refine wpAnyH_ready (rs := [4, 7]) (by kernel_rfl) (by simp) ?_
    refine AllReadyH.cons (o := _) rfl (fun K hK => ?_) (AllReadyH.cons (o := _) rfl (fun K hK => ?_) AllReadyH.nil)
    · skip
      go_simp
      refine hK.out _ _ ?hS7 (fun hHeld => ?_)
      case hS7 => (first | (go_keep; done) | exact ⟨((HC.out.put5 came').alloc _).b0.cell 0, by rw [← Hk.out]; exact ((HC.out.put5 came').alloc _).b1.cell 0⟩ | exact ⟨g0.cell 0, g1.cell 0, g1.cell 1, g1.cell 2, g1.cell 3⟩ | exact ⟨HC3.out.b0.cell 0, HC3.out.b1.cell 0, HC3.out.b1.cell 1, HC3.out.b1.cell 2, HC3.out.b1.cell 3⟩)
      clear hK K
      try simp only [Act.put, List.setIfInBounds_toArray, List.set_cons_zero, List.set_cons_succ]
      refine wpAnyH_ready (rs := [7]) (by kernel_rfl) (by simp) ?_
      refine AllReadyH.cons (o := _) rfl (fun K hK => ?_) AllReadyH.nil
      go_simp
      refine hK.out _ _ ?hS8 (fun hHeld => ?_)
      case hS8 => (first | (go_keep; done) | exact ⟨((HC.out.put5 came').alloc _).b0.cell 0, by rw [← Hk.out]; exact ((HC.out.put5 came').alloc _).b1.cell 0⟩ | exact ⟨g0.cell 0, g1.cell 0, g1.cell 1, g1.cell 2, g1.cell 3⟩ | exact ⟨HC3.out.b0.cell 0, HC3.out.b1.cell 0, HC3.out.b1.cell 1, HC3.out.b1.cell 2, HC3.out.b1.cell 3⟩)
      clear hK K
      try simp only [Act.put, List.setIfInBounds_toArray, List.set_cons_zero, List.set_cons_succ]
      refine wpAnyH_ready (rs := [8]) (by kernel_rfl) (by simp) ?_
      refine AllReadyH.cons (o := _) rfl (fun K hK => ?_) AllReadyH.nil
      go_simp
      go_at_call 54
      refine (HWi.out _ _ (by go_simp)).mono ?_
      rintro e w' ⟨rfl, h⟩
      rw [h]
      clear h w'
      try dsimp only
      refine hK.out _ _ ?hS9 (fun hHeld => ?_)
      case hS9 => (first | (go_keep; done) | exact ⟨((HC.out.put5 came').alloc _).b0.cell 0, by rw [← Hk.out]; exact ((HC.out.put5 came').alloc _).b1.cell 0⟩ | exact ⟨g0.cell 0, g1.cell 0, g1.cell 1, g1.cell 2, g1.cell 3⟩ | exact ⟨HC3.out.b0.cell 0, HC3.out.b1.cell 0, HC3.out.b1.cell 1, HC3.out.b1.cell 2, HC3.out.b1.cell 3⟩)
      clear hK K
      try simp only [Act.put, List.setIfInBounds_toArray, List.set_cons_zero, List.set_cons_succ]
      refine Take.take (i := 9) (oi := _) (t := 22) (v := ?v10) rfl (by kernel_rfl) (by kernel_rfl) (by kernel_rfl) (by kernel_rfl) (fun _ _ _ h => h) (by kernel_rfl) ?hy10 (by assumption) ?_
      case hy10 => (intro w hSw; (try dsimp only at hSw); go_simp; try with_reducible rfl)
      try simp only [Act.put, List.setIfInBounds_toArray, List.set_cons_zero, List.set_cons_succ]
      refine Take.take (i := 10) (oi := _) (t := 23) (v := ?v11) rfl (by kernel_rfl) (by kernel_rfl) (by kernel_rfl) (by kernel_rfl) (fun _ _ _ h => h) (by kernel_rfl) ?hy11 (by assumption) ?_
      case hy11 => (intro w hSw; (try dsimp only at hSw); go_simp; try with_reducible rfl)
      try simp only [Act.put, List.setIfInBounds_toArray, List.set_cons_zero, List.set_cons_succ]
      refine wpAnyH_ready (rs := [11]) (by kernel_rfl) (by simp) ?_
      refine AllReadyH.cons (o := _) rfl (fun K hK => ?_) AllReadyH.nil
      go_simp
      refine hK.out _ _ ?hS12 (fun hHeld => ?_)
      case hS12 => (first | (go_keep; done) | exact ⟨((HC.out.put5 came').alloc _).b0.cell 0, by rw [← Hk.out]; exact ((HC.out.put5 came').alloc _).b1.cell 0⟩ | exact ⟨g0.cell 0, g1.cell 0, g1.cell 1, g1.cell 2, g1.cell 3⟩ | exact ⟨HC3.out.b0.cell 0, HC3.out.b1.cell 0, HC3.out.b1.cell 1, HC3.out.b1.cell 2, HC3.out.b1.cell 3⟩)
      clear hK K
      try simp only [Act.put, List.setIfInBounds_toArray, List.set_cons_zero, List.set_cons_succ]
      refine wpAnyH_done (by kernel_rfl) ?_ _
      refine NoPanic.normal ?_
      go_wp2_with fail
      go_meet
      exact Lib.hid ((HC.out.put5 came').alloc _).drew
    · skip
      go_simp
      refine hK.out _ _ ?hS13 (fun hHeld => ?_)
      case hS13 => (first | (go_keep; done) | exact ⟨((HC.out.put5 came').alloc _).b0.cell 0, by rw [← Hk.out]; exact ((HC.out.put5 came').alloc _).b1.cell 0⟩ | exact ⟨g0.cell 0, g1.cell 0, g1.cell 1, g1.cell 2, g1.cell 3⟩ | exact ⟨HC3.out.b0.cell 0, HC3.out.b1.cell 0, HC3.out.b1.cell 1, HC3.out.b1.cell 2, HC3.out.b1.cell 3⟩)
      clear hK K
      try simp only [Act.put, List.setIfInBounds_toArray, List.set_cons_zero, List.set_cons_succ]
      refine wpAnyH_ready (rs := [4]) (by kernel_rfl) (by simp) ?_
      refine AllReadyH.cons (o := _) rfl (fun K hK => ?_) AllReadyH.nil
      go_simp
      refine hK.out _ _ ?hS14 (fun hHeld => ?_)
      case hS14 => (first | (go_keep; done) | exact ⟨((HC.out.put5 came').alloc _).b0.cell 0, by rw [← Hk.out]; exact ((HC.out.put5 came').alloc _).b1.cell 0⟩ | exact ⟨g0.cell 0, g1.cell 0, g1.cell 1, g1.cell 2, g1.cell 3⟩ | exact ⟨HC3.out.b0.cell 0, HC3.out.b1.cell 0, HC3.out.b1.cell 1, HC3.out.b1.cell 2, HC3.out.b1.cell 3⟩)
      clear hK K
      try simp only [Act.put, List.setIfInBounds_toArray, List.set_cons_zero, List.set_cons_succ]
      refine wpAnyH_ready (rs := [8]) (by kernel_rfl) (by simp) ?_
      refine AllReadyH.cons (o := _) rfl (fun K hK => ?_) AllReadyH.nil
      go_simp
      go_at_call 54
      refine (HWi.out _ _ (by go_simp)).mono ?_
      rintro e w' ⟨rfl, h⟩
      rw [h]
      clear h w'
      try dsimp only
      refine hK.out _ _ ?hS15 (fun hHeld => ?_)
      case hS15 => (first | (go_keep; done) | exact ⟨((HC.out.put5 came').alloc _).b0.cell 0, by rw [← Hk.out]; exact ((HC.out.put5 came').alloc _).b1.cell 0⟩ | exact ⟨g0.cell 0, g1.cell 0, g1.cell 1, g1.cell 2, g1.cell 3⟩ | exact ⟨HC3.out.b0.cell 0, HC3.out.b1.cell 0, HC3.out.b1.cell 1, HC3.out.b1.cell 2, HC3.out.b1.cell 3⟩)
      clear hK K
      try simp only [Act.put, List.setIfInBounds_toArray, List.set_cons_zero, List.set_cons_succ]
      refine Take.take (i := 9) (oi := _) (t := 22) (v := ?v16) rfl (by kernel_rfl) (by kernel_rfl) (by kernel_rfl) (by kernel_rfl) (fun _ _ _ h => h) (by kernel_rfl) ?hy16 (by assumption) ?_
      case hy16 => (intro w hSw; (try dsimp only at hSw); go_simp; try with_reducible rfl)
      try simp only [Act.put, List.setIfInBounds_toArray, List.set_cons_zero, List.set_cons_succ]
      refine Take.take (i := 10) (oi := _) (t := 23) (v := ?v17) rfl (by kernel_rfl) (by kernel_rfl) (by kernel_rfl) (by kernel_rfl) (fun _ _ _ h => h) (by kernel_rfl) ?hy17 (by assumption) ?_
      case hy17 => (intro w hSw; (try dsimp only at hSw); go_simp; try with_reducible rfl)
      try simp only [Act.put, List.setIfInBounds_toArray, List.set_cons_zero, List.set_cons_succ]
      refine wpAnyH_ready (rs := [11]) (by kernel_rfl) (by simp) ?_
      refine AllReadyH.cons (o := _) rfl (fun K hK => ?_) AllReadyH.nil
      go_simp
      refine hK.out _ _ ?hS18 (fun hHeld => ?_)
      case hS18 => (first | (go_keep; done) | exact ⟨((HC.out.put5 came').alloc _).b0.cell 0, by rw [← Hk.out]; exact ((HC.out.put5 came').alloc _).b1.cell 0⟩ | exact ⟨g0.cell 0, g1.cell 0, g1.cell 1, g1.cell 2, g1.cell 3⟩ | exact ⟨HC3.out.b0.cell 0, HC3.out.b1.cell 0, HC3.out.b1.cell 1, HC3.out.b1.cell 2, HC3.out.b1.cell 3⟩)
      clear hK K
      try simp only [Act.put, List.setIfInBounds_toArray, List.set_cons_zero, List.set_cons_succ]
      refine wpAnyH_done (by kernel_rfl) ?_ _
      refine NoPanic.normal ?_
      go_wp2_with fail
      go_meet
      exact Lib.hid ((HC.out.put5 came').alloc _).drew
  case rest =>
    clear c0 d0 p5 f5 lP l0 l1 HC
    have HC := hcut
    have c0 : wc.cell? ⟨w.heap.size, 0, none⟩ = some (.pointer (some ⟨P, 0, none⟩)) := HC.out.b0.cell 0
    have d0 : wc.cell? ⟨w.heap.size + 1, 0, none⟩ = some (.int .i64 x.node) := HC.out.b1.cell 0
    have d1 : wc.cell? ⟨w.heap.size + 1, 1, none⟩ = some (.int .i64 x.time) := HC.out.b1.cell 1
    have d2 : wc.cell? ⟨w.heap.size + 1, 2, none⟩ = some (.int .i64 x.hops) := HC.out.b1.cell 2
    have d3 : wc.cell? ⟨w.heap.size + 1, 3, none⟩ = some (.int .i64 x.frm) := HC.out.b1.cell 3
    have p4 : wc.cell? ⟨P, 4, none⟩ = some o := HC.out.at_.box.cell 4
    have f4 : wc.frozen? ⟨P, 4, none⟩ = false := HC.out.at_.box.frozen 4
    have lP : P < wc.heap.size := HC.out.at_.box.lt
    have l0 : w.heap.size < wc.heap.size := HC.out.b0.lt
    have l1 : w.heap.size + 1 < wc.heap.size := HC.out.b1.lt
    obtain ⟨i0, hi0, hz⟩ := Option.map_eq_some_iff.1 infoA
    simp only [Prod.mk.injEq] at hz
    obtain ⟨hz0, hz1, hz2⟩ := hz
    have Hi0 := Lib.hid hi0
    have Hz0 := Lib.hid hz0
    have Hz1 := Lib.hid hz1
    have Hz2 := Lib.hid hz2
    clear hi0 hz0 hz1 hz2 hcut
    go_wp2_with fail
    go_cut [] from 24 to 33 (fun V => ∃ o', RowKit.Hid (CAt' w base P A G da dl.length dc ma mu.length mc no S (out ++ [x]) came' o' x V))
    case first =>
      refine wp_region_noPanic ?_
      refine wp_region_held_drew (S := fun w' => w'.cell? ⟨w.heap.size, 0, none⟩ = some (.pointer (some ⟨P, 0, none⟩)) ∧ w'.cell? ⟨w.heap.size + 1, 0, none⟩ = some (.int .i64 x.node) ∧ w'.cell? ⟨w.heap.size + 1, 1, none⟩ = some (.int .i64 x.time) ∧ w'.cell? ⟨w.heap.size + 1, 2, none⟩ = some (.int .i64 x.hops) ∧ w'.cell? ⟨w.heap.size + 1, 3, none⟩ = some (.int .i64 x.frm)) (by kernel_rfl) ⟨c0, d0, d1, d2, d3⟩ (fun hHeld => ?_)
      refine Take.take (i := 0) (oi := _) (t := 24) (v := ?v19) rfl (by kernel_rfl) (by kernel_rfl) (by kernel_rfl) (by kernel_rfl) (fun _ _ _ h => h) (by kernel_rfl) ?hy19 (by assumption) ?_
      case hy19 => (intro w hSw; (try dsimp only at hSw); go_simp; try with_reducible rfl)
      try simp only [Act.put, List.setIfInBounds_toArray, List.set_cons_zero, List.set_cons_succ]
      refine Take.take (i := 1) (oi := _) (t := 25) (v := ?v20) rfl (by kernel_rfl) (by kernel_rfl) (by kernel_rfl) (by kernel_rfl) (fun _ _ _ h => h) (by kernel_rfl) ?hy20 (by assumption) ?_
      case hy20 => (intro w hSw; (try dsimp only at hSw); go_simp; try with_reducible rfl)
      try simp only [Act.put, List.setIfInBounds_toArray, List.set_cons_zero, List.set_cons_succ]
      refine Take.take (i := 2) (oi := _) (t := 26) (v := ?v21) rfl (by kernel_rfl) (by kernel_rfl) (by kernel_rfl) (by kernel_rfl) (fun _ _ _ h => h) (by kernel_rfl) ?hy21 (by assumption) ?_
      case hy21 => (intro w hSw; (try dsimp only at hSw); go_simp; try with_reducible rfl)
      try simp only [Act.put, List.setIfInBounds_toArray, List.set_cons_zero, List.set_cons_succ]
      refine Take.take (i := 3) (oi := _) (t := 27) (v := ?v22) rfl (by kernel_rfl) (by kernel_rfl) (by kernel_rfl) (by kernel_rfl) (fun _ _ _ h => h) (by kernel_rfl) ?hy22 (by assumption) ?_
      case hy22 => (intro w hSw; (try dsimp only at hSw); go_simp; try with_reducible rfl)
      try simp only [Act.put, List.setIfInBounds_toArray, List.set_cons_zero, List.set_cons_succ]
      refine Take.take (i := 5) (oi := _) (t := 29) (v := ?v23) rfl (by kernel_rfl) (by kernel_rfl) (by kernel_rfl) (by kernel_rfl) (fun _ _ _ h => h) (by kernel_rfl) ?hy23 (by assumption) ?_
      case hy23 => (intro w hSw; (try dsimp only at hSw); go_simp; try with_reducible rfl)
      try simp only [Act.put, List.setIfInBounds_toArray, List.set_cons_zero, List.set_cons_succ]
      refine wpAnyH_ready (rs := [4, 6]) (by kernel_rfl) (by simp) ?_
      refine AllReadyH.cons (o := _) rfl (fun K hK => ?_) (AllReadyH.cons (o := _) rfl (fun K hK => ?_) AllReadyH.nil)
      · skip
        go_simp
        refine hK.out _ _ ?hS24 (fun hHeld => ?_)
        case hS24 => (first | (go_keep; done) | exact ⟨((HC.out.put5 came').alloc _).b0.cell 0, by rw [← Hk.out]; exact ((HC.out.put5 came').alloc _).b1.cell 0⟩ | exact ⟨g0.cell 0, g1.cell 0, g1.cell 1, g1.cell 2, g1.cell 3⟩ | exact ⟨HC3.out.b0.cell 0, HC3.out.b1.cell 0, HC3.out.b1.cell 1, HC3.out.b1.cell 2, HC3.out.b1.cell 3⟩)
        clear hK K
        try simp only [Act.put, List.setIfInBounds_toArray, List.set_cons_zero, List.set_cons_succ]
        refine wpAnyH_ready (rs := [6]) (by kernel_rfl) (by simp) ?_
        refine AllReadyH.cons (o := _) rfl (fun K hK => ?_) AllReadyH.nil
        go_simp
        refine hK.out _ _ ?hS25 (fun hHeld => ?_)
        case hS25 => (first | (go_keep; done) | exact ⟨((HC.out.put5 came').alloc _).b0.cell 0, by rw [← Hk.out]; exact ((HC.out.put5 came').alloc _).b1.cell 0⟩ | exact ⟨g0.cell 0, g1.cell 0, g1.cell 1, g1.cell 2, g1.cell 3⟩ | exact ⟨HC3.out.b0.cell 0, HC3.out.b1.cell 0, HC3.out.b1.cell 1, HC3.out.b1.cell 2, HC3.out.b1.cell 3⟩)
        clear hK K
        try simp only [Act.put, List.setIfInBounds_toArray, List.set_cons_zero, List.set_cons_succ]
        refine wpAnyH_ready (rs := [7]) (by kernel_rfl) (by simp) ?_
        refine AllReadyH.cons (o := _) rfl (fun K hK => ?_) AllReadyH.nil
        rw [if_pos (by rfl)]
        refine wp_append_own _ (.tmp 28) (.tmp 30) 65 rfl base 71 i0 _ 4 32 Tryd.underlying65 Hi0.out Hz0.out Hz1.out Hz2.out rfl (by decide) _ _ _ rfl (by exact (HC.out.alloc _).at_.row) ⟨wc.heap.size, 0, none⟩ 1 1 (encA x) rfl rfl (by have h := World.news_of_block (cs := #[.int .i64 x.node, .int .i64 x.time, .int .i64 x.hops, .int .i64 x.frm]) (t := 71) (fr := (0, 0)) (heap_alloc_new wc _); exact h) (encA_one x) (by unfold maxLen; omega) (by omega) (by first | omega | (simp; omega)) ?_
        intro v3 w3 own3 g3 _
        obtain ⟨a3, c3, rfl⟩ := own_form own3
        have g4 : (wc.alloc (.cells #[.int .i64 x.node, .int .i64 x.time, .int .i64 x.hops, .int .i64 x.frm] 71)).drew.grownBy w3 o.ownBlock := g3
        obtain ⟨g0, g1, gP⟩ := (HC.out.alloc _).drew.grown g4
        have e4 : w3.cell? ⟨P, 4, none⟩ = some o := gP.cell 4
        have h4 := gP.frozen 4
        have l3 := gP.lt
        have HC3 := Lib.hid ((HC.out.alloc _).drew.app own3 g4)
        refine hK.out _ _ ?hS26 (fun hHeld => ?_)
        case hS26 => (first | (go_keep; done) | exact ⟨((HC.out.put5 came').alloc _).b0.cell 0, by rw [← Hk.out]; exact ((HC.out.put5 came').alloc _).b1.cell 0⟩ | exact ⟨g0.cell 0, g1.cell 0, g1.cell 1, g1.cell 2, g1.cell 3⟩ | exact ⟨HC3.out.b0.cell 0, HC3.out.b1.cell 0, HC3.out.b1.cell 1, HC3.out.b1.cell 2, HC3.out.b1.cell 3⟩)
        clear hK K
        try simp only [Act.put, List.setIfInBounds_toArray, List.set_cons_zero, List.set_cons_succ]
        refine Take.take (i := 8) (oi := _) (t := 32) (v := ?v27) rfl (by kernel_rfl) (by kernel_rfl) (by kernel_rfl) (by kernel_rfl) (fun _ _ _ h => h) (by kernel_rfl) ?hy27 (by assumption) ?_
        case hy27 => (intro w hSw; (try dsimp only at hSw); go_simp; try with_reducible rfl)
        try simp only [Act.put, List.setIfInBounds_toArray, List.set_cons_zero, List.set_cons_succ]
        refine Take.take (i := 9) (oi := _) (t := 33) (v := ?v28) rfl (by kernel_rfl) (by kernel_rfl) (by kernel_rfl) (by kernel_rfl) (fun _ _ _ h => h) (by kernel_rfl) ?hy28 (by assumption) ?_
        case hy28 => (intro w hSw; (try dsimp only at hSw); go_simp; try with_reducible rfl)
        try simp only [Act.put, List.setIfInBounds_toArray, List.set_cons_zero, List.set_cons_succ]
        refine wpAnyH_ready (rs := [10]) (by kernel_rfl) (by simp) ?_
        refine AllReadyH.cons (o := _) rfl (fun K hK => ?_) AllReadyH.nil
        go_simp
        refine hK.out _ _ ?hS29 (fun hHeld => ?_)
        case hS29 => (first | (go_keep; done) | exact ⟨((HC.out.put5 came').alloc _).b0.cell 0, by rw [← Hk.out]; exact ((HC.out.put5 came').alloc _).b1.cell 0⟩ | exact ⟨g0.cell 0, g1.cell 0, g1.cell 1, g1.cell 2, g1.cell 3⟩ | exact ⟨HC3.out.b0.cell 0, HC3.out.b1.cell 0, HC3.out.b1.cell 1, HC3.out.b1.cell 2, HC3.out.b1.cell 3⟩)
        clear hK K
        try simp only [Act.put, List.setIfInBounds_toArray, List.set_cons_zero, List.set_cons_succ]
        refine wpAnyH_done (by kernel_rfl) ?_ _
        refine NoPanic.normal ?_
        go_wp2_with fail
        go_meet
        exact ⟨_, HC3⟩
      · skip
        go_simp
        refine hK.out _ _ ?hS30 (fun hHeld => ?_)
        case hS30 => (first | (go_keep; done) | exact ⟨((HC.out.put5 came').alloc _).b0.cell 0, by rw [← Hk.out]; exact ((HC.out.put5 came').alloc _).b1.cell 0⟩ | exact ⟨g0.cell 0, g1.cell 0, g1.cell 1, g1.cell 2, g1.cell 3⟩ | exact ⟨HC3.out.b0.cell 0, HC3.out.b1.cell 0, HC3.out.b1.cell 1, HC3.out.b1.cell 2, HC3.out.b1.cell 3⟩)
        clear hK K
        try simp only [Act.put, List.setIfInBounds_toArray, List.set_cons_zero, List.set_cons_succ]
        refine wpAnyH_ready (rs := [4]) (by kernel_rfl) (by simp) ?_
        refine AllReadyH.cons (o := _) rfl (fun K hK => ?_) AllReadyH.nil
        go_simp
        refine hK.out _ _ ?hS31 (fun hHeld => ?_)
        case hS31 => (first | (go_keep; done) | exact ⟨((HC.out.put5 came').alloc _).b0.cell 0, by rw [← Hk.out]; exact ((HC.out.put5 came').alloc _).b1.cell 0⟩ | exact ⟨g0.cell 0, g1.cell 0, g1.cell 1, g1.cell 2, g1.cell 3⟩ | exact ⟨HC3.out.b0.cell 0, HC3.out.b1.cell 0, HC3.out.b1.cell 1, HC3.out.b1.cell 2, HC3.out.b1.cell 3⟩)
        clear hK K
        try simp only [Act.put, List.setIfInBounds_toArray, List.set_cons_zero, List.set_cons_succ]
        refine wpAnyH_ready (rs := [7]) (by kernel_rfl) (by simp) ?_
        refine AllReadyH.cons (o := _) rfl (fun K hK => ?_) AllReadyH.nil
        rw [if_pos (by rfl)]
        refine wp_append_own _ (.tmp 28) (.tmp 30) 65 rfl base 71 i0 _ 4 32 Tryd.underlying65 Hi0.out Hz0.out Hz1.out Hz2.out rfl (by decide) _ _ _ rfl (by exact (HC.out.alloc _).at_.row) ⟨wc.heap.size, 0, none⟩ 1 1 (encA x) rfl rfl (by have h := World.news_of_block (cs := #[.int .i64 x.node, .int .i64 x.time, .int .i64 x.hops, .int .i64 x.frm]) (t := 71) (fr := (0, 0)) (heap_alloc_new wc _); exact h) (encA_one x) (by unfold maxLen; omega) (by omega) (by first | omega | (simp; omega)) ?_
        intro v3 w3 own3 g3 _
        obtain ⟨a3, c3, rfl⟩ := own_form own3
        have g4 : (wc.alloc (.cells #[.int .i64 x.node, .int .i64 x.time, .int .i64 x.hops, .int .i64 x.frm] 71)).drew.grownBy w3 o.ownBlock := g3
        obtain ⟨g0, g1, gP⟩ := (HC.out.alloc _).drew.grown g4
        have e4 : w3.cell? ⟨P, 4, none⟩ = some o := gP.cell 4
        have h4 := gP.frozen 4
        have l3 := gP.lt
        have HC3 := Lib.hid ((HC.out.alloc _).drew.app own3 g4)
        refine hK.out _ _ ?hS32 (fun hHeld => ?_)
        case hS32 => (first | (go_keep; done) | exact ⟨((HC.out.put5 came').alloc _).b0.cell 0, by rw [← Hk.out]; exact ((HC.out.put5 came').alloc _).b1.cell 0⟩ | exact ⟨g0.cell 0, g1.cell 0, g1.cell 1, g1.cell 2, g1.cell 3⟩ | exact ⟨HC3.out.b0.cell 0, HC3.out.b1.cell 0, HC3.out.b1.cell 1, HC3.out.b1.cell 2, HC3.out.b1.cell 3⟩)
        clear hK K
        try simp only [Act.put, List.setIfInBounds_toArray, List.set_cons_zero, List.set_cons_succ]
        refine Take.take (i := 8) (oi := _) (t := 32) (v := ?v33) rfl (by kernel_rfl) (by kernel_rfl) (by kernel_rfl) (by kernel_rfl) (fun _ _ _ h => h) (by kernel_rfl) ?hy33 (by assumption) ?_
        case hy33 => (intro w hSw; (try dsimp only at hSw); go_simp; try with_reducible rfl)
        try simp only [Act.put, List.setIfInBounds_toArray, List.set_cons_zero, List.set_cons_succ]
        refine Take.take (i := 9) (oi := _) (t := 33) (v := ?v34) rfl (by kernel_rfl) (by kernel_rfl) (by kernel_rfl) (by kernel_rfl) (fun _ _ _ h => h) (by kernel_rfl) ?hy34 (by assumption) ?_
        case hy34 => (intro w hSw; (try dsimp only at hSw); go_simp; try with_reducible rfl)
        try simp only [Act.put, List.setIfInBounds_toArray, List.set_cons_zero, List.set_cons_succ]
        refine wpAnyH_ready (rs := [10]) (by kernel_rfl) (by simp) ?_
        refine AllReadyH.cons (o := _) rfl (fun K hK => ?_) AllReadyH.nil
        go_simp
        refine hK.out _ _ ?hS35 (fun hHeld => ?_)
        case hS35 => (first | (go_keep; done) | exact ⟨((HC.out.put5 came').alloc _).b0.cell 0, by rw [← Hk.out]; exact ((HC.out.put5 came').alloc _).b1.cell 0⟩ | exact ⟨g0.cell 0, g1.cell 0, g1.cell 1, g1.cell 2, g1.cell 3⟩ | exact ⟨HC3.out.b0.cell 0, HC3.out.b1.cell 0, HC3.out.b1.cell 1, HC3.out.b1.cell 2, HC3.out.b1.cell 3⟩)
        clear hK K
        try simp only [Act.put, List.setIfInBounds_toArray, List.set_cons_zero, List.set_cons_succ]
        refine wpAnyH_done (by kernel_rfl) ?_ _
        refine NoPanic.normal ?_
        go_wp2_with fail
        go_meet
        exact ⟨_, HC3⟩
    case rest =>
      obtain ⟨o', HC'⟩ := hcut
      clear c0 d0 d1 d2 d3 p4 f4 lP l0 l1 HC Hi0 Hz0 Hz1 Hz2
      have HC := HC'
      clear HC'
      obtain ⟨wo, hwo⟩ : ∃ wo, wo = wc := ⟨_, rfl⟩
      have lowc := HC.out.low
      have hgc := graph_keep Hg.out lowc hGb.1 hGb.2.1
      have hTc : Tab wc := HT.out.below lowc hGb.2.2
      have hdc : DelayAt K wc da dl := Hd.out.keep fun i hi => lowc.block i (by omega)
      have hmc : MuteAt K wc ma mu := Hm.out.keep fun i hi => lowc.block i (by omega)
      have HE := Lib.hid (heard_any K wc P G R da dl.length dc ma mu mc A o' came' HC.out.at_.box near hgc hmc (by have := lowc.size; omega) x h0)
      have c0 : wc.cell? ⟨w.heap.size, 0, none⟩ = some (.pointer (some ⟨P, 0, none⟩)) := HC.out.b0.cell 0
      have d0 : wc.cell? ⟨w.heap.size + 1, 0, none⟩ = some (.int .i64 x.node) := HC.out.b1.cell 0
      have d1 : wc.cell? ⟨w.heap.size + 1, 1, none⟩ = some (.int .i64 x.time) := HC.out.b1.cell 1
      have d2 : wc.cell? ⟨w.heap.size + 1, 2, none⟩ = some (.int .i64 x.hops) := HC.out.b1.cell 2
      have d3 : wc.cell? ⟨w.heap.size + 1, 3, none⟩ = some (.int .i64 x.frm) := HC.out.b1.cell 3
      have hsl : hearsF near mu x < 2 ^ 64 := lt_of_bits fun k hk => by have := (hearsF_lt ok x k hk).1; omega
      obtain ⟨s, hs⟩ : ∃ s, hearsF near mu x = s := ⟨_, rfl⟩
      rw [hs] at HE hsl
      have HS := Lib.hid hs
      have hTc' := Lib.hid hTc
      have hdc' := Lib.hid hdc
      clear hs hTc hdc hmc hgc Hg Hm Hd HT lowc
      go_wp2_with (first
        | (go_at_call 73; refine HE.out.mono ?_; rintro e w4 ⟨rfl, l4⟩)
        | (go_at_call 72; refine (each_any s _).mono ?_; rintro e w' ⟨rfl, h⟩; rw [h]; clear h w'))
      obtain ⟨B, hB⟩ : ∃ B, w4.heap.size = B := ⟨_, rfl⟩
      obtain ⟨Wr, hWr⟩ : ∃ Wr, w4.alloc (.cells #[.int .u64 (s : Nat)] 31) = Wr := ⟨_, rfl⟩
      have bB : Blk Wr B 31 #[.int .u64 (s : Nat)] := by rw [← hWr, ← hB]; exact Blk.new w4 _ _
      have l5 : Below wc.heap.size wc Wr := by rw [← hWr]; exact l4.alloc l4.size _
      have zB : Wr.heap.size = B + 1 := by rw [← hWr, ← hB]; simp
      have hB0 : base ≤ B ∧ 0 < B := by have := l4.size; have := HC.out.low.size; omega
      have HCr := HC.out.keep l5
      have hTr : Tab Wr := hTc'.out.below l5 hTc'.out.size
      have hdr : DelayAt K Wr da dl := hdc'.out.keep fun i hi => l5.block i (by have := HC.out.low.size; omega)
      rw [hB, hWr]
      have hos : ∀ v ∈ ones s, v < near.length := fun v hv => by rw [← HS.out] at hv; exact (hearsF_lt ok x v (mem_ones.1 hv).2).1
      have Hos := Lib.hid hos
      have hnd : (ones s).length ≤ near.length := by
        have := sends_len (mu := mu) (dl := dl) ok x
        rw [sendsF, List.length_map, HS.out] at this
        exact this
      have hI0 : LInv w base P A G da dl dc ma mu.length mc no (out ++ [x]) came' o' x way B [] Wr :=
        ⟨HCr.b0, HCr.b1, ⟨_, bB⟩, HCr.low, S, HCr.at_, ⟨by rw [Hp.out.map]; simp, Hp.out.due, Hp.out.rise, Hp.out.nos⟩⟩
      have Hdr := Lib.hid hdr
      have HlowR := Lib.hid HCr.low
      have lwr := HCr.b0.lt
      have hnob := Hp.out.nob
      have hno9 : no ≤ 4096 := Nat.le_trans hnob (Nat.mul_le_mul hf (by omega : out.length ≤ 64))
      have hSn : S.length ≤ no := len_nos Hp.out.rise Hp.out.nos
      clear hWr hB l4 l5 c0 d0 d1 d2 d3 HE hTc' hdc' HC HCr hos hdr
      refine range_each (B := B) (s := s) rfl hsl bB hTr (by omega) rfl (fun pre V => LInv w base P A G da dl dc ma mu.length mc no (out ++ [x]) came' o' x way B pre V) (fun _ _ _ => False)
        (fun xs A C h c => h.hush c (by omega) (by omega)) (fun _ _ _ _ h _ => h) hI0 ?a1 ?assign ?body ?done ?stop
      case assign =>
        intro l v V R hR
        gi_wp2
        exact hR
      case stop =>
        rintro D c pre V _ _ h _
        exact h.elim
      case body =>
        rintro l pre v V hzV hIV hpre
        have hvn : v < near.length := Hos.out v (hpre.subset (by simp))
        have hv64 : v < 64 := by omega
        have hpl : pre.length < near.length := by have := hpre.length_le; simp at this; omega
        obtain ⟨q0, q1, qB, qlow, S', qS, qQ⟩ := hIV
        have c0 : V.cell? ⟨w.heap.size, 0, none⟩ = some (.pointer (some ⟨P, 0, none⟩)) := q0.cell 0
        have d0 : V.cell? ⟨w.heap.size + 1, 0, none⟩ = some (.int .i64 x.node) := q1.cell 0
        have d1 : V.cell? ⟨w.heap.size + 1, 1, none⟩ = some (.int .i64 x.time) := q1.cell 1
        have d2 : V.cell? ⟨w.heap.size + 1, 2, none⟩ = some (.int .i64 x.hops) := q1.cell 2
        have p3 : V.cell? ⟨P, 3, none⟩ = some (.pointer (some ⟨A, 0, none⟩)) := qS.box.cell 3
        have hdV : DelayAt K V.drew da dl := Hdr.out.keep fun i hi => (qlow.block i (by omega)).trans (HlowR.out.block i (by omega)).symm
        have hTk := takes_any K V.drew P G da dl dc ma mu.length mc A o' came' qS.box hdV k v
        rw [← Hk.out] at hTk
        have HTk := Lib.hid hTk
        have htb := takesF_bd dl x.node v
        obtain ⟨t, hte⟩ : ∃ t, takesF dl x.node v = t := ⟨_, rfl⟩
        rw [hte] at HTk htb
        have Hte := Lib.hid hte
        have e1 : IntKind.i64.wrap (x.time + t) = x.time + t := IntWalk.i64_in _ (by omega)
        have e2 : IntKind.i64.wrap (x.hops + 1) = x.hops + 1 := IntWalk.i64_in _ (by omega)
        have hmx : Tryd.prog.follows .mixedOrders = true := by kernel_rfl
        have HL := Lib.hid qS
        have HFr : RowKit.Hid (∀ w7, Fr base Agenda.F.ts V w7 → Blk w7 w.heap.size 115 #[.pointer (some ⟨P, 0, none⟩)] ∧ Blk w7 (w.heap.size + 1) 71 #[.int .i64 x.node, .int .i64 x.time, .int .i64 x.hops, .int .i64 x.frm] ∧ Blk w7 P 119 (stormC G da dl.length dc ma mu.length mc A o' came')) :=
          Lib.hid fun w7 f => ⟨f.blk q0 (by decide), f.blk q1 (by decide), f.blk qS.box (by decide)⟩
        have hSl : S'.length ≤ no + pre.length := len_nos qQ.rise qQ.nos
        have HAd := Lib.hid (fun W' (hag : Agenda.F.Ag base A 65536 (no + pre.length) S' W') => Agenda.F.add_any base A 65536 (no + pre.length) S' (x.time + t) ⟨v, x.time + t, x.hops + 1, x.node⟩ W' hag (by omega) (by omega) (by omega))
        have HFin : RowKit.Hid (∀ w7, Agenda.F.Ag base A 65536 (no + pre.length + 1) (S' ++ [⟨x.time + t, no + pre.length, ⟨v, x.time + t, x.hops + 1, x.node⟩⟩]) w7 → Fr base Agenda.F.ts V w7 → Stays Wr.heap.size (fun k => k = B ∨ k = 0) V w7 ∧ LInv w base P A G da dl dc ma mu.length mc no (out ++ [x]) came' o' x way B (pre ++ [v]) w7) := Lib.hid fun w7 ag7 fr7 => by
          obtain ⟨cB, hcB⟩ := qB
          obtain ⟨a1, a2, a3, a4⟩ := PInv.add qQ.map qQ.due qQ.rise qQ.nos ⟨v, x.time + t, x.hops + 1, x.node⟩
          have hsd : sendF dl x v = ⟨v, x.time + t, x.hops + 1, x.node⟩ := by rw [sendF, Hte.out]
          refine ⟨Fr.stays fr7 fun j hj => ?_, ⟨fr7.blk q0 (by decide), fr7.blk q1 (by decide), ⟨_, fr7.blk hcB (by decide)⟩, qlow.trans (fr7.toBelow (Nat.le_trans hb qlow.size)), _, ⟨fr7.blk qS.box (by decide), by rw [List.length_append]; exact ag7, fr7.own qS.row (by decide), qS.low⟩, ?_⟩⟩
          · rcases hj with rfl | rfl
            · exact .inr ⟨_, hcB, rfl⟩
            · exact .inl ⟨hGb.2.2, by have := qlow.size; omega⟩
          · rw [List.map_append, List.length_append, ← List.append_assoc]
            simp only [List.map_cons, List.map_nil, List.length_singleton]
            rw [hsd]
            exact ⟨a1, a2, a3, a4⟩
        clear hpre q0 q1 qB qlow qS qQ hdV hTk hte hI0
        gi_wp2
        refine HeldIn.region_held (S := fun w' => w'.cell? ⟨w.heap.size, 0, none⟩ = some (.pointer (some ⟨P, 0, none⟩)) ∧ w'.cell? ⟨w.heap.size + 1, 0, none⟩ = some (.int .i64 x.node) ∧ w'.cell? ⟨w.heap.size + 1, 1, none⟩ = some (.int .i64 x.time)) hmx (by kernel_rfl) ⟨c0, d0, d1⟩ (fun hHeld => ?_)
        refine Take.take (i := 0) (oi := _) (t := 39) (v := ?v50) rfl (by kernel_rfl) (by kernel_rfl) (by kernel_rfl) (by kernel_rfl) (fun _ _ _ h => h) (by kernel_rfl) ?hy50 (by assumption) ?_
        case hy50 => (intro w hSw; (try dsimp only at hSw); go_simp; try with_reducible rfl)
        try simp only [Act.put, List.setIfInBounds_toArray, List.set_cons_zero, List.set_cons_succ]
        refine Take.take (i := 1) (oi := _) (t := 40) (v := ?v51) rfl (by kernel_rfl) (by kernel_rfl) (by kernel_rfl) (by kernel_rfl) (fun _ _ _ h => h) (by kernel_rfl) ?hy51 (by assumption) ?_
        case hy51 => (intro w hSw; (try dsimp only at hSw); go_simp; try with_reducible rfl)
        try simp only [Act.put, List.setIfInBounds_toArray, List.set_cons_zero, List.set_cons_succ]
        refine Take.take (i := 2) (oi := _) (t := 41) (v := ?v52) rfl (by kernel_rfl) (by kernel_rfl) (by kernel_rfl) (by kernel_rfl) (fun _ _ _ h => h) (by kernel_rfl) ?hy52 (by assumption) ?_
        case hy52 => (intro w hSw; (try dsimp only at hSw); go_simp; try with_reducible rfl)
        try simp only [Act.put, List.setIfInBounds_toArray, List.set_cons_zero, List.set_cons_succ]
        refine Take.take (i := 3) (oi := _) (t := 42) (v := ?v53) rfl (by kernel_rfl) (by kernel_rfl) (by kernel_rfl) (by kernel_rfl) (fun _ _ _ h => h) (by kernel_rfl) ?hy53 (by assumption) ?_
        case hy53 => (intro w hSw; (try dsimp only at hSw); go_simp; try with_reducible rfl)
        try simp only [Act.put, List.setIfInBounds_toArray, List.set_cons_zero, List.set_cons_succ]
        refine Take.take (i := 4) (oi := _) (t := 43) (v := ?v54) rfl (by kernel_rfl) (by kernel_rfl) (by kernel_rfl) (by kernel_rfl) (fun _ _ _ h => h) (by kernel_rfl) ?hy54 (by assumption) ?_
        case hy54 => (intro w hSw; (try dsimp only at hSw); go_simp; try with_reducible rfl)
        try simp only [Act.put, List.setIfInBounds_toArray, List.set_cons_zero, List.set_cons_succ]
        refine Take.take (i := 5) (oi := _) (t := 44) (v := ?v55) rfl (by kernel_rfl) (by kernel_rfl) (by kernel_rfl) (by kernel_rfl) (fun _ _ _ h => h) (by kernel_rfl) ?hy55 (by assumption) ?_
        case hy55 => (intro w hSw; (try dsimp only at hSw); go_simp; try with_reducible rfl)
        try simp only [Act.put, List.setIfInBounds_toArray, List.set_cons_zero, List.set_cons_succ]
        refine wpAnyH_ready (rs := [6]) (by kernel_rfl) (by simp) ?_
        refine AllReadyH.cons (o := _) rfl (fun K hK => ?_) AllReadyH.nil
        go_simp
        go_at_call 74
        refine HTk.out.mono ?_
        rintro e w' ⟨rfl, h⟩
        rw [h]
        clear h w'
        try dsimp only
        refine hK.out _ _ ?hS56 (fun hHeld => ?_)
        case hS56 => (exact hHeld)
        clear hK K
        try simp only [Act.put, List.setIfInBounds_toArray, List.set_cons_zero, List.set_cons_succ]
        refine Take.take (i := 7) (oi := _) (t := 46) (v := ?v57) rfl (by kernel_rfl) (by kernel_rfl) (by kernel_rfl) (by kernel_rfl) (fun _ _ _ h => h) (by kernel_rfl) ?hy57 (by assumption) ?_
        case hy57 => (intro w hSw; (try dsimp only at hSw); go_simp; try with_reducible rfl)
        try simp only [Act.put, List.setIfInBounds_toArray, List.set_cons_zero, List.set_cons_succ]
        refine Take.take (i := 8) (oi := _) (t := 5) (v := ?v58) rfl (by kernel_rfl) (by kernel_rfl) (by kernel_rfl) (by kernel_rfl) (fun _ _ _ h => h) (by kernel_rfl) ?hy58 (by assumption) ?_
        case hy58 => (intro w hSw; (try dsimp only at hSw); go_simp; try with_reducible rfl)
        try simp only [Act.put, List.setIfInBounds_toArray, List.set_cons_zero, List.set_cons_succ]
        refine wpAnyH_done (by kernel_rfl) ?_ _
        refine HeldIn.Calm.normal ?_
        gi_wp2
        refine HeldIn.region_held (S := fun w' => w'.cell? ⟨w.heap.size, 0, none⟩ = some (.pointer (some ⟨P, 0, none⟩)) ∧ w'.cell? ⟨w.heap.size + 1, 0, none⟩ = some (.int .i64 x.node) ∧ w'.cell? ⟨w.heap.size + 1, 2, none⟩ = some (.int .i64 x.hops) ∧ w'.cell? ⟨P, 3, none⟩ = some (.pointer (some ⟨A, 0, none⟩))) hmx (by kernel_rfl) ⟨c0, d0, d2, p3⟩ (fun hHeld => ?_)
        refine Take.take (i := 0) (oi := _) (t := 47) (v := ?v36) rfl (by kernel_rfl) (by kernel_rfl) (by kernel_rfl) (by kernel_rfl) (fun _ _ _ h => h) (by kernel_rfl) ?hy36 (by assumption) ?_
        case hy36 => (intro w hSw; (try dsimp only at hSw); go_simp; try with_reducible rfl)
        try simp only [Act.put, List.setIfInBounds_toArray, List.set_cons_zero, List.set_cons_succ]
        refine Take.take (i := 1) (oi := _) (t := 48) (v := ?v37) rfl (by kernel_rfl) (by kernel_rfl) (by kernel_rfl) (by kernel_rfl) (fun _ _ _ h => h) (by kernel_rfl) ?hy37 (by assumption) ?_
        case hy37 => (intro w hSw; (try dsimp only at hSw); go_simp; try with_reducible rfl)
        try simp only [Act.put, List.setIfInBounds_toArray, List.set_cons_zero, List.set_cons_succ]
        refine Take.take (i := 2) (oi := _) (t := 49) (v := ?v38) rfl (by kernel_rfl) (by kernel_rfl) (by kernel_rfl) (by kernel_rfl) (fun _ _ _ h => h) (by kernel_rfl) ?hy38 (by assumption) ?_
        case hy38 => (intro w hSw; (try dsimp only at hSw); go_simp; try with_reducible rfl)
        try simp only [Act.put, List.setIfInBounds_toArray, List.set_cons_zero, List.set_cons_succ]
        refine Take.take (i := 3) (oi := _) (t := 50) (v := ?v39) rfl (by kernel_rfl) (by kernel_rfl) (by kernel_rfl) (by kernel_rfl) (fun _ _ _ h => h) (by kernel_rfl) ?hy39 (by assumption) ?_
        case hy39 => (intro w hSw; (try dsimp only at hSw); go_simp; try with_reducible rfl)
        try simp only [Act.put, List.setIfInBounds_toArray, List.set_cons_zero, List.set_cons_succ]
        refine Take.take (i := 4) (oi := _) (t := 51) (v := ?v40) rfl (by kernel_rfl) (by kernel_rfl) (by kernel_rfl) (by kernel_rfl) (fun _ _ _ h => h) (by kernel_rfl) ?hy40 (by assumption) ?_
        case hy40 => (intro w hSw; (try dsimp only at hSw); go_simp; try with_reducible rfl)
        try simp only [Act.put, List.setIfInBounds_toArray, List.set_cons_zero, List.set_cons_succ]
        refine Take.take (i := 5) (oi := _) (t := 52) (v := ?v41) rfl (by kernel_rfl) (by kernel_rfl) (by kernel_rfl) (by kernel_rfl) (fun _ _ _ h => h) (by kernel_rfl) ?hy41 (by assumption) ?_
        case hy41 => (intro w hSw; (try dsimp only at hSw); go_simp; try with_reducible rfl)
        try simp only [Act.put, List.setIfInBounds_toArray, List.set_cons_zero, List.set_cons_succ]
        refine Take.take (i := 6) (oi := _) (t := 53) (v := ?v42) rfl (by kernel_rfl) (by kernel_rfl) (by kernel_rfl) (by kernel_rfl) (fun _ _ _ h => h) (by kernel_rfl) ?hy42 (by assumption) ?_
        case hy42 => (intro w hSw; (try dsimp only at hSw); go_simp; try with_reducible rfl)
        try simp only [Act.put, List.setIfInBounds_toArray, List.set_cons_zero, List.set_cons_succ]
        refine Take.take (i := 7) (oi := _) (t := 54) (v := ?v43) rfl (by kernel_rfl) (by kernel_rfl) (by kernel_rfl) (by kernel_rfl) (fun _ _ _ h => h) (by kernel_rfl) ?hy43 (by assumption) ?_
        case hy43 => (intro w hSw; (try dsimp only at hSw); go_simp; try with_reducible rfl)
        try simp only [Act.put, List.setIfInBounds_toArray, List.set_cons_zero, List.set_cons_succ]
        refine Take.take (i := 8) (oi := _) (t := 55) (v := ?v44) rfl (by kernel_rfl) (by kernel_rfl) (by kernel_rfl) (by kernel_rfl) (fun _ _ _ h => h) (by kernel_rfl) ?hy44 (by assumption) ?_
        case hy44 => (intro w hSw; (try dsimp only at hSw); go_simp; try with_reducible rfl)
        try simp only [Act.put, List.setIfInBounds_toArray, List.set_cons_zero, List.set_cons_succ]
        refine Take.take (i := 9) (oi := _) (t := 56) (v := ?v45) rfl (by kernel_rfl) (by kernel_rfl) (by kernel_rfl) (by kernel_rfl) (fun _ _ _ h => h) (by kernel_rfl) ?hy45 (by assumption) ?_
        case hy45 => (intro w hSw; (try dsimp only at hSw); go_simp; try with_reducible rfl)
        try simp only [Act.put, List.setIfInBounds_toArray, List.set_cons_zero, List.set_cons_succ]
        refine Take.take (i := 10) (oi := _) (t := 57) (v := ?v46) rfl (by kernel_rfl) (by kernel_rfl) (by kernel_rfl) (by kernel_rfl) (fun _ _ _ h => h) (by kernel_rfl) ?hy46 (by assumption) ?_
        case hy46 => (intro w hSw; (try dsimp only at hSw); go_simp; try with_reducible rfl)
        try simp only [Act.put, List.setIfInBounds_toArray, List.set_cons_zero, List.set_cons_succ]
        refine Take.take (i := 11) (oi := _) (t := 58) (v := ?v47) rfl (by kernel_rfl) (by kernel_rfl) (by kernel_rfl) (by kernel_rfl) (fun _ _ _ h => h) (by kernel_rfl) ?hy47 (by assumption) ?_
        case hy47 => (intro w hSw; (try dsimp only at hSw); go_simp; try with_reducible rfl)
        try simp only [Act.put, List.setIfInBounds_toArray, List.set_cons_zero, List.set_cons_succ]
        refine Take.take (i := 12) (oi := _) (t := 59) (v := ?v48) rfl (by kernel_rfl) (by kernel_rfl) (by kernel_rfl) (by kernel_rfl) (fun _ _ _ h => h) (by kernel_rfl) ?hy48 (by assumption) ?_
        case hy48 => (intro w hSw; (try dsimp only at hSw); go_simp; try with_reducible rfl)
        try simp only [Act.put, List.setIfInBounds_toArray, List.set_cons_zero, List.set_cons_succ]
        refine wpAnyH_ready (rs := [13]) (by kernel_rfl) (by simp) ?_
        refine AllReadyH.cons (o := _) rfl (fun K hK => ?_) AllReadyH.nil
        go_simp
        go_at_call 75
        refine (HAd.out _ (by first | exact HL.out.ag | exact (HL.out.ag))).mono ?_
        rintro e w7 ⟨rfl, ag7, fr7⟩
        try dsimp only
        replace fr7 : Fr base Agenda.F.ts V w7 := by first | exact ((Fr.refl _ _ V).drew).trans fr7 | exact ((Fr.refl _ _ V).drew.drew).trans fr7
        obtain ⟨g0, g1, gP⟩ := HFr.out w7 fr7
        refine hK.out _ _ ?hS49 (fun hHeld => ?_)
        case hS49 => (exact ⟨g0.cell 0, g1.cell 0, g1.cell 2, gP.cell 3⟩)
        clear hK K
        try simp only [Act.put, List.setIfInBounds_toArray, List.set_cons_zero, List.set_cons_succ]
        refine wpAnyH_done (by kernel_rfl) ?_ _
        refine HeldIn.Calm.normal ?_
        gi_wp2
        exact HFin.out w7 ag7 fr7
      case done =>
        rintro D V hD hI hd
        obtain ⟨q0, q1, qB, qlow, S', qS, qQ⟩ := hI
        have hsm : (ones s).map (sendF dl x) = sendsF near mu dl x := by rw [sendsF, HS.out]
        have hfin : ∀ w', Below w.heap.size V w' → (∀ (k : Nat) (o : Obj), V.heap[k]? = some o → o.isCells = true → w'.heap[k]? = some o) → ∃ S' no' came' o', SAt base P A G da dl.length dc ma mu.length mc no' S' (out ++ [x]) came' o' w' ∧ PInv near.length S' no' (way ++ sendsF near mu dl x) (out ++ [x]) came' ∧ Below base w w' := fun w' b c =>
          ⟨S', _, came', o', qS.cells c b.size, ⟨by rw [← hsm]; exact qQ.map, qQ.due, qQ.rise, qQ.nos, by rw [List.length_append, List.length_singleton, Nat.mul_add, Nat.mul_one]; omega, Hpc.out.1, Hpc.out.2⟩, qlow.trans (b.mono hb)⟩
        have HFin := Lib.hid hfin
        clear hfin q0 q1 qB qlow qS qQ hI0
        go_wp2_with fail
        refine leaves_marks (mark_one (b := w.heap.size) (by omega) hd) fun w' hB hC => ?_
        exact ⟨_, results_none rfl _ _ _, ⟨_, rfl⟩, HFin.out w' hB hC⟩
end
end Go.Proofs.YtmbblhajbecomaaDoor.Flood
