/- A map from integers to slices that the call makes, each integer entered once: what its look-up answers, what a store makes of it. For whatever program. -/
import Derived.Test.YtmbblhajbecomaaDoorRange
import Derived.Maps.Keyed
import Derived.WideKeyEntry
import Derived.Test.YtmbblhajbecomaaDoorFloodWorks
import Derived.Test.YtmbblhajbecomaaDoorFloodFacts
namespace Go.Proofs.YtmbblhajbecomaaDoor.Ways
open Go.RowKit
open Go.Maps (Keyed int_keyed)
open Go.WideMaps (keyOf_pair)
open Go.ChangeMaps (setBlock heap_setBlock_same heap_setBlock_other)
open Go.Proofs.YtmbblhajbecomaaDoor.RF
set_option linter.unusedVariables false

/-- The entries are these, one after the other. -/
structure Good (es : Array MapEntry) (M : List (Int × Value)) : Prop where
  eq : es.toList.map (fun x => (x.key, x.val)) = M.map (fun p => (Value.int .i64 p.1, p.2))
  wf : ∀ p ∈ M, (Lit.int .i64 p.1).wf = true
theorem Good.mem {es : Array MapEntry} {M : List (Int × Value)} (h : Good es M) {x : MapEntry} (hx : x ∈ es.toList) : ∃ p ∈ M, x.key = .int .i64 p.1 ∧ x.val = p.2 := by
  have : (x.key, x.val) ∈ M.map (fun p => (Value.int .i64 p.1, p.2)) := by rw [← h.eq]; exact List.mem_map.2 ⟨x, hx, rfl⟩
  obtain ⟨p, hp, e⟩ := List.mem_map.1 this
  simp only [Prod.mk.injEq] at e
  exact ⟨p, hp, e.1.symm, e.2.symm⟩
theorem Good.all {es : Array MapEntry} {M : List (Int × Value)} (h : Good es M) {p : Int × Value} (hp : p ∈ M) : ∃ x ∈ es.toList, x.key = .int .i64 p.1 ∧ x.val = p.2 := by
  have : (Value.int .i64 p.1, p.2) ∈ es.toList.map (fun x => (x.key, x.val)) := by rw [h.eq]; exact List.mem_map.2 ⟨p, hp, rfl⟩
  obtain ⟨x, hx, e⟩ := List.mem_map.1 this
  simp only [Prod.mk.injEq] at e
  exact ⟨x, hx, e.1, e.2⟩
/-- Block b is such a map. -/
def At (w : World) (b : Nat) (M : List (Int × Value)) : Prop := ∃ es clock, w.heap[b]? = some (.map es clock) ∧ Good es M
theorem At.nil (w : World) : At (w.alloc (.map #[] 0)) w.heap.size [] := ⟨#[], 0, World.alloc_heap_new w _, ⟨rfl, by simp⟩⟩
theorem At.same {w w' : World} {b : Nat} {M : List (Int × Value)} (h : At w b M) (e : w'.heap[b]? = w.heap[b]?) : At w' b M := by
  obtain ⟨es, c, h1, h2⟩ := h
  exact ⟨es, c, e.trans h1, h2⟩
theorem At.lt {w : World} {b : Nat} {M : List (Int × Value)} (h : At w b M) : b < w.heap.size := by
  obtain ⟨es, c, h1, h2⟩ := h
  exact (Array.getElem?_eq_some_iff.1 h1).1
section
variable {P : Program} {k e t : TypeId} (hk : P.underlying k = some (.int .i64)) (ht : P.underlying t = some (.map k e)) (hz : ∀ w : World, (zeroValue e).run P w = .ok (.slice none 0 0) w)
include hk
theorem key_of {i : Int} (hi : (Lit.int .i64 i).wf = true) : ∃ kl, keyOf P k (.int .i64 i) = some kl := ⟨.int .i64 i, by simp [keyOf, hk, mapKey, hi]⟩
include ht hz
theorem At.look {w : World} {b : Nat} {M : List (Int × Value)} (h : At w b M) {i : Int} (hi : (Lit.int .i64 i).wf = true) :
    ((∀ p ∈ M, p.1 ≠ i) ∧ (Instr.lookup t (.map (some b)) (.int .i64 i) false).run P w = .ok (.slice none 0 0) w ∧ (Instr.lookup t (.map (some b)) (.int .i64 i) true).run P w = .ok (.tuple #[.slice none 0 0, .bool false]) w) ∨
    ∃ p ∈ M, p.1 = i ∧ (Instr.lookup t (.map (some b)) (.int .i64 i) false).run P w = .ok p.2 w ∧ (Instr.lookup t (.map (some b)) (.int .i64 i) true).run P w = .ok (.tuple #[p.2, .bool true]) w := by
  obtain ⟨es, c, hb, G⟩ := h
  obtain ⟨kl, hkey⟩ := key_of hk hi
  have K : Keyed P k := int_keyed hk
  rcases K.find w hkey es.toList (fun x hx => by obtain ⟨q, hq, h1, _⟩ := G.mem hx; rw [h1]; exact key_of hk (G.wf q hq)) with ⟨h1, h2⟩ | ⟨j, e0, h1, h2, h3⟩
  · refine .inl ⟨fun p hp hpi => ?_, ?_, ?_⟩
    · obtain ⟨x, hx, hxk, _⟩ := G.all hp
      exact h2 x hx (by rw [hxk, hpi])
    · simp [Instr.lookup, run_underlying ht, MapKept.run_getObj_map hb, K.check w _ hkey, h1, hz, Result.andThen]
    · simp [Instr.lookup, run_underlying ht, MapKept.run_getObj_map hb, K.check w _ hkey, h1, hz, Result.andThen]
  · obtain ⟨q, hq, h4, h5⟩ := G.mem (List.mem_of_getElem? h2)
    have hqi : q.1 = i := by
      rw [h3] at h4
      simpa using h4.symm
    refine .inr ⟨q, hq, hqi, ?_, ?_⟩
    · simp [Instr.lookup, run_underlying ht, MapKept.run_getObj_map hb, K.check w _ hkey, h1, h5, Result.andThen]
    · simp [Instr.lookup, run_underlying ht, MapKept.run_getObj_map hb, K.check w _ hkey, h1, h5, Result.andThen]
omit hz
theorem At.put {w : World} {b : Nat} {M : List (Int × Value)} (h : At w b M) {i : Int} (hi : (Lit.int .i64 i).wf = true) (hn : ∀ p ∈ M, p.1 ≠ i) (v : Value) :
    ∃ w3, (Instr.mapUpdate t (.map (some b)) (.int .i64 i) v).run P w = .ok () w3 ∧ Off (fun j => j = b) w w3 ∧ At w3 b (M ++ [(i, v)]) := by
  obtain ⟨es, c, hb, G⟩ := h
  obtain ⟨kl, hkey⟩ := key_of hk hi
  have K : Keyed P k := int_keyed hk
  have h1 : (Instr.findKey k (.int .i64 i) es.toList).run P w = .ok none w := by
    rcases K.find w hkey es.toList (fun x hx => by obtain ⟨q, hq, h1, _⟩ := G.mem hx; rw [h1]; exact key_of hk (G.wf q hq)) with ⟨h1, _⟩ | ⟨j, e0, _, h2, h3⟩
    · exact h1
    · obtain ⟨q, hq, h4, _⟩ := G.mem (List.mem_of_getElem? h2)
      rw [h3] at h4
      exact absurd (by simpa using h4.symm) (hn q hq)
  refine ⟨setBlock w b (.map (es.push ⟨.int .i64 i, v, c⟩) (c + 1)), ?_, ⟨rfl, rfl, rfl, by simp [setBlock], fun j hj hne => heap_setBlock_other hb _ (fun e => hne e)⟩, _, _, heap_setBlock_same hb _, ⟨?_, fun p hp => ?_⟩⟩
  · simp [Instr.mapUpdate, run_underlying ht, MapKept.run_getObj_map hb, K.check w false hkey, h1, MapKept.run_setObj_map _ hb, Result.andThen, setBlock]
  · simp only [Array.toList_push, List.map_append, G.eq, List.map_cons, List.map_nil]
  · rcases List.mem_append.1 hp with c | c
    · exact G.wf p c
    · simp only [List.mem_singleton] at c
      subst c; exact hi
end
end Go.Proofs.YtmbblhajbecomaaDoor.Ways
namespace Go.Proofs.YtmbblhajbecomaaDoor.Flood
set_option maxRecDepth 100000
open Go.RowKit
open Go.Proofs.YtmbblhajbecomaaDoor.RF Go.Proofs.YtmbblhajbecomaaDoor.Heap Go.Proofs.YtmbblhajbecomaaDoor.Nodes Go.Proofs.YtmbblhajbecomaaDoor.Graph Go.Proofs.YtmbblhajbecomaaDoor.Reach
set_option linter.unusedVariables false
set_option linter.unusedSimpArgs false

/-- Numbers as cells. -/
abbrev ic (p : List Int) : List Value := p.map (Value.int .i64)
theorem sl_nil (g n cap : Nat) (w : World) : (binOp .eql 51 (.slice (some ⟨g, 0, none⟩) n cap) (.slice none 0 0)).run Tryd.prog w = .ok (.bool false) w := by
  have h := Tryd.underlying51
  unfold Go.binOp Op.equal Op.maxDepth Op.equalIn
  simp [run_underlying h]
theorem nil_nil (w : World) : (binOp .eql 51 (.slice none 0 0) (.slice none 0 0)).run Tryd.prog w = .ok (.bool true) w := by
  have h := Tryd.underlying51
  unfold Go.binOp Op.equal Op.maxDepth Op.equalIn
  simp [run_underlying h]
theorem clone_any (V : World) {base : Nat} {v : Value} {p : List Int} (h : V.ownsRow base 3 1 v p.length (ic p)) (hp : 0 < p.length) (hl : p.length ≤ 1000) :
    Calls Tryd.prog 59 #[v] V fun e w' => ∃ v', e = .returned v' ∧ w'.ownsRow V.heap.size 3 1 v' p.length (ic p) ∧ Below V.heap.size V w' := by
  obtain ⟨i0, hi0, hz⟩ := Option.map_eq_some_iff.1 infoI
  simp only [Prod.mk.injEq] at hz
  obtain ⟨hz0, hz1, hz2⟩ := hz
  obtain ⟨g, cap, rfl, hgb, hgs⟩ := h.form hp
  have hsrc : ∀ V', Below V.heap.size V V' → ∀ (j : Nat) (u : Value), (ic p)[j]? = some u → V'.cell? ⟨g, j, none⟩ = some u := fun V' k j u hu => by
    refine (k.cell (p := ⟨g, j, none⟩) hgs).trans ?_
    rw [h.cellAt j (by have := lt_of_get hu; simp at this; omega), hu]
  have oE : (V.alloc (.cells #[] 3)).ownsRow V.heap.size 3 1 (.slice (some ⟨V.heap.size, 0, none⟩) 0 0) 0 [] := by
    have := row_of_blk (base := V.heap.size) (n := 0) (s := 1) (cap := 0) (Blk.new V 3 #[]) (Nat.le_refl _) (Nat.le_refl _) (by unfold maxLen; omega) rfl
    simpa using this
  have Hi0 := Lib.hid hi0
  have Hz0 := Lib.hid hz0
  have Hz1 := Lib.hid hz1
  have Hz2 := Lib.hid hz2
  have Hsrc := Lib.hid hsrc
  have OE := Lib.hid oE
  clear hi0 hz0 hz1 hz2 hsrc oE h
  have hne := sl_nil g p.length cap
  go_enter Tryd.func59, Tryd.ntmps59
  go_wp2_with (at_builtin; refine wpList_append_own _ rfl _ _ 51 rfl V.heap.size 3 i0 _ 1 8 Tryd.underlying51 Hi0.out Hz0.out Hz1.out Hz2.out rfl (by decide) _ _ _ rfl OE.out ⟨g, 0, none⟩ p.length cap (ic p) rfl (by simp) (fun j u hu => by rw [addr0]; exact Hsrc.out _ ((Below.refl _ _).alloc (Nat.le_refl _) _) j u hu) (by intro u hu; simp only [List.mem_map] at hu; obtain ⟨z, _, rfl⟩ := hu; rfl) (by unfold maxLen; omega) (by omega) (by simp) ?_; intro v' w3 own3 g3 _)
  rw [Nat.zero_add, List.nil_append] at own3
  have l3 := Lib.hid (below_own ((Below.refl _ V).alloc (Nat.le_refl _) _) g3 OE.out (Nat.le_refl _) (Nat.le_refl _))
  have O3 := Lib.hid own3
  clear own3 g3
  go_wp2_with fail
  go_ret
  exact ⟨_, rfl, O3.out, l3.out⟩
theorem clone_nil (V : World) : Calls Tryd.prog 59 #[.slice none 0 0] V fun e w' => e = .returned (.slice none 0 0) ∧ w' = V := by
  have hne := nil_nil
  go_enter Tryd.func59, Tryd.ntmps59
  go_wp2
  go_ret
  exact ⟨rfl, rfl⟩
theorem zeroL (w : World) : (zeroValue 51).run Tryd.prog w = .ok (.slice none 0 0) w := by kernel_rfl
/-- The paths that are known: by node. -/
structure PathsAt (w0 : World) (b c : Nat) (M : List (Int × Value)) (ps : List (List Int)) (V : World) : Prop where
  map : Ways.At V b M
  cel : Blk V c 108 #[.map (some b)]
  own : ∀ (j : Nat) (q : Int × Value) (p : List Int), M[j]? = some q → ps[j]? = some p → V.ownsRow w0.heap.size 3 1 q.2 p.length (ic p)
  len : ps.length = M.length
  pos : ∀ p ∈ ps, 0 < p.length ∧ p.length ≤ 1000
  low : Below w0.heap.size w0 V
  ge : w0.heap.size ≤ b ∧ w0.heap.size ≤ c
theorem PathsAt.below {w0 V V' : World} {b c : Nat} {M : List (Int × Value)} {ps : List (List Int)} (h : PathsAt w0 b c M ps V) (k : Below V.heap.size V V') : PathsAt w0 b c M ps V' :=
  ⟨h.map.same (k.block b h.map.lt), h.cel.below k h.cel.lt, fun j q p h1 h2 => own_below (h.own j q p h1 h2) k, h.len, h.pos, h.low.trans (k.mono h.low.size), h.ge⟩
set_option maxRecDepth 100000 in
set_option maxHeartbeats 4000000 in
theorem on_any {w0 V : World} {b c : Nat} {M : List (Int × Value)} {ps : List (List Int)} (h : PathsAt w0 b c M ps V) (i : Int) (hi : (Lit.int .i64 i).wf = true) :
    Calls Tryd.prog 58 #[.int .i64 i, .pointer (some ⟨c, 0, none⟩)] V fun e w' => Below V.heap.size V w' ∧
      (((∀ p ∈ M, p.1 ≠ i) ∧ e = .returned (.tuple #[.slice none 0 0, .bool false])) ∨ ∃ (j : Nat) (q : Int × Value) (p : List Int) (v : Value), M[j]? = some q ∧ q.1 = i ∧ ps[j]? = some p ∧ e = .returned (.tuple #[v, .bool true]) ∧ w'.ownsRow V.heap.size 3 1 v p.length (ic p)) := by
  have cc : V.cell? ⟨c, 0, none⟩ = some (.map (some b)) := h.cel.cell 0
  rcases h.map.look Tryd.underlying3 Tryd.underlying108 zeroL hi with ⟨h1, _, h3⟩ | ⟨q, hq, hqi, _, h3⟩
  · have H1 := Lib.hid h1
    clear h1 h
    go_enter Tryd.func58, Tryd.ntmps58
    go_wp2_with (go_at_call 59; refine (clone_nil _).mono ?_; rintro e w' ⟨rfl, h⟩; rw [h]; clear h w')
    go_ret2
    exact ⟨Below.refl _ _, .inl ⟨H1.out, rfl⟩⟩
  · obtain ⟨j, hj⟩ := List.mem_iff_getElem?.1 hq
    have hjl : j < ps.length := by rw [h.len]; exact lt_of_get hj
    obtain ⟨p, hp⟩ : ∃ p, ps[j]? = some p := ⟨_, List.getElem?_eq_getElem hjl⟩
    have ho := h.own j q p hj hp
    have hps := h.pos p (List.mem_of_getElem? hp)
    have HC := Lib.hid (clone_any V ho hps.1 hps.2)
    obtain ⟨vq, hvq⟩ : ∃ v, q.2 = v := ⟨_, rfl⟩
    rw [hvq] at h3 HC
    have Hj := Lib.hid hj
    have Hp := Lib.hid hp
    clear ho h hq hj hp
    go_enter Tryd.func58, Tryd.ntmps58
    go_wp2_with (go_at_call 59; refine HC.out.mono ?_; rintro e w3 ⟨v3, rfl, o3, l3⟩)
    have O3 := Lib.hid o3
    go_ret2
    exact ⟨l3, .inr ⟨j, q, p, v3, Hj.out, hqi, Hp.out, rfl, O3.out⟩⟩
end Go.Proofs.YtmbblhajbecomaaDoor.Flood
namespace Go.Proofs.YtmbblhajbecomaaDoor.Flood
set_option maxRecDepth 100000
open Go.RowKit
open Go.Proofs.YtmbblhajbecomaaDoor.RF Go.Proofs.YtmbblhajbecomaaDoor.Heap Go.Proofs.YtmbblhajbecomaaDoor.Nodes Go.Proofs.YtmbblhajbecomaaDoor.Graph Go.Proofs.YtmbblhajbecomaaDoor.Reach
set_option linter.unusedVariables false
set_option linter.unusedSimpArgs false

/-- What Path keeps. -/
def PInvW (w : World) (r : List Arr) (src : Int) (k : Nat) (V : World) : Prop :=
  ∃ (M : List (Int × Value)) (ps : List (List Int)), PathsAt w w.heap.size (w.heap.size + 1) M ps V ∧ M.map Prod.fst = (r.take k).map Arr.node ∧ ∀ (j : Nat) (x : Arr) (p : List Int), (r.take k)[j]? = some x → ps[j]? = some p → PathOk r src x p
theorem wf_small {i : Int} (h : -1 ≤ i ∧ i < 64) : (Lit.int .i64 i).wf = true := by
  have e1 : IntKind.i64.min = -9223372036854775808 := by decide
  have e2 : IntKind.i64.max = 9223372036854775807 := by decide
  simp only [Lit.wf, e1, e2, Bool.and_eq_true, decide_eq_true_eq]
  omega
theorem nodup_uniq {r : List Arr} (h : (r.map Arr.node).Nodup) {i j : Nat} {a b : Arr} (ha : r[i]? = some a) (hb : r[j]? = some b) (e : a.node = b.node) : i = j := by
  have hi := lt_of_get ha
  have hj := lt_of_get hb
  have h1 : (r.map Arr.node)[i]'(by simpa using hi) = a.node := by
    rw [List.getElem_map]
    rw [List.getElem?_eq_getElem hi] at ha
    injection ha with ha; rw [ha]
  have h2 : (r.map Arr.node)[j]'(by simpa using hj) = b.node := by
    rw [List.getElem_map]
    rw [List.getElem?_eq_getElem hj] at hb
    injection hb with hb; rw [hb]
  rcases Nat.lt_trichotomy i j with c | c | c
  · exact absurd (h1.trans (e.trans h2.symm)) ((List.pairwise_iff_getElem.1 h) i j _ _ c)
  · exact c
  · exact absurd (h2.trans (e.symm.trans h1.symm)) ((List.pairwise_iff_getElem.1 h) j i _ _ c)
theorem PInvW.below {w : World} {r : List Arr} {src : Int} {k : Nat} {V V' : World} (h : PInvW w r src k V) (kb : Below V.heap.size V V') : PInvW w r src k V' := by
  obtain ⟨M, ps, h1, h2, h3⟩ := h
  exact ⟨M, ps, h1.below kb, h2, h3⟩
/-- The look-up of the path to the one ahead. -/
theorem on_next {near mu : List Nat} {dl : List (List Int)} {w : World} {r : List Arr} {src : Int} {n k : Nat} {V : World} (hE : EI near mu dl src [] r) (hF : FInv n [] r) (hn : n ≤ 64) (h : PInvW w r src k V) {x : Arr} (hx : r[k]? = some x) :
    Calls Tryd.prog 58 #[.int .i64 x.frm, .pointer (some ⟨w.heap.size + 1, 0, none⟩)] V fun e w' => ∃ (p : List Int) (v : Value) (q : Bool), e = .returned (.tuple #[v, .bool q]) ∧ w'.ownsRow V.heap.size 3 1 v p.length (ic p) ∧ Below V.heap.size V w' ∧ PathOk r src x (p ++ [x.node]) ∧ p.length ≤ 100 ∧ (k = 0 ∨ q = true) := by
  obtain ⟨M, ps, h1, h2, h3⟩ := h
  have hxm := mem_of_get hx
  have hfr := hF.outF x hxm
  have hfn := hF.outN x hxm
  have hfh := hF.outH x hxm
  have hlM : M.length = (r.take k).length := by
    have := congrArg List.length h2
    simpa using this
  refine (on_any h1 x.frm (wf_small (by omega))).mono fun e w' h => ?_
  obtain ⟨hb, h⟩ := h
  by_cases hk : k = 0
  · subst hk
    obtain rfl : x = x0F src := hE.head x hx
    rcases h with ⟨_, rfl⟩ | ⟨j, q, p, v, hj, _⟩
    · exact ⟨[], _, false, rfl, World.ownsRow_nil _ _ _ _, hb, PathOk.start, by simp, .inl rfl⟩
    · have := lt_of_get hj
      rw [hlM] at this
      simp at this
  · obtain ⟨j, y, hjk, hy, hf⟩ := hE.tail k x (by omega) hx
    have hyk : (r.take k)[j]? = some y := by rw [List.getElem?_take, if_pos hjk]; exact hy
    have hMj : ∃ q, M[j]? = some q ∧ q.1 = y.node := by
      have e : (M.map Prod.fst)[j]? = some y.node := by rw [h2, List.getElem?_map, hyk]; rfl
      rw [List.getElem?_map] at e
      obtain ⟨q, hq, hq2⟩ := Option.map_eq_some_iff.1 e
      exact ⟨q, hq, hq2⟩
    obtain ⟨q0, hq0, hq0n⟩ := hMj
    rcases h with ⟨hno, _⟩ | ⟨j', q, p, v, hj', hqi, hp, rfl, ho⟩
    · exact absurd (hq0n.trans hf.node) (hno q0 (List.mem_of_getElem? hq0))
    · have hjl := lt_of_get hj'
      rw [hlM] at hjl
      obtain ⟨y', hy'⟩ : ∃ y', (r.take k)[j']? = some y' := ⟨_, List.getElem?_eq_getElem hjl⟩
      have hn' : y'.node = q.1 := by
        have e : (M.map Prod.fst)[j']? = some y'.node := by rw [h2, List.getElem?_map, hy']; rfl
        rw [List.getElem?_map, hj'] at e
        simpa using e.symm
      have hyr : r[j']? = some y' := by
        rw [List.getElem?_take] at hy'
        split at hy'
        · exact hy'
        · cases hy'
      obtain rfl : j' = j := nodup_uniq hF.dist hyr hy (by rw [hn', hqi, hf.node])
      rw [hy] at hyr
      cases hyr
      have hok := h3 _ _ _ hyk hp
      refine ⟨p, v, true, rfl, ho, hb, hok.more hf hxm, ?_, .inr rfl⟩
      have := hok.len
      have := (hF.outH y (mem_of_get hy)).2
      omega
set_option maxHeartbeats 8000000 in
theorem path_any {near mu : List Nat} {dl : List (List Int)} {src : Int} {n : Nat} (w : World) {base : Nat} {v : Value} {r : List Arr} (hv : w.ownsRow base 71 4 v r.length (arrC r)) (hE : EI near mu dl src [] r) (hF : FInv n [] r) (hn : n ≤ 64) (i : Int) (hi : (Lit.int .i64 i).wf = true) :
    Calls Tryd.prog 37 #[v, .int .i64 i] w fun e w' => Below w.heap.size w w' ∧ ((cameF r i = false ∧ e = .returned (.slice none 0 0)) ∨ ∃ (x : Arr) (p : List Int) (v' : Value), x ∈ r ∧ x.node = i ∧ PathOk r src x p ∧ e = .returned v' ∧ w'.ownsRow w.heap.size 3 1 v' p.length (ic p)) := by
  obtain ⟨i0, hi0, hz⟩ := Option.map_eq_some_iff.1 infoI
  simp only [Prod.mk.injEq] at hz
  obtain ⟨hz0, hz1, hz2⟩ := hz
  have Hi0 := Lib.hid hi0
  have Hz0 := Lib.hid hz0
  have Hz1 := Lib.hid hz1
  have Hz2 := Lib.hid hz2
  have HV := Lib.hid hv
  have HE := Lib.hid hE
  have HF := Lib.hid hF
  have hrl := hF.few
  obtain ⟨a0, cap0, rfl⟩ := own_form hv
  obtain ⟨W1, hW1⟩ : ∃ W, (w.alloc (.map #[] 0)).alloc (.cells #[.map (some w.heap.size)] 108) = W := ⟨_, rfl⟩
  have z1 : (w.alloc (.map #[] 0)).heap.size = w.heap.size + 1 := by simp
  have I0 : PInvW w r src 0 W1 := by
    refine ⟨[], [], ⟨?_, ?_, fun j q p h => by simp at h, rfl, by simp, ?_, Nat.le_refl _, by omega⟩, by simp, fun j x p h => by simp at h⟩
    · rw [← hW1]
      exact (Ways.At.nil w).same ((Below.refl _ (w.alloc (.map #[] 0))).alloc (Nat.le_refl _) _ |>.block _ (by omega))
    · have := Blk.new (w.alloc (.map #[] 0)) 108 #[.map (some w.heap.size)]
      rw [z1, hW1] at this
      exact this
    · rw [← hW1]
      exact ((Below.refl _ w).alloc (Nat.le_refl _) _).alloc (by simp) _
  have hmm := @run_makeMap Tryd.prog
  have hw0 : w.heap.size < w.heap.size + 1 := by omega
  have HW1 := Lib.hid hW1
  have HI0 := Lib.hid I0
  clear hi0 hz0 hz1 hz2 hv hE hF hW1 z1 I0
  go_enter Tryd.func37, Tryd.ntmps37
  go_upto_region 2 with (fail)
  rw [HW1.out]
  go_wp2_with fail
  go_loopg [15] r.length (fun q v15 V => ∃ k : Nat, q = r.length - k ∧ v15 = .int .i64 k ∧ k ≤ r.length ∧ RowKit.Hid (PInvW w r src k V))
  case atStart => exact ⟨0, rfl, rfl, Nat.zero_le _, HI0⟩
  case round =>
    clear HI0 hmm
    obtain ⟨k, hgk, rfl, hk, HI⟩ := hrel
    have Hgk := Lib.hid hgk
    clear hgk
    have lowr : RowKit.Hid (Below w.heap.size w wr) := by obtain ⟨M, ps, h1, _⟩ := HI.out; exact Lib.hid h1.low
    have lwr := lowr.out.size
    by_cases hlt : k < r.length
    · obtain ⟨x, hx⟩ : ∃ x, r[k]? = some x := ⟨_, List.getElem?_eq_getElem hlt⟩
      obtain ⟨_, _, e1, h1⟩ := own_arr (own_below HV.out lowr.out)
      simp only [Value.slice.injEq] at e1
      obtain ⟨g1, hb1, hg1, _, y0, y1, y2, y3⟩ := h1 k x hx
      rw [← e1.1] at hb1
      subst hb1
      have j1 : (0 : Int) ≤ (k : Int) := by omega
      have j2 : (k : Int) < (r.length : Int) := by omega
      have j3 : (k : Int) ≤ 65535 := by omega
      have Hx := Lib.hid hx
      clear e1 h1 hx
      go_upto_region 6 with (fail)
      obtain ⟨X, hX⟩ : ∃ X, wr.heap.size = X := ⟨_, rfl⟩
      obtain ⟨V, hV⟩ : ∃ V, wr.alloc (.cells #[.int .i64 x.node, .int .i64 x.time, .int .i64 x.hops, .int .i64 x.frm] 71) = V := ⟨_, rfl⟩
      have bV : Blk V X 71 #[.int .i64 x.node, .int .i64 x.time, .int .i64 x.hops, .int .i64 x.frm] := by rw [← hV, ← hX]; exact Blk.new wr _ _
      have lV : Below wr.heap.size wr V := by rw [← hV]; exact (Below.refl _ _).alloc (Nat.le_refl _) _
      have zV : V.heap.size = X + 1 := by rw [← hV, ← hX]; simp
      have HIV := Lib.hid (HI.out.below lV)
      have HO := Lib.hid (on_next HE.out HF.out hn HIV.out Hx.out)
      have q3 : V.cell? ⟨X, 3, none⟩ = some (.int .i64 x.frm) := bV.cell 3
      have BV := Lib.hid bV
      rw [hV, hX]
      clear hV lV bV y0 y1 y2 y3 HI
      go_upto_region 7 with (go_at_call 58; refine HO.out.mono ?_; rintro e w4 ⟨p, vp, bq, rfl, o4, l4, pk, pl, kq⟩)
      have O4 := Lib.hid o4
      have L4 := Lib.hid l4
      have PK := Lib.hid pk
      clear o4 l4 pk HO q3
      go_cut [31] from 27 to 30 (fun s31 W => s31 = .bool true ∧ RowKit.Hid (Below V.heap.size V W) ∧ RowKit.Hid (W.ownsRow V.heap.size 3 1 vp p.length (ic p)))
      case first =>
        rcases e1 : ((k : Int) == 0) with _ | _
        · have hkq : bq = true := by
            rcases kq with c | c
            · subst c; simp at e1
            · exact c
          subst hkq
          go_wp2_with fail
          all_goals
            go_meet
            exact ⟨rfl, L4, O4⟩
        · go_wp2_with fail
          all_goals
            go_meet
            exact ⟨rfl, L4, O4⟩
      case rest =>
        obtain ⟨rfl, L4, O4⟩ := hcut
        obtain ⟨wd, rfl⟩ : ∃ W, W = wc := ⟨_, rfl⟩
        clear kq
        have hzd := L4.out.size
        have HId := Lib.hid (HIV.out.below L4.out)
        have BVd := Lib.hid (BV.out.below L4.out (by omega))
        have hcc : ∀ W, PInvW w r src k W → W.cell? ⟨w.heap.size + 1, 0, none⟩ = some (.map (some w.heap.size)) := fun W h => by obtain ⟨M, ps, h1, _⟩ := h; exact h1.cel.cell 0
        have c0 := hcc wd HId.out
        have x0 : wd.cell? ⟨X, 0, none⟩ = some (.int .i64 x.node) := BVd.out.cell 0
        have hXd := BVd.out.lt
        have hcd : w.heap.size + 1 < wd.heap.size := by obtain ⟨M, ps, h1, _⟩ := HId.out; exact h1.cel.lt
        have HUp : RowKit.Hid (∀ (w5 : World) (v5 : Value), w5.ownsRow V.heap.size 3 1 v5 (p.length + 1) (ic p ++ [.int .i64 x.node]) → (wd.alloc (.cells #[.int .i64 x.node] 3)).drew.grownBy w5 vp.ownBlock →
            RowKit.Hid (Below V.heap.size V w5) ∧ ∃ w6, (Instr.mapUpdate 108 (.map (some w.heap.size)) (.int .i64 x.node) v5).run Tryd.prog w5 = .ok () w6 ∧ (w5.cell? ⟨w.heap.size + 1, 0, none⟩ = some (.map (some w.heap.size)) ∧ w5.cell? ⟨X, 0, none⟩ = some (.int .i64 x.node)) ∧ (w6.cell? ⟨w.heap.size + 1, 0, none⟩ = some (.map (some w.heap.size)) ∧ w6.cell? ⟨X, 0, none⟩ = some (.int .i64 x.node)) ∧ RowKit.Hid (PInvW w r src (k + 1) w6)) := Lib.hid fun w5 v5 own5 g5 => by
          have kA : Below wd.heap.size wd (wd.alloc (.cells #[.int .i64 x.node] 3)).drew := ((Below.refl _ wd).alloc (Nat.le_refl _) _).drew
          have l5 : Below V.heap.size V w5 := below_own (L4.out.trans (kA.mono hzd)) g5 (own_below O4.out kA) (Nat.le_refl _) (Nat.le_refl _)
          obtain ⟨M, ps, h1, h2, h3⟩ := HIV.out.below l5
          have b5 := BV.out.below l5 (by omega)
          have hwx := wf_small (show -1 ≤ x.node ∧ x.node < 64 by have := HF.out.outN x (mem_of_get Hx.out); omega)
          have hfresh : ∀ q ∈ M, q.1 ≠ x.node := fun q hq e => by
            have : q.1 ∈ M.map Prod.fst := List.mem_map.2 ⟨q, hq, rfl⟩
            rw [h2] at this
            obtain ⟨y, hy, hyn⟩ := List.mem_map.1 this
            obtain ⟨j, hj⟩ := get_of_mem hy
            rw [List.getElem?_take] at hj
            split at hj
            · have := nodup_uniq HF.out.dist hj Hx.out (by rw [hyn, e]); omega
            · cases hj
          obtain ⟨w6, hput, o6, m6⟩ := h1.map.put Tryd.underlying3 Tryd.underlying108 hwx hfresh v5
          have hbV : w.heap.size < V.heap.size := by omega
          have hbX : ¬ w.heap.size + 1 = w.heap.size := by omega
          have hXb : ¬ X = w.heap.size := by
            obtain ⟨M', ps', k1, _⟩ := HIV.out
            have := k1.cel.lt
            intro e
            obtain ⟨es, cl, hm, _⟩ := k1.map
            have hbb := BV.out
            unfold Blk at hbb
            rw [e, hm] at hbb
            cases hbb
          have c5 := h1.cel
          refine ⟨Lib.hid l5, w6, hput, ⟨c5.cell 0, b5.cell 0⟩, ⟨(c5.off o6 hbX).cell 0, (b5.off o6 hXb).cell 0⟩, Lib.hid ⟨M ++ [(x.node, v5)], ps ++ [p ++ [x.node]], ⟨m6, c5.off o6 hbX, fun j q p' hq hp' => ?_, by simp [h1.len], fun p' hp' => ?_, ?_, h1.ge⟩, ?_, fun j y p' hy hp' => ?_⟩⟩
          · by_cases hj : j < M.length
            · rw [List.getElem?_append_left hj] at hq
              rw [List.getElem?_append_left (by rw [h1.len]; exact hj)] at hp'
              have ho := h1.own j q p' hq hp'
              refine own_off ho o6 fun g hg c => ?_
              subst c
              rcases ho.2 with ⟨c, _⟩ | ⟨g', _, _, c, _, hgh, _⟩
              · rw [c] at hg; simp [Value.ownBlock] at hg
              · rw [c] at hg
                simp only [Value.ownBlock, Option.some.injEq] at hg
                subst hg
                obtain ⟨es, cl, hm, _⟩ := h1.map
                rw [hm] at hgh; cases hgh
            · have hjl := lt_of_get hq
              simp at hjl
              obtain rfl : j = M.length := by omega
              simp at hq
              rw [← h1.len] at hp'
              simp at hp'
              subst hq
              subst hp'
              have ho : w5.ownsRow V.heap.size 3 1 v5 (p ++ [x.node]).length (ic (p ++ [x.node])) := by simpa [ic] using own5
              refine own_weak (own_off ho o6 fun g hg c => ?_) (by omega)
              have := (own_rng ho hg).1; omega
          · rcases List.mem_append.1 hp' with c | c
            · exact h1.pos p' c
            · simp at c
              subst c
              simp; omega
          · refine h1.low.trans ?_
            exact ⟨o6.os, o6.tape, o6.output, o6.size, fun j hj => o6.block j (by have := h1.low.size; omega) (by omega)⟩
          · rw [List.map_append, h2, List.take_add_one, Hx.out, List.map_append]; rfl
          · by_cases hj : j < k
            · have hy' : (r.take k)[j]? = some y := by
                rw [List.getElem?_take] at hy ⊢
                rw [if_pos (by omega)] at hy
                rw [if_pos hj]; exact hy
              have hjp : j < ps.length := by
                rw [h1.len]
                have e := congrArg List.length h2
                simp at e
                omega
              rw [List.getElem?_append_left hjp] at hp'
              exact h3 j y p' hy' hp'
            · have hjl := lt_of_get hy
              rw [List.length_take] at hjl
              obtain rfl : j = k := by omega
              rw [List.getElem?_take, if_pos (by omega), Hx.out] at hy
              cases hy
              have hpl : ps.length = j := by
                rw [h1.len]
                have e := congrArg List.length h2
                simp at e
                omega
              rw [← hpl] at hp'
              simp at hp'
              subst hp'
              exact PK.out
        clear hcc
        go_upto_region 8 with (fail)
        refine wp_region_held_drew (S := fun w' => w'.cell? ⟨w.heap.size + 1, 0, none⟩ = some (.map (some w.heap.size)) ∧ w'.cell? ⟨X, 0, none⟩ = some (.int .i64 x.node)) (by kernel_rfl) ⟨c0, x0⟩ (fun hHeld => ?_)
        refine Take.take (i := 0) (oi := _) (t := 32) (v := ?v1) rfl (by kernel_rfl) (by kernel_rfl) (by kernel_rfl) (by kernel_rfl) (fun _ _ _ h => h) (by kernel_rfl) ?hy1 (by assumption) ?_
        case hy1 => (intro w hSw; (try dsimp only at hSw); go_simp; try with_reducible rfl)
        try simp only [Act.put, List.setIfInBounds_toArray, List.set_cons_zero, List.set_cons_succ]
        refine Take.take (i := 1) (oi := _) (t := 33) (v := ?v2) rfl (by kernel_rfl) (by kernel_rfl) (by kernel_rfl) (by kernel_rfl) (fun _ _ _ h => h) (by kernel_rfl) ?hy2 (by assumption) ?_
        case hy2 => (intro w hSw; (try dsimp only at hSw); go_simp; try with_reducible rfl)
        try simp only [Act.put, List.setIfInBounds_toArray, List.set_cons_zero, List.set_cons_succ]
        refine Take.take (i := 2) (oi := _) (t := 34) (v := ?v3) rfl (by kernel_rfl) (by kernel_rfl) (by kernel_rfl) (by kernel_rfl) (fun _ _ _ h => h) (by kernel_rfl) ?hy3 (by assumption) ?_
        case hy3 => (intro w hSw; (try dsimp only at hSw); go_simp; try with_reducible rfl)
        try simp only [Act.put, List.setIfInBounds_toArray, List.set_cons_zero, List.set_cons_succ]
        refine Take.take (i := 3) (oi := _) (t := 35) (v := ?v4) rfl (by kernel_rfl) (by kernel_rfl) (by kernel_rfl) (by kernel_rfl) (fun _ _ _ h => h) (by kernel_rfl) ?hy4 (by assumption) ?_
        case hy4 => (intro w hSw; (try dsimp only at hSw); go_simp; try with_reducible rfl)
        try simp only [Act.put, List.setIfInBounds_toArray, List.set_cons_zero, List.set_cons_succ]
        refine Take.take (i := 4) (oi := _) (t := 36) (v := ?v5) rfl (by kernel_rfl) (by kernel_rfl) (by kernel_rfl) (by kernel_rfl) (fun _ _ _ h => h) (by kernel_rfl) ?hy5 (by assumption) ?_
        case hy5 => (intro w hSw; (try dsimp only at hSw); go_simp; try with_reducible rfl)
        try simp only [Act.put, List.setIfInBounds_toArray, List.set_cons_zero, List.set_cons_succ]
        refine Take.take (i := 5) (oi := _) (t := 37) (v := ?v6) rfl (by kernel_rfl) (by kernel_rfl) (by kernel_rfl) (by kernel_rfl) (fun _ _ _ h => h) (by kernel_rfl) ?hy6 (by assumption) ?_
        case hy6 => (intro w hSw; (try dsimp only at hSw); go_simp; try with_reducible rfl)
        try simp only [Act.put, List.setIfInBounds_toArray, List.set_cons_zero, List.set_cons_succ]
        refine wpAnyH_ready (rs := [6]) (by kernel_rfl) (by simp) ?_
        refine AllReadyH.cons (o := _) rfl (fun K hK => ?_) AllReadyH.nil
        go_simp
        refine hK.out _ _ ?hS7 (fun hHeld => ?_)
        case hS7 => (first | (exact hHeld) | (go_keep; done) | exact hS5 | exact hS6)
        clear hK K
        try simp only [Act.put, List.setIfInBounds_toArray, List.set_cons_zero, List.set_cons_succ]
        refine wpAnyH_ready (rs := [7]) (by kernel_rfl) (by simp) ?_
        refine AllReadyH.cons (o := _) rfl (fun K hK => ?_) AllReadyH.nil
        rw [if_pos (by rfl)]
        refine wp_append_own _ (.tmp 35) (.tmp 38) 51 rfl V.heap.size 3 i0 _ 1 8 Tryd.underlying51 Hi0.out Hz0.out Hz1.out Hz2.out rfl (by decide) _ p.length (ic p) rfl (own_below O4.out ((Below.refl _ wd).alloc (Nat.le_refl _) _).drew) ⟨wd.heap.size, 0, none⟩ 1 1 [.int .i64 x.node] rfl rfl (by have h := cell_one_new wd (.int .i64 x.node) 3; exact h) (by simp [Value.oneCell']) (by unfold maxLen; omega) (by omega) (by simp [World.drew]; omega) ?_
        intro v5 w5 own5 g5 _
        have g6 : (wd.alloc (.cells #[.int .i64 x.node] 3)).drew.grownBy w5 vp.ownBlock := g5
        obtain ⟨l5, w6, hput, hS5, hS6, HI6⟩ := HUp.out w5 v5 own5 g6
        refine hK.out _ _ ?hS8 (fun hHeld => ?_)
        case hS8 => (first | (exact hHeld) | (go_keep; done) | exact hS5 | exact hS6)
        clear hK K
        try simp only [Act.put, List.setIfInBounds_toArray, List.set_cons_zero, List.set_cons_succ]
        refine wpAnyH_ready (rs := [8]) (by kernel_rfl) (by simp) ?_
        refine AllReadyH.cons (o := _) rfl (fun K hK => ?_) AllReadyH.nil
        go_simp
        refine hK.out _ _ ?hS9 (fun hHeld => ?_)
        case hS9 => (first | (exact hHeld) | (go_keep; done) | exact hS5 | exact hS6)
        clear hK K
        try simp only [Act.put, List.setIfInBounds_toArray, List.set_cons_zero, List.set_cons_succ]
        refine wpAnyH_done (by kernel_rfl) ?_ _
        go_wp2_with fail
        go_roundg (r.length - (k + 1))
        case measure => have := Hgk.out; omega
        case rel => exact ⟨k + 1, rfl, by go_num, hlt, HI6⟩
    · obtain rfl : k = r.length := by omega
      obtain ⟨M, ps, h1, h2, h3⟩ := HI.out
      rw [List.take_length] at h2 h3
      have c0 : wr.cell? ⟨w.heap.size + 1, 0, none⟩ = some (.map (some w.heap.size)) := h1.cel.cell 0
      rcases h1.map.look Tryd.underlying3 Tryd.underlying108 zeroL hi with ⟨hno, hl, _⟩ | ⟨q, hq, hqi, hl, _⟩
      · have hc : cameF r i = false := cameF_no.2 fun y hy e => by
          have : y.node ∈ M.map Prod.fst := by rw [h2]; exact List.mem_map.2 ⟨y, hy, rfl⟩
          obtain ⟨q, hq, hqn⟩ := List.mem_map.1 this
          exact hno q hq (by rw [hqn, e])
        have Hc := Lib.hid hc
        clear hno hc h1 h2 h3 HI
        go_wp2_with fail
        go_ret
        exact ⟨lowr.out, .inl ⟨Hc.out, rfl⟩⟩
      · obtain ⟨j, hj⟩ := get_of_mem hq
        have hlM : M.length = r.length := by have := congrArg List.length h2; simpa using this
        have hjr : j < r.length := by have := lt_of_get hj; omega
        obtain ⟨x, hx⟩ : ∃ x, r[j]? = some x := ⟨_, List.getElem?_eq_getElem hjr⟩
        obtain ⟨p, hp⟩ : ∃ p, ps[j]? = some p := ⟨_, List.getElem?_eq_getElem (by rw [h1.len]; omega)⟩
        have hxn : x.node = i := by
          have e : (M.map Prod.fst)[j]? = some x.node := by rw [h2, List.getElem?_map, hx]; rfl
          rw [List.getElem?_map, hj] at e
          simp at e
          rw [← e, hqi]
        have Hfin := Lib.hid (show ∃ (x : Arr) (p : List Int) (v' : Value), x ∈ r ∧ x.node = i ∧ PathOk r src x p ∧ Ending.returned q.2 = .returned v' ∧ wr.ownsRow w.heap.size 3 1 v' p.length (ic p) from ⟨x, p, q.2, mem_of_get hx, hxn, h3 j x p hx hp, rfl, h1.own j q p hj hp⟩)
        obtain ⟨vq, hvq⟩ : ∃ v, q.2 = v := ⟨_, rfl⟩
        rw [hvq] at hl Hfin
        clear h1 h2 h3 HI hq hqi hj hlM hx hp hxn hvq
        go_wp2_with fail
        go_ret
        exact ⟨lowr.out, .inr Hfin.out⟩
end Go.Proofs.YtmbblhajbecomaaDoor.Flood
