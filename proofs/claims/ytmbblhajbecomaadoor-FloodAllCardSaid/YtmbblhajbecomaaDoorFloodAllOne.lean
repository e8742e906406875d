/- FloodAll: what holds of a run, paths, All and Last, the plain law, the walk (printed by fall_one.py). -/
import Derived.Test.YtmbblhajbecomaaDoorFloodRun
import Derived.Test.YtmbblhajbecomaaDoorRange
import Derived.Maps.Keyed
import Derived.WideKeyEntry
import Derived.Test.YtmbblhajbecomaaDoorFloodWorks
import Derived.Test.YtmbblhajbecomaaDoorFloodModel
import Derived.Test.YtmbblhajbecomaaDoorRead
import Derived.SizedLaws
import Derived.Test.YtmbblhajbecomaaDoorMadeEx
import Derived.Test.YtmbblhajbecomaaDoorWidePure
import Derived.Test.YtmbblhajbecomaaDoorRefWide
import Derived.Deep.CutBlock
namespace Go.Proofs.YtmbblhajbecomaaDoor.Flood
open Go.RowKit
open Go.Proofs.YtmbblhajbecomaaDoor.RF Go.Proofs.YtmbblhajbecomaaDoor.Heap Go.Proofs.YtmbblhajbecomaaDoor.Nodes Go.Proofs.YtmbblhajbecomaaDoor.Graph Go.Proofs.YtmbblhajbecomaaDoor.Reach
set_option linter.unusedVariables false
set_option linter.unusedSimpArgs false

/-- The first one. -/
def x0F (src : Int) : Arr := ⟨src, 0, 0, -1⟩
/-- x comes from y. -/
structure FromF (near mu : List Nat) (dl : List (List Int)) (y x : Arr) : Prop where
  node : y.node = x.frm
  hops : x.hops = y.hops + 1
  time : x.time = y.time + takesF dl y.node x.node
  pos : 0 ≤ x.node
  bit : (hearsF near mu y).testBit x.node.toNat = true
/-- What holds of what is under way and what came. -/
structure EI (near mu : List Nat) (dl : List (List Int)) (src : Int) (way out : List Arr) : Prop where
  st : (out = [] ∧ (way = [] ∨ way = [x0F src])) ∨ (out ≠ [] ∧ ∀ x ∈ way, ∃ y ∈ out, FromF near mu dl y x)
  head : ∀ x, out[0]? = some x → x = x0F src
  tail : ∀ (k : Nat) (x : Arr), 1 ≤ k → out[k]? = some x → ∃ (j : Nat) (y : Arr), j < k ∧ out[j]? = some y ∧ FromF near mu dl y x
  late : ∀ y ∈ out, ∀ x ∈ way, y.time ≤ x.time
  rise : ∀ (i j : Nat) (a b : Arr), i ≤ j → out[i]? = some a → out[j]? = some b → a.time ≤ b.time
  full : ∀ y ∈ out, ∀ v : Nat, v < 64 → (hearsF near mu y).testBit v = true → ∃ z, (z ∈ out ∨ z ∈ way) ∧ z.node = (v : Int) ∧ z.time ≤ y.time + takesF dl y.node v
section
variable {near mu : List Nat} {dl : List (List Int)} {src : Int}
theorem mem_erase_or {S : List Arr} {i : Nat} {x z : Arr} (h : S[i]? = some x) (hz : z ∈ S) : z = x ∨ z ∈ S.eraseIdx i := by
  have := (perm_erase S i x h).mem_iff.1 hz
  rcases List.mem_cons.1 this with c | c
  · exact .inl c
  · exact .inr c
theorem EI.start : EI near mu dl src [x0F src] [] :=
  ⟨.inl ⟨rfl, .inr rfl⟩, fun x h => by simp at h, fun k x _ h => by simp at h, fun y h => by simp at h, fun i j a b _ h => by simp at h, fun y h => by simp at h⟩
theorem EI.nil : EI near mu dl src [] [] :=
  ⟨.inl ⟨rfl, .inl rfl⟩, fun x h => by simp at h, fun k x _ h => by simp at h, fun y h => by simp at h, fun i j a b _ h => by simp at h, fun y h => by simp at h⟩
theorem EI.skip {way out : List Arr} (h : EI near mu dl src way out) {i : Nat} {x : Arr} (f : FirstA way i x) (c : cameF out x.node = true) : EI near mu dl src (way.eraseIdx i) out := by
  have hx := mem_of_get f.get
  obtain ⟨y0, hy0, hyn⟩ := cameF_iff.1 c
  refine ⟨?_, h.head, h.tail, fun y hy z hz => h.late y hy z (mem_erase hz), h.rise, fun y hy v hv hb => ?_⟩
  · rcases h.st with ⟨rfl, _⟩ | ⟨h1, h2⟩
    · simp at hy0
    · exact .inr ⟨h1, fun z hz => h2 z (mem_erase hz)⟩
  · obtain ⟨z, hz, hn, ht⟩ := h.full y hy v hv hb
    rcases hz with hz | hz
    · exact ⟨z, .inl hz, hn, ht⟩
    · rcases mem_erase_or f.get hz with rfl | hz
      · exact ⟨y0, .inl hy0, by rw [hyn, hn], Int.le_trans (h.late y0 hy0 z hx) ht⟩
      · exact ⟨z, .inr hz, hn, ht⟩
theorem EI.come {way out : List Arr} (h : EI near mu dl src way out) {i : Nat} {x : Arr} (f : FirstA way i x) (c : cameF out x.node = false) :
    EI near mu dl src (way.eraseIdx i ++ sendsF near mu dl x) (out ++ [x]) := by
  have hx := mem_of_get f.get
  have hsend : ∀ z ∈ sendsF near mu dl x, ∃ v : Nat, v < 64 ∧ (hearsF near mu x).testBit v = true ∧ z = sendF dl x v := fun z hz => by
    obtain ⟨v, hv, rfl⟩ := List.mem_map.1 hz
    exact ⟨v, (mem_ones.1 hv).1, (mem_ones.1 hv).2, rfl⟩
  have hlast : ∀ y ∈ out ++ [x], y ∈ out ∨ y = x := fun y hy => by
    rcases List.mem_append.1 hy with c | c
    · exact .inl c
    · exact .inr (by simpa using c)
  have hle : ∀ y ∈ out ++ [x], y.time ≤ x.time := fun y hy => by
    rcases hlast y hy with c | rfl
    · exact h.late y c x hx
    · exact Int.le_refl _
  refine ⟨.inr ⟨by simp, fun z hz => ?_⟩, fun z hz => ?_, fun k z hk hz => ?_, fun y hy z hz => ?_, fun p q a b hpq ha hb => ?_, fun y hy v hv hb => ?_⟩
  · rcases List.mem_append.1 hz with hz | hz
    · rcases h.st with ⟨_, h2⟩ | ⟨_, h2⟩
      · rcases h2 with rfl | rfl
        · simp at hz
        · obtain rfl : i = 0 := by have := lt_of_get f.get; simp at this; omega
          simp at hz
      · obtain ⟨y, hy, hf⟩ := h2 z (mem_erase hz)
        exact ⟨y, List.mem_append_left _ hy, hf⟩
    · obtain ⟨v, hv, hb, rfl⟩ := hsend z hz
      exact ⟨x, by simp, rfl, rfl, rfl, by simp [sendF], by simpa [sendF] using hb⟩
  · rcases h.st with ⟨rfl, h2⟩ | ⟨h1, _⟩
    · simp at hz
      subst hz
      rcases h2 with rfl | rfl
      · simp at hx
      · simpa using hx
    · have : 0 < out.length := List.length_pos_iff.2 h1
      rw [List.getElem?_append_left this] at hz
      exact h.head z hz
  · by_cases hk2 : k < out.length
    · rw [List.getElem?_append_left hk2] at hz
      obtain ⟨j, y, h1, h2, h3⟩ := h.tail k z hk hz
      exact ⟨j, y, h1, by rw [List.getElem?_append_left (by omega)]; exact h2, h3⟩
    · have := lt_of_get hz
      simp at this
      obtain rfl : k = out.length := by omega
      simp at hz
      subst hz
      rcases h.st with ⟨rfl, _⟩ | ⟨_, h2⟩
      · simp at hk
      · obtain ⟨y, hy, hf⟩ := h2 x hx
        obtain ⟨j, hj⟩ := get_of_mem hy
        exact ⟨j, y, lt_of_get hj, by rw [List.getElem?_append_left (lt_of_get hj)]; exact hj, hf⟩
  · have h1 := hle y hy
    rcases List.mem_append.1 hz with hz | hz
    · obtain ⟨j, hj⟩ := get_of_mem (mem_erase hz)
      exact Int.le_trans h1 (f.le j z hj)
    · obtain ⟨v, _, _, rfl⟩ := hsend z hz
      have := takesF_bd dl x.node v
      simp only [sendF]; omega
  · by_cases hq : q < out.length
    · rw [List.getElem?_append_left (by omega)] at ha
      rw [List.getElem?_append_left hq] at hb
      exact h.rise p q a b hpq ha hb
    · have := lt_of_get hb
      simp at this
      obtain rfl : q = out.length := by omega
      simp at hb
      subst hb
      exact hle a (mem_of_get ha)
  · rcases hlast y hy with hy | rfl
    · obtain ⟨z, hz, hn, ht⟩ := h.full y hy v hv hb
      rcases hz with hz | hz
      · exact ⟨z, .inl (List.mem_append_left _ hz), hn, ht⟩
      · rcases mem_erase_or f.get hz with rfl | hz
        · exact ⟨z, .inl (by simp), hn, ht⟩
        · exact ⟨z, .inr (List.mem_append_left _ hz), hn, ht⟩
    · exact ⟨sendF dl y v, .inr (List.mem_append_right _ (List.mem_map.2 ⟨v, mem_ones.2 ⟨hv, hb⟩, rfl⟩)), rfl, Int.le_refl _⟩
theorem EI.ends {way out r : List Arr} (k : Ends near mu dl way out r) : EI near mu dl src way out → EI near mu dl src [] r := by
  induction k with
  | done out => exact id
  | skip f c _ ih => exact fun h => ih (h.skip f c)
  | come f c _ ih => exact fun h => ih (h.come f c)
theorem Runs.ei {r : List Arr} (h : Runs near mu dl src r) : EI near mu dl src [] r := by
  unfold Runs at h
  refine EI.ends h ?_
  unfold startF
  split
  · exact EI.start
  · exact EI.nil
/-- A path to x. -/
structure PathOk (r : List Arr) (src : Int) (x : Arr) (p : List Int) : Prop where
  len : (p.length : Int) = x.hops + 1
  first : p[0]? = some src
  last : p[p.length - 1]? = some x.node
  step : ∀ (i : Nat) (u v : Int), p[i]? = some u → p[i + 1]? = some v → ∃ y ∈ r, y.node = v ∧ y.frm = u ∧ y.hops = ((i + 1 : Nat) : Int)
theorem PathOk.start {r : List Arr} : PathOk r src (x0F src) [src] :=
  ⟨rfl, rfl, rfl, fun i u v _ h => by simp at h⟩
theorem PathOk.more {r : List Arr} {y x : Arr} {p : List Int} (h : PathOk r src y p) (f : FromF near mu dl y x) (hx : x ∈ r) : PathOk r src x (p ++ [x.node]) := by
  have hpos : 0 < p.length := lt_of_get h.first
  refine ⟨by have := h.len; have := f.hops; simp; omega, by rw [List.getElem?_append_left hpos]; exact h.first, by simp, fun i u v hu hv => ?_⟩
  have hl := lt_of_get hv
  simp at hl
  by_cases c : i + 1 < p.length
  · rw [List.getElem?_append_left (by omega)] at hu
    rw [List.getElem?_append_left c] at hv
    exact h.step i u v hu hv
  · have hi : i + 1 = p.length := by omega
    rw [List.getElem?_append_left (by omega), show i = p.length - 1 by omega, h.last] at hu
    rw [List.getElem?_append_right (by omega), hi] at hv
    simp at hu hv
    have := h.len
    have := f.hops
    exact ⟨x, hx, hv, by rw [← f.node, hu], by omega⟩
end
end Go.Proofs.YtmbblhajbecomaaDoor.Flood
namespace Go.Proofs.YtmbblhajbecomaaDoor.Ways
open Go.RowKit
open Go.Maps (Keyed int_keyed)
open Go.WideMaps (keyOf_pair)
open Go.ChangeMaps (setBlock heap_setBlock_same heap_setBlock_other)
open Go.Proofs.YtmbblhajbecomaaDoor.RF
set_option linter.unusedVariables false

/-- The entries are these, one after the other. -/
structure Good (es : Array MapEntry) (M : List (Int × Value)) : Prop where
  eq : es.toList.map (fun x => (x.key, x.val)) = M.map (fun p => (Value.int .i64 p.1, p.2))
  wf : ∀ p ∈ M, (Lit.int .i64 p.1).wf = true
theorem Good.mem {es : Array MapEntry} {M : List (Int × Value)} (h : Good es M) {x : MapEntry} (hx : x ∈ es.toList) : ∃ p ∈ M, x.key = .int .i64 p.1 ∧ x.val = p.2 := by
  have : (x.key, x.val) ∈ M.map (fun p => (Value.int .i64 p.1, p.2)) := by rw [← h.eq]; exact List.mem_map.2 ⟨x, hx, rfl⟩
  obtain ⟨p, hp, e⟩ := List.mem_map.1 this
  simp only [Prod.mk.injEq] at e
  exact ⟨p, hp, e.1.symm, e.2.symm⟩
theorem Good.all {es : Array MapEntry} {M : List (Int × Value)} (h : Good es M) {p : Int × Value} (hp : p ∈ M) : ∃ x ∈ es.toList, x.key = .int .i64 p.1 ∧ x.val = p.2 := by
  have : (Value.int .i64 p.1, p.2) ∈ es.toList.map (fun x => (x.key, x.val)) := by rw [h.eq]; exact List.mem_map.2 ⟨p, hp, rfl⟩
  obtain ⟨x, hx, e⟩ := List.mem_map.1 this
  simp only [Prod.mk.injEq] at e
  exact ⟨x, hx, e.1, e.2⟩
/-- Block b is such a map. -/
def At (w : World) (b : Nat) (M : List (Int × Value)) : Prop := ∃ es clock, w.heap[b]? = some (.map es clock) ∧ Good es M
theorem At.nil (w : World) : At (w.alloc (.map #[] 0)) w.heap.size [] := ⟨#[], 0, World.alloc_heap_new w _, ⟨rfl, by simp⟩⟩
theorem At.same {w w' : World} {b : Nat} {M : List (Int × Value)} (h : At w b M) (e : w'.heap[b]? = w.heap[b]?) : At w' b M := by
  obtain ⟨es, c, h1, h2⟩ := h
  exact ⟨es, c, e.trans h1, h2⟩
theorem At.lt {w : World} {b : Nat} {M : List (Int × Value)} (h : At w b M) : b < w.heap.size := by
  obtain ⟨es, c, h1, h2⟩ := h
  exact (Array.getElem?_eq_some_iff.1 h1).1
section
variable {P : Program} {k e t : TypeId} (hk : P.underlying k = some (.int .i64)) (ht : P.underlying t = some (.map k e)) (hz : ∀ w : World, (zeroValue e).run P w = .ok (.slice none 0 0) w)
include hk
theorem key_of {i : Int} (hi : (Lit.int .i64 i).wf = true) : ∃ kl, keyOf P k (.int .i64 i) = some kl := ⟨.int .i64 i, by simp [keyOf, hk, mapKey, hi]⟩
include ht hz
theorem At.look {w : World} {b : Nat} {M : List (Int × Value)} (h : At w b M) {i : Int} (hi : (Lit.int .i64 i).wf = true) :
    ((∀ p ∈ M, p.1 ≠ i) ∧ (Instr.lookup t (.map (some b)) (.int .i64 i) false).run P w = .ok (.slice none 0 0) w ∧ (Instr.lookup t (.map (some b)) (.int .i64 i) true).run P w = .ok (.tuple #[.slice none 0 0, .bool false]) w) ∨
    ∃ p ∈ M, p.1 = i ∧ (Instr.lookup t (.map (some b)) (.int .i64 i) false).run P w = .ok p.2 w ∧ (Instr.lookup t (.map (some b)) (.int .i64 i) true).run P w = .ok (.tuple #[p.2, .bool true]) w := by
  obtain ⟨es, c, hb, G⟩ := h
  obtain ⟨kl, hkey⟩ := key_of hk hi
  have K : Keyed P k := int_keyed hk
  rcases K.find w hkey es.toList (fun x hx => by obtain ⟨q, hq, h1, _⟩ := G.mem hx; rw [h1]; exact key_of hk (G.wf q hq)) with ⟨h1, h2⟩ | ⟨j, e0, h1, h2, h3⟩
  · refine .inl ⟨fun p hp hpi => ?_, ?_, ?_⟩
    · obtain ⟨x, hx, hxk, _⟩ := G.all hp
      exact h2 x hx (by rw [hxk, hpi])
    · simp [Instr.lookup, run_underlying ht, MapKept.run_getObj_map hb, K.check w _ hkey, h1, hz, Result.andThen]
    · simp [Instr.lookup, run_underlying ht, MapKept.run_getObj_map hb, K.check w _ hkey, h1, hz, Result.andThen]
  · obtain ⟨q, hq, h4, h5⟩ := G.mem (List.mem_of_getElem? h2)
    have hqi : q.1 = i := by
      rw [h3] at h4
      simpa using h4.symm
    refine .inr ⟨q, hq, hqi, ?_, ?_⟩
    · simp [Instr.lookup, run_underlying ht, MapKept.run_getObj_map hb, K.check w _ hkey, h1, h5, Result.andThen]
    · simp [Instr.lookup, run_underlying ht, MapKept.run_getObj_map hb, K.check w _ hkey, h1, h5, Result.andThen]
omit hz
theorem At.put {w : World} {b : Nat} {M : List (Int × Value)} (h : At w b M) {i : Int} (hi : (Lit.int .i64 i).wf = true) (hn : ∀ p ∈ M, p.1 ≠ i) (v : Value) :
    ∃ w3, (Instr.mapUpdate t (.map (some b)) (.int .i64 i) v).run P w = .ok () w3 ∧ Off (fun j => j = b) w w3 ∧ At w3 b (M ++ [(i, v)]) := by
  obtain ⟨es, c, hb, G⟩ := h
  obtain ⟨kl, hkey⟩ := key_of hk hi
  have K : Keyed P k := int_keyed hk
  have h1 : (Instr.findKey k (.int .i64 i) es.toList).run P w = .ok none w := by
    rcases K.find w hkey es.toList (fun x hx => by obtain ⟨q, hq, h1, _⟩ := G.mem hx; rw [h1]; exact key_of hk (G.wf q hq)) with ⟨h1, _⟩ | ⟨j, e0, _, h2, h3⟩
    · exact h1
    · obtain ⟨q, hq, h4, _⟩ := G.mem (List.mem_of_getElem? h2)
      rw [h3] at h4
      exact absurd (by simpa using h4.symm) (hn q hq)
  refine ⟨setBlock w b (.map (es.push ⟨.int .i64 i, v, c⟩) (c + 1)), ?_, ⟨rfl, rfl, rfl, by simp [setBlock], fun j hj hne => heap_setBlock_other hb _ (fun e => hne e)⟩, _, _, heap_setBlock_same hb _, ⟨?_, fun p hp => ?_⟩⟩
  · simp [Instr.mapUpdate, run_underlying ht, MapKept.run_getObj_map hb, K.check w false hkey, h1, MapKept.run_setObj_map _ hb, Result.andThen, setBlock]
  · simp only [Array.toList_push, List.map_append, G.eq, List.map_cons, List.map_nil]
  · rcases List.mem_append.1 hp with c | c
    · exact G.wf p c
    · simp only [List.mem_singleton] at c
      subst c; exact hi
end
end Go.Proofs.YtmbblhajbecomaaDoor.Ways
namespace Go.Proofs.YtmbblhajbecomaaDoor.Flood
set_option maxRecDepth 100000
open Go.RowKit
open Go.Proofs.YtmbblhajbecomaaDoor.RF Go.Proofs.YtmbblhajbecomaaDoor.Heap Go.Proofs.YtmbblhajbecomaaDoor.Nodes Go.Proofs.YtmbblhajbecomaaDoor.Graph Go.Proofs.YtmbblhajbecomaaDoor.Reach
set_option linter.unusedVariables false
set_option linter.unusedSimpArgs false

/-- Numbers as cells. -/
abbrev ic (p : List Int) : List Value := p.map (Value.int .i64)
theorem sl_nil (g n cap : Nat) (w : World) : (binOp .eql 51 (.slice (some ⟨g, 0, none⟩) n cap) (.slice none 0 0)).run Tryd.prog w = .ok (.bool false) w := by
  have h := Tryd.underlying51
  unfold Go.binOp Op.equal Op.maxDepth Op.equalIn
  simp [run_underlying h]
theorem nil_nil (w : World) : (binOp .eql 51 (.slice none 0 0) (.slice none 0 0)).run Tryd.prog w = .ok (.bool true) w := by
  have h := Tryd.underlying51
  unfold Go.binOp Op.equal Op.maxDepth Op.equalIn
  simp [run_underlying h]
theorem clone_any (V : World) {base : Nat} {v : Value} {p : List Int} (h : V.ownsRow base 3 1 v p.length (ic p)) (hp : 0 < p.length) (hl : p.length ≤ 1000) :
    Calls Tryd.prog 59 #[v] V fun e w' => ∃ v', e = .returned v' ∧ w'.ownsRow V.heap.size 3 1 v' p.length (ic p) ∧ Below V.heap.size V w' := by
  obtain ⟨i0, hi0, hz⟩ := Option.map_eq_some_iff.1 infoI
  simp only [Prod.mk.injEq] at hz
  obtain ⟨hz0, hz1, hz2⟩ := hz
  obtain ⟨g, cap, rfl, hgb, hgs⟩ := h.form hp
  have hsrc : ∀ V', Below V.heap.size V V' → ∀ (j : Nat) (u : Value), (ic p)[j]? = some u → V'.cell? ⟨g, j, none⟩ = some u := fun V' k j u hu => by
    refine (k.cell (p := ⟨g, j, none⟩) hgs).trans ?_
    rw [h.cellAt j (by have := lt_of_get hu; simp at this; omega), hu]
  have oE : (V.alloc (.cells #[] 3)).ownsRow V.heap.size 3 1 (.slice (some ⟨V.heap.size, 0, none⟩) 0 0) 0 [] := by
    have := row_of_blk (base := V.heap.size) (n := 0) (s := 1) (cap := 0) (Blk.new V 3 #[]) (Nat.le_refl _) (Nat.le_refl _) (by unfold maxLen; omega) rfl
    simpa using this
  have Hi0 := Lib.hid hi0
  have Hz0 := Lib.hid hz0
  have Hz1 := Lib.hid hz1
  have Hz2 := Lib.hid hz2
  have Hsrc := Lib.hid hsrc
  have OE := Lib.hid oE
  clear hi0 hz0 hz1 hz2 hsrc oE h
  have hne := sl_nil g p.length cap
  go_enter Tryd.func59, Tryd.ntmps59
  go_wp2_with (at_builtin; refine wpList_append_own _ rfl _ _ 51 rfl V.heap.size 3 i0 _ 1 8 Tryd.underlying51 Hi0.out Hz0.out Hz1.out Hz2.out rfl (by decide) _ _ _ rfl OE.out ⟨g, 0, none⟩ p.length cap (ic p) rfl (by simp) (fun j u hu => by rw [addr0]; exact Hsrc.out _ ((Below.refl _ _).alloc (Nat.le_refl _) _) j u hu) (by intro u hu; simp only [List.mem_map] at hu; obtain ⟨z, _, rfl⟩ := hu; rfl) (by unfold maxLen; omega) (by omega) (by simp) ?_; intro v' w3 own3 g3 _)
  rw [Nat.zero_add, List.nil_append] at own3
  have l3 := Lib.hid (below_own ((Below.refl _ V).alloc (Nat.le_refl _) _) g3 OE.out (Nat.le_refl _) (Nat.le_refl _))
  have O3 := Lib.hid own3
  clear own3 g3
  go_wp2_with fail
  go_ret
  exact ⟨_, rfl, O3.out, l3.out⟩
theorem clone_nil (V : World) : Calls Tryd.prog 59 #[.slice none 0 0] V fun e w' => e = .returned (.slice none 0 0) ∧ w' = V := by
  have hne := nil_nil
  go_enter Tryd.func59, Tryd.ntmps59
  go_wp2
  go_ret
  exact ⟨rfl, rfl⟩
theorem zeroL (w : World) : (zeroValue 51).run Tryd.prog w = .ok (.slice none 0 0) w := by kernel_rfl
/-- The paths that are known: by node. -/
structure PathsAt (w0 : World) (b c : Nat) (M : List (Int × Value)) (ps : List (List Int)) (V : World) : Prop where
  map : Ways.At V b M
  cel : Blk V c 108 #[.map (some b)]
  own : ∀ (j : Nat) (q : Int × Value) (p : List Int), M[j]? = some q → ps[j]? = some p → V.ownsRow w0.heap.size 3 1 q.2 p.length (ic p)
  len : ps.length = M.length
  pos : ∀ p ∈ ps, 0 < p.length ∧ p.length ≤ 1000
  low : Below w0.heap.size w0 V
  ge : w0.heap.size ≤ b ∧ w0.heap.size ≤ c
theorem PathsAt.below {w0 V V' : World} {b c : Nat} {M : List (Int × Value)} {ps : List (List Int)} (h : PathsAt w0 b c M ps V) (k : Below V.heap.size V V') : PathsAt w0 b c M ps V' :=
  ⟨h.map.same (k.block b h.map.lt), h.cel.below k h.cel.lt, fun j q p h1 h2 => own_below (h.own j q p h1 h2) k, h.len, h.pos, h.low.trans (k.mono h.low.size), h.ge⟩
set_option maxRecDepth 100000 in
set_option maxHeartbeats 4000000 in
theorem on_any {w0 V : World} {b c : Nat} {M : List (Int × Value)} {ps : List (List Int)} (h : PathsAt w0 b c M ps V) (i : Int) (hi : (Lit.int .i64 i).wf = true) :
    Calls Tryd.prog 58 #[.int .i64 i, .pointer (some ⟨c, 0, none⟩)] V fun e w' => Below V.heap.size V w' ∧
      (((∀ p ∈ M, p.1 ≠ i) ∧ e = .returned (.tuple #[.slice none 0 0, .bool false])) ∨ ∃ (j : Nat) (q : Int × Value) (p : List Int) (v : Value), M[j]? = some q ∧ q.1 = i ∧ ps[j]? = some p ∧ e = .returned (.tuple #[v, .bool true]) ∧ w'.ownsRow V.heap.size 3 1 v p.length (ic p)) := by
  have cc : V.cell? ⟨c, 0, none⟩ = some (.map (some b)) := h.cel.cell 0
  rcases h.map.look Tryd.underlying3 Tryd.underlying108 zeroL hi with ⟨h1, _, h3⟩ | ⟨q, hq, hqi, _, h3⟩
  · have H1 := Lib.hid h1
    clear h1 h
    go_enter Tryd.func58, Tryd.ntmps58
    go_wp2_with (go_at_call 59; refine (clone_nil _).mono ?_; rintro e w' ⟨rfl, h⟩; rw [h]; clear h w')
    go_ret2
    exact ⟨Below.refl _ _, .inl ⟨H1.out, rfl⟩⟩
  · obtain ⟨j, hj⟩ := List.mem_iff_getElem?.1 hq
    have hjl : j < ps.length := by rw [h.len]; exact lt_of_get hj
    obtain ⟨p, hp⟩ : ∃ p, ps[j]? = some p := ⟨_, List.getElem?_eq_getElem hjl⟩
    have ho := h.own j q p hj hp
    have hps := h.pos p (List.mem_of_getElem? hp)
    have HC := Lib.hid (clone_any V ho hps.1 hps.2)
    obtain ⟨vq, hvq⟩ : ∃ v, q.2 = v := ⟨_, rfl⟩
    rw [hvq] at h3 HC
    have Hj := Lib.hid hj
    have Hp := Lib.hid hp
    clear ho h hq hj hp
    go_enter Tryd.func58, Tryd.ntmps58
    go_wp2_with (go_at_call 59; refine HC.out.mono ?_; rintro e w3 ⟨v3, rfl, o3, l3⟩)
    have O3 := Lib.hid o3
    go_ret2
    exact ⟨l3, .inr ⟨j, q, p, v3, Hj.out, hqi, Hp.out, rfl, O3.out⟩⟩
end Go.Proofs.YtmbblhajbecomaaDoor.Flood
namespace Go.Proofs.YtmbblhajbecomaaDoor.Flood
set_option maxRecDepth 100000
open Go.RowKit
open Go.Proofs.YtmbblhajbecomaaDoor.RF Go.Proofs.YtmbblhajbecomaaDoor.Heap Go.Proofs.YtmbblhajbecomaaDoor.Nodes Go.Proofs.YtmbblhajbecomaaDoor.Graph Go.Proofs.YtmbblhajbecomaaDoor.Reach
set_option linter.unusedVariables false
set_option linter.unusedSimpArgs false

/-- What Path keeps. -/
def PInvW (w : World) (r : List Arr) (src : Int) (k : Nat) (V : World) : Prop :=
  ∃ (M : List (Int × Value)) (ps : List (List Int)), PathsAt w w.heap.size (w.heap.size + 1) M ps V ∧ M.map Prod.fst = (r.take k).map Arr.node ∧ ∀ (j : Nat) (x : Arr) (p : List Int), (r.take k)[j]? = some x → ps[j]? = some p → PathOk r src x p
theorem wf_small {i : Int} (h : -1 ≤ i ∧ i < 64) : (Lit.int .i64 i).wf = true := by
  have e1 : IntKind.i64.min = -9223372036854775808 := by decide
  have e2 : IntKind.i64.max = 9223372036854775807 := by decide
  simp only [Lit.wf, e1, e2, Bool.and_eq_true, decide_eq_true_eq]
  omega
theorem nodup_uniq {r : List Arr} (h : (r.map Arr.node).Nodup) {i j : Nat} {a b : Arr} (ha : r[i]? = some a) (hb : r[j]? = some b) (e : a.node = b.node) : i = j := by
  have hi := lt_of_get ha
  have hj := lt_of_get hb
  have h1 : (r.map Arr.node)[i]'(by simpa using hi) = a.node := by
    rw [List.getElem_map]
    rw [List.getElem?_eq_getElem hi] at ha
    injection ha with ha; rw [ha]
  have h2 : (r.map Arr.node)[j]'(by simpa using hj) = b.node := by
    rw [List.getElem_map]
    rw [List.getElem?_eq_getElem hj] at hb
    injection hb with hb; rw [hb]
  rcases Nat.lt_trichotomy i j with c | c | c
  · exact absurd (h1.trans (e.trans h2.symm)) ((List.pairwise_iff_getElem.1 h) i j _ _ c)
  · exact c
  · exact absurd (h2.trans (e.symm.trans h1.symm)) ((List.pairwise_iff_getElem.1 h) j i _ _ c)
theorem PInvW.below {w : World} {r : List Arr} {src : Int} {k : Nat} {V V' : World} (h : PInvW w r src k V) (kb : Below V.heap.size V V') : PInvW w r src k V' := by
  obtain ⟨M, ps, h1, h2, h3⟩ := h
  exact ⟨M, ps, h1.below kb, h2, h3⟩
/-- The look-up of the path to the one ahead. -/
theorem on_next {near mu : List Nat} {dl : List (List Int)} {w : World} {r : List Arr} {src : Int} {n k : Nat} {V : World} (hE : EI near mu dl src [] r) (hF : FInv n [] r) (hn : n ≤ 64) (h : PInvW w r src k V) {x : Arr} (hx : r[k]? = some x) :
    Calls Tryd.prog 58 #[.int .i64 x.frm, .pointer (some ⟨w.heap.size + 1, 0, none⟩)] V fun e w' => ∃ (p : List Int) (v : Value) (q : Bool), e = .returned (.tuple #[v, .bool q]) ∧ w'.ownsRow V.heap.size 3 1 v p.length (ic p) ∧ Below V.heap.size V w' ∧ PathOk r src x (p ++ [x.node]) ∧ p.length ≤ 100 ∧ (k = 0 ∨ q = true) := by
  obtain ⟨M, ps, h1, h2, h3⟩ := h
  have hxm := mem_of_get hx
  have hfr := hF.outF x hxm
  have hfn := hF.outN x hxm
  have hfh := hF.outH x hxm
  have hlM : M.length = (r.take k).length := by
    have := congrArg List.length h2
    simpa using this
  refine (on_any h1 x.frm (wf_small (by omega))).mono fun e w' h => ?_
  obtain ⟨hb, h⟩ := h
  by_cases hk : k = 0
  · subst hk
    obtain rfl : x = x0F src := hE.head x hx
    rcases h with ⟨_, rfl⟩ | ⟨j, q, p, v, hj, _⟩
    · exact ⟨[], _, false, rfl, World.ownsRow_nil _ _ _ _, hb, PathOk.start, by simp, .inl rfl⟩
    · have := lt_of_get hj
      rw [hlM] at this
      simp at this
  · obtain ⟨j, y, hjk, hy, hf⟩ := hE.tail k x (by omega) hx
    have hyk : (r.take k)[j]? = some y := by rw [List.getElem?_take, if_pos hjk]; exact hy
    have hMj : ∃ q, M[j]? = some q ∧ q.1 = y.node := by
      have e : (M.map Prod.fst)[j]? = some y.node := by rw [h2, List.getElem?_map, hyk]; rfl
      rw [List.getElem?_map] at e
      obtain ⟨q, hq, hq2⟩ := Option.map_eq_some_iff.1 e
      exact ⟨q, hq, hq2⟩
    obtain ⟨q0, hq0, hq0n⟩ := hMj
    rcases h with ⟨hno, _⟩ | ⟨j', q, p, v, hj', hqi, hp, rfl, ho⟩
    · exact absurd (hq0n.trans hf.node) (hno q0 (List.mem_of_getElem? hq0))
    · have hjl := lt_of_get hj'
      rw [hlM] at hjl
      obtain ⟨y', hy'⟩ : ∃ y', (r.take k)[j']? = some y' := ⟨_, List.getElem?_eq_getElem hjl⟩
      have hn' : y'.node = q.1 := by
        have e : (M.map Prod.fst)[j']? = some y'.node := by rw [h2, List.getElem?_map, hy']; rfl
        rw [List.getElem?_map, hj'] at e
        simpa using e.symm
      have hyr : r[j']? = some y' := by
        rw [List.getElem?_take] at hy'
        split at hy'
        · exact hy'
        · cases hy'
      obtain rfl : j' = j := nodup_uniq hF.dist hyr hy (by rw [hn', hqi, hf.node])
      rw [hy] at hyr
      cases hyr
      have hok := h3 _ _ _ hyk hp
      refine ⟨p, v, true, rfl, ho, hb, hok.more hf hxm, ?_, .inr rfl⟩
      have := hok.len
      have := (hF.outH y (mem_of_get hy)).2
      omega
set_option maxHeartbeats 8000000 in
theorem path_any {near mu : List Nat} {dl : List (List Int)} {src : Int} {n : Nat} (w : World) {base : Nat} {v : Value} {r : List Arr} (hv : w.ownsRow base 71 4 v r.length (arrC r)) (hE : EI near mu dl src [] r) (hF : FInv n [] r) (hn : n ≤ 64) (i : Int) (hi : (Lit.int .i64 i).wf = true) :
    Calls Tryd.prog 37 #[v, .int .i64 i] w fun e w' => Below w.heap.size w w' ∧ ((cameF r i = false ∧ e = .returned (.slice none 0 0)) ∨ ∃ (x : Arr) (p : List Int) (v' : Value), x ∈ r ∧ x.node = i ∧ PathOk r src x p ∧ e = .returned v' ∧ w'.ownsRow w.heap.size 3 1 v' p.length (ic p)) := by
  obtain ⟨i0, hi0, hz⟩ := Option.map_eq_some_iff.1 infoI
  simp only [Prod.mk.injEq] at hz
  obtain ⟨hz0, hz1, hz2⟩ := hz
  have Hi0 := Lib.hid hi0
  have Hz0 := Lib.hid hz0
  have Hz1 := Lib.hid hz1
  have Hz2 := Lib.hid hz2
  have HV := Lib.hid hv
  have HE := Lib.hid hE
  have HF := Lib.hid hF
  have hrl := hF.few
  obtain ⟨a0, cap0, rfl⟩ := own_form hv
  obtain ⟨W1, hW1⟩ : ∃ W, (w.alloc (.map #[] 0)).alloc (.cells #[.map (some w.heap.size)] 108) = W := ⟨_, rfl⟩
  have z1 : (w.alloc (.map #[] 0)).heap.size = w.heap.size + 1 := by simp
  have I0 : PInvW w r src 0 W1 := by
    refine ⟨[], [], ⟨?_, ?_, fun j q p h => by simp at h, rfl, by simp, ?_, Nat.le_refl _, by omega⟩, by simp, fun j x p h => by simp at h⟩
    · rw [← hW1]
      exact (Ways.At.nil w).same ((Below.refl _ (w.alloc (.map #[] 0))).alloc (Nat.le_refl _) _ |>.block _ (by omega))
    · have := Blk.new (w.alloc (.map #[] 0)) 108 #[.map (some w.heap.size)]
      rw [z1, hW1] at this
      exact this
    · rw [← hW1]
      exact ((Below.refl _ w).alloc (Nat.le_refl _) _).alloc (by simp) _
  have hmm := @run_makeMap Tryd.prog
  have hw0 : w.heap.size < w.heap.size + 1 := by omega
  have HW1 := Lib.hid hW1
  have HI0 := Lib.hid I0
  clear hi0 hz0 hz1 hz2 hv hE hF hW1 z1 I0
  go_enter Tryd.func37, Tryd.ntmps37
  go_upto_region 2 with (fail)
  rw [HW1.out]
  go_wp2_with fail
  go_loopg [15] r.length (fun q v15 V => ∃ k : Nat, q = r.length - k ∧ v15 = .int .i64 k ∧ k ≤ r.length ∧ RowKit.Hid (PInvW w r src k V))
  case atStart => exact ⟨0, rfl, rfl, Nat.zero_le _, HI0⟩
  case round =>
    clear HI0 hmm
    obtain ⟨k, hgk, rfl, hk, HI⟩ := hrel
    have Hgk := Lib.hid hgk
    clear hgk
    have lowr : RowKit.Hid (Below w.heap.size w wr) := by obtain ⟨M, ps, h1, _⟩ := HI.out; exact Lib.hid h1.low
    have lwr := lowr.out.size
    by_cases hlt : k < r.length
    · obtain ⟨x, hx⟩ : ∃ x, r[k]? = some x := ⟨_, List.getElem?_eq_getElem hlt⟩
      obtain ⟨_, _, e1, h1⟩ := own_arr (own_below HV.out lowr.out)
      simp only [Value.slice.injEq] at e1
      obtain ⟨g1, hb1, hg1, _, y0, y1, y2, y3⟩ := h1 k x hx
      rw [← e1.1] at hb1
      subst hb1
      have j1 : (0 : Int) ≤ (k : Int) := by omega
      have j2 : (k : Int) < (r.length : Int) := by omega
      have j3 : (k : Int) ≤ 65535 := by omega
      have Hx := Lib.hid hx
      clear e1 h1 hx
      go_upto_region 6 with (fail)
      obtain ⟨X, hX⟩ : ∃ X, wr.heap.size = X := ⟨_, rfl⟩
      obtain ⟨V, hV⟩ : ∃ V, wr.alloc (.cells #[.int .i64 x.node, .int .i64 x.time, .int .i64 x.hops, .int .i64 x.frm] 71) = V := ⟨_, rfl⟩
      have bV : Blk V X 71 #[.int .i64 x.node, .int .i64 x.time, .int .i64 x.hops, .int .i64 x.frm] := by rw [← hV, ← hX]; exact Blk.new wr _ _
      have lV : Below wr.heap.size wr V := by rw [← hV]; exact (Below.refl _ _).alloc (Nat.le_refl _) _
      have zV : V.heap.size = X + 1 := by rw [← hV, ← hX]; simp
      have HIV := Lib.hid (HI.out.below lV)
      have HO := Lib.hid (on_next HE.out HF.out hn HIV.out Hx.out)
      have q3 : V.cell? ⟨X, 3, none⟩ = some (.int .i64 x.frm) := bV.cell 3
      have BV := Lib.hid bV
      rw [hV, hX]
      clear hV lV bV y0 y1 y2 y3 HI
      go_upto_region 7 with (go_at_call 58; refine HO.out.mono ?_; rintro e w4 ⟨p, vp, bq, rfl, o4, l4, pk, pl, kq⟩)
      have O4 := Lib.hid o4
      have L4 := Lib.hid l4
      have PK := Lib.hid pk
      clear o4 l4 pk HO q3
      go_cut [31] from 27 to 30 (fun s31 W => s31 = .bool true ∧ RowKit.Hid (Below V.heap.size V W) ∧ RowKit.Hid (W.ownsRow V.heap.size 3 1 vp p.length (ic p)))
      case first =>
        rcases e1 : ((k : Int) == 0) with _ | _
        · have hkq : bq = true := by
            rcases kq with c | c
            · subst c; simp at e1
            · exact c
          subst hkq
          go_wp2_with fail
          all_goals
            go_meet
            exact ⟨rfl, L4, O4⟩
        · go_wp2_with fail
          all_goals
            go_meet
            exact ⟨rfl, L4, O4⟩
      case rest =>
        obtain ⟨rfl, L4, O4⟩ := hcut
        obtain ⟨wd, rfl⟩ : ∃ W, W = wc := ⟨_, rfl⟩
        clear kq
        have hzd := L4.out.size
        have HId := Lib.hid (HIV.out.below L4.out)
        have BVd := Lib.hid (BV.out.below L4.out (by omega))
        have hcc : ∀ W, PInvW w r src k W → W.cell? ⟨w.heap.size + 1, 0, none⟩ = some (.map (some w.heap.size)) := fun W h => by obtain ⟨M, ps, h1, _⟩ := h; exact h1.cel.cell 0
        have c0 := hcc wd HId.out
        have x0 : wd.cell? ⟨X, 0, none⟩ = some (.int .i64 x.node) := BVd.out.cell 0
        have hXd := BVd.out.lt
        have hcd : w.heap.size + 1 < wd.heap.size := by obtain ⟨M, ps, h1, _⟩ := HId.out; exact h1.cel.lt
        have HUp : RowKit.Hid (∀ (w5 : World) (v5 : Value), w5.ownsRow V.heap.size 3 1 v5 (p.length + 1) (ic p ++ [.int .i64 x.node]) → (wd.alloc (.cells #[.int .i64 x.node] 3)).drew.grownBy w5 vp.ownBlock →
            RowKit.Hid (Below V.heap.size V w5) ∧ ∃ w6, (Instr.mapUpdate 108 (.map (some w.heap.size)) (.int .i64 x.node) v5).run Tryd.prog w5 = .ok () w6 ∧ (w5.cell? ⟨w.heap.size + 1, 0, none⟩ = some (.map (some w.heap.size)) ∧ w5.cell? ⟨X, 0, none⟩ = some (.int .i64 x.node)) ∧ (w6.cell? ⟨w.heap.size + 1, 0, none⟩ = some (.map (some w.heap.size)) ∧ w6.cell? ⟨X, 0, none⟩ = some (.int .i64 x.node)) ∧ RowKit.Hid (PInvW w r src (k + 1) w6)) := Lib.hid fun w5 v5 own5 g5 => by
          have kA : Below wd.heap.size wd (wd.alloc (.cells #[.int .i64 x.node] 3)).drew := ((Below.refl _ wd).alloc (Nat.le_refl _) _).drew
          have l5 : Below V.heap.size V w5 := below_own (L4.out.trans (kA.mono hzd)) g5 (own_below O4.out kA) (Nat.le_refl _) (Nat.le_refl _)
          obtain ⟨M, ps, h1, h2, h3⟩ := HIV.out.below l5
          have b5 := BV.out.below l5 (by omega)
          have hwx := wf_small (show -1 ≤ x.node ∧ x.node < 64 by have := HF.out.outN x (mem_of_get Hx.out); omega)
          have hfresh : ∀ q ∈ M, q.1 ≠ x.node := fun q hq e => by
            have : q.1 ∈ M.map Prod.fst := List.mem_map.2 ⟨q, hq, rfl⟩
            rw [h2] at this
            obtain ⟨y, hy, hyn⟩ := List.mem_map.1 this
            obtain ⟨j, hj⟩ := get_of_mem hy
            rw [List.getElem?_take] at hj
            split at hj
            · have := nodup_uniq HF.out.dist hj Hx.out (by rw [hyn, e]); omega
            · cases hj
          obtain ⟨w6, hput, o6, m6⟩ := h1.map.put Tryd.underlying3 Tryd.underlying108 hwx hfresh v5
          have hbV : w.heap.size < V.heap.size := by omega
          have hbX : ¬ w.heap.size + 1 = w.heap.size := by omega
          have hXb : ¬ X = w.heap.size := by
            obtain ⟨M', ps', k1, _⟩ := HIV.out
            have := k1.cel.lt
            intro e
            obtain ⟨es, cl, hm, _⟩ := k1.map
            have hbb := BV.out
            unfold Blk at hbb
            rw [e, hm] at hbb
            cases hbb
          have c5 := h1.cel
          refine ⟨Lib.hid l5, w6, hput, ⟨c5.cell 0, b5.cell 0⟩, ⟨(c5.off o6 hbX).cell 0, (b5.off o6 hXb).cell 0⟩, Lib.hid ⟨M ++ [(x.node, v5)], ps ++ [p ++ [x.node]], ⟨m6, c5.off o6 hbX, fun j q p' hq hp' => ?_, by simp [h1.len], fun p' hp' => ?_, ?_, h1.ge⟩, ?_, fun j y p' hy hp' => ?_⟩⟩
          · by_cases hj : j < M.length
            · rw [List.getElem?_append_left hj] at hq
              rw [List.getElem?_append_left (by rw [h1.len]; exact hj)] at hp'
              have ho := h1.own j q p' hq hp'
              refine own_off ho o6 fun g hg c => ?_
              subst c
              rcases ho.2 with ⟨c, _⟩ | ⟨g', _, _, c, _, hgh, _⟩
              · rw [c] at hg; simp [Value.ownBlock] at hg
              · rw [c] at hg
                simp only [Value.ownBlock, Option.some.injEq] at hg
                subst hg
                obtain ⟨es, cl, hm, _⟩ := h1.map
                rw [hm] at hgh; cases hgh
            · have hjl := lt_of_get hq
              simp at hjl
              obtain rfl : j = M.length := by omega
              simp at hq
              rw [← h1.len] at hp'
              simp at hp'
              subst hq
              subst hp'
              have ho : w5.ownsRow V.heap.size 3 1 v5 (p ++ [x.node]).length (ic (p ++ [x.node])) := by simpa [ic] using own5
              refine own_weak (own_off ho o6 fun g hg c => ?_) (by omega)
              have := (own_rng ho hg).1; omega
          · rcases List.mem_append.1 hp' with c | c
            · exact h1.pos p' c
            · simp at c
              subst c
              simp; omega
          · refine h1.low.trans ?_
            exact ⟨o6.os, o6.tape, o6.output, o6.size, fun j hj => o6.block j (by have := h1.low.size; omega) (by omega)⟩
          · rw [List.map_append, h2, List.take_add_one, Hx.out, List.map_append]; rfl
          · by_cases hj : j < k
            · have hy' : (r.take k)[j]? = some y := by
                rw [List.getElem?_take] at hy ⊢
                rw [if_pos (by omega)] at hy
                rw [if_pos hj]; exact hy
              have hjp : j < ps.length := by
                rw [h1.len]
                have e := congrArg List.length h2
                simp at e
                omega
              rw [List.getElem?_append_left hjp] at hp'
              exact h3 j y p' hy' hp'
            · have hjl := lt_of_get hy
              rw [List.length_take] at hjl
              obtain rfl : j = k := by omega
              rw [List.getElem?_take, if_pos (by omega), Hx.out] at hy
              cases hy
              have hpl : ps.length = j := by
                rw [h1.len]
                have e := congrArg List.length h2
                simp at e
                omega
              rw [← hpl] at hp'
              simp at hp'
              subst hp'
              exact PK.out
        clear hcc
        go_upto_region 8 with (fail)
        refine wp_region_held_drew (S := fun w' => w'.cell? ⟨w.heap.size + 1, 0, none⟩ = some (.map (some w.heap.size)) ∧ w'.cell? ⟨X, 0, none⟩ = some (.int .i64 x.node)) (by kernel_rfl) ⟨c0, x0⟩ (fun hHeld => ?_)
        refine Take.take (i := 0) (oi := _) (t := 32) (v := ?v1) rfl (by kernel_rfl) (by kernel_rfl) (by kernel_rfl) (by kernel_rfl) (fun _ _ _ h => h) (by kernel_rfl) ?hy1 (by assumption) ?_
        case hy1 => (intro w hSw; (try dsimp only at hSw); go_simp; try with_reducible rfl)
        try simp only [Act.put, List.setIfInBounds_toArray, List.set_cons_zero, List.set_cons_succ]
        refine Take.take (i := 1) (oi := _) (t := 33) (v := ?v2) rfl (by kernel_rfl) (by kernel_rfl) (by kernel_rfl) (by kernel_rfl) (fun _ _ _ h => h) (by kernel_rfl) ?hy2 (by assumption) ?_
        case hy2 => (intro w hSw; (try dsimp only at hSw); go_simp; try with_reducible rfl)
        try simp only [Act.put, List.setIfInBounds_toArray, List.set_cons_zero, List.set_cons_succ]
        refine Take.take (i := 2) (oi := _) (t := 34) (v := ?v3) rfl (by kernel_rfl) (by kernel_rfl) (by kernel_rfl) (by kernel_rfl) (fun _ _ _ h => h) (by kernel_rfl) ?hy3 (by assumption) ?_
        case hy3 => (intro w hSw; (try dsimp only at hSw); go_simp; try with_reducible rfl)
        try simp only [Act.put, List.setIfInBounds_toArray, List.set_cons_zero, List.set_cons_succ]
        refine Take.take (i := 3) (oi := _) (t := 35) (v := ?v4) rfl (by kernel_rfl) (by kernel_rfl) (by kernel_rfl) (by kernel_rfl) (fun _ _ _ h => h) (by kernel_rfl) ?hy4 (by assumption) ?_
        case hy4 => (intro w hSw; (try dsimp only at hSw); go_simp; try with_reducible rfl)
        try simp only [Act.put, List.setIfInBounds_toArray, List.set_cons_zero, List.set_cons_succ]
        refine Take.take (i := 4) (oi := _) (t := 36) (v := ?v5) rfl (by kernel_rfl) (by kernel_rfl) (by kernel_rfl) (by kernel_rfl) (fun _ _ _ h => h) (by kernel_rfl) ?hy5 (by assumption) ?_
        case hy5 => (intro w hSw; (try dsimp only at hSw); go_simp; try with_reducible rfl)
        try simp only [Act.put, List.setIfInBounds_toArray, List.set_cons_zero, List.set_cons_succ]
        refine Take.take (i := 5) (oi := _) (t := 37) (v := ?v6) rfl (by kernel_rfl) (by kernel_rfl) (by kernel_rfl) (by kernel_rfl) (fun _ _ _ h => h) (by kernel_rfl) ?hy6 (by assumption) ?_
        case hy6 => (intro w hSw; (try dsimp only at hSw); go_simp; try with_reducible rfl)
        try simp only [Act.put, List.setIfInBounds_toArray, List.set_cons_zero, List.set_cons_succ]
        refine wpAnyH_ready (rs := [6]) (by kernel_rfl) (by simp) ?_
        refine AllReadyH.cons (o := _) rfl (fun K hK => ?_) AllReadyH.nil
        go_simp
        refine hK.out _ _ ?hS7 (fun hHeld => ?_)
        case hS7 => (first | (exact hHeld) | (go_keep; done) | exact hS5 | exact hS6)
        clear hK K
        try simp only [Act.put, List.setIfInBounds_toArray, List.set_cons_zero, List.set_cons_succ]
        refine wpAnyH_ready (rs := [7]) (by kernel_rfl) (by simp) ?_
        refine AllReadyH.cons (o := _) rfl (fun K hK => ?_) AllReadyH.nil
        rw [if_pos (by rfl)]
        refine wp_append_own _ (.tmp 35) (.tmp 38) 51 rfl V.heap.size 3 i0 _ 1 8 Tryd.underlying51 Hi0.out Hz0.out Hz1.out Hz2.out rfl (by decide) _ p.length (ic p) rfl (own_below O4.out ((Below.refl _ wd).alloc (Nat.le_refl _) _).drew) ⟨wd.heap.size, 0, none⟩ 1 1 [.int .i64 x.node] rfl rfl (by have h := cell_one_new wd (.int .i64 x.node) 3; exact h) (by simp [Value.oneCell']) (by unfold maxLen; omega) (by omega) (by simp [World.drew]; omega) ?_
        intro v5 w5 own5 g5 _
        have g6 : (wd.alloc (.cells #[.int .i64 x.node] 3)).drew.grownBy w5 vp.ownBlock := g5
        obtain ⟨l5, w6, hput, hS5, hS6, HI6⟩ := HUp.out w5 v5 own5 g6
        refine hK.out _ _ ?hS8 (fun hHeld => ?_)
        case hS8 => (first | (exact hHeld) | (go_keep; done) | exact hS5 | exact hS6)
        clear hK K
        try simp only [Act.put, List.setIfInBounds_toArray, List.set_cons_zero, List.set_cons_succ]
        refine wpAnyH_ready (rs := [8]) (by kernel_rfl) (by simp) ?_
        refine AllReadyH.cons (o := _) rfl (fun K hK => ?_) AllReadyH.nil
        go_simp
        refine hK.out _ _ ?hS9 (fun hHeld => ?_)
        case hS9 => (first | (exact hHeld) | (go_keep; done) | exact hS5 | exact hS6)
        clear hK K
        try simp only [Act.put, List.setIfInBounds_toArray, List.set_cons_zero, List.set_cons_succ]
        refine wpAnyH_done (by kernel_rfl) ?_ _
        go_wp2_with fail
        go_roundg (r.length - (k + 1))
        case measure => have := Hgk.out; omega
        case rel => exact ⟨k + 1, rfl, by go_num, hlt, HI6⟩
    · obtain rfl : k = r.length := by omega
      obtain ⟨M, ps, h1, h2, h3⟩ := HI.out
      rw [List.take_length] at h2 h3
      have c0 : wr.cell? ⟨w.heap.size + 1, 0, none⟩ = some (.map (some w.heap.size)) := h1.cel.cell 0
      rcases h1.map.look Tryd.underlying3 Tryd.underlying108 zeroL hi with ⟨hno, hl, _⟩ | ⟨q, hq, hqi, hl, _⟩
      · have hc : cameF r i = false := cameF_no.2 fun y hy e => by
          have : y.node ∈ M.map Prod.fst := by rw [h2]; exact List.mem_map.2 ⟨y, hy, rfl⟩
          obtain ⟨q, hq, hqn⟩ := List.mem_map.1 this
          exact hno q hq (by rw [hqn, e])
        have Hc := Lib.hid hc
        clear hno hc h1 h2 h3 HI
        go_wp2_with fail
        go_ret
        exact ⟨lowr.out, .inl ⟨Hc.out, rfl⟩⟩
      · obtain ⟨j, hj⟩ := get_of_mem hq
        have hlM : M.length = r.length := by have := congrArg List.length h2; simpa using this
        have hjr : j < r.length := by have := lt_of_get hj; omega
        obtain ⟨x, hx⟩ : ∃ x, r[j]? = some x := ⟨_, List.getElem?_eq_getElem hjr⟩
        obtain ⟨p, hp⟩ : ∃ p, ps[j]? = some p := ⟨_, List.getElem?_eq_getElem (by rw [h1.len]; omega)⟩
        have hxn : x.node = i := by
          have e : (M.map Prod.fst)[j]? = some x.node := by rw [h2, List.getElem?_map, hx]; rfl
          rw [List.getElem?_map, hj] at e
          simp at e
          rw [← e, hqi]
        have Hfin := Lib.hid (show ∃ (x : Arr) (p : List Int) (v' : Value), x ∈ r ∧ x.node = i ∧ PathOk r src x p ∧ Ending.returned q.2 = .returned v' ∧ wr.ownsRow w.heap.size 3 1 v' p.length (ic p) from ⟨x, p, q.2, mem_of_get hx, hxn, h3 j x p hx hp, rfl, h1.own j q p hj hp⟩)
        obtain ⟨vq, hvq⟩ : ∃ v, q.2 = v := ⟨_, rfl⟩
        rw [hvq] at hl Hfin
        clear h1 h2 h3 HI hq hqi hj hlM hx hp hxn hvq
        go_wp2_with fail
        go_ret
        exact ⟨lowr.out, .inr Hfin.out⟩
end Go.Proofs.YtmbblhajbecomaaDoor.Flood
namespace Go.Proofs.YtmbblhajbecomaaDoor.Flood
set_option maxRecDepth 100000
open Go.RowKit
open Go.Proofs.YtmbblhajbecomaaDoor.RF Go.Proofs.YtmbblhajbecomaaDoor.Heap Go.Proofs.YtmbblhajbecomaaDoor.Nodes Go.Proofs.YtmbblhajbecomaaDoor.Graph Go.Proofs.YtmbblhajbecomaaDoor.Reach
set_option linter.unusedVariables false
set_option linter.unusedSimpArgs false

/-- The numbers of the nodes. -/
def nos (l : List Arr) : List Nat := l.map fun x => x.node.toNat
/-- The set of all to whom it came. -/
def setF (l : List Arr) : Nat := ofBits (fun k => decide (k ∈ nos l)) 64
def allF (l : List Arr) : Nat := l.foldl (fun s x => s ||| 2 ^ x.node.toNat) 0
theorem allF_snoc (l : List Arr) (x : Arr) : allF (l ++ [x]) = allF l ||| 2 ^ x.node.toNat := by simp [allF]
theorem allF_bits (l : List Arr) : ∀ (s k : Nat), (l.foldl (fun s x => s ||| 2 ^ x.node.toNat) s).testBit k = (s.testBit k || decide (k ∈ nos l)) := by
  induction l with
  | nil => intro s k; simp [nos]
  | cons x l ih =>
    intro s k
    have e : decide (k ∈ nos (x :: l)) = (decide (x.node.toNat = k) || decide (k ∈ nos l)) := by
      rw [Bool.eq_iff_iff]
      simp only [nos, List.map_cons, List.mem_cons, Bool.or_eq_true, decide_eq_true_eq]
      exact ⟨fun h => h.imp Eq.symm (fun c => decide_eq_true c), fun h => h.imp Eq.symm (fun c => of_decide_eq_true c)⟩
    rw [List.foldl_cons, ih, Nat.testBit_or, Nat.testBit_two_pow, Bool.or_assoc, e]
theorem allF_eq {l : List Arr} (h : ∀ x ∈ l, x.node.toNat < 64) : allF l = setF l := by
  refine Nat.eq_of_testBit_eq fun k => ?_
  rw [allF, allF_bits, setF, ofBits_bit, Nat.zero_testBit, Bool.false_or]
  by_cases c : k ∈ nos l
  · have : k < 64 := by
      obtain ⟨x, hx, rfl⟩ := List.mem_map.1 c
      exact h x hx
    simp [c, this]
  · simp [c]
theorem setF_lt (l : List Arr) : setF l < 2 ^ 64 := ofBits_lt _ _
theorem allF_lt {l : List Arr} (h : ∀ x ∈ l, x.node.toNat < 64) : allF l < 2 ^ 64 := by rw [allF_eq h]; exact setF_lt l
theorem all_any' (w : World) {base : Nat} {v : Value} {r : List Arr} (hv : w.ownsRow base 71 4 v r.length (arrC r)) (hN : ∀ x ∈ r, 0 ≤ x.node ∧ x.node < 64) (hl : r.length ≤ 64) :
    Calls Tryd.prog 32 #[v] w fun e w' => e = .returned (.int .u64 (setF r : Nat)) ∧ Below w.heap.size w w' := by
  have hsub : ∀ k, ∀ x ∈ r.take k, x.node.toNat < 64 := fun k x hx => by have := hN x (List.mem_of_mem_take hx); omega
  have Hfin := Lib.hid (allF_eq (l := r) fun x hx => by have := hN x hx; omega)
  have HV := Lib.hid hv
  have HN := Lib.hid hN
  have Hsub := Lib.hid hsub
  obtain ⟨a0, cap0, rfl⟩ := own_form hv
  clear hv hN hsub
  go_enter Tryd.func32, Tryd.ntmps32
  go_wp2_with fail
  go_loopg [3, 8] r.length (fun q v3 v8 V => ∃ k s : Nat, q = r.length - k ∧ v3 = .int .u64 (s : Nat) ∧ v8 = .int .i64 k ∧ k ≤ r.length ∧ RowKit.Hid (s = allF (r.take k)) ∧ Below w.heap.size w V)
  case atStart => exact ⟨0, 0, rfl, rfl, rfl, Nat.zero_le _, Lib.hid rfl, Below.refl _ _⟩
  case round =>
    obtain ⟨k, s, hgk, rfl, rfl, hk, hs, LR⟩ := hrel
    have Hgk := Lib.hid hgk
    clear hgk
    have lR := LR.size
    by_cases hlt : k < r.length
    · obtain ⟨x, hx⟩ : ∃ x, r[k]? = some x := ⟨_, List.getElem?_eq_getElem hlt⟩
      obtain ⟨_, _, e1, h1⟩ := own_arr (own_below HV.out LR)
      simp only [Value.slice.injEq] at e1
      obtain ⟨g1, hb1, hg1, _, y0, y1, y2, y3⟩ := h1 k x hx
      rw [← e1.1] at hb1
      subst hb1
      have j1 : (0 : Int) ≤ (k : Int) := by omega
      have j2 : (k : Int) < (r.length : Int) := by omega
      have j3 : (k : Int) ≤ 65535 := by omega
      have hxN := HN.out x (mem_of_get hx)
      obtain ⟨kx, hkx⟩ : ∃ kx : Nat, x.node = kx := ⟨x.node.toNat, by omega⟩
      have hk64 : kx < 64 := by omega
      have hsl : s < 2 ^ 64 := by rw [hs.out]; exact allF_lt (Hsub.out k)
      have HWi := Lib.hid (fun V b hb => with_one s kx b hsl hk64 V hb)
      have hs2 : s ||| 2 ^ kx = allF (r.take (k + 1)) := by
        rw [List.take_add_one, hx]
        simp only [Option.toList_some]
        rw [allF_snoc, ← hs.out, hkx, Int.toNat_natCast]
      obtain ⟨s2, hs2'⟩ : ∃ s2, s ||| 2 ^ kx = s2 := ⟨_, rfl⟩
      rw [hs2'] at HWi hs2
      have HS2 := Lib.hid hs2
      rw [hkx] at y0
      have LR2 := Lib.hid LR
      clear e1 h1 hx hs2 hs2' hkx hs hsl LR
      go_wp2_with (go_at_call 54; refine (HWi.out _ _ (by go_simp)).mono ?_; rintro e w' ⟨rfl, h⟩; rw [h]; clear h w')
      go_roundg (r.length - (k + 1))
      case measure => have := Hgk.out; omega
      case rel => exact ⟨k + 1, s2, rfl, rfl, by go_num, hlt, HS2, by first | exact (LR2.out.alloc lR _).alloc (by simp; omega) _ | exact ((LR2.out.alloc lR _).alloc (by simp; omega) _).drew⟩
    · obtain rfl : k = r.length := by omega
      have hs2 := hs.out
      rw [List.take_length, Hfin.out] at hs2
      have HS2 := Lib.hid hs2
      have LR2 := Lib.hid LR
      clear hs hs2 LR
      go_wp2_with fail
      go_ret
      exact ⟨by rw [← HS2.out]; rfl, LR2.out⟩
/-- When it came to the last one of some; whether there is one. -/
def lastF (s : Nat) (l : List Arr) : Int := l.foldl (fun a x => if hasR s x.node = true then max a x.time else a) 0
def isF (s : Nat) (l : List Arr) : Bool := l.any fun x => hasR s x.node
theorem lastF_snoc (s : Nat) (l : List Arr) (x : Arr) : lastF s (l ++ [x]) = if hasR s x.node = true then max (lastF s l) x.time else lastF s l := by simp [lastF]
theorem isF_snoc (s : Nat) (l : List Arr) (x : Arr) : isF s (l ++ [x]) = (isF s l || hasR s x.node) := by simp [isF]
theorem lastF_nn (s : Nat) (l : List Arr) : ∀ a : Int, 0 ≤ a → 0 ≤ l.foldl (fun a x => if hasR s x.node = true then max a x.time else a) a := by
  induction l with
  | nil => exact fun a h => h
  | cons x l ih =>
    intro a h
    rw [List.foldl_cons]
    refine ih _ ?_
    split <;> omega
theorem lastF_no (s : Nat) (l : List Arr) (h : isF s l = false) : lastF s l = 0 := by
  have : ∀ (l : List Arr) (a : Int), (∀ x ∈ l, hasR s x.node = false) → l.foldl (fun a x => if hasR s x.node = true then max a x.time else a) a = a := by
    intro l
    induction l with
    | nil => exact fun a _ => rfl
    | cons x l ih =>
      intro a h
      rw [List.foldl_cons, if_neg (by rw [h x (by simp)]; simp), ih a fun y hy => h y (List.mem_cons_of_mem _ hy)]
  refine this l 0 fun x hx => ?_
  simp only [isF, List.any_eq_false] at h
  simpa using h x hx
theorem take_snoc {r : List Arr} {k : Nat} {x : Arr} (hx : r[k]? = some x) : r.take (k + 1) = r.take k ++ [x] := by rw [List.take_add_one, hx]; rfl
set_option maxHeartbeats 4000000 in
theorem last_any (w : World) {base : Nat} {v : Value} {r : List Arr} (hv : w.ownsRow base 71 4 v r.length (arrC r)) (s : Nat) (hs : s < 2 ^ 64) (hT : ∀ x ∈ r, 0 ≤ x.time) (hl : r.length ≤ 64) :
    Calls Tryd.prog 35 #[v, .int .u64 (s : Nat)] w fun e w' => e = .returned (.tuple #[.int .i64 (lastF s r), .bool (isF s r)]) ∧ Below w.heap.size w w' := by
  have HV := Lib.hid hv
  have HT := Lib.hid hT
  obtain ⟨a0, cap0, rfl⟩ := own_form hv
  clear hv hT
  go_enter Tryd.func35, Tryd.ntmps35
  go_wp2_with fail
  go_loopg [6, 7, 12] r.length (fun q v6 v7 v12 V => ∃ (k : Nat) (t : Int) (b : Bool), q = r.length - k ∧ v6 = .int .i64 t ∧ v7 = .bool b ∧ v12 = .int .i64 k ∧ k ≤ r.length ∧ RowKit.Hid (t = lastF s (r.take k) ∧ b = isF s (r.take k)) ∧ Below w.heap.size w V)
  case atStart => exact ⟨0, 0, false, rfl, rfl, rfl, rfl, Nat.zero_le _, Lib.hid ⟨rfl, rfl⟩, Below.refl _ _⟩
  case round =>
    obtain ⟨k, t, b, hgk, rfl, rfl, rfl, hk, htb, LR⟩ := hrel
    have Hgk := Lib.hid hgk
    clear hgk
    have lR := LR.size
    by_cases hlt : k < r.length
    · obtain ⟨x, hx⟩ : ∃ x, r[k]? = some x := ⟨_, List.getElem?_eq_getElem hlt⟩
      obtain ⟨_, _, e1, h1⟩ := own_arr (own_below HV.out LR)
      simp only [Value.slice.injEq] at e1
      obtain ⟨g1, hb1, hg1, _, y0, y1, y2, y3⟩ := h1 k x hx
      rw [← e1.1] at hb1
      subst hb1
      have j1 : (0 : Int) ≤ (k : Int) := by omega
      have j2 : (k : Int) < (r.length : Int) := by omega
      have j3 : (k : Int) ≤ 65535 := by omega
      have hxT := HT.out x (mem_of_get hx)
      have ht0 : 0 ≤ t := by rw [htb.out.1]; exact lastF_nn _ _ _ (Int.le_refl _)
      have hno : b = false → t = 0 := fun h => by rw [htb.out.1]; exact lastF_no _ _ (by rw [← htb.out.2, h])
      have hnx : lastF s (r.take (k + 1)) = (if hasR s x.node = true then max t x.time else t) ∧ isF s (r.take (k + 1)) = (b || hasR s x.node) := by
        rw [take_snoc hx, lastF_snoc, isF_snoc, ← htb.out.1, ← htb.out.2]; exact ⟨rfl, rfl⟩
      have HHs := Lib.hid (fun V => has_any s hs x.node V)
      obtain ⟨h, hh⟩ : ∃ h, hasR s x.node = h := ⟨_, rfl⟩
      rw [hh] at HHs hnx
      have Hnx := Lib.hid hnx
      have LR2 : RowKit.Hid (∀ o, Below w.heap.size w (wr.alloc o)) := Lib.hid fun o => LR.alloc lR _
      clear e1 h1 hx hh hnx htb LR
      rcases h with _ | _
      · go_wp2_with (go_at_call 57; refine (HHs.out _).mono ?_; rintro e w' ⟨rfl, h⟩; rw [h]; clear h w')
        go_roundg (r.length - (k + 1))
        case measure => have := Hgk.out; omega
        case rel => exact ⟨k + 1, t, b, rfl, rfl, rfl, by go_num, hlt, Lib.hid ⟨by rw [Hnx.out.1]; simp, by rw [Hnx.out.2]; simp⟩, LR2.out _⟩
      · rcases b with _ | _
        · have ht := hno rfl
          have Hn2 : RowKit.Hid (lastF s (r.take (k + 1)) = x.time) := Lib.hid (by rw [Hnx.out.1, if_pos rfl]; omega)
          clear hno
          go_wp2_with (go_at_call 57; refine (HHs.out _).mono ?_; rintro e w' ⟨rfl, h⟩; rw [h]; clear h w')
          go_roundg (r.length - (k + 1))
          case measure => have := Hgk.out; omega
          case rel => exact ⟨k + 1, x.time, true, rfl, rfl, rfl, by go_num, hlt, Lib.hid ⟨Hn2.out.symm, by rw [Hnx.out.2]; rfl⟩, LR2.out _⟩
        · clear hno
          rcases hlx : decide (t < x.time) with _ | _
          · have Hn2 : RowKit.Hid (lastF s (r.take (k + 1)) = t) := Lib.hid (by
              have : ¬ t < x.time := by simpa using hlx
              rw [Hnx.out.1, if_pos rfl]; omega)
            go_wp2_with (go_at_call 57; refine (HHs.out _).mono ?_; rintro e w' ⟨rfl, h⟩; rw [h]; clear h w')
            go_roundg (r.length - (k + 1))
            case measure => have := Hgk.out; omega
            case rel => exact ⟨k + 1, t, true, rfl, rfl, rfl, by go_num, hlt, Lib.hid ⟨Hn2.out.symm, by rw [Hnx.out.2]; rfl⟩, LR2.out _⟩
          · have Hn2 : RowKit.Hid (lastF s (r.take (k + 1)) = x.time) := Lib.hid (by
              have : t < x.time := by simpa using hlx
              rw [Hnx.out.1, if_pos rfl]; omega)
            go_wp2_with (go_at_call 57; refine (HHs.out _).mono ?_; rintro e w' ⟨rfl, h⟩; rw [h]; clear h w')
            go_roundg (r.length - (k + 1))
            case measure => have := Hgk.out; omega
            case rel => exact ⟨k + 1, x.time, true, rfl, rfl, rfl, by go_num, hlt, Lib.hid ⟨Hn2.out.symm, by rw [Hnx.out.2]; rfl⟩, LR2.out _⟩
    · obtain rfl : k = r.length := by omega
      have h2 := htb.out
      rw [List.take_length] at h2
      have H2 := Lib.hid h2
      have LR2 := Lib.hid LR
      clear h2 htb LR
      go_wp2_with fail
      go_ret2
      exact ⟨by rw [← H2.out.1, ← H2.out.2]; rfl, LR2.out⟩
/-- Does a step of a path stand in the list? -/
def stepP (u v : Int) (i : Nat) (x : Arr) : Bool := (x.node == v) && ((x.frm == u) && (x.hops == (i : Int)))
def okP (r : List Arr) (u v : Int) (i j : Nat) : Bool := (r.take j).any (stepP u v i)
theorem okP_succ {r : List Arr} {u v : Int} {i j : Nat} {x : Arr} (h : r[j]? = some x) : okP r u v i (j + 1) = (okP r u v i j || stepP u v i x) := by
  unfold okP
  rw [take_snoc h, List.any_append]
  simp
set_option maxHeartbeats 8000000 in
theorem lawpath_any {src : Int} {z : Arr} (w : World) {b1 b2 : Nat} {v1 v2 : Value} {r : List Arr} {p : List Int} (h1 : w.ownsRow b1 70 4 v1 r.length (arrC r)) (h2 : w.ownsRow b2 3 1 v2 p.length (ic p)) (hok : PathOk r src z p) (hl : r.length ≤ 64) (hp : p.length ≤ 100) :
    Calls Tryd.prog 38 #[v1, v2] w fun e w' => e = .returned (.bool true) ∧ Below w.heap.size w w' := by
  have hpos : 0 < p.length := lt_of_get hok.first
  obtain ⟨gp, cp, rfl, _, hgs⟩ := h2.form hpos
  have H1 := Lib.hid h1
  have H2 := Lib.hid h2
  have HO := Lib.hid hok.step
  obtain ⟨a1, c1, rfl⟩ := own_form h1
  clear h1 h2 hok
  go_enter Tryd.func38, Tryd.ntmps38
  go_wp2_with fail
  go_loopg [5] (p.length - 1) (fun q v5 V => ∃ i : Nat, q = p.length - i ∧ v5 = .int .i64 i ∧ 1 ≤ i ∧ i ≤ p.length ∧ Below w.heap.size w V)
  case atStart => exact ⟨1, rfl, rfl, Nat.le_refl _, hpos, Below.refl _ _⟩
  case round =>
    obtain ⟨i, hgi, rfl, hi1, hi, LR⟩ := hrel
    have Hgi := Lib.hid hgi
    clear hgi
    have lR := LR.size
    by_cases hlt : i < p.length
    · obtain ⟨v, hv⟩ : ∃ v, p[i]? = some v := ⟨_, List.getElem?_eq_getElem hlt⟩
      obtain ⟨u, hu⟩ : ∃ u, p[i - 1]? = some u := ⟨_, List.getElem?_eq_getElem (by omega)⟩
      have hyes : okP r u v i r.length = true := by
        obtain ⟨y, hy, e1, e2, e3⟩ := HO.out (i - 1) u v hu (by rw [show i - 1 + 1 = i by omega]; exact hv)
        rw [show i - 1 + 1 = i by omega] at e3
        unfold okP
        rw [List.take_length]
        exact List.any_eq_true.2 ⟨y, hy, by simp [stepP, e1, e2, e3]⟩
      have Hyes := Lib.hid hyes
      have hcp : ∀ V, Below w.heap.size w V → V.cell? ⟨gp, i, none⟩ = some (.int .i64 v) ∧ V.cell? ⟨gp, i - 1, none⟩ = some (.int .i64 u) := fun V kV => by
        have ho := own_below H2.out kV
        refine ⟨?_, ?_⟩
        · rw [ho.cellAt i (by omega)]; simp [hv]
        · rw [ho.cellAt (i - 1) (by omega)]; simp [hu]
      have Hcp := Lib.hid hcp
      have i1 : (0 : Int) ≤ (i : Int) := by omega
      have i2 : (i : Int) < (p.length : Int) := by omega
      have i3 : (i : Int) ≤ 65535 := by omega
      have i4 : (1 : Int) ≤ (i : Int) := by omega
      have i5 : (i : Int) - 1 < (p.length : Int) := by omega
      have i6 : IntKind.i64.wrap ((i : Int) - 1) = (i : Int) - 1 := IntWalk.i64_in _ (by omega)
      have i7 : ((i : Int) - 1).toNat = i - 1 := by omega
      have LR0 := Lib.hid LR
      clear hyes hcp hv hu LR
      go_wp2_with fail
      go_loopg [6, 17] r.length (fun q v6 v17 V => ∃ j : Nat, q = r.length - j ∧ v6 = .bool (okP r u v i j) ∧ v17 = .int .i64 j ∧ j ≤ r.length ∧ Below w.heap.size w V)
      case atStart => exact ⟨0, rfl, rfl, rfl, Nat.zero_le _, LR0.out⟩
      case round =>
        obtain ⟨j, hgj, rfl, rfl, hj, LI⟩ := hrel
        have Hgj := Lib.hid hgj
        clear hgj
        have lI := LI.size
        by_cases hjl : j < r.length
        · obtain ⟨x, hx⟩ : ∃ x, r[j]? = some x := ⟨_, List.getElem?_eq_getElem hjl⟩
          obtain ⟨_, _, e1, h1⟩ := own_arr (own_below H1.out LI)
          simp only [Value.slice.injEq] at e1
          obtain ⟨g1, hb1, hg1, _, y0, y1, y2, y3⟩ := h1 j x hx
          rw [← e1.1] at hb1
          subst hb1
          have j1 : (0 : Int) ≤ (j : Int) := by omega
          have j2 : (j : Int) < (r.length : Int) := by omega
          have j3 : (j : Int) ≤ 65535 := by omega
          have Hnx := Lib.hid (okP_succ (u := u) (v := v) (i := i) hx)
          obtain ⟨okj, hokj⟩ : ∃ b, okP r u v i j = b := ⟨_, rfl⟩
          rw [hokj] at Hnx
          rw [hokj]
          clear e1 h1 hx hokj
          go_upto_region 8 with (fail)
          obtain ⟨X, hX⟩ : ∃ X, wr.heap.size = X := ⟨_, rfl⟩
          obtain ⟨wu, hU⟩ : ∃ U, wr.alloc (.cells #[.int .i64 x.node, .int .i64 x.time, .int .i64 x.hops, .int .i64 x.frm] 70) = U := ⟨_, rfl⟩
          have bU : Blk wu X 70 #[.int .i64 x.node, .int .i64 x.time, .int .i64 x.hops, .int .i64 x.frm] := by rw [← hU, ← hX]; exact Blk.new wr _ _
          have LV : RowKit.Hid (Below w.heap.size w wu) := Lib.hid (by rw [← hU]; exact LI.alloc lI _)
          have x0 : wu.cell? ⟨X, 0, none⟩ = some (.int .i64 x.node) := bU.cell 0
          have x2 : wu.cell? ⟨X, 2, none⟩ = some (.int .i64 x.hops) := bU.cell 2
          have x3 : wu.cell? ⟨X, 3, none⟩ = some (.int .i64 x.frm) := bU.cell 3
          obtain ⟨cv, cu⟩ := Hcp.out wu LV.out
          rw [hU, hX]
          clear hU bU y0 y1 y2 y3 LI
          rcases okj with _ | _
          · rcases f1 : (x.node == v) with _ | _
            · skip
              have Hn2 := Lib.hid (show okP r u v i (j + 1) = false from by rw [Hnx.out, stepP, f1]; rfl)
              refine wp_region_held_drew (S := fun w' => w'.cell? ⟨X, 0, none⟩ = some (.int .i64 x.node) ∧ w'.cell? ⟨X, 2, none⟩ = some (.int .i64 x.hops) ∧ w'.cell? ⟨X, 3, none⟩ = some (.int .i64 x.frm) ∧ w'.cell? ⟨gp, i, none⟩ = some (.int .i64 v) ∧ w'.cell? ⟨gp, i - 1, none⟩ = some (.int .i64 u)) (by kernel_rfl) ⟨x0, x2, x3, cv, cu⟩ (fun hHeld => ?_)
              refine Take.take (i := 0) (oi := _) (t := 21) (v := ?v5) rfl (by kernel_rfl) (by kernel_rfl) (by kernel_rfl) (by kernel_rfl) (fun _ _ _ h => h) (by kernel_rfl) ?hy5 (by assumption) ?_
              case hy5 => (intro w hSw; (try dsimp only at hSw); go_simp; try with_reducible rfl)
              try simp only [Act.put, List.setIfInBounds_toArray, List.set_cons_zero, List.set_cons_succ]
              refine Take.take (i := 1) (oi := _) (t := 22) (v := ?v6) rfl (by kernel_rfl) (by kernel_rfl) (by kernel_rfl) (by kernel_rfl) (fun _ _ _ h => h) (by kernel_rfl) ?hy6 (by assumption) ?_
              case hy6 => (intro w hSw; (try dsimp only at hSw); go_simp; try with_reducible rfl)
              try simp only [Act.put, List.setIfInBounds_toArray, List.set_cons_zero, List.set_cons_succ]
              refine Take.take (i := 2) (oi := _) (t := 23) (v := ?v7) rfl (by kernel_rfl) (by kernel_rfl) (by kernel_rfl) (by kernel_rfl) (fun _ _ _ h => h) (by kernel_rfl) ?hy7 (by assumption) ?_
              case hy7 => (intro w hSw; (try dsimp only at hSw); go_simp; try with_reducible rfl)
              try simp only [Act.put, List.setIfInBounds_toArray, List.set_cons_zero, List.set_cons_succ]
              refine Take.take (i := 3) (oi := _) (t := 24) (v := ?v8) rfl (by kernel_rfl) (by kernel_rfl) (by kernel_rfl) (by kernel_rfl) (fun _ _ _ h => h) (by kernel_rfl) ?hy8 (by assumption) ?_
              case hy8 => (intro w hSw; (try dsimp only at hSw); go_simp; try with_reducible rfl)
              try simp only [Act.put, List.setIfInBounds_toArray, List.set_cons_zero, List.set_cons_succ]
              refine Take.take (i := 4) (oi := _) (t := 25) (v := ?v9) rfl (by kernel_rfl) (by kernel_rfl) (by kernel_rfl) (by kernel_rfl) (fun _ _ _ h => h) (by kernel_rfl) ?hy9 (by assumption) ?_
              case hy9 => (intro w hSw; (try dsimp only at hSw); go_simp; try with_reducible rfl)
              try simp only [Act.put, List.setIfInBounds_toArray, List.set_cons_zero, List.set_cons_succ]
              refine Take.take (i := 5) (oi := _) (t := 26) (v := ?v10) rfl (by kernel_rfl) (by kernel_rfl) (by kernel_rfl) (by kernel_rfl) (fun _ _ _ h => h) (by kernel_rfl) ?hy10 (by assumption) ?_
              case hy10 => (intro w hSw; (try dsimp only at hSw); go_simp; try with_reducible rfl)
              try simp only [Act.put, List.setIfInBounds_toArray, List.set_cons_zero, List.set_cons_succ]
              refine Take.take (i := 6) (oi := _) (t := 27) (v := ?v11) rfl (by kernel_rfl) (by kernel_rfl) (by kernel_rfl) (by kernel_rfl) (fun _ _ _ h => h) (by kernel_rfl) ?hy11 (by assumption) ?_
              case hy11 => (intro w hSw; (try dsimp only at hSw); go_simp; try with_reducible rfl)
              try simp only [Act.put, List.setIfInBounds_toArray, List.set_cons_zero, List.set_cons_succ]
              refine Take.take (i := 7) (oi := _) (t := 28) (v := ?v12) rfl (by kernel_rfl) (by kernel_rfl) (by kernel_rfl) (by kernel_rfl) (fun _ _ _ h => h) (by kernel_rfl) ?hy12 (by assumption) ?_
              case hy12 => (intro w hSw; (try dsimp only at hSw); go_simp; try with_reducible rfl)
              try simp only [Act.put, List.setIfInBounds_toArray, List.set_cons_zero, List.set_cons_succ]
              refine Take.take (i := 8) (oi := _) (t := 29) (v := ?v13) rfl (by kernel_rfl) (by kernel_rfl) (by kernel_rfl) (by kernel_rfl) (fun _ _ _ h => h) (by kernel_rfl) ?hy13 (by assumption) ?_
              case hy13 => (intro w hSw; (try dsimp only at hSw); go_simp; try with_reducible rfl)
              try simp only [Act.put, List.setIfInBounds_toArray, List.set_cons_zero, List.set_cons_succ]
              refine Take.take (i := 9) (oi := _) (t := 30) (v := ?v14) rfl (by kernel_rfl) (by kernel_rfl) (by kernel_rfl) (by kernel_rfl) (fun _ _ _ h => h) (by kernel_rfl) ?hy14 (by assumption) ?_
              case hy14 => (intro w hSw; (try dsimp only at hSw); go_simp; try with_reducible rfl)
              try simp only [Act.put, List.setIfInBounds_toArray, List.set_cons_zero, List.set_cons_succ]
              refine Take.skip (i := 10) (t := 31) (g := 9) (b := true) (by kernel_rfl) (by kernel_rfl) (by kernel_rfl) (by kernel_rfl) (fun _ _ _ h => h) (by kernel_rfl) (by assumption) ?_
              try simp only [Act.put, List.setIfInBounds_toArray, List.set_cons_zero, List.set_cons_succ]
              refine Take.skip (i := 11) (t := 32) (g := 9) (b := true) (by kernel_rfl) (by kernel_rfl) (by kernel_rfl) (by kernel_rfl) (fun _ _ _ h => h) (by kernel_rfl) (by assumption) ?_
              try simp only [Act.put, List.setIfInBounds_toArray, List.set_cons_zero, List.set_cons_succ]
              refine Take.skip (i := 12) (t := 33) (g := 9) (b := true) (by kernel_rfl) (by kernel_rfl) (by kernel_rfl) (by kernel_rfl) (fun _ _ _ h => h) (by kernel_rfl) (by assumption) ?_
              try simp only [Act.put, List.setIfInBounds_toArray, List.set_cons_zero, List.set_cons_succ]
              refine Take.skip (i := 13) (t := 34) (g := 9) (b := true) (by kernel_rfl) (by kernel_rfl) (by kernel_rfl) (by kernel_rfl) (fun _ _ _ h => h) (by kernel_rfl) (by assumption) ?_
              try simp only [Act.put, List.setIfInBounds_toArray, List.set_cons_zero, List.set_cons_succ]
              refine Take.skip (i := 14) (t := 35) (g := 9) (b := true) (by kernel_rfl) (by kernel_rfl) (by kernel_rfl) (by kernel_rfl) (fun _ _ _ h => h) (by kernel_rfl) (by assumption) ?_
              try simp only [Act.put, List.setIfInBounds_toArray, List.set_cons_zero, List.set_cons_succ]
              refine Take.skip (i := 15) (t := 36) (g := 9) (b := true) (by kernel_rfl) (by kernel_rfl) (by kernel_rfl) (by kernel_rfl) (fun _ _ _ h => h) (by kernel_rfl) (by assumption) ?_
              try simp only [Act.put, List.setIfInBounds_toArray, List.set_cons_zero, List.set_cons_succ]
              refine Take.skip (i := 16) (t := 37) (g := 9) (b := true) (by kernel_rfl) (by kernel_rfl) (by kernel_rfl) (by kernel_rfl) (fun _ _ _ h => h) (by kernel_rfl) (by assumption) ?_
              try simp only [Act.put, List.setIfInBounds_toArray, List.set_cons_zero, List.set_cons_succ]
              refine Take.skip (i := 17) (t := 38) (g := 9) (b := true) (by kernel_rfl) (by kernel_rfl) (by kernel_rfl) (by kernel_rfl) (fun _ _ _ h => h) (by kernel_rfl) (by assumption) ?_
              try simp only [Act.put, List.setIfInBounds_toArray, List.set_cons_zero, List.set_cons_succ]
              refine Take.take (i := 18) (oi := _) (t := 39) (v := ?v15) rfl (by kernel_rfl) (by kernel_rfl) (by kernel_rfl) (by kernel_rfl) (fun _ _ _ h => h) (by kernel_rfl) ?hy15 (by assumption) ?_
              case hy15 => (intro w hSw; (try dsimp only at hSw); go_simp; try with_reducible rfl)
              try simp only [Act.put, List.setIfInBounds_toArray, List.set_cons_zero, List.set_cons_succ]
              refine Take.take (i := 19) (oi := _) (t := 40) (v := ?v16) rfl (by kernel_rfl) (by kernel_rfl) (by kernel_rfl) (by kernel_rfl) (fun _ _ _ h => h) (by kernel_rfl) ?hy16 (by assumption) ?_
              case hy16 => (intro w hSw; (try dsimp only at hSw); go_simp; try with_reducible rfl)
              try simp only [Act.put, List.setIfInBounds_toArray, List.set_cons_zero, List.set_cons_succ]
              refine Take.skip (i := 20) (t := 41) (g := 19) (b := true) (by kernel_rfl) (by kernel_rfl) (by kernel_rfl) (by kernel_rfl) (fun _ _ _ h => h) (by kernel_rfl) (by assumption) ?_
              try simp only [Act.put, List.setIfInBounds_toArray, List.set_cons_zero, List.set_cons_succ]
              refine Take.skip (i := 21) (t := 42) (g := 19) (b := true) (by kernel_rfl) (by kernel_rfl) (by kernel_rfl) (by kernel_rfl) (fun _ _ _ h => h) (by kernel_rfl) (by assumption) ?_
              try simp only [Act.put, List.setIfInBounds_toArray, List.set_cons_zero, List.set_cons_succ]
              refine Take.skip (i := 22) (t := 43) (g := 19) (b := true) (by kernel_rfl) (by kernel_rfl) (by kernel_rfl) (by kernel_rfl) (fun _ _ _ h => h) (by kernel_rfl) (by assumption) ?_
              try simp only [Act.put, List.setIfInBounds_toArray, List.set_cons_zero, List.set_cons_succ]
              refine Take.skip (i := 23) (t := 44) (g := 19) (b := true) (by kernel_rfl) (by kernel_rfl) (by kernel_rfl) (by kernel_rfl) (fun _ _ _ h => h) (by kernel_rfl) (by assumption) ?_
              try simp only [Act.put, List.setIfInBounds_toArray, List.set_cons_zero, List.set_cons_succ]
              refine Take.take (i := 24) (oi := _) (t := 45) (v := ?v17) rfl (by kernel_rfl) (by kernel_rfl) (by kernel_rfl) (by kernel_rfl) (fun _ _ _ h => h) (by kernel_rfl) ?hy17 (by assumption) ?_
              case hy17 => (intro w hSw; (try dsimp only at hSw); go_simp; try with_reducible rfl)
              try simp only [Act.put, List.setIfInBounds_toArray, List.set_cons_zero, List.set_cons_succ]
              refine Take.take (i := 25) (oi := _) (t := 46) (v := ?v18) rfl (by kernel_rfl) (by kernel_rfl) (by kernel_rfl) (by kernel_rfl) (fun _ _ _ h => h) (by kernel_rfl) ?hy18 (by assumption) ?_
              case hy18 => (intro w hSw; (try dsimp only at hSw); go_simp; try with_reducible rfl)
              try simp only [Act.put, List.setIfInBounds_toArray, List.set_cons_zero, List.set_cons_succ]
              refine Take.take (i := 26) (oi := _) (t := 6) (v := ?v19) rfl (by kernel_rfl) (by kernel_rfl) (by kernel_rfl) (by kernel_rfl) (fun _ _ _ h => h) (by kernel_rfl) ?hy19 (by assumption) ?_
              case hy19 => (intro w hSw; (try dsimp only at hSw); go_simp; try with_reducible rfl)
              try simp only [Act.put, List.setIfInBounds_toArray, List.set_cons_zero, List.set_cons_succ]
              refine wpAnyH_done (by kernel_rfl) ?_ _
              go_wp2_with fail
              go_roundg (r.length - (j + 1))
              case measure => have := Hgj.out; omega
              case rel => exact ⟨j + 1, rfl, by rw [Hn2.out], by go_num, hjl, LV.out.drew⟩
            · rcases f2 : (x.frm == u) with _ | _
              · skip
                have Hn2 := Lib.hid (show okP r u v i (j + 1) = false from by rw [Hnx.out, stepP, f1, f2]; rfl)
                refine wp_region_held_drew (S := fun w' => w'.cell? ⟨X, 0, none⟩ = some (.int .i64 x.node) ∧ w'.cell? ⟨X, 2, none⟩ = some (.int .i64 x.hops) ∧ w'.cell? ⟨X, 3, none⟩ = some (.int .i64 x.frm) ∧ w'.cell? ⟨gp, i, none⟩ = some (.int .i64 v) ∧ w'.cell? ⟨gp, i - 1, none⟩ = some (.int .i64 u)) (by kernel_rfl) ⟨x0, x2, x3, cv, cu⟩ (fun hHeld => ?_)
                refine Take.take (i := 0) (oi := _) (t := 21) (v := ?v20) rfl (by kernel_rfl) (by kernel_rfl) (by kernel_rfl) (by kernel_rfl) (fun _ _ _ h => h) (by kernel_rfl) ?hy20 (by assumption) ?_
                case hy20 => (intro w hSw; (try dsimp only at hSw); go_simp; try with_reducible rfl)
                try simp only [Act.put, List.setIfInBounds_toArray, List.set_cons_zero, List.set_cons_succ]
                refine Take.take (i := 1) (oi := _) (t := 22) (v := ?v21) rfl (by kernel_rfl) (by kernel_rfl) (by kernel_rfl) (by kernel_rfl) (fun _ _ _ h => h) (by kernel_rfl) ?hy21 (by assumption) ?_
                case hy21 => (intro w hSw; (try dsimp only at hSw); go_simp; try with_reducible rfl)
                try simp only [Act.put, List.setIfInBounds_toArray, List.set_cons_zero, List.set_cons_succ]
                refine Take.take (i := 2) (oi := _) (t := 23) (v := ?v22) rfl (by kernel_rfl) (by kernel_rfl) (by kernel_rfl) (by kernel_rfl) (fun _ _ _ h => h) (by kernel_rfl) ?hy22 (by assumption) ?_
                case hy22 => (intro w hSw; (try dsimp only at hSw); go_simp; try with_reducible rfl)
                try simp only [Act.put, List.setIfInBounds_toArray, List.set_cons_zero, List.set_cons_succ]
                refine Take.take (i := 3) (oi := _) (t := 24) (v := ?v23) rfl (by kernel_rfl) (by kernel_rfl) (by kernel_rfl) (by kernel_rfl) (fun _ _ _ h => h) (by kernel_rfl) ?hy23 (by assumption) ?_
                case hy23 => (intro w hSw; (try dsimp only at hSw); go_simp; try with_reducible rfl)
                try simp only [Act.put, List.setIfInBounds_toArray, List.set_cons_zero, List.set_cons_succ]
                refine Take.take (i := 4) (oi := _) (t := 25) (v := ?v24) rfl (by kernel_rfl) (by kernel_rfl) (by kernel_rfl) (by kernel_rfl) (fun _ _ _ h => h) (by kernel_rfl) ?hy24 (by assumption) ?_
                case hy24 => (intro w hSw; (try dsimp only at hSw); go_simp; try with_reducible rfl)
                try simp only [Act.put, List.setIfInBounds_toArray, List.set_cons_zero, List.set_cons_succ]
                refine Take.take (i := 5) (oi := _) (t := 26) (v := ?v25) rfl (by kernel_rfl) (by kernel_rfl) (by kernel_rfl) (by kernel_rfl) (fun _ _ _ h => h) (by kernel_rfl) ?hy25 (by assumption) ?_
                case hy25 => (intro w hSw; (try dsimp only at hSw); go_simp; try with_reducible rfl)
                try simp only [Act.put, List.setIfInBounds_toArray, List.set_cons_zero, List.set_cons_succ]
                refine Take.take (i := 6) (oi := _) (t := 27) (v := ?v26) rfl (by kernel_rfl) (by kernel_rfl) (by kernel_rfl) (by kernel_rfl) (fun _ _ _ h => h) (by kernel_rfl) ?hy26 (by assumption) ?_
                case hy26 => (intro w hSw; (try dsimp only at hSw); go_simp; try with_reducible rfl)
                try simp only [Act.put, List.setIfInBounds_toArray, List.set_cons_zero, List.set_cons_succ]
                refine Take.take (i := 7) (oi := _) (t := 28) (v := ?v27) rfl (by kernel_rfl) (by kernel_rfl) (by kernel_rfl) (by kernel_rfl) (fun _ _ _ h => h) (by kernel_rfl) ?hy27 (by assumption) ?_
                case hy27 => (intro w hSw; (try dsimp only at hSw); go_simp; try with_reducible rfl)
                try simp only [Act.put, List.setIfInBounds_toArray, List.set_cons_zero, List.set_cons_succ]
                refine Take.take (i := 8) (oi := _) (t := 29) (v := ?v28) rfl (by kernel_rfl) (by kernel_rfl) (by kernel_rfl) (by kernel_rfl) (fun _ _ _ h => h) (by kernel_rfl) ?hy28 (by assumption) ?_
                case hy28 => (intro w hSw; (try dsimp only at hSw); go_simp; try with_reducible rfl)
                try simp only [Act.put, List.setIfInBounds_toArray, List.set_cons_zero, List.set_cons_succ]
                refine Take.take (i := 9) (oi := _) (t := 30) (v := ?v29) rfl (by kernel_rfl) (by kernel_rfl) (by kernel_rfl) (by kernel_rfl) (fun _ _ _ h => h) (by kernel_rfl) ?hy29 (by assumption) ?_
                case hy29 => (intro w hSw; (try dsimp only at hSw); go_simp; try with_reducible rfl)
                try simp only [Act.put, List.setIfInBounds_toArray, List.set_cons_zero, List.set_cons_succ]
                refine Take.take (i := 10) (oi := _) (t := 31) (v := ?v30) rfl (by kernel_rfl) (by kernel_rfl) (by kernel_rfl) (by kernel_rfl) (fun _ _ _ h => h) (by kernel_rfl) ?hy30 (by assumption) ?_
                case hy30 => (intro w hSw; (try dsimp only at hSw); go_simp; try with_reducible rfl)
                try simp only [Act.put, List.setIfInBounds_toArray, List.set_cons_zero, List.set_cons_succ]
                refine Take.take (i := 11) (oi := _) (t := 32) (v := ?v31) rfl (by kernel_rfl) (by kernel_rfl) (by kernel_rfl) (by kernel_rfl) (fun _ _ _ h => h) (by kernel_rfl) ?hy31 (by assumption) ?_
                case hy31 => (intro w hSw; (try dsimp only at hSw); go_simp; try with_reducible rfl)
                try simp only [Act.put, List.setIfInBounds_toArray, List.set_cons_zero, List.set_cons_succ]
                refine Take.take (i := 12) (oi := _) (t := 33) (v := ?v32) rfl (by kernel_rfl) (by kernel_rfl) (by kernel_rfl) (by kernel_rfl) (fun _ _ _ h => h) (by kernel_rfl) ?hy32 (by assumption) ?_
                case hy32 => (intro w hSw; (try dsimp only at hSw); go_simp; try with_reducible rfl)
                try simp only [Act.put, List.setIfInBounds_toArray, List.set_cons_zero, List.set_cons_succ]
                refine Take.take (i := 13) (oi := _) (t := 34) (v := ?v33) rfl (by kernel_rfl) (by kernel_rfl) (by kernel_rfl) (by kernel_rfl) (fun _ _ _ h => h) (by kernel_rfl) ?hy33 (by assumption) ?_
                case hy33 => (intro w hSw; (try dsimp only at hSw); go_simp; try with_reducible rfl)
                try simp only [Act.put, List.setIfInBounds_toArray, List.set_cons_zero, List.set_cons_succ]
                refine Take.take (i := 14) (oi := _) (t := 35) (v := ?v34) rfl (by kernel_rfl) (by kernel_rfl) (by kernel_rfl) (by kernel_rfl) (fun _ _ _ h => h) (by kernel_rfl) ?hy34 (by assumption) ?_
                case hy34 => (intro w hSw; (try dsimp only at hSw); go_simp; try with_reducible rfl)
                try simp only [Act.put, List.setIfInBounds_toArray, List.set_cons_zero, List.set_cons_succ]
                refine Take.take (i := 15) (oi := _) (t := 36) (v := ?v35) rfl (by kernel_rfl) (by kernel_rfl) (by kernel_rfl) (by kernel_rfl) (fun _ _ _ h => h) (by kernel_rfl) ?hy35 (by assumption) ?_
                case hy35 => (intro w hSw; (try dsimp only at hSw); go_simp; try with_reducible rfl)
                try simp only [Act.put, List.setIfInBounds_toArray, List.set_cons_zero, List.set_cons_succ]
                refine Take.take (i := 16) (oi := _) (t := 37) (v := ?v36) rfl (by kernel_rfl) (by kernel_rfl) (by kernel_rfl) (by kernel_rfl) (fun _ _ _ h => h) (by kernel_rfl) ?hy36 (by assumption) ?_
                case hy36 => (intro w hSw; (try dsimp only at hSw); go_simp; try with_reducible rfl)
                try simp only [Act.put, List.setIfInBounds_toArray, List.set_cons_zero, List.set_cons_succ]
                refine Take.take (i := 17) (oi := _) (t := 38) (v := ?v37) rfl (by kernel_rfl) (by kernel_rfl) (by kernel_rfl) (by kernel_rfl) (fun _ _ _ h => h) (by kernel_rfl) ?hy37 (by assumption) ?_
                case hy37 => (intro w hSw; (try dsimp only at hSw); go_simp; try with_reducible rfl)
                try simp only [Act.put, List.setIfInBounds_toArray, List.set_cons_zero, List.set_cons_succ]
                refine Take.take (i := 18) (oi := _) (t := 39) (v := ?v38) rfl (by kernel_rfl) (by kernel_rfl) (by kernel_rfl) (by kernel_rfl) (fun _ _ _ h => h) (by kernel_rfl) ?hy38 (by assumption) ?_
                case hy38 => (intro w hSw; (try dsimp only at hSw); go_simp; try with_reducible rfl)
                try simp only [Act.put, List.setIfInBounds_toArray, List.set_cons_zero, List.set_cons_succ]
                refine Take.take (i := 19) (oi := _) (t := 40) (v := ?v39) rfl (by kernel_rfl) (by kernel_rfl) (by kernel_rfl) (by kernel_rfl) (fun _ _ _ h => h) (by kernel_rfl) ?hy39 (by assumption) ?_
                case hy39 => (intro w hSw; (try dsimp only at hSw); go_simp; try with_reducible rfl)
                try simp only [Act.put, List.setIfInBounds_toArray, List.set_cons_zero, List.set_cons_succ]
                refine Take.skip (i := 20) (t := 41) (g := 19) (b := true) (by kernel_rfl) (by kernel_rfl) (by kernel_rfl) (by kernel_rfl) (fun _ _ _ h => h) (by kernel_rfl) (by assumption) ?_
                try simp only [Act.put, List.setIfInBounds_toArray, List.set_cons_zero, List.set_cons_succ]
                refine Take.skip (i := 21) (t := 42) (g := 19) (b := true) (by kernel_rfl) (by kernel_rfl) (by kernel_rfl) (by kernel_rfl) (fun _ _ _ h => h) (by kernel_rfl) (by assumption) ?_
                try simp only [Act.put, List.setIfInBounds_toArray, List.set_cons_zero, List.set_cons_succ]
                refine Take.skip (i := 22) (t := 43) (g := 19) (b := true) (by kernel_rfl) (by kernel_rfl) (by kernel_rfl) (by kernel_rfl) (fun _ _ _ h => h) (by kernel_rfl) (by assumption) ?_
                try simp only [Act.put, List.setIfInBounds_toArray, List.set_cons_zero, List.set_cons_succ]
                refine Take.skip (i := 23) (t := 44) (g := 19) (b := true) (by kernel_rfl) (by kernel_rfl) (by kernel_rfl) (by kernel_rfl) (fun _ _ _ h => h) (by kernel_rfl) (by assumption) ?_
                try simp only [Act.put, List.setIfInBounds_toArray, List.set_cons_zero, List.set_cons_succ]
                refine Take.take (i := 24) (oi := _) (t := 45) (v := ?v40) rfl (by kernel_rfl) (by kernel_rfl) (by kernel_rfl) (by kernel_rfl) (fun _ _ _ h => h) (by kernel_rfl) ?hy40 (by assumption) ?_
                case hy40 => (intro w hSw; (try dsimp only at hSw); go_simp; try with_reducible rfl)
                try simp only [Act.put, List.setIfInBounds_toArray, List.set_cons_zero, List.set_cons_succ]
                refine Take.take (i := 25) (oi := _) (t := 46) (v := ?v41) rfl (by kernel_rfl) (by kernel_rfl) (by kernel_rfl) (by kernel_rfl) (fun _ _ _ h => h) (by kernel_rfl) ?hy41 (by assumption) ?_
                case hy41 => (intro w hSw; (try dsimp only at hSw); go_simp; try with_reducible rfl)
                try simp only [Act.put, List.setIfInBounds_toArray, List.set_cons_zero, List.set_cons_succ]
                refine Take.take (i := 26) (oi := _) (t := 6) (v := ?v42) rfl (by kernel_rfl) (by kernel_rfl) (by kernel_rfl) (by kernel_rfl) (fun _ _ _ h => h) (by kernel_rfl) ?hy42 (by assumption) ?_
                case hy42 => (intro w hSw; (try dsimp only at hSw); go_simp; try with_reducible rfl)
                try simp only [Act.put, List.setIfInBounds_toArray, List.set_cons_zero, List.set_cons_succ]
                refine wpAnyH_done (by kernel_rfl) ?_ _
                go_wp2_with fail
                go_roundg (r.length - (j + 1))
                case measure => have := Hgj.out; omega
                case rel => exact ⟨j + 1, rfl, by rw [Hn2.out], by go_num, hjl, LV.out.drew⟩
              · rcases f3 : (x.hops == (i : Int)) with _ | _
                · skip
                  have Hn2 := Lib.hid (show okP r u v i (j + 1) = false from by rw [Hnx.out, stepP, f1, f2, f3]; rfl)
                  refine wp_region_held_drew (S := fun w' => w'.cell? ⟨X, 0, none⟩ = some (.int .i64 x.node) ∧ w'.cell? ⟨X, 2, none⟩ = some (.int .i64 x.hops) ∧ w'.cell? ⟨X, 3, none⟩ = some (.int .i64 x.frm) ∧ w'.cell? ⟨gp, i, none⟩ = some (.int .i64 v) ∧ w'.cell? ⟨gp, i - 1, none⟩ = some (.int .i64 u)) (by kernel_rfl) ⟨x0, x2, x3, cv, cu⟩ (fun hHeld => ?_)
                  refine Take.take (i := 0) (oi := _) (t := 21) (v := ?v43) rfl (by kernel_rfl) (by kernel_rfl) (by kernel_rfl) (by kernel_rfl) (fun _ _ _ h => h) (by kernel_rfl) ?hy43 (by assumption) ?_
                  case hy43 => (intro w hSw; (try dsimp only at hSw); go_simp; try with_reducible rfl)
                  try simp only [Act.put, List.setIfInBounds_toArray, List.set_cons_zero, List.set_cons_succ]
                  refine Take.take (i := 1) (oi := _) (t := 22) (v := ?v44) rfl (by kernel_rfl) (by kernel_rfl) (by kernel_rfl) (by kernel_rfl) (fun _ _ _ h => h) (by kernel_rfl) ?hy44 (by assumption) ?_
                  case hy44 => (intro w hSw; (try dsimp only at hSw); go_simp; try with_reducible rfl)
                  try simp only [Act.put, List.setIfInBounds_toArray, List.set_cons_zero, List.set_cons_succ]
                  refine Take.take (i := 2) (oi := _) (t := 23) (v := ?v45) rfl (by kernel_rfl) (by kernel_rfl) (by kernel_rfl) (by kernel_rfl) (fun _ _ _ h => h) (by kernel_rfl) ?hy45 (by assumption) ?_
                  case hy45 => (intro w hSw; (try dsimp only at hSw); go_simp; try with_reducible rfl)
                  try simp only [Act.put, List.setIfInBounds_toArray, List.set_cons_zero, List.set_cons_succ]
                  refine Take.take (i := 3) (oi := _) (t := 24) (v := ?v46) rfl (by kernel_rfl) (by kernel_rfl) (by kernel_rfl) (by kernel_rfl) (fun _ _ _ h => h) (by kernel_rfl) ?hy46 (by assumption) ?_
                  case hy46 => (intro w hSw; (try dsimp only at hSw); go_simp; try with_reducible rfl)
                  try simp only [Act.put, List.setIfInBounds_toArray, List.set_cons_zero, List.set_cons_succ]
                  refine Take.take (i := 4) (oi := _) (t := 25) (v := ?v47) rfl (by kernel_rfl) (by kernel_rfl) (by kernel_rfl) (by kernel_rfl) (fun _ _ _ h => h) (by kernel_rfl) ?hy47 (by assumption) ?_
                  case hy47 => (intro w hSw; (try dsimp only at hSw); go_simp; try with_reducible rfl)
                  try simp only [Act.put, List.setIfInBounds_toArray, List.set_cons_zero, List.set_cons_succ]
                  refine Take.take (i := 5) (oi := _) (t := 26) (v := ?v48) rfl (by kernel_rfl) (by kernel_rfl) (by kernel_rfl) (by kernel_rfl) (fun _ _ _ h => h) (by kernel_rfl) ?hy48 (by assumption) ?_
                  case hy48 => (intro w hSw; (try dsimp only at hSw); go_simp; try with_reducible rfl)
                  try simp only [Act.put, List.setIfInBounds_toArray, List.set_cons_zero, List.set_cons_succ]
                  refine Take.take (i := 6) (oi := _) (t := 27) (v := ?v49) rfl (by kernel_rfl) (by kernel_rfl) (by kernel_rfl) (by kernel_rfl) (fun _ _ _ h => h) (by kernel_rfl) ?hy49 (by assumption) ?_
                  case hy49 => (intro w hSw; (try dsimp only at hSw); go_simp; try with_reducible rfl)
                  try simp only [Act.put, List.setIfInBounds_toArray, List.set_cons_zero, List.set_cons_succ]
                  refine Take.take (i := 7) (oi := _) (t := 28) (v := ?v50) rfl (by kernel_rfl) (by kernel_rfl) (by kernel_rfl) (by kernel_rfl) (fun _ _ _ h => h) (by kernel_rfl) ?hy50 (by assumption) ?_
                  case hy50 => (intro w hSw; (try dsimp only at hSw); go_simp; try with_reducible rfl)
                  try simp only [Act.put, List.setIfInBounds_toArray, List.set_cons_zero, List.set_cons_succ]
                  refine Take.take (i := 8) (oi := _) (t := 29) (v := ?v51) rfl (by kernel_rfl) (by kernel_rfl) (by kernel_rfl) (by kernel_rfl) (fun _ _ _ h => h) (by kernel_rfl) ?hy51 (by assumption) ?_
                  case hy51 => (intro w hSw; (try dsimp only at hSw); go_simp; try with_reducible rfl)
                  try simp only [Act.put, List.setIfInBounds_toArray, List.set_cons_zero, List.set_cons_succ]
                  refine Take.take (i := 9) (oi := _) (t := 30) (v := ?v52) rfl (by kernel_rfl) (by kernel_rfl) (by kernel_rfl) (by kernel_rfl) (fun _ _ _ h => h) (by kernel_rfl) ?hy52 (by assumption) ?_
                  case hy52 => (intro w hSw; (try dsimp only at hSw); go_simp; try with_reducible rfl)
                  try simp only [Act.put, List.setIfInBounds_toArray, List.set_cons_zero, List.set_cons_succ]
                  refine Take.take (i := 10) (oi := _) (t := 31) (v := ?v53) rfl (by kernel_rfl) (by kernel_rfl) (by kernel_rfl) (by kernel_rfl) (fun _ _ _ h => h) (by kernel_rfl) ?hy53 (by assumption) ?_
                  case hy53 => (intro w hSw; (try dsimp only at hSw); go_simp; try with_reducible rfl)
                  try simp only [Act.put, List.setIfInBounds_toArray, List.set_cons_zero, List.set_cons_succ]
                  refine Take.take (i := 11) (oi := _) (t := 32) (v := ?v54) rfl (by kernel_rfl) (by kernel_rfl) (by kernel_rfl) (by kernel_rfl) (fun _ _ _ h => h) (by kernel_rfl) ?hy54 (by assumption) ?_
                  case hy54 => (intro w hSw; (try dsimp only at hSw); go_simp; try with_reducible rfl)
                  try simp only [Act.put, List.setIfInBounds_toArray, List.set_cons_zero, List.set_cons_succ]
                  refine Take.take (i := 12) (oi := _) (t := 33) (v := ?v55) rfl (by kernel_rfl) (by kernel_rfl) (by kernel_rfl) (by kernel_rfl) (fun _ _ _ h => h) (by kernel_rfl) ?hy55 (by assumption) ?_
                  case hy55 => (intro w hSw; (try dsimp only at hSw); go_simp; try with_reducible rfl)
                  try simp only [Act.put, List.setIfInBounds_toArray, List.set_cons_zero, List.set_cons_succ]
                  refine Take.take (i := 13) (oi := _) (t := 34) (v := ?v56) rfl (by kernel_rfl) (by kernel_rfl) (by kernel_rfl) (by kernel_rfl) (fun _ _ _ h => h) (by kernel_rfl) ?hy56 (by assumption) ?_
                  case hy56 => (intro w hSw; (try dsimp only at hSw); go_simp; try with_reducible rfl)
                  try simp only [Act.put, List.setIfInBounds_toArray, List.set_cons_zero, List.set_cons_succ]
                  refine Take.take (i := 14) (oi := _) (t := 35) (v := ?v57) rfl (by kernel_rfl) (by kernel_rfl) (by kernel_rfl) (by kernel_rfl) (fun _ _ _ h => h) (by kernel_rfl) ?hy57 (by assumption) ?_
                  case hy57 => (intro w hSw; (try dsimp only at hSw); go_simp; try with_reducible rfl)
                  try simp only [Act.put, List.setIfInBounds_toArray, List.set_cons_zero, List.set_cons_succ]
                  refine Take.take (i := 15) (oi := _) (t := 36) (v := ?v58) rfl (by kernel_rfl) (by kernel_rfl) (by kernel_rfl) (by kernel_rfl) (fun _ _ _ h => h) (by kernel_rfl) ?hy58 (by assumption) ?_
                  case hy58 => (intro w hSw; (try dsimp only at hSw); go_simp; try with_reducible rfl)
                  try simp only [Act.put, List.setIfInBounds_toArray, List.set_cons_zero, List.set_cons_succ]
                  refine Take.take (i := 16) (oi := _) (t := 37) (v := ?v59) rfl (by kernel_rfl) (by kernel_rfl) (by kernel_rfl) (by kernel_rfl) (fun _ _ _ h => h) (by kernel_rfl) ?hy59 (by assumption) ?_
                  case hy59 => (intro w hSw; (try dsimp only at hSw); go_simp; try with_reducible rfl)
                  try simp only [Act.put, List.setIfInBounds_toArray, List.set_cons_zero, List.set_cons_succ]
                  refine Take.take (i := 17) (oi := _) (t := 38) (v := ?v60) rfl (by kernel_rfl) (by kernel_rfl) (by kernel_rfl) (by kernel_rfl) (fun _ _ _ h => h) (by kernel_rfl) ?hy60 (by assumption) ?_
                  case hy60 => (intro w hSw; (try dsimp only at hSw); go_simp; try with_reducible rfl)
                  try simp only [Act.put, List.setIfInBounds_toArray, List.set_cons_zero, List.set_cons_succ]
                  refine Take.take (i := 18) (oi := _) (t := 39) (v := ?v61) rfl (by kernel_rfl) (by kernel_rfl) (by kernel_rfl) (by kernel_rfl) (fun _ _ _ h => h) (by kernel_rfl) ?hy61 (by assumption) ?_
                  case hy61 => (intro w hSw; (try dsimp only at hSw); go_simp; try with_reducible rfl)
                  try simp only [Act.put, List.setIfInBounds_toArray, List.set_cons_zero, List.set_cons_succ]
                  refine Take.take (i := 19) (oi := _) (t := 40) (v := ?v62) rfl (by kernel_rfl) (by kernel_rfl) (by kernel_rfl) (by kernel_rfl) (fun _ _ _ h => h) (by kernel_rfl) ?hy62 (by assumption) ?_
                  case hy62 => (intro w hSw; (try dsimp only at hSw); go_simp; try with_reducible rfl)
                  try simp only [Act.put, List.setIfInBounds_toArray, List.set_cons_zero, List.set_cons_succ]
                  refine Take.take (i := 20) (oi := _) (t := 41) (v := ?v63) rfl (by kernel_rfl) (by kernel_rfl) (by kernel_rfl) (by kernel_rfl) (fun _ _ _ h => h) (by kernel_rfl) ?hy63 (by assumption) ?_
                  case hy63 => (intro w hSw; (try dsimp only at hSw); go_simp; try with_reducible rfl)
                  try simp only [Act.put, List.setIfInBounds_toArray, List.set_cons_zero, List.set_cons_succ]
                  refine Take.take (i := 21) (oi := _) (t := 42) (v := ?v64) rfl (by kernel_rfl) (by kernel_rfl) (by kernel_rfl) (by kernel_rfl) (fun _ _ _ h => h) (by kernel_rfl) ?hy64 (by assumption) ?_
                  case hy64 => (intro w hSw; (try dsimp only at hSw); go_simp; try with_reducible rfl)
                  try simp only [Act.put, List.setIfInBounds_toArray, List.set_cons_zero, List.set_cons_succ]
                  refine Take.take (i := 22) (oi := _) (t := 43) (v := ?v65) rfl (by kernel_rfl) (by kernel_rfl) (by kernel_rfl) (by kernel_rfl) (fun _ _ _ h => h) (by kernel_rfl) ?hy65 (by assumption) ?_
                  case hy65 => (intro w hSw; (try dsimp only at hSw); go_simp; try with_reducible rfl)
                  try simp only [Act.put, List.setIfInBounds_toArray, List.set_cons_zero, List.set_cons_succ]
                  refine Take.take (i := 23) (oi := _) (t := 44) (v := ?v66) rfl (by kernel_rfl) (by kernel_rfl) (by kernel_rfl) (by kernel_rfl) (fun _ _ _ h => h) (by kernel_rfl) ?hy66 (by assumption) ?_
                  case hy66 => (intro w hSw; (try dsimp only at hSw); go_simp; try with_reducible rfl)
                  try simp only [Act.put, List.setIfInBounds_toArray, List.set_cons_zero, List.set_cons_succ]
                  refine Take.take (i := 24) (oi := _) (t := 45) (v := ?v67) rfl (by kernel_rfl) (by kernel_rfl) (by kernel_rfl) (by kernel_rfl) (fun _ _ _ h => h) (by kernel_rfl) ?hy67 (by assumption) ?_
                  case hy67 => (intro w hSw; (try dsimp only at hSw); go_simp; try with_reducible rfl)
                  try simp only [Act.put, List.setIfInBounds_toArray, List.set_cons_zero, List.set_cons_succ]
                  refine Take.take (i := 25) (oi := _) (t := 46) (v := ?v68) rfl (by kernel_rfl) (by kernel_rfl) (by kernel_rfl) (by kernel_rfl) (fun _ _ _ h => h) (by kernel_rfl) ?hy68 (by assumption) ?_
                  case hy68 => (intro w hSw; (try dsimp only at hSw); go_simp; try with_reducible rfl)
                  try simp only [Act.put, List.setIfInBounds_toArray, List.set_cons_zero, List.set_cons_succ]
                  refine Take.take (i := 26) (oi := _) (t := 6) (v := ?v69) rfl (by kernel_rfl) (by kernel_rfl) (by kernel_rfl) (by kernel_rfl) (fun _ _ _ h => h) (by kernel_rfl) ?hy69 (by assumption) ?_
                  case hy69 => (intro w hSw; (try dsimp only at hSw); go_simp; try with_reducible rfl)
                  try simp only [Act.put, List.setIfInBounds_toArray, List.set_cons_zero, List.set_cons_succ]
                  refine wpAnyH_done (by kernel_rfl) ?_ _
                  go_wp2_with fail
                  go_roundg (r.length - (j + 1))
                  case measure => have := Hgj.out; omega
                  case rel => exact ⟨j + 1, rfl, by rw [Hn2.out], by go_num, hjl, LV.out.drew⟩
                · skip
                  have Hn2 := Lib.hid (show okP r u v i (j + 1) = true from by rw [Hnx.out, stepP, f1, f2, f3]; rfl)
                  refine wp_region_held_drew (S := fun w' => w'.cell? ⟨X, 0, none⟩ = some (.int .i64 x.node) ∧ w'.cell? ⟨X, 2, none⟩ = some (.int .i64 x.hops) ∧ w'.cell? ⟨X, 3, none⟩ = some (.int .i64 x.frm) ∧ w'.cell? ⟨gp, i, none⟩ = some (.int .i64 v) ∧ w'.cell? ⟨gp, i - 1, none⟩ = some (.int .i64 u)) (by kernel_rfl) ⟨x0, x2, x3, cv, cu⟩ (fun hHeld => ?_)
                  refine Take.take (i := 0) (oi := _) (t := 21) (v := ?v70) rfl (by kernel_rfl) (by kernel_rfl) (by kernel_rfl) (by kernel_rfl) (fun _ _ _ h => h) (by kernel_rfl) ?hy70 (by assumption) ?_
                  case hy70 => (intro w hSw; (try dsimp only at hSw); go_simp; try with_reducible rfl)
                  try simp only [Act.put, List.setIfInBounds_toArray, List.set_cons_zero, List.set_cons_succ]
                  refine Take.take (i := 1) (oi := _) (t := 22) (v := ?v71) rfl (by kernel_rfl) (by kernel_rfl) (by kernel_rfl) (by kernel_rfl) (fun _ _ _ h => h) (by kernel_rfl) ?hy71 (by assumption) ?_
                  case hy71 => (intro w hSw; (try dsimp only at hSw); go_simp; try with_reducible rfl)
                  try simp only [Act.put, List.setIfInBounds_toArray, List.set_cons_zero, List.set_cons_succ]
                  refine Take.take (i := 2) (oi := _) (t := 23) (v := ?v72) rfl (by kernel_rfl) (by kernel_rfl) (by kernel_rfl) (by kernel_rfl) (fun _ _ _ h => h) (by kernel_rfl) ?hy72 (by assumption) ?_
                  case hy72 => (intro w hSw; (try dsimp only at hSw); go_simp; try with_reducible rfl)
                  try simp only [Act.put, List.setIfInBounds_toArray, List.set_cons_zero, List.set_cons_succ]
                  refine Take.take (i := 3) (oi := _) (t := 24) (v := ?v73) rfl (by kernel_rfl) (by kernel_rfl) (by kernel_rfl) (by kernel_rfl) (fun _ _ _ h => h) (by kernel_rfl) ?hy73 (by assumption) ?_
                  case hy73 => (intro w hSw; (try dsimp only at hSw); go_simp; try with_reducible rfl)
                  try simp only [Act.put, List.setIfInBounds_toArray, List.set_cons_zero, List.set_cons_succ]
                  refine Take.take (i := 4) (oi := _) (t := 25) (v := ?v74) rfl (by kernel_rfl) (by kernel_rfl) (by kernel_rfl) (by kernel_rfl) (fun _ _ _ h => h) (by kernel_rfl) ?hy74 (by assumption) ?_
                  case hy74 => (intro w hSw; (try dsimp only at hSw); go_simp; try with_reducible rfl)
                  try simp only [Act.put, List.setIfInBounds_toArray, List.set_cons_zero, List.set_cons_succ]
                  refine Take.take (i := 5) (oi := _) (t := 26) (v := ?v75) rfl (by kernel_rfl) (by kernel_rfl) (by kernel_rfl) (by kernel_rfl) (fun _ _ _ h => h) (by kernel_rfl) ?hy75 (by assumption) ?_
                  case hy75 => (intro w hSw; (try dsimp only at hSw); go_simp; try with_reducible rfl)
                  try simp only [Act.put, List.setIfInBounds_toArray, List.set_cons_zero, List.set_cons_succ]
                  refine Take.take (i := 6) (oi := _) (t := 27) (v := ?v76) rfl (by kernel_rfl) (by kernel_rfl) (by kernel_rfl) (by kernel_rfl) (fun _ _ _ h => h) (by kernel_rfl) ?hy76 (by assumption) ?_
                  case hy76 => (intro w hSw; (try dsimp only at hSw); go_simp; try with_reducible rfl)
                  try simp only [Act.put, List.setIfInBounds_toArray, List.set_cons_zero, List.set_cons_succ]
                  refine Take.take (i := 7) (oi := _) (t := 28) (v := ?v77) rfl (by kernel_rfl) (by kernel_rfl) (by kernel_rfl) (by kernel_rfl) (fun _ _ _ h => h) (by kernel_rfl) ?hy77 (by assumption) ?_
                  case hy77 => (intro w hSw; (try dsimp only at hSw); go_simp; try with_reducible rfl)
                  try simp only [Act.put, List.setIfInBounds_toArray, List.set_cons_zero, List.set_cons_succ]
                  refine Take.take (i := 8) (oi := _) (t := 29) (v := ?v78) rfl (by kernel_rfl) (by kernel_rfl) (by kernel_rfl) (by kernel_rfl) (fun _ _ _ h => h) (by kernel_rfl) ?hy78 (by assumption) ?_
                  case hy78 => (intro w hSw; (try dsimp only at hSw); go_simp; try with_reducible rfl)
                  try simp only [Act.put, List.setIfInBounds_toArray, List.set_cons_zero, List.set_cons_succ]
                  refine Take.take (i := 9) (oi := _) (t := 30) (v := ?v79) rfl (by kernel_rfl) (by kernel_rfl) (by kernel_rfl) (by kernel_rfl) (fun _ _ _ h => h) (by kernel_rfl) ?hy79 (by assumption) ?_
                  case hy79 => (intro w hSw; (try dsimp only at hSw); go_simp; try with_reducible rfl)
                  try simp only [Act.put, List.setIfInBounds_toArray, List.set_cons_zero, List.set_cons_succ]
                  refine Take.take (i := 10) (oi := _) (t := 31) (v := ?v80) rfl (by kernel_rfl) (by kernel_rfl) (by kernel_rfl) (by kernel_rfl) (fun _ _ _ h => h) (by kernel_rfl) ?hy80 (by assumption) ?_
                  case hy80 => (intro w hSw; (try dsimp only at hSw); go_simp; try with_reducible rfl)
                  try simp only [Act.put, List.setIfInBounds_toArray, List.set_cons_zero, List.set_cons_succ]
                  refine Take.take (i := 11) (oi := _) (t := 32) (v := ?v81) rfl (by kernel_rfl) (by kernel_rfl) (by kernel_rfl) (by kernel_rfl) (fun _ _ _ h => h) (by kernel_rfl) ?hy81 (by assumption) ?_
                  case hy81 => (intro w hSw; (try dsimp only at hSw); go_simp; try with_reducible rfl)
                  try simp only [Act.put, List.setIfInBounds_toArray, List.set_cons_zero, List.set_cons_succ]
                  refine Take.take (i := 12) (oi := _) (t := 33) (v := ?v82) rfl (by kernel_rfl) (by kernel_rfl) (by kernel_rfl) (by kernel_rfl) (fun _ _ _ h => h) (by kernel_rfl) ?hy82 (by assumption) ?_
                  case hy82 => (intro w hSw; (try dsimp only at hSw); go_simp; try with_reducible rfl)
                  try simp only [Act.put, List.setIfInBounds_toArray, List.set_cons_zero, List.set_cons_succ]
                  refine Take.take (i := 13) (oi := _) (t := 34) (v := ?v83) rfl (by kernel_rfl) (by kernel_rfl) (by kernel_rfl) (by kernel_rfl) (fun _ _ _ h => h) (by kernel_rfl) ?hy83 (by assumption) ?_
                  case hy83 => (intro w hSw; (try dsimp only at hSw); go_simp; try with_reducible rfl)
                  try simp only [Act.put, List.setIfInBounds_toArray, List.set_cons_zero, List.set_cons_succ]
                  refine Take.take (i := 14) (oi := _) (t := 35) (v := ?v84) rfl (by kernel_rfl) (by kernel_rfl) (by kernel_rfl) (by kernel_rfl) (fun _ _ _ h => h) (by kernel_rfl) ?hy84 (by assumption) ?_
                  case hy84 => (intro w hSw; (try dsimp only at hSw); go_simp; try with_reducible rfl)
                  try simp only [Act.put, List.setIfInBounds_toArray, List.set_cons_zero, List.set_cons_succ]
                  refine Take.take (i := 15) (oi := _) (t := 36) (v := ?v85) rfl (by kernel_rfl) (by kernel_rfl) (by kernel_rfl) (by kernel_rfl) (fun _ _ _ h => h) (by kernel_rfl) ?hy85 (by assumption) ?_
                  case hy85 => (intro w hSw; (try dsimp only at hSw); go_simp; try with_reducible rfl)
                  try simp only [Act.put, List.setIfInBounds_toArray, List.set_cons_zero, List.set_cons_succ]
                  refine Take.take (i := 16) (oi := _) (t := 37) (v := ?v86) rfl (by kernel_rfl) (by kernel_rfl) (by kernel_rfl) (by kernel_rfl) (fun _ _ _ h => h) (by kernel_rfl) ?hy86 (by assumption) ?_
                  case hy86 => (intro w hSw; (try dsimp only at hSw); go_simp; try with_reducible rfl)
                  try simp only [Act.put, List.setIfInBounds_toArray, List.set_cons_zero, List.set_cons_succ]
                  refine Take.take (i := 17) (oi := _) (t := 38) (v := ?v87) rfl (by kernel_rfl) (by kernel_rfl) (by kernel_rfl) (by kernel_rfl) (fun _ _ _ h => h) (by kernel_rfl) ?hy87 (by assumption) ?_
                  case hy87 => (intro w hSw; (try dsimp only at hSw); go_simp; try with_reducible rfl)
                  try simp only [Act.put, List.setIfInBounds_toArray, List.set_cons_zero, List.set_cons_succ]
                  refine Take.take (i := 18) (oi := _) (t := 39) (v := ?v88) rfl (by kernel_rfl) (by kernel_rfl) (by kernel_rfl) (by kernel_rfl) (fun _ _ _ h => h) (by kernel_rfl) ?hy88 (by assumption) ?_
                  case hy88 => (intro w hSw; (try dsimp only at hSw); go_simp; try with_reducible rfl)
                  try simp only [Act.put, List.setIfInBounds_toArray, List.set_cons_zero, List.set_cons_succ]
                  refine Take.take (i := 19) (oi := _) (t := 40) (v := ?v89) rfl (by kernel_rfl) (by kernel_rfl) (by kernel_rfl) (by kernel_rfl) (fun _ _ _ h => h) (by kernel_rfl) ?hy89 (by assumption) ?_
                  case hy89 => (intro w hSw; (try dsimp only at hSw); go_simp; try with_reducible rfl)
                  try simp only [Act.put, List.setIfInBounds_toArray, List.set_cons_zero, List.set_cons_succ]
                  refine Take.take (i := 20) (oi := _) (t := 41) (v := ?v90) rfl (by kernel_rfl) (by kernel_rfl) (by kernel_rfl) (by kernel_rfl) (fun _ _ _ h => h) (by kernel_rfl) ?hy90 (by assumption) ?_
                  case hy90 => (intro w hSw; (try dsimp only at hSw); go_simp; try with_reducible rfl)
                  try simp only [Act.put, List.setIfInBounds_toArray, List.set_cons_zero, List.set_cons_succ]
                  refine Take.take (i := 21) (oi := _) (t := 42) (v := ?v91) rfl (by kernel_rfl) (by kernel_rfl) (by kernel_rfl) (by kernel_rfl) (fun _ _ _ h => h) (by kernel_rfl) ?hy91 (by assumption) ?_
                  case hy91 => (intro w hSw; (try dsimp only at hSw); go_simp; try with_reducible rfl)
                  try simp only [Act.put, List.setIfInBounds_toArray, List.set_cons_zero, List.set_cons_succ]
                  refine Take.take (i := 22) (oi := _) (t := 43) (v := ?v92) rfl (by kernel_rfl) (by kernel_rfl) (by kernel_rfl) (by kernel_rfl) (fun _ _ _ h => h) (by kernel_rfl) ?hy92 (by assumption) ?_
                  case hy92 => (intro w hSw; (try dsimp only at hSw); go_simp; try with_reducible rfl)
                  try simp only [Act.put, List.setIfInBounds_toArray, List.set_cons_zero, List.set_cons_succ]
                  refine Take.take (i := 23) (oi := _) (t := 44) (v := ?v93) rfl (by kernel_rfl) (by kernel_rfl) (by kernel_rfl) (by kernel_rfl) (fun _ _ _ h => h) (by kernel_rfl) ?hy93 (by assumption) ?_
                  case hy93 => (intro w hSw; (try dsimp only at hSw); go_simp; try with_reducible rfl)
                  try simp only [Act.put, List.setIfInBounds_toArray, List.set_cons_zero, List.set_cons_succ]
                  refine Take.take (i := 24) (oi := _) (t := 45) (v := ?v94) rfl (by kernel_rfl) (by kernel_rfl) (by kernel_rfl) (by kernel_rfl) (fun _ _ _ h => h) (by kernel_rfl) ?hy94 (by assumption) ?_
                  case hy94 => (intro w hSw; (try dsimp only at hSw); go_simp; try with_reducible rfl)
                  try simp only [Act.put, List.setIfInBounds_toArray, List.set_cons_zero, List.set_cons_succ]
                  refine Take.take (i := 25) (oi := _) (t := 46) (v := ?v95) rfl (by kernel_rfl) (by kernel_rfl) (by kernel_rfl) (by kernel_rfl) (fun _ _ _ h => h) (by kernel_rfl) ?hy95 (by assumption) ?_
                  case hy95 => (intro w hSw; (try dsimp only at hSw); go_simp; try with_reducible rfl)
                  try simp only [Act.put, List.setIfInBounds_toArray, List.set_cons_zero, List.set_cons_succ]
                  refine Take.take (i := 26) (oi := _) (t := 6) (v := ?v96) rfl (by kernel_rfl) (by kernel_rfl) (by kernel_rfl) (by kernel_rfl) (fun _ _ _ h => h) (by kernel_rfl) ?hy96 (by assumption) ?_
                  case hy96 => (intro w hSw; (try dsimp only at hSw); go_simp; try with_reducible rfl)
                  try simp only [Act.put, List.setIfInBounds_toArray, List.set_cons_zero, List.set_cons_succ]
                  refine wpAnyH_done (by kernel_rfl) ?_ _
                  go_wp2_with fail
                  go_roundg (r.length - (j + 1))
                  case measure => have := Hgj.out; omega
                  case rel => exact ⟨j + 1, rfl, by rw [Hn2.out], by go_num, hjl, LV.out.drew⟩
          · skip
            have Hn2 := Lib.hid (show okP r u v i (j + 1) = true from by rw [Hnx.out]; rfl)
            refine wp_region_held_drew (S := fun w' => w'.cell? ⟨X, 0, none⟩ = some (.int .i64 x.node) ∧ w'.cell? ⟨X, 2, none⟩ = some (.int .i64 x.hops) ∧ w'.cell? ⟨X, 3, none⟩ = some (.int .i64 x.frm) ∧ w'.cell? ⟨gp, i, none⟩ = some (.int .i64 v) ∧ w'.cell? ⟨gp, i - 1, none⟩ = some (.int .i64 u)) (by kernel_rfl) ⟨x0, x2, x3, cv, cu⟩ (fun hHeld => ?_)
            refine Take.take (i := 0) (oi := _) (t := 21) (v := ?v1) rfl (by kernel_rfl) (by kernel_rfl) (by kernel_rfl) (by kernel_rfl) (fun _ _ _ h => h) (by kernel_rfl) ?hy1 (by assumption) ?_
            case hy1 => (intro w hSw; (try dsimp only at hSw); go_simp; try with_reducible rfl)
            try simp only [Act.put, List.setIfInBounds_toArray, List.set_cons_zero, List.set_cons_succ]
            refine Take.take (i := 1) (oi := _) (t := 22) (v := ?v2) rfl (by kernel_rfl) (by kernel_rfl) (by kernel_rfl) (by kernel_rfl) (fun _ _ _ h => h) (by kernel_rfl) ?hy2 (by assumption) ?_
            case hy2 => (intro w hSw; (try dsimp only at hSw); go_simp; try with_reducible rfl)
            try simp only [Act.put, List.setIfInBounds_toArray, List.set_cons_zero, List.set_cons_succ]
            refine Take.skip (i := 2) (t := 23) (g := 1) (b := false) (by kernel_rfl) (by kernel_rfl) (by kernel_rfl) (by kernel_rfl) (fun _ _ _ h => h) (by kernel_rfl) (by assumption) ?_
            try simp only [Act.put, List.setIfInBounds_toArray, List.set_cons_zero, List.set_cons_succ]
            refine Take.skip (i := 3) (t := 24) (g := 1) (b := false) (by kernel_rfl) (by kernel_rfl) (by kernel_rfl) (by kernel_rfl) (fun _ _ _ h => h) (by kernel_rfl) (by assumption) ?_
            try simp only [Act.put, List.setIfInBounds_toArray, List.set_cons_zero, List.set_cons_succ]
            refine Take.skip (i := 4) (t := 25) (g := 1) (b := false) (by kernel_rfl) (by kernel_rfl) (by kernel_rfl) (by kernel_rfl) (fun _ _ _ h => h) (by kernel_rfl) (by assumption) ?_
            try simp only [Act.put, List.setIfInBounds_toArray, List.set_cons_zero, List.set_cons_succ]
            refine Take.skip (i := 5) (t := 26) (g := 1) (b := false) (by kernel_rfl) (by kernel_rfl) (by kernel_rfl) (by kernel_rfl) (fun _ _ _ h => h) (by kernel_rfl) (by assumption) ?_
            try simp only [Act.put, List.setIfInBounds_toArray, List.set_cons_zero, List.set_cons_succ]
            refine Take.skip (i := 6) (t := 27) (g := 1) (b := false) (by kernel_rfl) (by kernel_rfl) (by kernel_rfl) (by kernel_rfl) (fun _ _ _ h => h) (by kernel_rfl) (by assumption) ?_
            try simp only [Act.put, List.setIfInBounds_toArray, List.set_cons_zero, List.set_cons_succ]
            refine Take.skip (i := 7) (t := 28) (g := 1) (b := false) (by kernel_rfl) (by kernel_rfl) (by kernel_rfl) (by kernel_rfl) (fun _ _ _ h => h) (by kernel_rfl) (by assumption) ?_
            try simp only [Act.put, List.setIfInBounds_toArray, List.set_cons_zero, List.set_cons_succ]
            refine Take.skip (i := 8) (t := 29) (g := 1) (b := false) (by kernel_rfl) (by kernel_rfl) (by kernel_rfl) (by kernel_rfl) (fun _ _ _ h => h) (by kernel_rfl) (by assumption) ?_
            try simp only [Act.put, List.setIfInBounds_toArray, List.set_cons_zero, List.set_cons_succ]
            refine Take.skip (i := 9) (t := 30) (g := 1) (b := false) (by kernel_rfl) (by kernel_rfl) (by kernel_rfl) (by kernel_rfl) (fun _ _ _ h => h) (by kernel_rfl) (by assumption) ?_
            try simp only [Act.put, List.setIfInBounds_toArray, List.set_cons_zero, List.set_cons_succ]
            refine Take.skip (i := 10) (t := 31) (g := 9) (b := true) (by kernel_rfl) (by kernel_rfl) (by kernel_rfl) (by kernel_rfl) (fun _ _ _ h => h) (by kernel_rfl) (by assumption) ?_
            try simp only [Act.put, List.setIfInBounds_toArray, List.set_cons_zero, List.set_cons_succ]
            refine Take.skip (i := 11) (t := 32) (g := 9) (b := true) (by kernel_rfl) (by kernel_rfl) (by kernel_rfl) (by kernel_rfl) (fun _ _ _ h => h) (by kernel_rfl) (by assumption) ?_
            try simp only [Act.put, List.setIfInBounds_toArray, List.set_cons_zero, List.set_cons_succ]
            refine Take.skip (i := 12) (t := 33) (g := 9) (b := true) (by kernel_rfl) (by kernel_rfl) (by kernel_rfl) (by kernel_rfl) (fun _ _ _ h => h) (by kernel_rfl) (by assumption) ?_
            try simp only [Act.put, List.setIfInBounds_toArray, List.set_cons_zero, List.set_cons_succ]
            refine Take.skip (i := 13) (t := 34) (g := 9) (b := true) (by kernel_rfl) (by kernel_rfl) (by kernel_rfl) (by kernel_rfl) (fun _ _ _ h => h) (by kernel_rfl) (by assumption) ?_
            try simp only [Act.put, List.setIfInBounds_toArray, List.set_cons_zero, List.set_cons_succ]
            refine Take.skip (i := 14) (t := 35) (g := 9) (b := true) (by kernel_rfl) (by kernel_rfl) (by kernel_rfl) (by kernel_rfl) (fun _ _ _ h => h) (by kernel_rfl) (by assumption) ?_
            try simp only [Act.put, List.setIfInBounds_toArray, List.set_cons_zero, List.set_cons_succ]
            refine Take.skip (i := 15) (t := 36) (g := 9) (b := true) (by kernel_rfl) (by kernel_rfl) (by kernel_rfl) (by kernel_rfl) (fun _ _ _ h => h) (by kernel_rfl) (by assumption) ?_
            try simp only [Act.put, List.setIfInBounds_toArray, List.set_cons_zero, List.set_cons_succ]
            refine Take.skip (i := 16) (t := 37) (g := 9) (b := true) (by kernel_rfl) (by kernel_rfl) (by kernel_rfl) (by kernel_rfl) (fun _ _ _ h => h) (by kernel_rfl) (by assumption) ?_
            try simp only [Act.put, List.setIfInBounds_toArray, List.set_cons_zero, List.set_cons_succ]
            refine Take.skip (i := 17) (t := 38) (g := 9) (b := true) (by kernel_rfl) (by kernel_rfl) (by kernel_rfl) (by kernel_rfl) (fun _ _ _ h => h) (by kernel_rfl) (by assumption) ?_
            try simp only [Act.put, List.setIfInBounds_toArray, List.set_cons_zero, List.set_cons_succ]
            refine Take.skip (i := 18) (t := 39) (g := 1) (b := false) (by kernel_rfl) (by kernel_rfl) (by kernel_rfl) (by kernel_rfl) (fun _ _ _ h => h) (by kernel_rfl) (by assumption) ?_
            try simp only [Act.put, List.setIfInBounds_toArray, List.set_cons_zero, List.set_cons_succ]
            refine Take.skip (i := 19) (t := 40) (g := 1) (b := false) (by kernel_rfl) (by kernel_rfl) (by kernel_rfl) (by kernel_rfl) (fun _ _ _ h => h) (by kernel_rfl) (by assumption) ?_
            try simp only [Act.put, List.setIfInBounds_toArray, List.set_cons_zero, List.set_cons_succ]
            refine Take.skip (i := 20) (t := 41) (g := 19) (b := true) (by kernel_rfl) (by kernel_rfl) (by kernel_rfl) (by kernel_rfl) (fun _ _ _ h => h) (by kernel_rfl) (by assumption) ?_
            try simp only [Act.put, List.setIfInBounds_toArray, List.set_cons_zero, List.set_cons_succ]
            refine Take.skip (i := 21) (t := 42) (g := 19) (b := true) (by kernel_rfl) (by kernel_rfl) (by kernel_rfl) (by kernel_rfl) (fun _ _ _ h => h) (by kernel_rfl) (by assumption) ?_
            try simp only [Act.put, List.setIfInBounds_toArray, List.set_cons_zero, List.set_cons_succ]
            refine Take.skip (i := 22) (t := 43) (g := 19) (b := true) (by kernel_rfl) (by kernel_rfl) (by kernel_rfl) (by kernel_rfl) (fun _ _ _ h => h) (by kernel_rfl) (by assumption) ?_
            try simp only [Act.put, List.setIfInBounds_toArray, List.set_cons_zero, List.set_cons_succ]
            refine Take.skip (i := 23) (t := 44) (g := 19) (b := true) (by kernel_rfl) (by kernel_rfl) (by kernel_rfl) (by kernel_rfl) (fun _ _ _ h => h) (by kernel_rfl) (by assumption) ?_
            try simp only [Act.put, List.setIfInBounds_toArray, List.set_cons_zero, List.set_cons_succ]
            refine Take.skip (i := 24) (t := 45) (g := 1) (b := false) (by kernel_rfl) (by kernel_rfl) (by kernel_rfl) (by kernel_rfl) (fun _ _ _ h => h) (by kernel_rfl) (by assumption) ?_
            try simp only [Act.put, List.setIfInBounds_toArray, List.set_cons_zero, List.set_cons_succ]
            refine Take.take (i := 25) (oi := _) (t := 46) (v := ?v3) rfl (by kernel_rfl) (by kernel_rfl) (by kernel_rfl) (by kernel_rfl) (fun _ _ _ h => h) (by kernel_rfl) ?hy3 (by assumption) ?_
            case hy3 => (intro w hSw; (try dsimp only at hSw); go_simp; try with_reducible rfl)
            try simp only [Act.put, List.setIfInBounds_toArray, List.set_cons_zero, List.set_cons_succ]
            refine Take.take (i := 26) (oi := _) (t := 6) (v := ?v4) rfl (by kernel_rfl) (by kernel_rfl) (by kernel_rfl) (by kernel_rfl) (fun _ _ _ h => h) (by kernel_rfl) ?hy4 (by assumption) ?_
            case hy4 => (intro w hSw; (try dsimp only at hSw); go_simp; try with_reducible rfl)
            try simp only [Act.put, List.setIfInBounds_toArray, List.set_cons_zero, List.set_cons_succ]
            refine wpAnyH_done (by kernel_rfl) ?_ _
            go_wp2_with fail
            go_roundg (r.length - (j + 1))
            case measure => have := Hgj.out; omega
            case rel => exact ⟨j + 1, rfl, by rw [Hn2.out], by go_num, hjl, LV.out.drew⟩
        · obtain rfl : j = r.length := by omega
          rw [Hyes.out]
          have LI2 := Lib.hid LI
          clear LI
          go_wp2_with fail
          go_roundg (p.length - (i + 1))
          case measure => have := Hgi.out; omega
          case rel => exact ⟨i + 1, rfl, by go_num, by omega, hlt, LI2.out⟩
    · have LR2 := Lib.hid LR
      obtain rfl : i = p.length := by omega
      clear LR
      go_wp2_with fail
      go_ret
      exact ⟨rfl, LR2.out⟩
end Go.Proofs.YtmbblhajbecomaaDoor.Flood
namespace Go.Proofs.YtmbblhajbecomaaDoor.Read
open Go.ChangeShapes Go.WideShapes Go.ChangeAt Go.RowKit
set_option linter.unusedVariables false
variable {P : Program} {w : World} {t e : TypeId} {cs : List Value}
/-- The cells read as data of type t, of which no list is too great. -/
def RdS (P : Program) (w : World) (t : TypeId) (cs : List Value) : Prop :=
  ∃ (H : Type) (enc : TypeId × Value → H) (fuel : Nat) (x : DataW H × List MemPlace), DataW.trod enc P w 0 (fun _ => true) true fuel t cs = some x ∧ ∀ n ∈ x.1.weights P t, n ≤ reachBytes
theorem RdS.rd (h : RdS P w t cs) : Rd P w t cs := by
  obtain ⟨H, enc, fuel, x, h, _⟩ := h
  exact ⟨H, enc, fuel, x, h⟩
theorem RdS.struct {fs : Array Field} (ht : P.underlying t = some (.struct fs)) (h : RdS P w t cs) :
    cs.length = P.cellsOf t ∧ ∀ (i : Nat) (f : Field), fs[i]? = some f → RdS P w f.type ((cs.drop f.offset).take (P.cellsOf f.type)) := by
  obtain ⟨H, enc, fuel, x, h, hs⟩ := h
  obtain ⟨xs, n, _, hx, hl, hn, hf⟩ := DataW.trod_struct ht h
  subst hx
  refine ⟨hl, fun i f hi => ?_⟩
  have hlt : i < xs.length := by
    rw [hn]
    rcases Nat.lt_or_ge i fs.size with c | c
    · exact c
    · rw [Array.getElem?_eq_none c] at hi; cases hi
  refine ⟨H, enc, n, xs[i], by rw [hf i f hi]; simp [hlt], fun m hm => hs m ?_⟩
  have : m ∈ DataW.weightsEach P (fs.toList.map (·.type)) (xs.map (·.1)) :=
    DataW.weights_mem_each (j := i) (t := f.type) (d := xs[i].1) (by simp [hi]) (by simp [hlt]) m hm
  simpa [DataW.weights, ht] using this
theorem RdS.slice_len {a : Option Addr} {len cap : Nat} (ht : P.underlying t = some (.slice e)) (h : RdS P w t [.slice a len cap]) : len * P.bytesOf e ≤ reachBytes := by
  obtain ⟨H, enc, fuel, x, h, hs⟩ := h
  rcases DataW.trod_slice ht h with ⟨h1, _⟩ | ⟨b, l, c, xs, ys, n, _, hcs, hx, _, hl, hm, hxl, _⟩
  · simp at h1
    obtain ⟨rfl, rfl, rfl⟩ := h1
    simp
  · simp at hcs
    obtain ⟨rfl, rfl, rfl⟩ := hcs
    subst hx
    have := hs ((xs.length + ys.length) * P.bytesOf e) (by simp [DataW.weights, ht])
    have h2 : xs.length * P.bytesOf e ≤ (xs.length + ys.length) * P.bytesOf e := Nat.mul_le_mul_right _ (by omega)
    rw [hxl] at h2
    exact Nat.le_trans h2 (by rw [← hxl]; exact this)
end Go.Proofs.YtmbblhajbecomaaDoor.Read
namespace Go.Proofs.YtmbblhajbecomaaDoor.Flood
open Go.RowKit
open Go.Proofs.YtmbblhajbecomaaDoor.RF Go.Proofs.YtmbblhajbecomaaDoor.Heap Go.Proofs.YtmbblhajbecomaaDoor.Nodes Go.Proofs.YtmbblhajbecomaaDoor.Graph Go.Proofs.YtmbblhajbecomaaDoor.Reach
set_option linter.unusedVariables false
/-- Rows of numbers that come in. -/
theorem delay_in {w : World} {v : Value} (h : Read.Rd Tryd.prog w 62 [v]) : ∃ a dl cap, v = .slice a (dl : List (List Int)).length cap ∧ DelayAt w.heap.size w a dl := by
  rcases Read.Rd.slice Tryd.underlying62 h with h1 | ⟨a, len, cap, h1, hl, hm, hr⟩
  · simp at h1
    subst h1
    exact ⟨none, [], 0, rfl, by simp, fun i r hi => by simp at hi⟩
  · simp at h1
    subst h1
    have cR : Tryd.prog.cellsOf 105 = 1 := by kernel_rfl
    have cI : Tryd.prog.cellsOf 2 = 1 := by kernel_rfl
    have hrow : ∀ i, i < len → ∃ r : List Int, r.length ≤ 9223372036854775807 ∧ ∃ ra rc, w.cell? (a.add i) = some (.slice ra r.length rc) ∧ ∀ (j : Nat) (d : Int), r[j]? = some d → ∃ rb ro, ra = some ⟨rb, ro, none⟩ ∧ rb < w.heap.size ∧ w.cell? ⟨rb, ro + j, none⟩ = some (.int .i64 d) := by
      intro i hi
      obtain ⟨es, h2, h3⟩ := hr i (by omega)
      rw [cR] at h2
      obtain ⟨hes, hec⟩ := Read.cells_at h2
      obtain ⟨v, rfl⟩ : ∃ v, es = [v] := by
        match es, hes with
        | [v], _ => exact ⟨v, rfl⟩
      obtain ⟨ra, rl, rc, zs, rfl, hz⟩ := h3.ints' Tryd.underlying105 Tryd.underlying2 cI
      have hc := hec 0 (by omega)
      have htl : (zs.take rl).length = rl := by rw [List.length_take, hz.size, Nat.min_eq_left hz.le]
      have hmx := hz.max
      have hle := hz.le
      refine ⟨zs.take rl, by rw [htl]; omega, ra, rc, ?_, fun j d hd => ?_⟩
      · rw [htl]
        simpa [Addr.add] using hc
      · have hj : j < rl := by have := lt_of_get hd; omega
        rw [List.getElem?_take, if_pos hj] at hd
        rcases hz.at' with c0 | ⟨b, off, rfl, hb, hcell⟩
        · omega
        · refine ⟨b, off, rfl, hb, ?_⟩
          rw [hcell j (by omega), hd]; rfl
    obtain ⟨dl, hdl, hp⟩ := Read.choose_list len hrow
    subst hdl
    have hmx : dl.length ≤ 9223372036854775807 := by unfold maxLen at hm; omega
    refine ⟨some a, dl, cap, rfl, hmx, fun i r hi => ?_⟩
    obtain ⟨p1, ra, rc, p2, p3⟩ := hp i r hi
    obtain ⟨b, off, spot⟩ := a
    have hspot : spot = none := by
      have hl0 : 0 < dl.length := by have := lt_of_get hi; omega
      obtain ⟨_, _, _, p4, _⟩ := hp 0 _ (List.getElem?_eq_getElem hl0)
      simpa [Addr.add] using World.cell?_spot p4
    subst hspot
    rw [Go.WideShapes.add_plain] at p2
    exact ⟨p1, b, off, ra, rc, rfl, World.block_lt_of_cell? w _ p2, p2, p3⟩
/-- Sets that come in. -/
theorem mute_in {w : World} {v : Value} (h : Read.RdS Tryd.prog w 48 [v]) : ∃ a mu cap, v = .slice a (mu : List Nat).length cap ∧ MuteAt w.heap.size w a mu ∧ mu.length * 8 ≤ 140737488351232 := by
  have cU : Tryd.prog.cellsOf 25 = 1 := by kernel_rfl
  have bU : Tryd.prog.bytesOf 25 = 8 := by kernel_rfl
  obtain ⟨a, len, cap, zs, rfl, hz⟩ := h.rd.ints' Tryd.underlying48 Tryd.underlying25 cU
  have hb := h.slice_len Tryd.underlying48
  rw [bU] at hb
  have hle := hz.le
  have hmx := hz.max
  have htl : ((zs.take len).map Int.toNat).length = len := by rw [List.length_map, List.length_take, hz.size, Nat.min_eq_left hle]
  refine ⟨a, (zs.take len).map Int.toNat, cap, by rw [htl], ⟨by rw [htl]; omega, fun i s hi => ?_⟩, by rw [htl]; exact hb⟩
  have hil : i < len := by have := lt_of_get hi; omega
  rw [List.getElem?_map, List.getElem?_take, if_pos hil] at hi
  obtain ⟨z, hzz, rfl⟩ := Option.map_eq_some_iff.1 hi
  obtain ⟨s, rfl, hs⟩ := u64_in (hz.wf z (List.mem_of_getElem? hzz))
  refine ⟨by simpa using hs, ?_⟩
  rcases hz.at' with c0 | ⟨b, off, rfl, hbb, hcell⟩
  · omega
  · refine ⟨b, off, rfl, hbb, ?_⟩
    rw [hcell i (by omega), hzz]; simp
/-- What a storm that comes in holds. -/
theorem storm_in {w : World} {cs : Array Value} (h : Read.RdS Tryd.prog w 64 cs.toList) :
    ∃ (n0 : Int) (la : Option Addr) (ln lc : Nat) (ls : List (Int × Int)) (src : Int) (dl : List (List Int)) (mu : List Nat) (da ma : Option Addr) (dc mc : Nat), cs = #[.int .i64 n0, .slice la ln lc, .int .i64 src, .slice da dl.length dc, .slice ma mu.length mc] ∧
      PairIn w la ln lc ls ∧ DelayAt w.heap.size w da dl ∧ MuteAt w.heap.size w ma mu ∧ mu.length * 8 ≤ 140737488351232 := by
  obtain ⟨hl, hf⟩ := h.struct Tryd.underlying64
  obtain ⟨x0, x1, x2, x3, x4, rfl⟩ := Read.cells5 (hl.trans (by kernel_rfl))
  have cW : Tryd.prog.cellsOf 24 = 2 := by kernel_rfl
  have cI : Tryd.prog.cellsOf 3 = 1 := by kernel_rfl
  have cL : Tryd.prog.cellsOf 22 = 1 := by kernel_rfl
  have cD : Tryd.prog.cellsOf 62 = 1 := by kernel_rfl
  have cM : Tryd.prog.cellsOf 48 = 1 := by kernel_rfl
  have qW : Read.RdS Tryd.prog w 24 [x0, x1] := by simpa [cW] using hf 0 _ rfl
  have qS : Read.RdS Tryd.prog w 3 [x2] := by simpa [cI] using hf 1 _ rfl
  have qD : Read.RdS Tryd.prog w 62 [x3] := by simpa [cD] using hf 2 _ rfl
  have qM : Read.RdS Tryd.prog w 48 [x4] := by simpa [cM] using hf 3 _ rfl
  obtain ⟨_, hg⟩ := Read.Rd.struct Tryd.underlying24 qW.rd
  have q0 : Read.Rd Tryd.prog w 3 [x0] := by simpa [cI] using hg 0 _ rfl
  have q1 : Read.Rd Tryd.prog w 22 [x1] := by simpa [cL] using hg 1 _ rfl
  obtain ⟨la, ln, lc, rfl⟩ : ∃ a n c, x1 = .slice a n c := by rcases Read.Rd.slice Tryd.underlying22 q1 with h | ⟨_, _, _, h, _⟩ <;> simp at h <;> exact ⟨_, _, _, h⟩
  obtain ⟨n0, rfl, _⟩ := Read.Rd.int' Tryd.underlying3 q0
  obtain ⟨src, rfl, _⟩ := Read.Rd.int' Tryd.underlying3 qS.rd
  obtain ⟨ls, hp⟩ := Graph.pairs_in q1
  obtain ⟨da, dl, dc, rfl, hd⟩ := delay_in qD.rd
  obtain ⟨ma, mu, mc, rfl, hm, hmu⟩ := mute_in qM
  exact ⟨n0, la, ln, lc, ls, src, dl, mu, da, ma, dc, mc, rfl, hp, hd, hm, hmu⟩
end Go.Proofs.YtmbblhajbecomaaDoor.Flood
namespace Go.Proofs.YtmbblhajbecomaaDoor.Flood
open Go.Proofs.YtmbblhajbecomaaDoor.Nodes Go.Proofs.YtmbblhajbecomaaDoor.Graph Go.Proofs.YtmbblhajbecomaaDoor.Reach Go.Proofs.YtmbblhajbecomaaDoor.Heap
set_option linter.unusedVariables false
set_option linter.unusedSimpArgs false
section
variable {near mu : List Nat} {dl : List (List Int)} {src : Int} {r : List Arr} {f : Nat}
theorem hears_all (ok : Ok near) (h64 : near.length ≤ 64) {y : Arr} (h0 : 0 ≤ y.node) (hy : y.node.toNat < near.length) (hm : mu.getD y.node.toNat 0 = 0) {v : Nat} (hv : v < near.length) (hb : adj near y.node.toNat v = true) (hne : y.frm ≠ (v : Int)) : (hearsF near mu y).testBit v = true := by
  have hn : (nearR near y.node).testBit v = true := by
    unfold nearR
    rw [if_pos (by simp [isN]; omega)]
    simpa [adj] using hb
  have h1 : (anotN (nearR near y.node) (oneN y.frm)).testBit v = true := by
    rw [anotN_bit (by unfold oneN; split; exact Nat.pow_lt_pow_right (by omega) (by omega); exact by decide) v (by omega), hn, oneN_bit _ _ (by omega), decide_eq_false hne]
    rfl
  unfold hearsF
  split
  · rw [hm, anotN_bit (by decide) v (by omega), h1]; simp
  · exact h1
theorem spread (ok : Ok near) (h64 : near.length ≤ 64) (ei : EI near mu dl src [] r) (hf : FInv near.length [] r)
    (hmu : ∀ i, i < near.length → f.testBit i = false → mu.getD i 0 = 0) {most : Int} (h1 : 1 ≤ most) (hd : ∀ a b : Nat, a < near.length → b < near.length → takesF dl a b ≤ most)
    {x : Arr} (hx : x ∈ r) {m k : Nat} (hw : Reach.Way near f x.node m k) : ∃ y ∈ r, y.node = (k : Int) ∧ y.time ≤ x.time + most * m := by
  induction hw with
  | @nil k e _ => exact ⟨x, hx, e, by simp⟩
  | @step m a b hw hab hob ih =>
    obtain ⟨y, hy, hyn, hyt⟩ := ih
    have ha := hw.on
    have hal := on_lt ha
    have hbl := on_lt hob
    have hmm : most * ((m + 1 : Nat) : Int) = most * (m : Int) + most := by rw [Int.natCast_succ, Int.mul_add, Int.mul_one]
    by_cases hfr : y.frm = (b : Int)
    · obtain ⟨k, hk⟩ := List.getElem?_of_mem hy
      have hk1 : 1 ≤ k := by
        rcases Nat.eq_zero_or_pos k with rfl | c
        · have := ei.head y hk
          rw [this] at hfr
          simp only [x0F] at hfr
          omega
        · exact c
      obtain ⟨j, z, hj, hz, hF⟩ := ei.tail k y hk1 hk
      have := ei.rise j k z y (by omega) hz hk
      exact ⟨z, mem_of_get hz, by rw [hF.node, hfr], by omega⟩
    · have hbit : (hearsF near mu y).testBit b = true := hears_all ok h64 (by omega) (by omega) (hmu _ (by omega) (by rw [hyn, Int.toNat_natCast]; exact on_off ha)) hbl (by rw [hyn, Int.toNat_natCast]; exact hab) hfr
      obtain ⟨z, hz, hzn, hzt⟩ := ei.full y hy b (by omega) hbit
      rcases hz with hz | hz
      · have := hd a b hal hbl
        rw [hyn] at hzt
        exact ⟨z, hz, hzn, by omega⟩
      · simp at hz
theorem wdTo_at : ∀ k i, i < k → on near.length f i = true → ((rings near f (i : Int)).length : Int) - 1 ≤ wdTo near f k
  | 0, i, h, _ => by omega
  | k + 1, i, h, ho => by
    rw [wdTo]
    rcases Nat.lt_succ_iff_lt_or_eq.1 h with c | c
    · have := wdTo_at k i c ho
      split <;> omega
    · subst c
      rw [if_pos ho]; omega
theorem way_wide (ok : Ok near) (ho : f < 2 ^ 64) (hw : 0 ≤ wideF near f) {i k : Nat} (hi : on near.length f i = true) (hk : on near.length f k = true) : ∃ m : Nat, (m : Int) ≤ wideF near f ∧ Reach.Way near f (i : Int) m k := by
  unfold wideF at hw ⊢
  split at hw
  · rename_i hwh
    rw [if_pos hwh]
    have h0 := okI_spec.1 (whole_spec.1 hwh i hi) k hk
    have h1 := distF_most ok ho (i : Int) k
    have h2 := wdTo_at (near := near) (f := f) near.length i (on_lt hi) hi
    exact ⟨((distF near f (i : Int)).getD k (-1)).toNat, by omega, (dist_spec ok ho (i : Int)).way k h0⟩
  · omega
/-- The others: the nodes that are there. -/
def othF (n f : Nat) : Nat := ofBits (fun k => on n f k) 64
theorem othF_lt (n f : Nat) : othF n f < 2 ^ 64 := ofBits_lt _ _
theorem othF_has {n : Nat} (hn : n ≤ 64) (i : Int) : hasR (othF n f) i = true ↔ ∃ k : Nat, i = (k : Int) ∧ on n f k = true := by
  simp only [hasR, Bool.and_eq_true, decide_eq_true_eq, othF, ofBits_bit]
  constructor
  · rintro ⟨⟨h0, h1⟩, _, h2⟩
    exact ⟨i.toNat, by omega, h2⟩
  · rintro ⟨k, rfl, h⟩
    have := on_lt h
    exact ⟨⟨by omega, by omega⟩, by omega, by simpa using h⟩
theorem node_uniq {l : List Arr} (h : (l.map Arr.node).Nodup) {x y : Arr} (hx : x ∈ l) (hy : y ∈ l) (e : x.node = y.node) : x = y := by
  induction l with
  | nil => simp at hx
  | cons a l ih =>
    rw [List.map_cons, List.nodup_cons] at h
    rcases List.mem_cons.1 hx with rfl | hx' <;> rcases List.mem_cons.1 hy with rfl | hy'
    · rfl
    · exact absurd (List.mem_map.2 ⟨y, hy', e.symm⟩) h.1
    · exact absurd (List.mem_map.2 ⟨x, hx', e⟩) h.1
    · exact ih h.2 hx' hy'
theorem lastF_le {s : Nat} {c : Int} : ∀ (l : List Arr) (a : Int), a ≤ c → (∀ x ∈ l, hasR s x.node = true → x.time ≤ c) → l.foldl (fun a x => if hasR s x.node = true then max a x.time else a) a ≤ c
  | [], a, h, _ => h
  | x :: l, a, h, hx => by
    rw [List.foldl_cons]
    refine lastF_le l _ ?_ fun y hy => hx y (List.mem_cons_of_mem _ hy)
    split
    · rename_i e
      have := hx x List.mem_cons_self e
      omega
    · exact h
/-- The plain law. -/
theorem all_law (ok : Ok near) (h64 : near.length ≤ 64) (ho : f < 2 ^ 64) (ei : EI near mu dl src [] r) (hf : FInv near.length [] r)
    (hmu : ∀ i, i < near.length → f.testBit i = false → mu.getD i 0 = 0) {most : Int} (h1 : 1 ≤ most) (hd : ∀ a b : Nat, a < near.length → b < near.length → takesF dl a b ≤ most)
    (hw : 0 ≤ wideF near f) {x : Arr} (hx : x ∈ r) (hxf : hasR f x.node = false) :
    setF r &&& othF near.length f = othF near.length f ∧ isF (othF near.length f) r = true ∧ lastF (othF near.length f) r - x.time ≤ most * wideF near f := by
  have hxN := hf.outN x hx
  have hxon : on near.length f x.node.toNat = true := on_of (by omega) (by
    simp only [hasR, decide_eq_true (show (0 : Int) ≤ x.node by omega), decide_eq_true (show x.node < 64 by omega), Bool.true_and] at hxf
    exact hxf)
  have hxe : ((x.node.toNat : Nat) : Int) = x.node := by omega
  have far : ∀ k : Nat, on near.length f k = true → ∃ y ∈ r, y.node = (k : Int) ∧ y.time ≤ x.time + most * wideF near f := fun k hk => by
    obtain ⟨m, hm, hway⟩ := way_wide ok ho hw hxon hk
    rw [hxe] at hway
    obtain ⟨y, hy, hyn, hyt⟩ := spread ok h64 ei hf hmu h1 hd hx hway
    have := Int.mul_le_mul_of_nonneg_left hm (show (0 : Int) ≤ most by omega)
    exact ⟨y, hy, hyn, by omega⟩
  refine ⟨?_, ?_, ?_⟩
  · apply Nat.eq_of_testBit_eq
    intro k
    rw [Nat.testBit_and]
    rcases e : (othF near.length f).testBit k with _ | _
    · simp
    · have hk : k < 64 ∧ on near.length f k = true := by
        have := e
        simp only [othF, ofBits_bit, Bool.and_eq_true, decide_eq_true_eq] at this
        exact this
      obtain ⟨y, hy, hyn, _⟩ := far k hk.2
      have : (setF r).testBit k = true := by
        simp only [setF, ofBits_bit, Bool.and_eq_true, decide_eq_true_eq]
        exact ⟨hk.1, List.mem_map.2 ⟨y, hy, by omega⟩⟩
      rw [this]; rfl
  · rw [isF, List.any_eq_true]
    exact ⟨x, hx, (othF_has h64 _).2 ⟨x.node.toNat, hxe.symm, hxon⟩⟩
  · have hnn : 0 ≤ x.time := (hf.outT x hx).1
    have hmw := Int.mul_nonneg (show (0 : Int) ≤ most by omega) hw
    have := lastF_le (s := othF near.length f) (c := x.time + most * wideF near f) r 0 (by omega) fun y hy hyo => by
      obtain ⟨k, hk, hkon⟩ := (othF_has h64 _).1 hyo
      obtain ⟨z, hz, hzn, hzt⟩ := far k hkon
      rw [node_uniq hf.dist hy hz (by omega)]
      exact hzt
    unfold lastF
    omega
/-- When the first of the others came. -/
def fstF (f : Nat) (l : List Arr) : Int := l.foldl (fun a x => if a < 0 ∧ hasR f x.node = false then x.time else a) (-1)
theorem fstF_snoc (f : Nat) (l : List Arr) (x : Arr) : fstF f (l ++ [x]) = if fstF f l < 0 ∧ hasR f x.node = false then x.time else fstF f l := by unfold fstF; rw [List.foldl_append]; rfl
theorem fstF_fold (f : Nat) : ∀ (l : List Arr) (a : Int), (∀ x ∈ l, 0 ≤ x.time) → (0 ≤ a → l.foldl (fun a x => if a < 0 ∧ hasR f x.node = false then x.time else a) a = a) ∧ (a < 0 → (∃ x ∈ l, hasR f x.node = false) → ∃ x ∈ l, hasR f x.node = false ∧ l.foldl (fun a x => if a < 0 ∧ hasR f x.node = false then x.time else a) a = x.time)
  | [], a, _ => ⟨fun _ => rfl, fun _ ⟨x, hx, _⟩ => by simp at hx⟩
  | x :: l, a, h => by
    have ih := fun b => fstF_fold f l b fun y hy => h y (List.mem_cons_of_mem _ hy)
    have hx := h x List.mem_cons_self
    refine ⟨fun h0 => ?_, fun h0 hex => ?_⟩
    · rw [List.foldl_cons, if_neg (by omega)]
      exact (ih a).1 h0
    · rw [List.foldl_cons]
      rcases hh : hasR f x.node with _ | _
      · rw [if_pos ⟨h0, rfl⟩, (ih x.time).1 hx]
        exact ⟨x, List.mem_cons_self, hh, rfl⟩
      · rw [if_neg (by simp)]
        obtain ⟨y, hy, hyf⟩ := hex
        rcases List.mem_cons.1 hy with rfl | hy'
        · rw [hh] at hyf; cases hyf
        · obtain ⟨z, hz, hzf, e⟩ := (ih a).2 h0 ⟨y, hy', hyf⟩
          exact ⟨z, List.mem_cons_of_mem _ hz, hzf, e⟩
theorem fstF_at (h : ∀ x ∈ r, 0 ≤ x.time) (hex : ∃ x ∈ r, hasR f x.node = false) : ∃ x ∈ r, hasR f x.node = false ∧ fstF f r = x.time := (fstF_fold f r (-1) h).2 (by omega) hex
/-- None of the others came, or one. -/
theorem some_ex (h64 : near.length ≤ 64) (hf : FInv near.length [] r) (h : setF r &&& othF near.length f ≠ 0) : ∃ x ∈ r, hasR f x.node = false := by
  obtain ⟨k, hk⟩ := bit_of_ne h
  simp only [Nat.testBit_and, setF, othF, ofBits_bit, Bool.and_eq_true, decide_eq_true_eq] at hk
  obtain ⟨⟨_, hk1⟩, _, hk2⟩ := hk
  obtain ⟨x, hx, hxk⟩ := List.mem_map.1 hk1
  refine ⟨x, hx, ?_⟩
  have := on_off hk2
  rw [← hxk] at this
  simp [hasR, this]
theorem wdTo_le (ok : Ok near) (h64 : near.length ≤ 64) (ho : f < 2 ^ 64) : ∀ k, wdTo near f k ≤ 64
  | 0 => by rw [wdTo]; omega
  | k + 1 => by
    have := wdTo_le ok h64 ho k
    have := rings_few ok ho (k : Int)
    rw [wdTo]
    split <;> omega
theorem wideF_le (ok : Ok near) (h64 : near.length ≤ 64) (ho : f < 2 ^ 64) : wideF near f ≤ 64 := by
  unfold wideF
  split
  · exact wdTo_le ok h64 ho _
  · omega
/-- The others, in their order. -/
def othL (n f k : Nat) : List Nat := (List.range k).filter fun i => !f.testBit i
theorem othL_succ (n f k : Nat) : othL n f (k + 1) = othL n f k ++ if f.testBit k = false then [k] else [] := by
  unfold othL
  rw [List.range_succ, List.filter_append]
  congr 1
  rcases h : f.testBit k with _ | _ <;> simp [h]
theorem othL_len (n f k : Nat) : (othL n f k).length ≤ k := by
  have := List.length_filter_le (fun i => !f.testBit i) (List.range k)
  rw [List.length_range] at this
  exact this
theorem othL_set (n f : Nat) : ofBits (fun k => decide (k ∈ othL n f n)) 64 = othF n f := by
  apply Nat.eq_of_testBit_eq
  intro k
  rw [othF, ofBits_bit, ofBits_bit]
  congr 1
  rw [Bool.eq_iff_iff]
  simp [othL, on]
theorem hasR_nat {f k : Nat} (hk : k < 64) : hasR f (k : Int) = f.testBit k := by simp [hasR]; omega
/-- The greatest delay so far. -/
structure Most (dl : List (List Int)) (n a b : Nat) (M : Int) : Prop where
  one : 1 ≤ M
  le : M ≤ 64
  old : ∀ x y : Nat, x < a → y < n → takesF dl x y ≤ M
  now : ∀ y : Nat, y < b → takesF dl a y ≤ M
theorem Most.start (dl : List (List Int)) (n : Nat) : Most dl n 0 0 1 := ⟨by omega, by omega, fun x y h => by omega, fun y h => by omega⟩
theorem Most.next {n a b : Nat} {M : Int} (h : Most dl n a b M) : Most dl n a (b + 1) (max M (takesF dl a b)) := by
  have := takesF_bd dl a b
  refine ⟨by have := h.one; omega, by have := h.le; omega, fun x y hx hy => by have := h.old x y hx hy; omega, fun y hy => ?_⟩
  rcases Nat.lt_succ_iff_lt_or_eq.1 hy with c | rfl
  · have := h.now y c; omega
  · omega
theorem Most.row {n a : Nat} {M : Int} (h : Most dl n a n M) : Most dl n (a + 1) 0 M := ⟨h.one, h.le, fun x y hx hy => by
  rcases Nat.lt_succ_iff_lt_or_eq.1 hx with c | rfl
  · exact h.old x y c hy
  · exact h.now y hy, fun y h => by omega⟩
end
end Go.Proofs.YtmbblhajbecomaaDoor.Flood
namespace Go.Proofs.YtmbblhajbecomaaDoor.Flood
set_option maxRecDepth 100000
open Go.RowKit
open Go.Proofs.YtmbblhajbecomaaDoor.RF Go.Proofs.YtmbblhajbecomaaDoor.Heap Go.Proofs.YtmbblhajbecomaaDoor.Nodes Go.Proofs.YtmbblhajbecomaaDoor.Graph Go.Proofs.YtmbblhajbecomaaDoor.Reach
set_option linter.unusedVariables false
set_option linter.unusedSimpArgs false

theorem infoW : (Tryd.prog.info? 25).map (fun i => (i.zero, i.size, i.bytes)) = some (some (.int .u64 0), 1, 8) := by kernel_rfl
theorem sc_set (l : List Nat) (i : Nat) : (sc l).set i (.int .u64 0) = sc (l.set i 0) := by
  unfold sc
  rw [List.map_set]; rfl
theorem own_mute' {w : World} {base g cap : Nat} {mu : List Nat} (h : w.ownsRow base 25 1 (.slice (some ⟨g, 0, none⟩) mu.length cap) mu.length (sc mu)) (hg : g < w.heap.size) (hm : mu.length ≤ 9223372036854775807) (hs : ∀ s ∈ mu, s < 2 ^ 64) : MuteAt w.heap.size w (some ⟨g, 0, none⟩) mu := by
  refine ⟨hm, fun i s hi => ⟨hs s (List.mem_of_getElem? hi), g, 0, rfl, hg, ?_⟩⟩
  have := lt_of_get hi
  rw [Nat.zero_add, h.cellAt i (by omega)]
  simp [sc, hi]
set_option maxHeartbeats 2000000 in
theorem floodall_walk (w : World) (hT : Tab w) (n0 : Int) (la : Option Addr) (ln lc : Nat) (ls : List (Int × Int)) (hp : PairIn w la ln lc ls) (src : Int) (dl : List (List Int)) (mu : List Nat) (da ma : Option Addr) (dc mc : Nat) (hd : DelayAt w.heap.size w da dl) (hm : MuteAt w.heap.size w ma mu) (hmu : mu.length * 8 ≤ 140737488351232)
    (o : Nat) (ho : o < 2 ^ 64) :
    Calls Tryd.prog 9 #[.agg #[.int .i64 n0, .slice la ln lc, .int .i64 src, .slice da dl.length dc, .slice ma mu.length mc], .int .u64 (o : Nat)] w fun e w' => e = .returned (.bool true) ∧ Below w.heap.size w w' := by
  obtain ⟨W, hW⟩ : ∃ W, w.alloc (.cells #[.int .i64 n0, .slice la ln lc, .int .i64 src, .slice da dl.length dc, .slice ma mu.length mc] 64) = W := ⟨_, rfl⟩
  have b0 : Blk W w.heap.size 64 #[.int .i64 n0, .slice la ln lc, .int .i64 src, .slice da dl.length dc, .slice ma mu.length mc] := by rw [← hW]; exact Blk.new w _ _
  have low : Below w.heap.size w W := by rw [← hW]; exact (Below.refl _ w).alloc (Nat.le_refl _) _
  have c4 := b0.cell 4
  simp at c4
  have hM0 : MuteAt W.heap.size W ma mu := (hm.keep fun i hi => low.block i hi).mono low.size
  obtain ⟨iu, hiu, hz⟩ := Option.map_eq_some_iff.1 infoW
  simp only [Prod.mk.injEq] at hz
  obtain ⟨hz0, hz1, hz2⟩ := hz
  have Hiu := Lib.hid hiu
  have Hu0 := Lib.hid hz0
  have Hu1 := Lib.hid hz1
  have Hu2 := Lib.hid hz2
  obtain ⟨i0, hi0, hz⟩ := Option.map_eq_some_iff.1 infoI
  simp only [Prod.mk.injEq] at hz
  obtain ⟨hz0, hz1, hz2⟩ := hz
  have Hi0 := Lib.hid hi0
  have Hz0 := Lib.hid hz0
  have Hz1 := Lib.hid hz1
  have Hz2 := Lib.hid hz2
  have HW := Lib.hid hW
  have Low := Lib.hid low
  have Hd := Lib.hid hd
  have HT := Lib.hid hT
  have HPi := Lib.hid hp
  have HM0 := Lib.hid hM0
  have B0 := Lib.hid b0
  clear hW low hd hm hp hT hM0 b0 hiu hi0 hz0 hz1 hz2
  go_enter Tryd.func9, Tryd.ntmps9
  go_upto_region 1 with (fail)
  rw [HW.out]
  clear HW
  go_upto_block 0 with fail
  go_cut [5] from 26 to 44 (fun s5 V => ∃ (a : Option Addr) (mc' : Nat) (mu' : List Nat), mu'.length = mu.length ∧ RowKit.Hid (Blk V w.heap.size 64 #[.int .i64 n0, .slice la ln lc, .int .i64 src, .slice da dl.length dc, .slice a mu'.length mc']) ∧ RowKit.Hid (MuteAt V.heap.size V a mu') ∧ RowKit.Hid (∀ i, i < 10 → o.testBit i = false → mu'.getD i 0 = 0) ∧ RowKit.Hid (Below w.heap.size w V))
  case first =>
   go_wp2_with fail
   go_loopg [26] mu.length (fun q v26 V => ∃ (k : Nat) (a : Option Addr) (mc' : Nat) (mu' : List Nat), q = mu.length - k ∧ v26 = .int .i64 k ∧ k ≤ mu.length ∧ mu'.length = mu.length ∧ RowKit.Hid (Blk V w.heap.size 64 #[.int .i64 n0, .slice la ln lc, .int .i64 src, .slice da dl.length dc, .slice a mu.length mc']) ∧ RowKit.Hid (MuteAt V.heap.size V a mu') ∧ RowKit.Hid (∀ i, i < k → o.testBit i = false → mu'.getD i 0 = 0) ∧ RowKit.Hid (Below w.heap.size w V))
   case atStart => exact ⟨0, ma, mc, mu, rfl, rfl, Nat.zero_le _, rfl, B0, HM0, Lib.hid (fun i hi => by omega), Low⟩
   case round =>
    obtain ⟨k, a, mc', mu', hgk, rfl, hk, hl, BB, HM, HZ, LR⟩ := hrel
    have Hgk := Lib.hid hgk
    have Hl := Lib.hid hl
    clear hgk
    have BB2 : RowKit.Hid (Blk wr w.heap.size 64 #[.int .i64 n0, .slice la ln lc, .int .i64 src, .slice da dl.length dc, .slice a mu'.length mc']) := Lib.hid (by rw [Hl.out]; exact BB.out)
    by_cases hlt : k < mu.length
    · have HHs := Lib.hid (fun V => refhas_any o ho (k : Int) V)
      have j1 : (0 : Int) ≤ (k : Int) := by omega
      have j2 : (k : Int) < (mu.length : Int) := by omega
      have j3 : (mu.length : Int) ≤ 9223372036854775807 := by omega
      have hob : o.testBit k = false → k < 64 → hasR o (k : Int) = false := fun h h64 => by simp [hasR, h]
      have hbo : hasR o (k : Int) = true → o.testBit k = true := fun h => by simp [hasR] at h; exact h.2
      obtain ⟨h, hh⟩ : ∃ h, hasR o (k : Int) = h := ⟨_, rfl⟩
      rw [hh] at HHs hbo
      rcases h with _ | _
      · obtain ⟨s0, hs0⟩ : ∃ s, mu'[0]? = some s := ⟨_, List.getElem?_eq_getElem (by omega)⟩
        obtain ⟨_, b, off, rfl, hb, _⟩ := HM.out.row 0 s0 hs0
        have b4 := BB.out.cell 4
        simp at b4
        have hsrc : ∀ V, Below wr.heap.size wr V → ∀ (j : Nat) (u : Value), (sc mu')[j]? = some u → V.cell? ⟨b, off + j, none⟩ = some u := fun V kV j u hu => by
          obtain ⟨s, hs, rfl⟩ := Option.map_eq_some_iff.1 (by simpa [sc] using hu)
          obtain ⟨_, b', off', e, _, hc⟩ := HM.out.row j s hs
          simp only [Option.some.injEq, Addr.mk.injEq, and_true] at e
          obtain ⟨rfl, rfl⟩ := e
          exact (kV.cell (p := ⟨b, off + j, none⟩) hb).trans hc
        have oE : (wr.alloc (.cells #[] 25)).ownsRow wr.heap.size 25 1 (.slice (some ⟨wr.heap.size, 0, none⟩) 0 0) 0 [] := by
          have := row_of_blk (base := wr.heap.size) (n := 0) (s := 1) (cap := 0) (Blk.new wr 25 #[]) (Nat.le_refl _) (Nat.le_refl _) (by unfold maxLen; omega) rfl
          simpa using this
        have Hsrc := Lib.hid hsrc
        have OE := Lib.hid oE
        have hs64 : ∀ s ∈ mu', s < 2 ^ 64 := fun s hs => by obtain ⟨j, hj⟩ := List.mem_iff_getElem?.1 hs; exact (HM.out.row j s hj).1
        have Hs64 := Lib.hid hs64
        have bl := BB.out.lt
        clear hs0 hsrc oE hs64 hh hob hbo hl
        go_upto_region 6 with (first
          | (go_at_call 27; refine (HHs.out _).mono ?_; rintro e w' ⟨rfl, h⟩; rw [h]; clear h w')
          | (at_builtin; refine wpList_append_own _ rfl _ _ 48 rfl wr.heap.size 25 iu _ 1 8 Tryd.underlying48 Hiu.out Hu0.out Hu1.out Hu2.out rfl (by decide) _ _ _ rfl OE.out ⟨b, off, none⟩ mu.length mc' (sc mu') rfl (by simp [sc, Hl.out]) (fun j u hu => by rw [Addr.add_lit]; exact Hsrc.out _ ((Below.refl _ _).alloc (Nat.le_refl _) _) j u hu) (by intro u hu; simp only [sc, List.mem_map] at hu; obtain ⟨z, _, rfl⟩ := hu; rfl) (by unfold maxLen; omega) (by omega) (by simp) ?_; intro v5 w5 own5 g5 _; obtain ⟨g, cp, rfl, hgb, hgs⟩ := own5.form (by omega); have bS := (BB.out.alloc (.cells #[] 25)).grown g5 (fun e => by have := (own_rng OE.out e.symm).1; omega); have x4 := bS.cell 4; have xf := bS.frozen 4; simp at x4))
        have l5 := below_own (LR.out.alloc LR.out.size (.cells #[] 25)) g5 OE.out LR.out.size (Nat.le_refl _)
        rw [Nat.zero_add, List.nil_append] at own5
        obtain ⟨X, hX⟩ : ∃ X, w5.setCell ⟨w.heap.size, 4, none⟩ (.slice (some ⟨g, 0, none⟩) mu.length cp) = X := ⟨_, rfl⟩
        have bX : Blk X w.heap.size 64 #[.int .i64 n0, .slice la ln lc, .int .i64 src, .slice da dl.length dc, .slice (some ⟨g, 0, none⟩) mu.length cp] := by rw [← hX]; exact bS.put 4 _
        have oX := ownsRow_setCell_below own5 (a := ⟨w.heap.size, 4, none⟩) bl (.slice (some ⟨g, 0, none⟩) mu.length cp)
        have lX := l5.setCell (p := ⟨w.heap.size, 4, none⟩) (Nat.le_refl _) (.slice (some ⟨g, 0, none⟩) mu.length cp)
        have zX : X.heap.size = w5.heap.size := by rw [← hX, World.size_setCell]
        rw [hX] at oX lX
        try simp only [Nat.zero_add]
        rw [hX]
        have y4 := bX.cell 4
        simp at y4
        obtain ⟨sk, hsk⟩ : ∃ s, mu'[k]? = some s := ⟨_, List.getElem?_eq_getElem (by have := Hl.out; omega)⟩
        have yk : X.cell? ⟨g, k, none⟩ = some (.int .u64 (sk : Nat)) := by rw [oX.cellAt k (by omega)]; simp [sc, hsk]
        have ykf := oX.frozenAt k
        have oY := (oX.stored k (.int .u64 0)).1
        rw [sc_set] at oY
        have HMY : RowKit.Hid (MuteAt (X.setCell ⟨g, k, none⟩ (.int .u64 0)).heap.size (X.setCell ⟨g, k, none⟩ (.int .u64 0)) (some ⟨g, 0, none⟩) (mu'.set k 0)) := Lib.hid (by
          have hl' : (mu'.set k 0).length = mu.length := by rw [List.length_set, Hl.out]
          refine own_mute' (by rw [hl']; exact oY) (by rw [World.size_setCell, zX]; exact hgs) (by rw [hl']; omega) fun s hs => ?_
          rcases List.mem_or_eq_of_mem_set hs with c | rfl
          · exact Hs64.out s c
          · decide)
        have BY : RowKit.Hid (Blk (X.setCell ⟨g, k, none⟩ (.int .u64 0)) w.heap.size 64 #[.int .i64 n0, .slice la ln lc, .int .i64 src, .slice da dl.length dc, .slice (some ⟨g, 0, none⟩) mu.length cp]) := Lib.hid (bX.far (p := ⟨g, k, none⟩) (by show w.heap.size ≠ g; omega) _)
        have LY := Lib.hid (lX.setCell (p := ⟨g, k, none⟩) (by show w.heap.size ≤ g; omega) (.int .u64 0))
        have HlY : (mu'.set k 0).length = mu.length := by rw [List.length_set, Hl.out]
        have HZY : RowKit.Hid (∀ i, i < k + 1 → o.testBit i = false → (mu'.set k 0).getD i 0 = 0) := Lib.hid (fun i hi hoi => by
          have hlk : k < mu'.length := by have := Hl.out; omega
          rcases Nat.lt_succ_iff_lt_or_eq.1 hi with c | rfl
          · have := HZ.out i c hoi
            rw [List.getD_eq_getElem?_getD] at this ⊢
            rw [List.getElem?_set_ne (by omega)]
            exact this
          · rw [List.getD_eq_getElem?_getD, List.getElem?_set_self hlk]; rfl)
        have BY2 : RowKit.Hid (Blk (X.setCell ⟨g, k, none⟩ (.int .u64 0)) w.heap.size 64 #[.int .i64 n0, .slice la ln lc, .int .i64 src, .slice da dl.length dc, .slice (some ⟨g, 0, none⟩) (mu'.set k 0).length cp]) := Lib.hid (by rw [HlY]; exact BY.out)
        have HlY := Lib.hid HlY
        clear b4 hgb bS x4 xf l5 own5 hX bX oX lX zX hsk oY g5
        by_cases h10 : 10 < k
        · have h10' : (10 : Int) < (k : Int) := by omega
          go_wp2_with fail
          go_meet
          case rel => exact ⟨_, cp, mu'.set k 0, HlY.out, BY2, HMY, Lib.hid (fun i hi => HZY.out i (by omega)), LY⟩
        · have h10' : ¬ (10 : Int) < (k : Int) := by omega
          go_wp2_with fail
          go_roundg (mu.length - (k + 1))
          case measure => have := Hgk.out; omega
          case rel => exact ⟨k + 1, _, cp, mu'.set k 0, rfl, by go_num, hlt, HlY.out, BY, HMY, HZY, LY⟩
      · have HZ2 : RowKit.Hid (∀ i, i < k + 1 → o.testBit i = false → mu'.getD i 0 = 0) := Lib.hid (fun i hi hoi => by
          rcases Nat.lt_succ_iff_lt_or_eq.1 hi with c | rfl
          · exact HZ.out i c hoi
          · rw [hbo rfl] at hoi; cases hoi)
        clear hh hob hbo hl
        by_cases h10 : 10 < k
        · have h10' : (10 : Int) < (k : Int) := by omega
          go_wp2_with (go_at_call 27; refine (HHs.out _).mono ?_; rintro e w' ⟨rfl, h⟩; rw [h]; clear h w')
          go_meet
          case rel => exact ⟨a, mc', mu', Hl.out, BB2, HM, Lib.hid (fun i hi => HZ2.out i (by omega)), LR⟩
        · have h10' : ¬ (10 : Int) < (k : Int) := by omega
          go_wp2_with (go_at_call 27; refine (HHs.out _).mono ?_; rintro e w' ⟨rfl, h⟩; rw [h]; clear h w')
          go_roundg (mu.length - (k + 1))
          case measure => have := Hgk.out; omega
          case rel => exact ⟨k + 1, a, mc', mu', rfl, by go_num, hlt, Hl.out, BB, HM, HZ2, LR⟩
    · obtain rfl : k = mu.length := by omega
      go_wp2_with fail
      go_meet
      case rel => exact ⟨a, mc', mu', hl, BB2, HM, Lib.hid (fun i hi hoi => by
        by_cases c : i < mu.length
        · exact HZ.out i c hoi
        · rw [List.getD_eq_getElem?_getD, List.getElem?_eq_none (by have := Hl.out; omega)]; rfl), LR⟩
  case rest =>
    obtain ⟨a, mc', mu', hl, BB, HM, HZ, LR⟩ := hcut
    obtain ⟨W1, rfl⟩ : ∃ W, W = wc := ⟨_, rfl⟩
    clear HM0 B0 c4 Hiu Hu0 Hu1 Hu2
    have c0 := BB.out.cell 0
    have c1 := BB.out.cell 1
    have c2 := BB.out.cell 2
    have c3 := BB.out.cell 3
    have c4 := BB.out.cell 4
    simp at c0 c1 c2 c3 c4
    have lR := LR.out.size
    have hT1 := HT.out.below LR.out HT.out.size
    have HRn := Lib.hid (lawrun_any W1 hT1 n0 la ln lc ls (HPi.out.below LR.out) src dl mu' da a dc mc' ((Hd.out.keep fun i hi => LR.out.block i hi).mono lR) HM.out (by omega))
    have hZ := HZ.out
    have HT1 := Lib.hid hT1
    have Hl := Lib.hid hl
    clear HZ HPi hT1 hl
    go_upto_region 10 with (go_at_call 29; refine HRn.out.mono ?_; rintro e w2 ⟨m, G, R, near, L, ha, hc, v1, v2, r, rfl, m1, m2, hnl, hL, HMa, HG, HP, O1, O2, HF, HR, HL⟩)
    obtain ⟨a1, q1, rfl⟩ := own_form O1.out
    obtain ⟨a2, q2, rfl⟩ := own_form O2.out
    have hrl := HF.out.few
    have HE := Lib.hid HR.out.ei
    have lb0 := BB.out.lt
    clear c0 c1 c2 c3 c4 HRn
    obtain ⟨W3, hW3⟩ : ∃ W3, w2.alloc (.cells #[.int .i64 (m : Nat), .slice ha L.length hc] 27) = W3 := ⟨_, rfl⟩
    have l3 : Below w2.heap.size w2 W3 := by rw [← hW3]; exact (Below.refl _ _).alloc (Nat.le_refl _) _
    have bM : Blk W3 w2.heap.size 27 #[.int .i64 (m : Nat), .slice ha L.length hc] := by rw [← hW3]; exact Blk.new w2 _ _
    have z3 := l3.size
    have z4 := bM.lt
    rw [hW3]
    have lw := HL.out.size
    have LW3 : RowKit.Hid (Below W1.heap.size W1 W3) := Lib.hid (HL.out.trans (l3.mono lw))
    have L3 : RowKit.Hid (Below w.heap.size w W3) := Lib.hid (LR.out.trans (LW3.out.mono lR))
    have hT3 : Tab W3 := HT1.out.below LW3.out HT1.out.size
    have P1 := Lib.hid (own_below O1.out l3)
    have HT3 := Lib.hid hT3
    have BM := Lib.hid bM
    have BS3 := Lib.hid (BB.out.below LW3.out lb0)
    have ok := HMa.out.ok (by omega : m ≤ 64)
    have hPa3 : PairsAt W3 (.slice ha L.length hc) L := HP.out.below l3 (Nat.le_refl _)
    have Hd3 := Lib.hid ((Hd.out.keep fun i hi => L3.out.block i hi : DelayAt w.heap.size W3 da dl))
    have HWd := Lib.hid (refwide_any (w := W3) m (.slice ha L.length hc) L near hPa3 (by omega) HMa.out m1 (by omega) o ho)
    have m3 := bM.cell 0
    have m4 := bM.cell 1
    simp at m3 m4
    obtain ⟨wd, hwd⟩ : ∃ x, wideF near o = x := ⟨_, rfl⟩
    rw [hwd] at HWd
    have hw64 : wd ≤ 64 := by rw [← hwd]; exact wideF_le ok (by omega) ho
    have LFin := Lib.hid (fun V (kV : Below W3.heap.size W3 V) => (show Below w.heap.size w V from L3.out.trans (kV.mono L3.out.size)))
    have HWk := Lib.hid (fun V (kV : Below W3.heap.size W3 V) => floodworks_any V (HT3.out.below kV HT3.out.size))
    have HAL := Lib.hid (fun (M x : Int) (hM : Most dl m m 0 M) (hw0 : 0 ≤ wd) (hx : ∃ y ∈ r, hasR o y.node = false) (hxe : fstF o r = x) => (show setF r &&& othF m o = othF m o ∧ isF (othF m o) r = true ∧ lastF (othF m o) r - x ≤ M * wd by
      obtain ⟨y, hy, hyo, hye⟩ := fstF_at (fun x hx => (HF.out.outT x hx).1) hx
      have h := all_law ok (by omega) ho HE.out (by rw [hnl]; exact HF.out) (fun i hi hoi => hZ i (by omega) hoi) (most := M) hM.one (fun a b ha hb => hM.old a b (by omega) (by omega)) (by omega) hy hyo
      rw [hnl, hwd] at h
      rw [← hxe, hye]
      exact h))
    have HSx := Lib.hid (fun (h : setF r &&& othF m o ≠ 0) => (some_ex (near := near) (f := o) (by omega) (by rw [hnl]; exact HF.out) (by rw [hnl]; exact h) : ∃ x ∈ r, hasR o x.node = false))
    have hN : ∀ x ∈ r, 0 ≤ x.node ∧ x.node < 64 := fun x hx => by have := HF.out.outN x hx; omega
    have hTm : ∀ x ∈ r, 0 ≤ x.time ∧ x.time ≤ 640 := fun x hx => by have := HF.out.outT x hx; omega
    have HN := Lib.hid hN
    have HTm := Lib.hid hTm
    clear hW3 l3 hT3 O1 O2 bM hwd hZ BB HM HP HG HR HE HMa Hd HT HT1 LW3 LR Low hPa3 ok hN hTm
    go_upto_region 11 with (go_at_call 31; refine HWd.out.mono ?_; rintro e w4 ⟨rfl, l4⟩)
    have z5 := l4.size
    have L4 := Lib.hid l4
    have HcM := Lib.hid (fun V (kV : Below W3.heap.size W3 V) => (BM.out.below kV z4 : Blk V w2.heap.size 27 #[.int .i64 (m : Nat), .slice ha L.length hc]))
    by_cases hw0 : wd < 0
    · clear m3 m4
      go_wp2_with (go_at_call 30; refine (HWk.out w4 L4.out).mono ?_; rintro e w8 ⟨rfl, l8⟩)
      go_ret
      exact ⟨rfl, LFin.out w8 (L4.out.trans (l8.mono L4.out.size))⟩
    · clear m3 m4 l4
      go_upto_block 2 with fail
      go_cut [11, 12] from 58 to 71 (fun s11 s12 V => ∃ (a11 : Option Addr) (c11 : Nat), s11 = .slice a11 (othL m o m).length c11 ∧ RowKit.Hid (V.ownsRow W3.heap.size 3 1 (.slice a11 (othL m o m).length c11) (othL m o m).length (nc (othL m o m))) ∧ RowKit.Hid (Below W3.heap.size W3 V))
      case first =>
       go_wp2_with fail
       go_loopg [11, 12] m (fun q v11 v12 V => ∃ k : Nat, q = m - k ∧ v12 = .int .i64 k ∧ k ≤ m ∧ RowKit.Hid (V.ownsRow W3.heap.size 3 1 v11 (othL m o k).length (nc (othL m o k))) ∧ RowKit.Hid (Below W3.heap.size W3 V))
       case atStart => exact ⟨0, rfl, rfl, Nat.zero_le _, Lib.hid (World.ownsRow_nil _ _ _ _), L4⟩
       case round =>
        obtain ⟨k, hgk, rfl, hk, OW, LR⟩ := hrel
        have Hgk := Lib.hid hgk
        clear hgk
        have lR := LR.out.size
        obtain ⟨aw, cw, hew⟩ := own_form OW.out
        subst hew
        have m5 := (HcM.out wr LR.out).cell 0
        simp at m5
        by_cases hlt : k < m
        · have j2 : (k : Int) < (m : Int) := by omega
          have HHs := Lib.hid (fun V => refhas_any o ho (k : Int) V)
          have hkh := hasR_nat (f := o) (k := k) (by omega)
          rw [hkh] at HHs
          have hos := othL_succ m o k
          have hol := othL_len m o k
          obtain ⟨h, hh⟩ : ∃ h, o.testBit k = h := ⟨_, rfl⟩
          rw [hh] at HHs hos
          clear hkh hh
          rcases h with _ | _
          · rw [if_pos rfl] at hos
            have Hos := Lib.hid hos
            have LR2 := Lib.hid LR.out
            clear hos LR
            have oA := own_below OW.out ((Below.refl _ wr).alloc (Nat.le_refl _) (.cells #[.int .i64 (k : Nat)] 3))
            have OA := Lib.hid oA
            clear oA
            go_wp2_with (first
              | (go_at_call 27; refine (HHs.out _).mono ?_; rintro e w' ⟨rfl, h⟩; rw [h]; clear h w')
              | (at_builtin; refine wpList_append_own _ rfl _ _ 51 rfl W3.heap.size 3 i0 _ 1 8 Tryd.underlying51 Hi0.out Hz0.out Hz1.out Hz2.out rfl (by decide) _ _ _ rfl OA.out ⟨wr.heap.size, 0, none⟩ 1 1 [.int .i64 (k : Nat)] rfl rfl (cell_one_new _ _ _) (by simp [Value.oneCell']) (by unfold maxLen; omega) (by omega) (by simp; omega) ?_; intro v5 w5 own5 g5 _))
            have l5 := Lib.hid (below_own (LR2.out.alloc lR _) g5 OA.out (Nat.le_refl _) (Nat.le_refl _))
            have O5 : RowKit.Hid (w5.ownsRow W3.heap.size 3 1 v5 (othL m o (k + 1)).length (nc (othL m o (k + 1)))) := Lib.hid (by rw [Hos.out, List.length_append, nc_snoc]; exact own5)
            clear own5 g5
            go_wp2_with fail
            go_roundg (m - (k + 1))
            case measure => have := Hgk.out; omega
            case rel => exact ⟨k + 1, rfl, by go_num, hlt, O5, l5⟩
          · have Hos := Lib.hid hos
            clear hos
            go_wp2_with (go_at_call 27; refine (HHs.out _).mono ?_; rintro e w' ⟨rfl, h⟩; rw [h]; clear h w')
            go_roundg (m - (k + 1))
            case measure => have := Hgk.out; omega
            case rel => exact ⟨k + 1, rfl, by go_num, hlt, Lib.hid (by rw [Hos.out]; simpa using OW.out), LR⟩
        · obtain rfl : k = m := by omega
          go_wp2_with fail
          go_meet
          case rel => exact ⟨aw, cw, rfl, OW, LR⟩
      case rest =>
        obtain ⟨a11, c11, rfl, O11, LO⟩ := hcut
        obtain ⟨W4, rfl⟩ : ∃ W, W = wc := ⟨_, rfl⟩
        clear L4
        have z6 := LO.out.size
        have hol := othL_len m o m
        have hOf := fun V (kV : Below W4.heap.size W4 V) => of_any V (.slice a11 (othL m o m).length c11) (othL m o m) (nc_ints (own_below O11.out kV) rfl) (by omega)
        rw [othL_set] at hOf
        have HAl := Lib.hid (all_any' W4 (own_below P1.out LO.out) HN.out (by omega))
        have hOl := othF_lt m o
        have hSl := setF_lt r
        obtain ⟨S, hS⟩ : ∃ S, setF r = S := ⟨_, rfl⟩
        obtain ⟨Oth, hO⟩ : ∃ S, othF m o = S := ⟨_, rfl⟩
        obtain ⟨lo, hlo⟩ : ∃ S, (othL m o m).length = S := ⟨_, rfl⟩
        rw [hS] at HAl HAL HSx hSl
        rw [hO] at hOf HAL HSx hOl
        rw [hlo] at hOf hol
        rw [hlo]
        have HOf := Lib.hid hOf
        have HOl := Lib.hid hOl
        have HSl := Lib.hid hSl
        have Hlo := Lib.hid hlo
        clear hS hO hOf hOl hSl hlo
        go_upto_region 21 with (first
          | (go_at_call 32; refine HAl.out.mono ?_; rintro e w5 ⟨rfl, l5⟩)
          | (go_at_call 33; refine (HOf.out w5 l5).mono ?_; rintro e w' ⟨rfl, h⟩; rw [h]; clear h w'))
        have k5 := LO.out.trans (l5.mono z6)
        have L45 := Lib.hid l5
        have K5 := Lib.hid k5
        clear l5 k5 HAl
        have hbit : bits BinOp.and IntKind.u64 (S : Int) (Oth : Int) = ((S &&& Oth : Nat) : Int) := bits_and_u64_nat _ _ HSl.out HOl.out
        rw [hbit]
        clear hbit
        obtain ⟨Y, hY⟩ : ∃ q, S &&& Oth = q := ⟨_, rfl⟩
        simp only [hY] at HAL HSx
        rw [hY]
        clear hY
        by_cases hY0 : Y = 0
        · subst hY0
          have n0' : ((0 : Nat) : Int) = 0 := rfl
          go_wp2_with (go_at_call 30; refine (HWk.out w5 K5.out).mono ?_; rintro e w8 ⟨rfl, l8⟩)
          go_ret
          exact ⟨rfl, LFin.out w8 (K5.out.trans (l8.mono K5.out.size))⟩
        · have HSx2 := Lib.hid (HSx.out hY0)
          have hY1 : ¬ (Y : Int) = 0 := by omega
          have hYb : ((Y : Int) == 0) = false := by simpa using hY0
          clear HSx hY0
          go_upto_block 4 with fail
          try rw [hYb]
          clear hYb hY1
          go_cut [15] from 83 to 98 (fun s15 V => s15 = .int .i64 (fstF o r) ∧ RowKit.Hid (Below w5.heap.size w5 V))
          case first =>
           go_wp2_with fail
           go_loopg [15, 83] r.length (fun q v15 v83 V => ∃ (k : Nat) (t : Int), q = r.length - k ∧ v15 = .int .i64 t ∧ v83 = .int .i64 k ∧ k ≤ r.length ∧ RowKit.Hid (t = fstF o (r.take k)) ∧ RowKit.Hid (Below w5.heap.size w5 V))
           case atStart => exact ⟨0, -1, rfl, rfl, rfl, Nat.zero_le _, Lib.hid rfl, Lib.hid (Below.refl _ _)⟩
           case round =>
            obtain ⟨k, t, hgk, rfl, rfl, hk, Ht, LR⟩ := hrel
            have Hgk := Lib.hid hgk
            clear hgk
            have lR := LR.out.size
            by_cases hlt : k < r.length
            · obtain ⟨x, hx⟩ : ∃ x, r[k]? = some x := ⟨_, List.getElem?_eq_getElem hlt⟩
              obtain ⟨_, _, e1, h1⟩ := own_arr (own_below P1.out (K5.out.trans (LR.out.mono K5.out.size)))
              simp only [Value.slice.injEq] at e1
              obtain ⟨g1, hb1, hg1, _, y0, y1, y2, y3⟩ := h1 k x hx
              rw [← e1.1] at hb1
              subst hb1
              have j1 : (0 : Int) ≤ (k : Int) := by omega
              have j2 : (k : Int) < (r.length : Int) := by omega
              have HHs := Lib.hid (fun V => refhas_any o ho x.node V)
              have hnx : fstF o (r.take (k + 1)) = if t < 0 ∧ hasR o x.node = false then x.time else t := by rw [take_snoc hx, fstF_snoc, ← Ht.out]
              obtain ⟨h, hh⟩ : ∃ h, hasR o x.node = h := ⟨_, rfl⟩
              rw [hh] at HHs hnx
              obtain ⟨xn, hxn⟩ : ∃ n, x.node = n := ⟨_, rfl⟩
              rw [hxn] at HHs y0
              have Hnx := Lib.hid hnx
              clear e1 h1 hx hh hnx hxn Ht
              by_cases ht : t < 0
              · rcases h with _ | _
                · have Hn2 : RowKit.Hid (x.time = fstF o (r.take (k + 1))) := Lib.hid (by rw [Hnx.out, if_pos ⟨ht, rfl⟩])
                  go_wp2_with (go_at_call 27; refine (HHs.out _).mono ?_; rintro e w' ⟨rfl, h⟩; rw [h]; clear h w')
                  go_roundg (r.length - (k + 1))
                  case measure => have := Hgk.out; omega
                  case rel => exact ⟨k + 1, x.time, rfl, rfl, by go_num, hlt, Hn2, Lib.hid (LR.out.alloc lR _)⟩
                · have Hn2 : RowKit.Hid (t = fstF o (r.take (k + 1))) := Lib.hid (by rw [Hnx.out, if_neg (by simp)])
                  go_wp2_with (go_at_call 27; refine (HHs.out _).mono ?_; rintro e w' ⟨rfl, h⟩; rw [h]; clear h w')
                  go_roundg (r.length - (k + 1))
                  case measure => have := Hgk.out; omega
                  case rel => exact ⟨k + 1, t, rfl, rfl, by go_num, hlt, Hn2, Lib.hid (LR.out.alloc lR _)⟩
              · have Hn2 : RowKit.Hid (t = fstF o (r.take (k + 1))) := Lib.hid (by rw [Hnx.out, if_neg (by omega)])
                go_wp2_with fail
                go_roundg (r.length - (k + 1))
                case measure => have := Hgk.out; omega
                case rel => exact ⟨k + 1, t, rfl, rfl, by go_num, hlt, Hn2, Lib.hid (LR.out.alloc lR _)⟩
            · obtain rfl : k = r.length := by omega
              have ht := Ht.out
              rw [List.take_length] at ht
              have Ht2 := Lib.hid ht
              clear ht Ht
              go_wp2_with fail
              go_meet
              case rel => exact ⟨by rw [Ht2.out], LR⟩
          case rest =>
            obtain ⟨rfl, LF⟩ := hcut
            obtain ⟨W6, rfl⟩ : ∃ W, W = wc := ⟨_, rfl⟩
            obtain ⟨ft, hft⟩ : ∃ q, fstF o r = q := ⟨_, rfl⟩
            rw [hft]
            have ft1 : -1 ≤ ft ∧ ft ≤ 640 := by
              rw [← hft]
              obtain ⟨y, hy, _, e⟩ := fstF_at (fun x hx => (HTm.out x hx).1) HSx2.out
              have := HTm.out y hy
              omega
            have HAL2 := Lib.hid (fun M hM => HAL.out M ft hM (by omega) HSx2.out hft)
            have K6 := Lib.hid (K5.out.trans (LF.out.mono K5.out.size))
            clear hft HAL HSx2
            go_upto_block 6 with fail
            go_cut [18, 19, 20] from 99 to 117 (fun s18 s19 s20 V => ∃ M : Int, s18 = .int .i64 M ∧ RowKit.Hid (Most dl m m 0 M) ∧ RowKit.Hid (Below W6.heap.size W6 V))
            case first =>
             have HDl := Lib.hid (fun V (kV : Below W3.heap.size W3 V) (x y : Nat) => delay_any w.heap.size V da dl dc (Hd3.out.keep fun i hi => kV.block i (by have := L3.out.size; omega)) x y)
             have HBS := Lib.hid (fun V (kV : Below W3.heap.size W3 V) => BS3.out.below kV (by have := BS3.out.lt; omega))
             go_wp2_with fail
             go_loopg [18, 19] m (fun q v18 v19 V => ∃ (k : Nat) (M : Int), q = m - k ∧ v18 = .int .i64 M ∧ v19 = .int .i64 k ∧ k ≤ m ∧ RowKit.Hid (Most dl m k 0 M) ∧ RowKit.Hid (Below W6.heap.size W6 V))
             case atStart => exact ⟨0, 1, rfl, rfl, rfl, Nat.zero_le _, Lib.hid (Most.start dl m), Lib.hid (Below.refl _ _)⟩
             case round =>
              obtain ⟨k, M, hgk, rfl, rfl, hk, Hm, LR⟩ := hrel
              have Hgk := Lib.hid hgk
              clear hgk
              have k7 := K6.out.trans (LR.out.mono K6.out.size)
              have m5 := (HcM.out _ k7).cell 0
              simp at m5
              by_cases hlt : k < m
              · have j2 : (k : Int) < (m : Int) := by omega
                clear k7
                go_wp2_with fail
                go_loopg [18, 20] m (fun q v18 v20 V => ∃ (j : Nat) (M : Int), q = m - j ∧ v18 = .int .i64 M ∧ v20 = .int .i64 j ∧ j ≤ m ∧ RowKit.Hid (Most dl m k j M) ∧ RowKit.Hid (Below W6.heap.size W6 V))
                case atStart => exact ⟨0, M, rfl, rfl, rfl, Nat.zero_le _, Hm, LR⟩
                case round =>
                  clear Hm m5
                  obtain ⟨j, M2, hgj, rfl, rfl, hj, Hm, LR5⟩ := hrel
                  have Hgj := Lib.hid hgj
                  clear hgj
                  obtain ⟨wz, rfl⟩ : ∃ W, W = wr := ⟨_, rfl⟩
                  have k7 := K6.out.trans (LR5.out.mono K6.out.size)
                  have m5 := (HcM.out _ k7).cell 0
                  have x3 := (HBS.out _ k7).cell 3
                  simp at m5 x3
                  have HD := Lib.hid (HDl.out _ k7 k j)
                  clear k7
                  by_cases hlj : j < m
                  · have j3 : (j : Int) < (m : Int) := by omega
                    have Hmx := Hm.out.next
                    obtain ⟨t, ht⟩ : ∃ q, takesF dl k j = q := ⟨_, rfl⟩
                    rw [ht] at HD Hmx
                    clear ht
                    by_cases hmt : M2 < t
                    · have Hm3 : RowKit.Hid (Most dl m k (j + 1) t) := Lib.hid (by rw [Int.max_eq_right (by omega)] at Hmx; exact Hmx)
                      clear Hmx
                      go_wp2_with (go_at_call 34; refine HD.out.mono ?_; rintro e w' ⟨rfl, h⟩; rw [h]; clear h w')
                      all_goals try (exfalso; omega)
                      go_roundg (m - (j + 1))
                      case measure => have := Hgj.out; omega
                      case rel => exact ⟨j + 1, t, rfl, rfl, by go_num, hlj, Hm3, LR5⟩
                    · have Hm3 : RowKit.Hid (Most dl m k (j + 1) M2) := Lib.hid (by rw [Int.max_eq_left (by omega)] at Hmx; exact Hmx)
                      clear Hmx
                      go_wp2_with (go_at_call 34; refine HD.out.mono ?_; rintro e w' ⟨rfl, h⟩; rw [h]; clear h w')
                      all_goals try (exfalso; omega)
                      go_roundg (m - (j + 1))
                      case measure => have := Hgj.out; omega
                      case rel => exact ⟨j + 1, M2, rfl, rfl, by go_num, hlj, Hm3, LR5⟩
                  · obtain rfl : j = m := by omega
                    go_wp2_with fail
                    go_roundg (j - (k + 1))
                    case measure => have := Hgk.out; omega
                    case rel => exact ⟨k + 1, M2, rfl, rfl, by go_num, hlt, Lib.hid Hm.out.row, LR5⟩
              · obtain rfl : k = m := by omega
                clear k7
                go_wp2_with fail
                go_meet
                case rel => exact ⟨M, rfl, Hm, LR⟩
            case rest =>
              obtain ⟨M, rfl, Hm, LM⟩ := hcut
              obtain ⟨W7, rfl⟩ : ∃ W, W = wc := ⟨_, rfl⟩
              have k67 := LF.out.trans (LM.out.mono LF.out.size)
              have k47 := L45.out.trans (k67.mono L45.out.size)
              have k7 := K6.out.trans (LM.out.mono K6.out.size)
              have hOf7 := fun V (kV : Below W7.heap.size W7 V) => HOf.out V (k47.trans (kV.mono k47.size))
              have hLa := last_any W7 (own_below P1.out k7) Oth HOl.out (fun x hx => (HTm.out x hx).1) (by omega)
              obtain ⟨e1, e2, e3⟩ := HAL2.out M Hm.out
              have l0 : 0 ≤ lastF Oth r := lastF_nn Oth r 0 (by omega)
              have l1 : lastF Oth r ≤ 640 := lastF_le r 0 (by omega) fun x hx _ => (HTm.out x hx).2
              obtain ⟨lst, hlst⟩ : ∃ q, lastF Oth r = q := ⟨_, rfl⟩
              rw [hlst, e2] at hLa
              rw [hlst] at e3 l0 l1
              subst e1
              have h1 := Hm.out.one
              have h2 := Hm.out.le
              have p0 : 0 ≤ M * wd := Int.mul_nonneg (by omega) (by omega)
              have p1 : M * wd ≤ 64 * 64 := Int.mul_le_mul h2 hw64 (by omega) (by omega)
              have q1 : IntKind.i64.wrap (M * wd) = M * wd := IntWalk.i64_in _ (by omega)
              have q2 : IntKind.i64.wrap (lst - ft) = lst - ft := IntWalk.i64_in _ (by omega)
              have q3 : ((Y : Int) == (Y : Int)) = true := by simp
              have HLa := Lib.hid hLa
              have HOf7 := Lib.hid hOf7
              have HWk7 := Lib.hid (fun V (kV : Below W7.heap.size W7 V) => HWk.out V (k7.trans (kV.mono k7.size)))
              have LFin7 := Lib.hid (fun V (kV : Below W7.heap.size W7 V) => LFin.out V (k7.trans (kV.mono k7.size)))
              clear k67 k47 k7 hOf7 hLa hlst e2 HAL2 HOf HWk LFin HcM
              go_upto_region 39 with (first
                | (go_at_call 33; refine (HOf7.out W7 (Below.refl _ _)).mono ?_; rintro e w' ⟨rfl, h⟩; rw [h]; clear h w')
                | (go_at_call 35; refine HLa.out.mono ?_; rintro e w8 ⟨rfl, l8⟩))
              go_wp2_with (first
                | (go_at_call 33; refine (HOf7.out w8 l8).mono ?_; rintro e w' ⟨rfl, h⟩; rw [h]; clear h w')
                | (go_at_call 30; refine (HWk7.out w8 l8).mono ?_; rintro e w9 ⟨rfl, l9⟩))
              go_ret
              exact ⟨rfl, LFin7.out w9 (l8.trans (l9.mono l8.size))⟩
end Go.Proofs.YtmbblhajbecomaaDoor.Flood
