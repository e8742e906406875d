/- A storm that comes in: what its cells hold, and how great a list may be. -/
import Derived.Test.YtmbblhajbecomaaDoorFloodModel
import Derived.Test.YtmbblhajbecomaaDoorRead
import Derived.SizedLaws
import Derived.Test.YtmbblhajbecomaaDoorMadeEx
namespace Go.Proofs.YtmbblhajbecomaaDoor.Read
open Go.ChangeShapes Go.WideShapes Go.ChangeAt Go.RowKit
set_option linter.unusedVariables false
variable {P : Program} {w : World} {t e : TypeId} {cs : List Value}
/-- The cells read as data of type t, of which no list is too great. -/
def RdS (P : Program) (w : World) (t : TypeId) (cs : List Value) : Prop :=
  ∃ (H : Type) (enc : TypeId × Value → H) (fuel : Nat) (x : DataW H × List MemPlace), DataW.trod enc P w 0 (fun _ => true) true fuel t cs = some x ∧ ∀ n ∈ x.1.weights P t, n ≤ reachBytes
theorem RdS.rd (h : RdS P w t cs) : Rd P w t cs := by
  obtain ⟨H, enc, fuel, x, h, _⟩ := h
  exact ⟨H, enc, fuel, x, h⟩
theorem RdS.struct {fs : Array Field} (ht : P.underlying t = some (.struct fs)) (h : RdS P w t cs) :
    cs.length = P.cellsOf t ∧ ∀ (i : Nat) (f : Field), fs[i]? = some f → RdS P w f.type ((cs.drop f.offset).take (P.cellsOf f.type)) := by
  obtain ⟨H, enc, fuel, x, h, hs⟩ := h
  obtain ⟨xs, n, _, hx, hl, hn, hf⟩ := DataW.trod_struct ht h
  subst hx
  refine ⟨hl, fun i f hi => ?_⟩
  have hlt : i < xs.length := by
    rw [hn]
    rcases Nat.lt_or_ge i fs.size with c | c
    · exact c
    · rw [Array.getElem?_eq_none c] at hi; cases hi
  refine ⟨H, enc, n, xs[i], by rw [hf i f hi]; simp [hlt], fun m hm => hs m ?_⟩
  have : m ∈ DataW.weightsEach P (fs.toList.map (·.type)) (xs.map (·.1)) :=
    DataW.weights_mem_each (j := i) (t := f.type) (d := xs[i].1) (by simp [hi]) (by simp [hlt]) m hm
  simpa [DataW.weights, ht] using this
theorem RdS.slice_len {a : Option Addr} {len cap : Nat} (ht : P.underlying t = some (.slice e)) (h : RdS P w t [.slice a len cap]) : len * P.bytesOf e ≤ reachBytes := by
  obtain ⟨H, enc, fuel, x, h, hs⟩ := h
  rcases DataW.trod_slice ht h with ⟨h1, _⟩ | ⟨b, l, c, xs, ys, n, _, hcs, hx, _, hl, hm, hxl, _⟩
  · simp at h1
    obtain ⟨rfl, rfl, rfl⟩ := h1
    simp
  · simp at hcs
    obtain ⟨rfl, rfl, rfl⟩ := hcs
    subst hx
    have := hs ((xs.length + ys.length) * P.bytesOf e) (by simp [DataW.weights, ht])
    have h2 : xs.length * P.bytesOf e ≤ (xs.length + ys.length) * P.bytesOf e := Nat.mul_le_mul_right _ (by omega)
    rw [hxl] at h2
    exact Nat.le_trans h2 (by rw [← hxl]; exact this)
end Go.Proofs.YtmbblhajbecomaaDoor.Read
namespace Go.Proofs.YtmbblhajbecomaaDoor.Flood
open Go.RowKit
open Go.Proofs.YtmbblhajbecomaaDoor.RF Go.Proofs.YtmbblhajbecomaaDoor.Heap Go.Proofs.YtmbblhajbecomaaDoor.Nodes Go.Proofs.YtmbblhajbecomaaDoor.Graph Go.Proofs.YtmbblhajbecomaaDoor.Reach
set_option linter.unusedVariables false
/-- Rows of numbers that come in. -/
theorem delay_in {w : World} {v : Value} (h : Read.Rd Tryd.prog w 62 [v]) : ∃ a dl cap, v = .slice a (dl : List (List Int)).length cap ∧ DelayAt w.heap.size w a dl := by
  rcases Read.Rd.slice Tryd.underlying62 h with h1 | ⟨a, len, cap, h1, hl, hm, hr⟩
  · simp at h1
    subst h1
    exact ⟨none, [], 0, rfl, by simp, fun i r hi => by simp at hi⟩
  · simp at h1
    subst h1
    have cR : Tryd.prog.cellsOf 105 = 1 := by kernel_rfl
    have cI : Tryd.prog.cellsOf 2 = 1 := by kernel_rfl
    have hrow : ∀ i, i < len → ∃ r : List Int, r.length ≤ 9223372036854775807 ∧ ∃ ra rc, w.cell? (a.add i) = some (.slice ra r.length rc) ∧ ∀ (j : Nat) (d : Int), r[j]? = some d → ∃ rb ro, ra = some ⟨rb, ro, none⟩ ∧ rb < w.heap.size ∧ w.cell? ⟨rb, ro + j, none⟩ = some (.int .i64 d) := by
      intro i hi
      obtain ⟨es, h2, h3⟩ := hr i (by omega)
      rw [cR] at h2
      obtain ⟨hes, hec⟩ := Read.cells_at h2
      obtain ⟨v, rfl⟩ : ∃ v, es = [v] := by
        match es, hes with
        | [v], _ => exact ⟨v, rfl⟩
      obtain ⟨ra, rl, rc, zs, rfl, hz⟩ := h3.ints' Tryd.underlying105 Tryd.underlying2 cI
      have hc := hec 0 (by omega)
      have htl : (zs.take rl).length = rl := by rw [List.length_take, hz.size, Nat.min_eq_left hz.le]
      have hmx := hz.max
      have hle := hz.le
      refine ⟨zs.take rl, by rw [htl]; omega, ra, rc, ?_, fun j d hd => ?_⟩
      · rw [htl]
        simpa [Addr.add] using hc
      · have hj : j < rl := by have := lt_of_get hd; omega
        rw [List.getElem?_take, if_pos hj] at hd
        rcases hz.at' with c0 | ⟨b, off, rfl, hb, hcell⟩
        · omega
        · refine ⟨b, off, rfl, hb, ?_⟩
          rw [hcell j (by omega), hd]; rfl
    obtain ⟨dl, hdl, hp⟩ := Read.choose_list len hrow
    subst hdl
    have hmx : dl.length ≤ 9223372036854775807 := by unfold maxLen at hm; omega
    refine ⟨some a, dl, cap, rfl, hmx, fun i r hi => ?_⟩
    obtain ⟨p1, ra, rc, p2, p3⟩ := hp i r hi
    obtain ⟨b, off, spot⟩ := a
    have hspot : spot = none := by
      have hl0 : 0 < dl.length := by have := lt_of_get hi; omega
      obtain ⟨_, _, _, p4, _⟩ := hp 0 _ (List.getElem?_eq_getElem hl0)
      simpa [Addr.add] using World.cell?_spot p4
    subst hspot
    rw [Go.WideShapes.add_plain] at p2
    exact ⟨p1, b, off, ra, rc, rfl, World.block_lt_of_cell? w _ p2, p2, p3⟩
/-- Sets that come in. -/
theorem mute_in {w : World} {v : Value} (h : Read.RdS Tryd.prog w 48 [v]) : ∃ a mu cap, v = .slice a (mu : List Nat).length cap ∧ MuteAt w.heap.size w a mu ∧ mu.length * 8 ≤ 140737488351232 := by
  have cU : Tryd.prog.cellsOf 25 = 1 := by kernel_rfl
  have bU : Tryd.prog.bytesOf 25 = 8 := by kernel_rfl
  obtain ⟨a, len, cap, zs, rfl, hz⟩ := h.rd.ints' Tryd.underlying48 Tryd.underlying25 cU
  have hb := h.slice_len Tryd.underlying48
  rw [bU] at hb
  have hle := hz.le
  have hmx := hz.max
  have htl : ((zs.take len).map Int.toNat).length = len := by rw [List.length_map, List.length_take, hz.size, Nat.min_eq_left hle]
  refine ⟨a, (zs.take len).map Int.toNat, cap, by rw [htl], ⟨by rw [htl]; omega, fun i s hi => ?_⟩, by rw [htl]; exact hb⟩
  have hil : i < len := by have := lt_of_get hi; omega
  rw [List.getElem?_map, List.getElem?_take, if_pos hil] at hi
  obtain ⟨z, hzz, rfl⟩ := Option.map_eq_some_iff.1 hi
  obtain ⟨s, rfl, hs⟩ := u64_in (hz.wf z (List.mem_of_getElem? hzz))
  refine ⟨by simpa using hs, ?_⟩
  rcases hz.at' with c0 | ⟨b, off, rfl, hbb, hcell⟩
  · omega
  · refine ⟨b, off, rfl, hbb, ?_⟩
    rw [hcell i (by omega), hzz]; simp
/-- What a storm that comes in holds. -/
theorem storm_in {w : World} {cs : Array Value} (h : Read.RdS Tryd.prog w 64 cs.toList) :
    ∃ (n0 : Int) (la : Option Addr) (ln lc : Nat) (ls : List (Int × Int)) (src : Int) (dl : List (List Int)) (mu : List Nat) (da ma : Option Addr) (dc mc : Nat), cs = #[.int .i64 n0, .slice la ln lc, .int .i64 src, .slice da dl.length dc, .slice ma mu.length mc] ∧
      PairIn w la ln lc ls ∧ DelayAt w.heap.size w da dl ∧ MuteAt w.heap.size w ma mu ∧ mu.length * 8 ≤ 140737488351232 := by
  obtain ⟨hl, hf⟩ := h.struct Tryd.underlying64
  obtain ⟨x0, x1, x2, x3, x4, rfl⟩ := Read.cells5 (hl.trans (by kernel_rfl))
  have cW : Tryd.prog.cellsOf 24 = 2 := by kernel_rfl
  have cI : Tryd.prog.cellsOf 3 = 1 := by kernel_rfl
  have cL : Tryd.prog.cellsOf 22 = 1 := by kernel_rfl
  have cD : Tryd.prog.cellsOf 62 = 1 := by kernel_rfl
  have cM : Tryd.prog.cellsOf 48 = 1 := by kernel_rfl
  have qW : Read.RdS Tryd.prog w 24 [x0, x1] := by simpa [cW] using hf 0 _ rfl
  have qS : Read.RdS Tryd.prog w 3 [x2] := by simpa [cI] using hf 1 _ rfl
  have qD : Read.RdS Tryd.prog w 62 [x3] := by simpa [cD] using hf 2 _ rfl
  have qM : Read.RdS Tryd.prog w 48 [x4] := by simpa [cM] using hf 3 _ rfl
  obtain ⟨_, hg⟩ := Read.Rd.struct Tryd.underlying24 qW.rd
  have q0 : Read.Rd Tryd.prog w 3 [x0] := by simpa [cI] using hg 0 _ rfl
  have q1 : Read.Rd Tryd.prog w 22 [x1] := by simpa [cL] using hg 1 _ rfl
  obtain ⟨la, ln, lc, rfl⟩ : ∃ a n c, x1 = .slice a n c := by rcases Read.Rd.slice Tryd.underlying22 q1 with h | ⟨_, _, _, h, _⟩ <;> simp at h <;> exact ⟨_, _, _, h⟩
  obtain ⟨n0, rfl, _⟩ := Read.Rd.int' Tryd.underlying3 q0
  obtain ⟨src, rfl, _⟩ := Read.Rd.int' Tryd.underlying3 qS.rd
  obtain ⟨ls, hp⟩ := Graph.pairs_in q1
  obtain ⟨da, dl, dc, rfl, hd⟩ := delay_in qD.rd
  obtain ⟨ma, mu, mc, rfl, hm, hmu⟩ := mute_in qM
  exact ⟨n0, la, ln, lc, ls, src, dl, mu, da, ma, dc, mc, rfl, hp, hd, hm, hmu⟩
end Go.Proofs.YtmbblhajbecomaaDoor.Flood
