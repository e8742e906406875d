/- A storm: flood.Run, walked. -/
import Derived.Test.YtmbblhajbecomaaDoorFloodCome
import Derived.Deep.LoopGhost
import Derived.Maps.AppendAt
namespace Go.Proofs.YtmbblhajbecomaaDoor.Flood
open Go.RowKit
open Go.Proofs.YtmbblhajbecomaaDoor.RF Go.Proofs.YtmbblhajbecomaaDoor.Heap Go.Proofs.YtmbblhajbecomaaDoor.Nodes Go.Proofs.YtmbblhajbecomaaDoor.Graph Go.Proofs.YtmbblhajbecomaaDoor.Reach
set_option linter.unusedVariables false
set_option linter.unusedSimpArgs false

/-- Where a message is at first. -/
def startF (n : Nat) (src : Int) : List Arr := if isN n src = true then [⟨src, 0, 0, -1⟩] else []
/-- What comes of a storm. -/
def Runs (near mu : List Nat) (dl : List (List Int)) (src : Int) (r : List Arr) : Prop := Ends near mu dl (startF near.length src) [] r
theorem map_erase {β γ : Type} (f : β → γ) : ∀ (l : List β) (i : Nat), (l.eraseIdx i).map f = (l.map f).eraseIdx i
  | [], i => by simp
  | a :: l, 0 => rfl
  | a :: l, i + 1 => by simp [map_erase f l i]
section
variable {base P A G : Nat} {da : Option Addr} {dn dc : Nat} {ma : Option Addr} {mn mc : Nat} {no : Nat} {S : List (Th Arr)} {out : List Arr} {came : Nat} {o : Value} {w w' : World}
theorem SAt.took (h : SAt base P A G da dn dc ma mn mc no S out came o w) {S' : List (Th Arr)} (f : Fr base Agenda.F.ts w w') (a : Agenda.F.Ag base A 65536 no S' w') : SAt base P A G da dn dc ma mn mc no S' out came o w' :=
  ⟨f.blk h.box (by decide), a, f.own h.row (by decide), h.low⟩
theorem PInv.take {n : Nat} {way : List Arr} (h : PInv n S no way out came) (i : Nat) : PInv n (S.eraseIdx i) no (way.eraseIdx i) out came :=
  ⟨by rw [← h.map, map_erase], fun t ht => h.due t (mem_erase ht), h.rise.erase i, fun t ht => h.nos t (mem_erase ht), h.nob, h.bits, h.lt⟩
theorem PInv.first {n : Nat} {way : List Arr} (h : PInv n S no way out came) {i : Nat} {t : Th Arr} (f : First S i t) : FirstA way i t.x ∧ t.due = t.x.time := by
  have hd := h.due t (mem_of_get f.get)
  have hg : ∀ (j : Nat) (u : Arr), way[j]? = some u → ∃ s, S[j]? = some s ∧ s.x = u ∧ s.due = u.time := fun j u hu => by
    rw [← h.map, List.getElem?_map] at hu
    rcases e : S[j]? with _ | s
    · rw [e] at hu; cases hu
    · rw [e] at hu
      simp at hu
      subst hu
      exact ⟨s, rfl, rfl, h.due s (mem_of_get e)⟩
  refine ⟨⟨by rw [← h.map, List.getElem?_map, f.get]; rfl, fun j u hu => ?_, fun j u hj hu => ?_⟩, hd⟩
  · obtain ⟨s, h1, h2, h3⟩ := hg j u hu
    have := f.le j s h1; omega
  · obtain ⟨s, h1, h2, h3⟩ := hg j u hu
    have := f.lt j s hj h1; omega
end
/-- What the rounds keep. -/
structure RInv (n : Nat) (near mu : List Nat) (dl : List (List Int)) (w : World) (P A G : Nat) (da : Option Addr) (dc : Nat) (ma : Option Addr) (mc : Nat) (src : Int) (no : Nat) (S : List (Th Arr)) (way out : List Arr) (came : Nat) (o : Value) (V : World) : Prop where
  at_ : SAt w.heap.size P A G da dl.length dc ma mu.length mc no S out came o V
  inv : PInv near.length S no way out came
  fine : FInv near.length way out
  low : Below w.heap.size w V
  ends : ∀ r, Ends near mu dl way out r → Runs near mu dl src r
set_option maxRecDepth 100000 in
set_option maxHeartbeats 8000000 in
theorem run_any (K : Nat) (w : World) (G R : Nat) (near mu : List Nat) (dl : List (List Int)) (da ma : Option Addr) (dc mc : Nat) (src : Int) (hg : GraphAt w G R near) (ok : Ok near) (hT : Tab w) (hd : DelayAt K w da dl) (hm : MuteAt K w ma mu) (hK : K ≤ w.heap.size) :
    Calls Tryd.prog 50 #[.pointer (some ⟨G, 0, none⟩), .int .i64 src, .slice da dl.length dc, .slice ma mu.length mc] w fun e w' => ∃ v r, e = .returned v ∧ w'.ownsRow w.heap.size 71 4 v r.length (arrC r) ∧ Below w.heap.size w w' ∧ FInv near.length [] r ∧ Runs near mu dl src r := by
  have hfew := hg.few
  have HN := Lib.hid (n_any hg)
  by_cases hs : isN near.length src = true
  · obtain ⟨k, rfl, hk⟩ := isN_yes hs
    have hst : startF near.length (k : Int) = [⟨k, 0, 0, -1⟩] := if_pos hs
    have i1 : (k : Int) < (near.length : Int) := by omega
    have hw0 := hT.size
    have hGl := hg.box.lt
    have hRl := hg.row.lt
    have Hg := Lib.hid hg
    have HT := Lib.hid hT
    have Hd := Lib.hid hd
    have Hm := Lib.hid hm
    have Hst := Lib.hid hst
    clear hg hT hd hm hs hst
    go_enter Tryd.func50, Tryd.ntmps50
    go_wp2_with (first
      | (go_at_call 40; refine HN.out.mono ?_; rintro e w' ⟨rfl, h⟩; rw [h]; clear h w')
      | (go_at_call 64; refine (Agenda.F.new_any 65536 w (by omega)).mono ?_; rintro e w1 ⟨rfl, ag1, fr1⟩))
    obtain ⟨W2, hW2⟩ : ∃ W2, w1.alloc (.cells #[.pointer (some ⟨G, 0, none⟩), .slice da dl.length dc, .slice ma mu.length mc, .pointer (some ⟨w.heap.size, 0, none⟩), .slice none 0 0, .int .u64 0] 119) = W2 := ⟨_, rfl⟩
    have zP : w.heap.size ≤ w1.heap.size := fr1.size
    have bP : Blk W2 w1.heap.size 119 (stormC G da dl.length dc ma mu.length mc w.heap.size (.slice none 0 0) 0) := by rw [← hW2]; exact Blk.new w1 _ _
    have l1 : Below w.heap.size w w1 := fr1.toBelow (Nat.le_refl _)
    have l2 : Below w.heap.size w W2 := by rw [← hW2]; exact l1.alloc zP _
    have hS2 : SAt w.heap.size w1.heap.size w.heap.size G da dl.length dc ma mu.length mc 0 [] [] 0 (.slice none 0 0) W2 :=
      ⟨bP, by rw [← hW2]; exact ag1.off ((Off.refl _ _).alloc _), World.ownsRow_nil _ _ _ _, zP⟩
    have C := come_yes K R dl mu near hS2 (graph_keep Hg.out l2 hGl hRl) ok (HT.out.below l2 hw0) (Hd.out.keep fun i hi => l2.block i (by omega)) (Hm.out.keep fun i hi => l2.block i (by omega)) hK l2.size ⟨hGl, hRl, hw0⟩ (PInv.start near.length) ⟨k, 0, 0, -1⟩ (by show (0 : Int) ≤ (k : Int); omega) i1 rfl (by simp) (by simp) (by simp)
    have hP0 : FInv near.length (startF near.length k) [] := by rw [Hst.out]; exact FInv.start (by omega)
    have f0 : FirstA (startF near.length k) 0 ⟨k, 0, 0, -1⟩ := by
      rw [Hst.out]
      refine ⟨rfl, fun j u hu => ?_, fun j u hj => by omega⟩
      have := lt_of_get hu
      simp at this
      subst this
      simp at hu
      subst hu
      exact Int.le_refl _
    have hP1 := hP0.come (mu := mu) (dl := dl) ok f0 rfl
    have he : (startF near.length k).eraseIdx 0 = [] := by rw [Hst.out]; rfl
    have hE1 : ∀ r, Ends near mu dl ((startF near.length k).eraseIdx 0 ++ sendsF near mu dl ⟨k, 0, 0, -1⟩) ([] ++ [⟨k, 0, 0, -1⟩]) r → Runs near mu dl k r := fun r h => .come f0 rfl h
    rw [he] at hP1 hE1
    have HP1 := Lib.hid hP1
    have HE1 := Lib.hid hE1
    obtain ⟨P, hPe⟩ : ∃ P, w1.heap.size = P := ⟨_, rfl⟩
    rw [hPe] at C zP
    rw [hW2, hPe]
    clear hW2 bP l1 hS2 hP0 hP1 he hE1 hPe ag1 fr1
    refine C.mono ?_
    clear C
    rintro e w3 ⟨⟨v, rfl⟩, S, no, came, o, at3, inv3, l3⟩
    have HR : RowKit.Hid (RInv near.length near mu dl w P w.heap.size G da dc ma mc k no S ([] ++ sendsF near mu dl ⟨k, 0, 0, -1⟩) ([] ++ [⟨k, 0, 0, -1⟩]) came o w3) := Lib.hid ⟨at3, inv3, HP1.out, l2.trans l3, HE1.out⟩
    obtain ⟨way, hway⟩ : ∃ way, ([] ++ sendsF near mu dl ⟨k, 0, 0, -1⟩ : List Arr) = way := ⟨_, rfl⟩
    obtain ⟨out, hout⟩ : ∃ out, ([] ++ [⟨k, 0, 0, -1⟩] : List Arr) = out := ⟨_, rfl⟩
    rw [hway, hout] at HR
    clear at3 inv3 l2 l3 HP1 HE1 hway hout f0 Hst
    go_wp2_with fail
    go_loopg [] (muF near.length way out) (fun q wr => ∃ no S way out came o, q = muF near.length way out ∧ RowKit.Hid (RInv near.length near mu dl w P w.heap.size G da dc ma mc k no S way out came o wr))
    case atStart => exact ⟨no, S, way, out, came, o, rfl, HR⟩
    case round =>
      clear HR
      clear no S way out came o
      obtain ⟨no, S, way, out, came, o, hgk, HR⟩ := hrel
      have Hgk := Lib.hid hgk
      clear hgk
      have p3 : wr.cell? ⟨P, 3, none⟩ = some (.pointer (some ⟨w.heap.size, 0, none⟩)) := HR.out.at_.box.cell 3
      have p4 : wr.cell? ⟨P, 4, none⟩ = some o := HR.out.at_.box.cell 4
      have lR := HR.out.low.size
      by_cases hS : S = []
      · subst hS
        have hway : way = [] := by rw [← HR.out.inv.map]; rfl
        subst hway
        have HNx := Lib.hid (Agenda.F.next_no w.heap.size w.heap.size 65536 no wr HR.out.at_.ag)
        go_wp2_with (go_at_call 66; refine HNx.out.mono ?_; rintro e w' ⟨rfl, rfl⟩)
        go_ret
        exact ⟨o, out, rfl, HR.out.at_.row, HR.out.low, HR.out.fine, HR.out.ends _ (.done _)⟩
      · obtain ⟨i, t, hf⟩ := exists_first S hS
        have hSl : S.length ≤ 65536 := by
          have h1 := len_nos HR.out.inv.rise HR.out.inv.nos
          have h2 := HR.out.inv.nob
          have h3 := HR.out.fine.few
          have h4 : near.length * out.length ≤ 64 * 64 := Nat.mul_le_mul hfew (by omega)
          omega
        have HNx := Lib.hid (Agenda.F.next_yes w.heap.size w.heap.size 65536 no S wr HR.out.at_.ag HR.out.inv.rise i t hf hSl)
        have HTk := Lib.hid (fun V (a : Agenda.F.Ag w.heap.size w.heap.size 65536 no S V) => Agenda.F.take_yes w.heap.size w.heap.size 65536 no S t.due V a HR.out.inv.rise i t hf hSl (Int.le_refl _))
        obtain ⟨fA, hdue⟩ := HR.out.inv.first hf
        have hxm := mem_of_get fA.get
        have hxN := HR.out.fine.wayN _ hxm
        have hxT := HR.out.fine.wayT _ hxm
        have hxH := HR.out.fine.wayH _ hxm
        have hfo := HR.out.fine.few
        obtain ⟨x, hx⟩ : ∃ x, t.x = x := ⟨_, rfl⟩
        rw [hx] at HTk fA hxN hxT hxH
        have FA := Lib.hid fA
        clear hf hdue hxm hx fA
        go_wp2_with (first
          | (go_at_call 66; refine HNx.out.mono ?_; rintro e w' ⟨rfl, rfl⟩)
          | (go_at_call 67; refine (HTk.out _ HR.out.at_.ag).mono ?_; rintro e w5 ⟨rfl, ag5, fr5⟩))
        obtain ⟨V, hV⟩ : ∃ V, w5.alloc (.cells #[.int .i64 x.node, .int .i64 x.time, .int .i64 x.hops, .int .i64 x.frm] 71) = V := ⟨_, rfl⟩
        rw [hV]
        have lV5 : Below w5.heap.size w5 V := by rw [← hV]; exact (Below.refl _ _).alloc (Nat.le_refl _) _
        have l5 : Below w.heap.size wr w5 := fr5.toBelow lR
        have lV : Below w.heap.size w V := (HR.out.low.trans l5).trans (lV5.mono (by have := l5.size; omega))
        have atV : SAt w.heap.size P w.heap.size G da dl.length dc ma mu.length mc no (S.eraseIdx i) out came o V := (HR.out.at_.took fr5 ag5).below lV5
        have invV := HR.out.inv.take i
        clear hV lV5 l5 ag5 fr5 p3 p4 HNx HTk
        rcases hc : cameF out x.node with _ | _
        · have hlt : out.length < 64 := by
            have := (HR.out.fine.come (mu := mu) (dl := dl) ok FA.out hc).few
            rw [List.length_append, List.length_singleton] at this
            omega
          have C := come_yes K R dl mu near atV (graph_keep Hg.out lV hGl hRl) ok (HT.out.below lV hw0) (Hd.out.keep fun i hi => lV.block i (by omega)) (Hm.out.keep fun i hi => lV.block i (by omega)) hK lV.size ⟨hGl, hRl, hw0⟩ invV x hxN.1 hxN.2 hc ⟨hxT.1, by omega⟩ ⟨hxH.1, by omega⟩ hlt
          have Hc := Lib.hid hc
          have LV := Lib.hid lV
          clear hc lV atV invV
          refine C.mono ?_
          clear C
          rintro e w6 ⟨⟨v, rfl⟩, S', no', came', o', at6, inv6, l6⟩
          have HR6 : RowKit.Hid (RInv near.length near mu dl w P w.heap.size G da dc ma mc k no' S' (way.eraseIdx i ++ sendsF near mu dl x) (out ++ [x]) came' o' w6) :=
            Lib.hid ⟨at6, inv6, HR.out.fine.come ok FA.out Hc.out, LV.out.trans l6, fun r h => HR.out.ends r (.come FA.out Hc.out h)⟩
          have hmu := Lib.hid (muF_come (mu := mu) (dl := dl) ok HR.out.fine FA.out Hc.out)
          clear at6 inv6 l6
          go_wp2_with fail
          go_roundg (muF near.length (way.eraseIdx i ++ sendsF near mu dl x) (out ++ [x]))
          case measure => have := hmu.out; have := Hgk.out; omega
          case rel => exact ⟨no', S', _, _, came', o', rfl, HR6⟩
        · have C := come_no atV invV x hxN.1 (by omega) hc
          have HR6 : RowKit.Hid (∀ w6, Below V.heap.size V w6 → RInv near.length near mu dl w P w.heap.size G da dc ma mc k no (S.eraseIdx i) (way.eraseIdx i) out came o w6) :=
            Lib.hid fun w6 l6 => ⟨atV.below l6, invV, HR.out.fine.skip i, lV.trans (l6.mono lV.size), fun r h => HR.out.ends r (.skip FA.out hc h)⟩
          have hmu := Lib.hid (muF_skip (n := near.length) (out := out) FA.out)
          clear hc lV atV invV
          refine C.mono ?_
          clear C
          rintro e w6 ⟨⟨v, rfl⟩, l6⟩
          have HR7 := Lib.hid (HR6.out w6 l6)
          clear l6 HR6
          go_wp2_with fail
          go_roundg (muF near.length (way.eraseIdx i) out)
          case measure => have := hmu.out; have := Hgk.out; omega
          case rel => exact ⟨no, S.eraseIdx i, _, _, came, o, rfl, HR7⟩
  · have hs : isN near.length src = false := by simpa using hs
    have hst : startF near.length src = [] := if_neg (by simp [hs])
    have hE : Runs near mu dl src [] := by unfold Runs; rw [hst]; exact .done _
    have HE := Lib.hid hE
    have hn := FInv.nil near.length
    have Hn := Lib.hid hn
    clear hg hd hm hst hE hn
    by_cases h0 : src < 0
    · clear hs
      go_enter Tryd.func50, Tryd.ntmps50
      go_wp2
      go_ret
      exact ⟨_, [], rfl, World.ownsRow_nil _ _ _ _, Below.refl _ _, Hn.out, HE.out⟩
    · have h1 : (near.length : Int) ≤ src := by simp [isN] at hs; omega
      clear hs
      go_enter Tryd.func50, Tryd.ntmps50
      go_wp2_with (go_at_call 40; refine HN.out.mono ?_; rintro e w' ⟨rfl, h⟩; rw [h]; clear h w')
      go_ret
      exact ⟨_, [], rfl, World.ownsRow_nil _ _ _ _, Below.refl _ _, Hn.out, HE.out⟩
end Go.Proofs.YtmbblhajbecomaaDoor.Flood
namespace Go.Proofs.YtmbblhajbecomaaDoor.Flood
open Go.RowKit
open Go.Proofs.YtmbblhajbecomaaDoor.RF Go.Proofs.YtmbblhajbecomaaDoor.Heap Go.Proofs.YtmbblhajbecomaaDoor.Nodes Go.Proofs.YtmbblhajbecomaaDoor.Graph Go.Proofs.YtmbblhajbecomaaDoor.Reach
set_option linter.unusedVariables false
set_option linter.unusedSimpArgs false

/-- Comings lie in a row of the call's own. -/
theorem own_arr {w : World} {base : Nat} {e : TypeId} {v : Value} {l : List Arr} (h : w.ownsRow base e 4 v l.length (arrC l)) : ∃ a cap, v = .slice a l.length cap ∧ ∀ (j : Nat) (x : Arr), l[j]? = some x → ∃ b, a = some ⟨b, 0, none⟩ ∧ b < w.heap.size ∧ v.ownBlock = some b ∧
    w.cell? ⟨b, j * 4, none⟩ = some (.int .i64 x.node) ∧ w.cell? ⟨b, j * 4 + 1, none⟩ = some (.int .i64 x.time) ∧ w.cell? ⟨b, j * 4 + 2, none⟩ = some (.int .i64 x.hops) ∧ w.cell? ⟨b, j * 4 + 3, none⟩ = some (.int .i64 x.frm) := by
  rcases h.2 with ⟨rfl, h0⟩ | ⟨g, cap, cur, rfl, hb, hg, hnc, hcm, hcs, ht⟩
  · refine ⟨none, 0, by rw [h0], fun j x hx => ?_⟩
    have := lt_of_get hx; omega
  · refine ⟨_, _, rfl, fun j x hx => ⟨g, rfl, (Array.getElem?_eq_some_iff.1 hg).1, rfl, ?_⟩⟩
    have hlt := lt_of_get hx
    have hc : ∀ k, k < 4 → w.cell? ⟨g, j * 4 + k, none⟩ = (encA x)[k]? := fun k hk => by
      rw [h.cellAt _ (by omega)]
      exact arrC_at hx hk
    exact ⟨hc 0 (by omega), hc 1 (by omega), hc 2 (by omega), hc 3 (by omega)⟩
theorem cameF_snoc {l : List Arr} {k : Nat} {x : Arr} (h : l[k]? = some x) (v : Int) : cameF (l.take (k + 1)) v = (cameF (l.take k) v || x.node == v) := by
  rw [List.take_add_one, h, cameF, List.any_append]
  simp [cameF]
theorem refcame_any (w : World) {base : Nat} {v : Value} {l : List Arr} (h : w.ownsRow base 70 4 v l.length (arrC l)) (hlen : l.length ≤ 65536) (i : Int) :
    Calls Tryd.prog 68 #[v, .int .i64 i] w fun e w' => e = .returned (.bool (cameF l i)) ∧ w' = w := by
  obtain ⟨a, cap, rfl, hc⟩ := own_arr h
  clear h
  go_enter Tryd.func68, Tryd.ntmps68
  go_wp2
  go_loop [5] (fun v5 => ∃ k : Nat, v5 = .int .i64 k ∧ k ≤ l.length ∧ RowKit.Hid (cameF (l.take k) i = false)) (fun v5 => match v5 with | .int _ k => l.length - k.toNat | _ => 0)
  case atStart => exact ⟨0, rfl, Nat.zero_le _, Lib.hid (by simp [cameF])⟩
  case round =>
    obtain ⟨k, rfl, hk, hn⟩ := hrel
    by_cases hlt : k < l.length
    · obtain ⟨x, hx⟩ : ∃ x, l[k]? = some x := ⟨_, List.getElem?_eq_getElem hlt⟩
      obtain ⟨b, rfl, hb, _, c0, _⟩ := hc k x hx
      have l3 : (0 : Int) ≤ (k : Int) := by omega
      have l4 : (k : Int) < (l.length : Int) := by omega
      have l5 : (k : Int) ≤ 65535 := by omega
      clear hc
      rcases e1 : x.node == i with _ | _
      · have hn2 := Lib.hid (show cameF (l.take (k + 1)) i = false from by rw [cameF_snoc hx, hn.out, e1]; rfl)
        clear hn hx
        go_wp2
        go_round
        case rel => exact ⟨k + 1, rfl, hlt, hn2⟩
        case measure => simp; omega
      · have hm := Lib.hid (show cameF l i = true from cameF_iff.2 ⟨x, mem_of_get hx, by simpa using e1⟩)
        clear hn hx
        go_wp2
        go_ret
        exact ⟨ret_b hm.out.symm, rfl⟩
    · obtain rfl : k = l.length := by omega
      have hm := Lib.hid (show cameF l i = false from by
        have := hn.out
        rwa [List.take_length] at this)
      clear hn
      go_wp2
      go_ret
      exact ⟨ret_b hm.out.symm, rfl⟩
/-- Does a node send to v? -/
def sendB (mu : List Nat) (x : Arr) (v : Nat) : Bool := ((v : Int) != x.frm) && !(decide (x.node < (mu.length : Int)) && (mu.getD x.node.toNat 0).testBit v)
theorem filter_range_ge {p : Nat → Bool} {n m : Nat} (hnm : n ≤ m) (h : ∀ k, n ≤ k → k < m → p k = false) : (List.range m).filter p = (List.range n).filter p := by
  induction m with
  | zero => obtain rfl : n = 0 := by omega
            rfl
  | succ m ih =>
    by_cases c : n = m + 1
    · subst c; rfl
    · rw [List.range_succ, List.filter_append, ih (by omega) (fun k h1 h2 => h k h1 (by omega))]
      simp [h m (by omega) (by omega)]
theorem sends_ref {n : Nat} {near mu : List Nat} {L : List (Int × Int)} (hM : Match n near L) (h64 : n ≤ 64) (hmu : ∀ s ∈ mu, s < 2 ^ 64) (hnl : ∀ s ∈ near, s < 2 ^ 64) (x : Arr) (hx : 0 ≤ x.node ∧ x.node < (n : Int)) :
    ones (hearsF near mu x) = (refNear n L x.node).filter (sendB mu x) := by
  obtain ⟨k, hk⟩ : ∃ k : Nat, x.node = k := ⟨x.node.toNat, by omega⟩
  have hlen := hM.len
  have hnr : nearR near x.node = near.getD k 0 := by rw [hk]; exact nearR_nat near k
  have hnlt : near.getD k 0 < 2 ^ 64 := by
    rw [List.getD_eq_getElem?_getD]
    rcases e : near[k]? with _ | s
    · simp
    · exact hnl s (List.mem_of_getElem? e)
  have hml : mu.getD k 0 < 2 ^ 64 := by
    rw [List.getD_eq_getElem?_getD]
    rcases e : mu[k]? with _ | s
    · simp
    · exact hmu s (List.mem_of_getElem? e)
  have hbit : ∀ v, v < 64 → (hearsF near mu x).testBit v = ((near.getD k 0).testBit v && sendB mu x v) := fun v hv => by
    have hq : anotN (near.getD k 0) (oneN x.frm) < 2 ^ 64 := anotN_lt hnlt
    have e1 : (anotN (near.getD k 0) (oneN x.frm)).testBit v = ((near.getD k 0).testBit v && ((v : Int) != x.frm)) := by
      rw [anotN_bits hnlt (oneN_lt _), oneN_bit _ _ hv]
      congr 1
      rw [bne, Bool.eq_iff_iff]
      simp; omega
    unfold hearsF sendB
    rw [hnr, hk, Int.toNat_natCast]
    by_cases c : (k : Int) < (mu.length : Int)
    · rw [if_pos c, anotN_bits hq hml, e1]
      simp [c, Bool.and_assoc]
    · rw [if_neg c, e1]
      simp [c]
  unfold ones refNear
  rw [List.filter_filter]
  have h1 : (List.range 64).filter (fun i => (hearsF near mu x).testBit i) = (List.range n).filter (fun i => (hearsF near mu x).testBit i) := by
    refine filter_range_ge h64 fun v h1 h2 => ?_
    rcases e : (hearsF near mu x).testBit v with _ | _
    · rfl
    · have := (hearsF_lt (hM.ok h64) x v e).1
      omega
  rw [h1]
  refine List.filter_congr fun v hv => ?_
  have hv' := List.mem_range.1 hv
  rw [hbit v (by omega), hM.bits k v (by omega), hk, Bool.and_comm]
end Go.Proofs.YtmbblhajbecomaaDoor.Flood
