/- To whom a message came, when to the last of some; the laws' own path: walked. -/
import Derived.Test.YtmbblhajbecomaaDoorFloodMap
namespace Go.Proofs.YtmbblhajbecomaaDoor.Flood
set_option maxRecDepth 100000
open Go.RowKit
open Go.Proofs.YtmbblhajbecomaaDoor.RF Go.Proofs.YtmbblhajbecomaaDoor.Heap Go.Proofs.YtmbblhajbecomaaDoor.Nodes Go.Proofs.YtmbblhajbecomaaDoor.Graph Go.Proofs.YtmbblhajbecomaaDoor.Reach
set_option linter.unusedVariables false
set_option linter.unusedSimpArgs false

/-- The numbers of the nodes. -/
def nos (l : List Arr) : List Nat := l.map fun x => x.node.toNat
/-- The set of all to whom it came. -/
def setF (l : List Arr) : Nat := ofBits (fun k => decide (k ∈ nos l)) 64
def allF (l : List Arr) : Nat := l.foldl (fun s x => s ||| 2 ^ x.node.toNat) 0
theorem allF_snoc (l : List Arr) (x : Arr) : allF (l ++ [x]) = allF l ||| 2 ^ x.node.toNat := by simp [allF]
theorem allF_bits (l : List Arr) : ∀ (s k : Nat), (l.foldl (fun s x => s ||| 2 ^ x.node.toNat) s).testBit k = (s.testBit k || decide (k ∈ nos l)) := by
  induction l with
  | nil => intro s k; simp [nos]
  | cons x l ih =>
    intro s k
    have e : decide (k ∈ nos (x :: l)) = (decide (x.node.toNat = k) || decide (k ∈ nos l)) := by
      rw [Bool.eq_iff_iff]
      simp only [nos, List.map_cons, List.mem_cons, Bool.or_eq_true, decide_eq_true_eq]
      exact ⟨fun h => h.imp Eq.symm (fun c => decide_eq_true c), fun h => h.imp Eq.symm (fun c => of_decide_eq_true c)⟩
    rw [List.foldl_cons, ih, Nat.testBit_or, Nat.testBit_two_pow, Bool.or_assoc, e]
theorem allF_eq {l : List Arr} (h : ∀ x ∈ l, x.node.toNat < 64) : allF l = setF l := by
  refine Nat.eq_of_testBit_eq fun k => ?_
  rw [allF, allF_bits, setF, ofBits_bit, Nat.zero_testBit, Bool.false_or]
  by_cases c : k ∈ nos l
  · have : k < 64 := by
      obtain ⟨x, hx, rfl⟩ := List.mem_map.1 c
      exact h x hx
    simp [c, this]
  · simp [c]
theorem setF_lt (l : List Arr) : setF l < 2 ^ 64 := ofBits_lt _ _
theorem allF_lt {l : List Arr} (h : ∀ x ∈ l, x.node.toNat < 64) : allF l < 2 ^ 64 := by rw [allF_eq h]; exact setF_lt l
theorem all_any' (w : World) {base : Nat} {v : Value} {r : List Arr} (hv : w.ownsRow base 71 4 v r.length (arrC r)) (hN : ∀ x ∈ r, 0 ≤ x.node ∧ x.node < 64) (hl : r.length ≤ 64) :
    Calls Tryd.prog 32 #[v] w fun e w' => e = .returned (.int .u64 (setF r : Nat)) ∧ Below w.heap.size w w' := by
  have hsub : ∀ k, ∀ x ∈ r.take k, x.node.toNat < 64 := fun k x hx => by have := hN x (List.mem_of_mem_take hx); omega
  have Hfin := Lib.hid (allF_eq (l := r) fun x hx => by have := hN x hx; omega)
  have HV := Lib.hid hv
  have HN := Lib.hid hN
  have Hsub := Lib.hid hsub
  obtain ⟨a0, cap0, rfl⟩ := own_form hv
  clear hv hN hsub
  go_enter Tryd.func32, Tryd.ntmps32
  go_wp2_with fail
  go_loopg [3, 8] r.length (fun q v3 v8 V => ∃ k s : Nat, q = r.length - k ∧ v3 = .int .u64 (s : Nat) ∧ v8 = .int .i64 k ∧ k ≤ r.length ∧ RowKit.Hid (s = allF (r.take k)) ∧ Below w.heap.size w V)
  case atStart => exact ⟨0, 0, rfl, rfl, rfl, Nat.zero_le _, Lib.hid rfl, Below.refl _ _⟩
  case round =>
    obtain ⟨k, s, hgk, rfl, rfl, hk, hs, LR⟩ := hrel
    have Hgk := Lib.hid hgk
    clear hgk
    have lR := LR.size
    by_cases hlt : k < r.length
    · obtain ⟨x, hx⟩ : ∃ x, r[k]? = some x := ⟨_, List.getElem?_eq_getElem hlt⟩
      obtain ⟨_, _, e1, h1⟩ := own_arr (own_below HV.out LR)
      simp only [Value.slice.injEq] at e1
      obtain ⟨g1, hb1, hg1, _, y0, y1, y2, y3⟩ := h1 k x hx
      rw [← e1.1] at hb1
      subst hb1
      have j1 : (0 : Int) ≤ (k : Int) := by omega
      have j2 : (k : Int) < (r.length : Int) := by omega
      have j3 : (k : Int) ≤ 65535 := by omega
      have hxN := HN.out x (mem_of_get hx)
      obtain ⟨kx, hkx⟩ : ∃ kx : Nat, x.node = kx := ⟨x.node.toNat, by omega⟩
      have hk64 : kx < 64 := by omega
      have hsl : s < 2 ^ 64 := by rw [hs.out]; exact allF_lt (Hsub.out k)
      have HWi := Lib.hid (fun V b hb => with_one s kx b hsl hk64 V hb)
      have hs2 : s ||| 2 ^ kx = allF (r.take (k + 1)) := by
        rw [List.take_add_one, hx]
        simp only [Option.toList_some]
        rw [allF_snoc, ← hs.out, hkx, Int.toNat_natCast]
      obtain ⟨s2, hs2'⟩ : ∃ s2, s ||| 2 ^ kx = s2 := ⟨_, rfl⟩
      rw [hs2'] at HWi hs2
      have HS2 := Lib.hid hs2
      rw [hkx] at y0
      have LR2 := Lib.hid LR
      clear e1 h1 hx hs2 hs2' hkx hs hsl LR
      go_wp2_with (go_at_call 54; refine (HWi.out _ _ (by go_simp)).mono ?_; rintro e w' ⟨rfl, h⟩; rw [h]; clear h w')
      go_roundg (r.length - (k + 1))
      case measure => have := Hgk.out; omega
      case rel => exact ⟨k + 1, s2, rfl, rfl, by go_num, hlt, HS2, by first | exact (LR2.out.alloc lR _).alloc (by simp; omega) _ | exact ((LR2.out.alloc lR _).alloc (by simp; omega) _).drew⟩
    · obtain rfl : k = r.length := by omega
      have hs2 := hs.out
      rw [List.take_length, Hfin.out] at hs2
      have HS2 := Lib.hid hs2
      have LR2 := Lib.hid LR
      clear hs hs2 LR
      go_wp2_with fail
      go_ret
      exact ⟨by rw [← HS2.out]; rfl, LR2.out⟩
/-- When it came to the last one of some; whether there is one. -/
def lastF (s : Nat) (l : List Arr) : Int := l.foldl (fun a x => if hasR s x.node = true then max a x.time else a) 0
def isF (s : Nat) (l : List Arr) : Bool := l.any fun x => hasR s x.node
theorem lastF_snoc (s : Nat) (l : List Arr) (x : Arr) : lastF s (l ++ [x]) = if hasR s x.node = true then max (lastF s l) x.time else lastF s l := by simp [lastF]
theorem isF_snoc (s : Nat) (l : List Arr) (x : Arr) : isF s (l ++ [x]) = (isF s l || hasR s x.node) := by simp [isF]
theorem lastF_nn (s : Nat) (l : List Arr) : ∀ a : Int, 0 ≤ a → 0 ≤ l.foldl (fun a x => if hasR s x.node = true then max a x.time else a) a := by
  induction l with
  | nil => exact fun a h => h
  | cons x l ih =>
    intro a h
    rw [List.foldl_cons]
    refine ih _ ?_
    split <;> omega
theorem lastF_no (s : Nat) (l : List Arr) (h : isF s l = false) : lastF s l = 0 := by
  have : ∀ (l : List Arr) (a : Int), (∀ x ∈ l, hasR s x.node = false) → l.foldl (fun a x => if hasR s x.node = true then max a x.time else a) a = a := by
    intro l
    induction l with
    | nil => exact fun a _ => rfl
    | cons x l ih =>
      intro a h
      rw [List.foldl_cons, if_neg (by rw [h x (by simp)]; simp), ih a fun y hy => h y (List.mem_cons_of_mem _ hy)]
  refine this l 0 fun x hx => ?_
  simp only [isF, List.any_eq_false] at h
  simpa using h x hx
theorem take_snoc {r : List Arr} {k : Nat} {x : Arr} (hx : r[k]? = some x) : r.take (k + 1) = r.take k ++ [x] := by rw [List.take_add_one, hx]; rfl
set_option maxHeartbeats 4000000 in
theorem last_any (w : World) {base : Nat} {v : Value} {r : List Arr} (hv : w.ownsRow base 71 4 v r.length (arrC r)) (s : Nat) (hs : s < 2 ^ 64) (hT : ∀ x ∈ r, 0 ≤ x.time) (hl : r.length ≤ 64) :
    Calls Tryd.prog 35 #[v, .int .u64 (s : Nat)] w fun e w' => e = .returned (.tuple #[.int .i64 (lastF s r), .bool (isF s r)]) ∧ Below w.heap.size w w' := by
  have HV := Lib.hid hv
  have HT := Lib.hid hT
  obtain ⟨a0, cap0, rfl⟩ := own_form hv
  clear hv hT
  go_enter Tryd.func35, Tryd.ntmps35
  go_wp2_with fail
  go_loopg [6, 7, 12] r.length (fun q v6 v7 v12 V => ∃ (k : Nat) (t : Int) (b : Bool), q = r.length - k ∧ v6 = .int .i64 t ∧ v7 = .bool b ∧ v12 = .int .i64 k ∧ k ≤ r.length ∧ RowKit.Hid (t = lastF s (r.take k) ∧ b = isF s (r.take k)) ∧ Below w.heap.size w V)
  case atStart => exact ⟨0, 0, false, rfl, rfl, rfl, rfl, Nat.zero_le _, Lib.hid ⟨rfl, rfl⟩, Below.refl _ _⟩
  case round =>
    obtain ⟨k, t, b, hgk, rfl, rfl, rfl, hk, htb, LR⟩ := hrel
    have Hgk := Lib.hid hgk
    clear hgk
    have lR := LR.size
    by_cases hlt : k < r.length
    · obtain ⟨x, hx⟩ : ∃ x, r[k]? = some x := ⟨_, List.getElem?_eq_getElem hlt⟩
      obtain ⟨_, _, e1, h1⟩ := own_arr (own_below HV.out LR)
      simp only [Value.slice.injEq] at e1
      obtain ⟨g1, hb1, hg1, _, y0, y1, y2, y3⟩ := h1 k x hx
      rw [← e1.1] at hb1
      subst hb1
      have j1 : (0 : Int) ≤ (k : Int) := by omega
      have j2 : (k : Int) < (r.length : Int) := by omega
      have j3 : (k : Int) ≤ 65535 := by omega
      have hxT := HT.out x (mem_of_get hx)
      have ht0 : 0 ≤ t := by rw [htb.out.1]; exact lastF_nn _ _ _ (Int.le_refl _)
      have hno : b = false → t = 0 := fun h => by rw [htb.out.1]; exact lastF_no _ _ (by rw [← htb.out.2, h])
      have hnx : lastF s (r.take (k + 1)) = (if hasR s x.node = true then max t x.time else t) ∧ isF s (r.take (k + 1)) = (b || hasR s x.node) := by
        rw [take_snoc hx, lastF_snoc, isF_snoc, ← htb.out.1, ← htb.out.2]; exact ⟨rfl, rfl⟩
      have HHs := Lib.hid (fun V => has_any s hs x.node V)
      obtain ⟨h, hh⟩ : ∃ h, hasR s x.node = h := ⟨_, rfl⟩
      rw [hh] at HHs hnx
      have Hnx := Lib.hid hnx
      have LR2 : RowKit.Hid (∀ o, Below w.heap.size w (wr.alloc o)) := Lib.hid fun o => LR.alloc lR _
      clear e1 h1 hx hh hnx htb LR
      rcases h with _ | _
      · go_wp2_with (go_at_call 57; refine (HHs.out _).mono ?_; rintro e w' ⟨rfl, h⟩; rw [h]; clear h w')
        go_roundg (r.length - (k + 1))
        case measure => have := Hgk.out; omega
        case rel => exact ⟨k + 1, t, b, rfl, rfl, rfl, by go_num, hlt, Lib.hid ⟨by rw [Hnx.out.1]; simp, by rw [Hnx.out.2]; simp⟩, LR2.out _⟩
      · rcases b with _ | _
        · have ht := hno rfl
          have Hn2 : RowKit.Hid (lastF s (r.take (k + 1)) = x.time) := Lib.hid (by rw [Hnx.out.1, if_pos rfl]; omega)
          clear hno
          go_wp2_with (go_at_call 57; refine (HHs.out _).mono ?_; rintro e w' ⟨rfl, h⟩; rw [h]; clear h w')
          go_roundg (r.length - (k + 1))
          case measure => have := Hgk.out; omega
          case rel => exact ⟨k + 1, x.time, true, rfl, rfl, rfl, by go_num, hlt, Lib.hid ⟨Hn2.out.symm, by rw [Hnx.out.2]; rfl⟩, LR2.out _⟩
        · clear hno
          rcases hlx : decide (t < x.time) with _ | _
          · have Hn2 : RowKit.Hid (lastF s (r.take (k + 1)) = t) := Lib.hid (by
              have : ¬ t < x.time := by simpa using hlx
              rw [Hnx.out.1, if_pos rfl]; omega)
            go_wp2_with (go_at_call 57; refine (HHs.out _).mono ?_; rintro e w' ⟨rfl, h⟩; rw [h]; clear h w')
            go_roundg (r.length - (k + 1))
            case measure => have := Hgk.out; omega
            case rel => exact ⟨k + 1, t, true, rfl, rfl, rfl, by go_num, hlt, Lib.hid ⟨Hn2.out.symm, by rw [Hnx.out.2]; rfl⟩, LR2.out _⟩
          · have Hn2 : RowKit.Hid (lastF s (r.take (k + 1)) = x.time) := Lib.hid (by
              have : t < x.time := by simpa using hlx
              rw [Hnx.out.1, if_pos rfl]; omega)
            go_wp2_with (go_at_call 57; refine (HHs.out _).mono ?_; rintro e w' ⟨rfl, h⟩; rw [h]; clear h w')
            go_roundg (r.length - (k + 1))
            case measure => have := Hgk.out; omega
            case rel => exact ⟨k + 1, x.time, true, rfl, rfl, rfl, by go_num, hlt, Lib.hid ⟨Hn2.out.symm, by rw [Hnx.out.2]; rfl⟩, LR2.out _⟩
    · obtain rfl : k = r.length := by omega
      have h2 := htb.out
      rw [List.take_length] at h2
      have H2 := Lib.hid h2
      have LR2 := Lib.hid LR
      clear h2 htb LR
      go_wp2_with fail
      go_ret2
      exact ⟨by rw [← H2.out.1, ← H2.out.2]; rfl, LR2.out⟩
/-- Does a step of a path stand in the list? -/
def stepP (u v : Int) (i : Nat) (x : Arr) : Bool := (x.node == v) && ((x.frm == u) && (x.hops == (i : Int)))
def okP (r : List Arr) (u v : Int) (i j : Nat) : Bool := (r.take j).any (stepP u v i)
theorem okP_succ {r : List Arr} {u v : Int} {i j : Nat} {x : Arr} (h : r[j]? = some x) : okP r u v i (j + 1) = (okP r u v i j || stepP u v i x) := by
  unfold okP
  rw [take_snoc h, List.any_append]
  simp
set_option maxHeartbeats 8000000 in
theorem lawpath_any {src : Int} {z : Arr} (w : World) {b1 b2 : Nat} {v1 v2 : Value} {r : List Arr} {p : List Int} (h1 : w.ownsRow b1 70 4 v1 r.length (arrC r)) (h2 : w.ownsRow b2 3 1 v2 p.length (ic p)) (hok : PathOk r src z p) (hl : r.length ≤ 64) (hp : p.length ≤ 100) :
    Calls Tryd.prog 38 #[v1, v2] w fun e w' => e = .returned (.bool true) ∧ Below w.heap.size w w' := by
  have hpos : 0 < p.length := lt_of_get hok.first
  obtain ⟨gp, cp, rfl, _, hgs⟩ := h2.form hpos
  have H1 := Lib.hid h1
  have H2 := Lib.hid h2
  have HO := Lib.hid hok.step
  obtain ⟨a1, c1, rfl⟩ := own_form h1
  clear h1 h2 hok
  go_enter Tryd.func38, Tryd.ntmps38
  go_wp2_with fail
  go_loopg [5] (p.length - 1) (fun q v5 V => ∃ i : Nat, q = p.length - i ∧ v5 = .int .i64 i ∧ 1 ≤ i ∧ i ≤ p.length ∧ Below w.heap.size w V)
  case atStart => exact ⟨1, rfl, rfl, Nat.le_refl _, hpos, Below.refl _ _⟩
  case round =>
    obtain ⟨i, hgi, rfl, hi1, hi, LR⟩ := hrel
    have Hgi := Lib.hid hgi
    clear hgi
    have lR := LR.size
    by_cases hlt : i < p.length
    · obtain ⟨v, hv⟩ : ∃ v, p[i]? = some v := ⟨_, List.getElem?_eq_getElem hlt⟩
      obtain ⟨u, hu⟩ : ∃ u, p[i - 1]? = some u := ⟨_, List.getElem?_eq_getElem (by omega)⟩
      have hyes : okP r u v i r.length = true := by
        obtain ⟨y, hy, e1, e2, e3⟩ := HO.out (i - 1) u v hu (by rw [show i - 1 + 1 = i by omega]; exact hv)
        rw [show i - 1 + 1 = i by omega] at e3
        unfold okP
        rw [List.take_length]
        exact List.any_eq_true.2 ⟨y, hy, by simp [stepP, e1, e2, e3]⟩
      have Hyes := Lib.hid hyes
      have hcp : ∀ V, Below w.heap.size w V → V.cell? ⟨gp, i, none⟩ = some (.int .i64 v) ∧ V.cell? ⟨gp, i - 1, none⟩ = some (.int .i64 u) := fun V kV => by
        have ho := own_below H2.out kV
        refine ⟨?_, ?_⟩
        · rw [ho.cellAt i (by omega)]; simp [hv]
        · rw [ho.cellAt (i - 1) (by omega)]; simp [hu]
      have Hcp := Lib.hid hcp
      have i1 : (0 : Int) ≤ (i : Int) := by omega
      have i2 : (i : Int) < (p.length : Int) := by omega
      have i3 : (i : Int) ≤ 65535 := by omega
      have i4 : (1 : Int) ≤ (i : Int) := by omega
      have i5 : (i : Int) - 1 < (p.length : Int) := by omega
      have i6 : IntKind.i64.wrap ((i : Int) - 1) = (i : Int) - 1 := IntWalk.i64_in _ (by omega)
      have i7 : ((i : Int) - 1).toNat = i - 1 := by omega
      have LR0 := Lib.hid LR
      clear hyes hcp hv hu LR
      go_wp2_with fail
      go_loopg [6, 17] r.length (fun q v6 v17 V => ∃ j : Nat, q = r.length - j ∧ v6 = .bool (okP r u v i j) ∧ v17 = .int .i64 j ∧ j ≤ r.length ∧ Below w.heap.size w V)
      case atStart => exact ⟨0, rfl, rfl, rfl, Nat.zero_le _, LR0.out⟩
      case round =>
        obtain ⟨j, hgj, rfl, rfl, hj, LI⟩ := hrel
        have Hgj := Lib.hid hgj
        clear hgj
        have lI := LI.size
        by_cases hjl : j < r.length
        · obtain ⟨x, hx⟩ : ∃ x, r[j]? = some x := ⟨_, List.getElem?_eq_getElem hjl⟩
          obtain ⟨_, _, e1, h1⟩ := own_arr (own_below H1.out LI)
          simp only [Value.slice.injEq] at e1
          obtain ⟨g1, hb1, hg1, _, y0, y1, y2, y3⟩ := h1 j x hx
          rw [← e1.1] at hb1
          subst hb1
          have j1 : (0 : Int) ≤ (j : Int) := by omega
          have j2 : (j : Int) < (r.length : Int) := by omega
          have j3 : (j : Int) ≤ 65535 := by omega
          have Hnx := Lib.hid (okP_succ (u := u) (v := v) (i := i) hx)
          obtain ⟨okj, hokj⟩ : ∃ b, okP r u v i j = b := ⟨_, rfl⟩
          rw [hokj] at Hnx
          rw [hokj]
          clear e1 h1 hx hokj
          go_upto_region 8 with (fail)
          obtain ⟨X, hX⟩ : ∃ X, wr.heap.size = X := ⟨_, rfl⟩
          obtain ⟨wu, hU⟩ : ∃ U, wr.alloc (.cells #[.int .i64 x.node, .int .i64 x.time, .int .i64 x.hops, .int .i64 x.frm] 70) = U := ⟨_, rfl⟩
          have bU : Blk wu X 70 #[.int .i64 x.node, .int .i64 x.time, .int .i64 x.hops, .int .i64 x.frm] := by rw [← hU, ← hX]; exact Blk.new wr _ _
          have LV : RowKit.Hid (Below w.heap.size w wu) := Lib.hid (by rw [← hU]; exact LI.alloc lI _)
          have x0 : wu.cell? ⟨X, 0, none⟩ = some (.int .i64 x.node) := bU.cell 0
          have x2 : wu.cell? ⟨X, 2, none⟩ = some (.int .i64 x.hops) := bU.cell 2
          have x3 : wu.cell? ⟨X, 3, none⟩ = some (.int .i64 x.frm) := bU.cell 3
          obtain ⟨cv, cu⟩ := Hcp.out wu LV.out
          rw [hU, hX]
          clear hU bU y0 y1 y2 y3 LI
          rcases okj with _ | _
          · rcases f1 : (x.node == v) with _ | _
            · skip
              have Hn2 := Lib.hid (show okP r u v i (j + 1) = false from by rw [Hnx.out, stepP, f1]; rfl)
              refine wp_region_held_drew (S := fun w' => w'.cell? ⟨X, 0, none⟩ = some (.int .i64 x.node) ∧ w'.cell? ⟨X, 2, none⟩ = some (.int .i64 x.hops) ∧ w'.cell? ⟨X, 3, none⟩ = some (.int .i64 x.frm) ∧ w'.cell? ⟨gp, i, none⟩ = some (.int .i64 v) ∧ w'.cell? ⟨gp, i - 1, none⟩ = some (.int .i64 u)) (by kernel_rfl) ⟨x0, x2, x3, cv, cu⟩ (fun hHeld => ?_)
              refine Take.take (i := 0) (oi := _) (t := 21) (v := ?v5) rfl (by kernel_rfl) (by kernel_rfl) (by kernel_rfl) (by kernel_rfl) (fun _ _ _ h => h) (by kernel_rfl) ?hy5 (by assumption) ?_
              case hy5 => (intro w hSw; (try dsimp only at hSw); go_simp; try with_reducible rfl)
              try simp only [Act.put, List.setIfInBounds_toArray, List.set_cons_zero, List.set_cons_succ]
              refine Take.take (i := 1) (oi := _) (t := 22) (v := ?v6) rfl (by kernel_rfl) (by kernel_rfl) (by kernel_rfl) (by kernel_rfl) (fun _ _ _ h => h) (by kernel_rfl) ?hy6 (by assumption) ?_
              case hy6 => (intro w hSw; (try dsimp only at hSw); go_simp; try with_reducible rfl)
              try simp only [Act.put, List.setIfInBounds_toArray, List.set_cons_zero, List.set_cons_succ]
              refine Take.take (i := 2) (oi := _) (t := 23) (v := ?v7) rfl (by kernel_rfl) (by kernel_rfl) (by kernel_rfl) (by kernel_rfl) (fun _ _ _ h => h) (by kernel_rfl) ?hy7 (by assumption) ?_
              case hy7 => (intro w hSw; (try dsimp only at hSw); go_simp; try with_reducible rfl)
              try simp only [Act.put, List.setIfInBounds_toArray, List.set_cons_zero, List.set_cons_succ]
              refine Take.take (i := 3) (oi := _) (t := 24) (v := ?v8) rfl (by kernel_rfl) (by kernel_rfl) (by kernel_rfl) (by kernel_rfl) (fun _ _ _ h => h) (by kernel_rfl) ?hy8 (by assumption) ?_
              case hy8 => (intro w hSw; (try dsimp only at hSw); go_simp; try with_reducible rfl)
              try simp only [Act.put, List.setIfInBounds_toArray, List.set_cons_zero, List.set_cons_succ]
              refine Take.take (i := 4) (oi := _) (t := 25) (v := ?v9) rfl (by kernel_rfl) (by kernel_rfl) (by kernel_rfl) (by kernel_rfl) (fun _ _ _ h => h) (by kernel_rfl) ?hy9 (by assumption) ?_
              case hy9 => (intro w hSw; (try dsimp only at hSw); go_simp; try with_reducible rfl)
              try simp only [Act.put, List.setIfInBounds_toArray, List.set_cons_zero, List.set_cons_succ]
              refine Take.take (i := 5) (oi := _) (t := 26) (v := ?v10) rfl (by kernel_rfl) (by kernel_rfl) (by kernel_rfl) (by kernel_rfl) (fun _ _ _ h => h) (by kernel_rfl) ?hy10 (by assumption) ?_
              case hy10 => (intro w hSw; (try dsimp only at hSw); go_simp; try with_reducible rfl)
              try simp only [Act.put, List.setIfInBounds_toArray, List.set_cons_zero, List.set_cons_succ]
              refine Take.take (i := 6) (oi := _) (t := 27) (v := ?v11) rfl (by kernel_rfl) (by kernel_rfl) (by kernel_rfl) (by kernel_rfl) (fun _ _ _ h => h) (by kernel_rfl) ?hy11 (by assumption) ?_
              case hy11 => (intro w hSw; (try dsimp only at hSw); go_simp; try with_reducible rfl)
              try simp only [Act.put, List.setIfInBounds_toArray, List.set_cons_zero, List.set_cons_succ]
              refine Take.take (i := 7) (oi := _) (t := 28) (v := ?v12) rfl (by kernel_rfl) (by kernel_rfl) (by kernel_rfl) (by kernel_rfl) (fun _ _ _ h => h) (by kernel_rfl) ?hy12 (by assumption) ?_
              case hy12 => (intro w hSw; (try dsimp only at hSw); go_simp; try with_reducible rfl)
              try simp only [Act.put, List.setIfInBounds_toArray, List.set_cons_zero, List.set_cons_succ]
              refine Take.take (i := 8) (oi := _) (t := 29) (v := ?v13) rfl (by kernel_rfl) (by kernel_rfl) (by kernel_rfl) (by kernel_rfl) (fun _ _ _ h => h) (by kernel_rfl) ?hy13 (by assumption) ?_
              case hy13 => (intro w hSw; (try dsimp only at hSw); go_simp; try with_reducible rfl)
              try simp only [Act.put, List.setIfInBounds_toArray, List.set_cons_zero, List.set_cons_succ]
              refine Take.take (i := 9) (oi := _) (t := 30) (v := ?v14) rfl (by kernel_rfl) (by kernel_rfl) (by kernel_rfl) (by kernel_rfl) (fun _ _ _ h => h) (by kernel_rfl) ?hy14 (by assumption) ?_
              case hy14 => (intro w hSw; (try dsimp only at hSw); go_simp; try with_reducible rfl)
              try simp only [Act.put, List.setIfInBounds_toArray, List.set_cons_zero, List.set_cons_succ]
              refine Take.skip (i := 10) (t := 31) (g := 9) (b := true) (by kernel_rfl) (by kernel_rfl) (by kernel_rfl) (by kernel_rfl) (fun _ _ _ h => h) (by kernel_rfl) (by assumption) ?_
              try simp only [Act.put, List.setIfInBounds_toArray, List.set_cons_zero, List.set_cons_succ]
              refine Take.skip (i := 11) (t := 32) (g := 9) (b := true) (by kernel_rfl) (by kernel_rfl) (by kernel_rfl) (by kernel_rfl) (fun _ _ _ h => h) (by kernel_rfl) (by assumption) ?_
              try simp only [Act.put, List.setIfInBounds_toArray, List.set_cons_zero, List.set_cons_succ]
              refine Take.skip (i := 12) (t := 33) (g := 9) (b := true) (by kernel_rfl) (by kernel_rfl) (by kernel_rfl) (by kernel_rfl) (fun _ _ _ h => h) (by kernel_rfl) (by assumption) ?_
              try simp only [Act.put, List.setIfInBounds_toArray, List.set_cons_zero, List.set_cons_succ]
              refine Take.skip (i := 13) (t := 34) (g := 9) (b := true) (by kernel_rfl) (by kernel_rfl) (by kernel_rfl) (by kernel_rfl) (fun _ _ _ h => h) (by kernel_rfl) (by assumption) ?_
              try simp only [Act.put, List.setIfInBounds_toArray, List.set_cons_zero, List.set_cons_succ]
              refine Take.skip (i := 14) (t := 35) (g := 9) (b := true) (by kernel_rfl) (by kernel_rfl) (by kernel_rfl) (by kernel_rfl) (fun _ _ _ h => h) (by kernel_rfl) (by assumption) ?_
              try simp only [Act.put, List.setIfInBounds_toArray, List.set_cons_zero, List.set_cons_succ]
              refine Take.skip (i := 15) (t := 36) (g := 9) (b := true) (by kernel_rfl) (by kernel_rfl) (by kernel_rfl) (by kernel_rfl) (fun _ _ _ h => h) (by kernel_rfl) (by assumption) ?_
              try simp only [Act.put, List.setIfInBounds_toArray, List.set_cons_zero, List.set_cons_succ]
              refine Take.skip (i := 16) (t := 37) (g := 9) (b := true) (by kernel_rfl) (by kernel_rfl) (by kernel_rfl) (by kernel_rfl) (fun _ _ _ h => h) (by kernel_rfl) (by assumption) ?_
              try simp only [Act.put, List.setIfInBounds_toArray, List.set_cons_zero, List.set_cons_succ]
              refine Take.skip (i := 17) (t := 38) (g := 9) (b := true) (by kernel_rfl) (by kernel_rfl) (by kernel_rfl) (by kernel_rfl) (fun _ _ _ h => h) (by kernel_rfl) (by assumption) ?_
              try simp only [Act.put, List.setIfInBounds_toArray, List.set_cons_zero, List.set_cons_succ]
              refine Take.take (i := 18) (oi := _) (t := 39) (v := ?v15) rfl (by kernel_rfl) (by kernel_rfl) (by kernel_rfl) (by kernel_rfl) (fun _ _ _ h => h) (by kernel_rfl) ?hy15 (by assumption) ?_
              case hy15 => (intro w hSw; (try dsimp only at hSw); go_simp; try with_reducible rfl)
              try simp only [Act.put, List.setIfInBounds_toArray, List.set_cons_zero, List.set_cons_succ]
              refine Take.take (i := 19) (oi := _) (t := 40) (v := ?v16) rfl (by kernel_rfl) (by kernel_rfl) (by kernel_rfl) (by kernel_rfl) (fun _ _ _ h => h) (by kernel_rfl) ?hy16 (by assumption) ?_
              case hy16 => (intro w hSw; (try dsimp only at hSw); go_simp; try with_reducible rfl)
              try simp only [Act.put, List.setIfInBounds_toArray, List.set_cons_zero, List.set_cons_succ]
              refine Take.skip (i := 20) (t := 41) (g := 19) (b := true) (by kernel_rfl) (by kernel_rfl) (by kernel_rfl) (by kernel_rfl) (fun _ _ _ h => h) (by kernel_rfl) (by assumption) ?_
              try simp only [Act.put, List.setIfInBounds_toArray, List.set_cons_zero, List.set_cons_succ]
              refine Take.skip (i := 21) (t := 42) (g := 19) (b := true) (by kernel_rfl) (by kernel_rfl) (by kernel_rfl) (by kernel_rfl) (fun _ _ _ h => h) (by kernel_rfl) (by assumption) ?_
              try simp only [Act.put, List.setIfInBounds_toArray, List.set_cons_zero, List.set_cons_succ]
              refine Take.skip (i := 22) (t := 43) (g := 19) (b := true) (by kernel_rfl) (by kernel_rfl) (by kernel_rfl) (by kernel_rfl) (fun _ _ _ h => h) (by kernel_rfl) (by assumption) ?_
              try simp only [Act.put, List.setIfInBounds_toArray, List.set_cons_zero, List.set_cons_succ]
              refine Take.skip (i := 23) (t := 44) (g := 19) (b := true) (by kernel_rfl) (by kernel_rfl) (by kernel_rfl) (by kernel_rfl) (fun _ _ _ h => h) (by kernel_rfl) (by assumption) ?_
              try simp only [Act.put, List.setIfInBounds_toArray, List.set_cons_zero, List.set_cons_succ]
              refine Take.take (i := 24) (oi := _) (t := 45) (v := ?v17) rfl (by kernel_rfl) (by kernel_rfl) (by kernel_rfl) (by kernel_rfl) (fun _ _ _ h => h) (by kernel_rfl) ?hy17 (by assumption) ?_
              case hy17 => (intro w hSw; (try dsimp only at hSw); go_simp; try with_reducible rfl)
              try simp only [Act.put, List.setIfInBounds_toArray, List.set_cons_zero, List.set_cons_succ]
              refine Take.take (i := 25) (oi := _) (t := 46) (v := ?v18) rfl (by kernel_rfl) (by kernel_rfl) (by kernel_rfl) (by kernel_rfl) (fun _ _ _ h => h) (by kernel_rfl) ?hy18 (by assumption) ?_
              case hy18 => (intro w hSw; (try dsimp only at hSw); go_simp; try with_reducible rfl)
              try simp only [Act.put, List.setIfInBounds_toArray, List.set_cons_zero, List.set_cons_succ]
              refine Take.take (i := 26) (oi := _) (t := 6) (v := ?v19) rfl (by kernel_rfl) (by kernel_rfl) (by kernel_rfl) (by kernel_rfl) (fun _ _ _ h => h) (by kernel_rfl) ?hy19 (by assumption) ?_
              case hy19 => (intro w hSw; (try dsimp only at hSw); go_simp; try with_reducible rfl)
              try simp only [Act.put, List.setIfInBounds_toArray, List.set_cons_zero, List.set_cons_succ]
              refine wpAnyH_done (by kernel_rfl) ?_ _
              go_wp2_with fail
              go_roundg (r.length - (j + 1))
              case measure => have := Hgj.out; omega
              case rel => exact ⟨j + 1, rfl, by rw [Hn2.out], by go_num, hjl, LV.out.drew⟩
            · rcases f2 : (x.frm == u) with _ | _
              · skip
                have Hn2 := Lib.hid (show okP r u v i (j + 1) = false from by rw [Hnx.out, stepP, f1, f2]; rfl)
                refine wp_region_held_drew (S := fun w' => w'.cell? ⟨X, 0, none⟩ = some (.int .i64 x.node) ∧ w'.cell? ⟨X, 2, none⟩ = some (.int .i64 x.hops) ∧ w'.cell? ⟨X, 3, none⟩ = some (.int .i64 x.frm) ∧ w'.cell? ⟨gp, i, none⟩ = some (.int .i64 v) ∧ w'.cell? ⟨gp, i - 1, none⟩ = some (.int .i64 u)) (by kernel_rfl) ⟨x0, x2, x3, cv, cu⟩ (fun hHeld => ?_)
                refine Take.take (i := 0) (oi := _) (t := 21) (v := ?v20) rfl (by kernel_rfl) (by kernel_rfl) (by kernel_rfl) (by kernel_rfl) (fun _ _ _ h => h) (by kernel_rfl) ?hy20 (by assumption) ?_
                case hy20 => (intro w hSw; (try dsimp only at hSw); go_simp; try with_reducible rfl)
                try simp only [Act.put, List.setIfInBounds_toArray, List.set_cons_zero, List.set_cons_succ]
                refine Take.take (i := 1) (oi := _) (t := 22) (v := ?v21) rfl (by kernel_rfl) (by kernel_rfl) (by kernel_rfl) (by kernel_rfl) (fun _ _ _ h => h) (by kernel_rfl) ?hy21 (by assumption) ?_
                case hy21 => (intro w hSw; (try dsimp only at hSw); go_simp; try with_reducible rfl)
                try simp only [Act.put, List.setIfInBounds_toArray, List.set_cons_zero, List.set_cons_succ]
                refine Take.take (i := 2) (oi := _) (t := 23) (v := ?v22) rfl (by kernel_rfl) (by kernel_rfl) (by kernel_rfl) (by kernel_rfl) (fun _ _ _ h => h) (by kernel_rfl) ?hy22 (by assumption) ?_
                case hy22 => (intro w hSw; (try dsimp only at hSw); go_simp; try with_reducible rfl)
                try simp only [Act.put, List.setIfInBounds_toArray, List.set_cons_zero, List.set_cons_succ]
                refine Take.take (i := 3) (oi := _) (t := 24) (v := ?v23) rfl (by kernel_rfl) (by kernel_rfl) (by kernel_rfl) (by kernel_rfl) (fun _ _ _ h => h) (by kernel_rfl) ?hy23 (by assumption) ?_
                case hy23 => (intro w hSw; (try dsimp only at hSw); go_simp; try with_reducible rfl)
                try simp only [Act.put, List.setIfInBounds_toArray, List.set_cons_zero, List.set_cons_succ]
                refine Take.take (i := 4) (oi := _) (t := 25) (v := ?v24) rfl (by kernel_rfl) (by kernel_rfl) (by kernel_rfl) (by kernel_rfl) (fun _ _ _ h => h) (by kernel_rfl) ?hy24 (by assumption) ?_
                case hy24 => (intro w hSw; (try dsimp only at hSw); go_simp; try with_reducible rfl)
                try simp only [Act.put, List.setIfInBounds_toArray, List.set_cons_zero, List.set_cons_succ]
                refine Take.take (i := 5) (oi := _) (t := 26) (v := ?v25) rfl (by kernel_rfl) (by kernel_rfl) (by kernel_rfl) (by kernel_rfl) (fun _ _ _ h => h) (by kernel_rfl) ?hy25 (by assumption) ?_
                case hy25 => (intro w hSw; (try dsimp only at hSw); go_simp; try with_reducible rfl)
                try simp only [Act.put, List.setIfInBounds_toArray, List.set_cons_zero, List.set_cons_succ]
                refine Take.take (i := 6) (oi := _) (t := 27) (v := ?v26) rfl (by kernel_rfl) (by kernel_rfl) (by kernel_rfl) (by kernel_rfl) (fun _ _ _ h => h) (by kernel_rfl) ?hy26 (by assumption) ?_
                case hy26 => (intro w hSw; (try dsimp only at hSw); go_simp; try with_reducible rfl)
                try simp only [Act.put, List.setIfInBounds_toArray, List.set_cons_zero, List.set_cons_succ]
                refine Take.take (i := 7) (oi := _) (t := 28) (v := ?v27) rfl (by kernel_rfl) (by kernel_rfl) (by kernel_rfl) (by kernel_rfl) (fun _ _ _ h => h) (by kernel_rfl) ?hy27 (by assumption) ?_
                case hy27 => (intro w hSw; (try dsimp only at hSw); go_simp; try with_reducible rfl)
                try simp only [Act.put, List.setIfInBounds_toArray, List.set_cons_zero, List.set_cons_succ]
                refine Take.take (i := 8) (oi := _) (t := 29) (v := ?v28) rfl (by kernel_rfl) (by kernel_rfl) (by kernel_rfl) (by kernel_rfl) (fun _ _ _ h => h) (by kernel_rfl) ?hy28 (by assumption) ?_
                case hy28 => (intro w hSw; (try dsimp only at hSw); go_simp; try with_reducible rfl)
                try simp only [Act.put, List.setIfInBounds_toArray, List.set_cons_zero, List.set_cons_succ]
                refine Take.take (i := 9) (oi := _) (t := 30) (v := ?v29) rfl (by kernel_rfl) (by kernel_rfl) (by kernel_rfl) (by kernel_rfl) (fun _ _ _ h => h) (by kernel_rfl) ?hy29 (by assumption) ?_
                case hy29 => (intro w hSw; (try dsimp only at hSw); go_simp; try with_reducible rfl)
                try simp only [Act.put, List.setIfInBounds_toArray, List.set_cons_zero, List.set_cons_succ]
                refine Take.take (i := 10) (oi := _) (t := 31) (v := ?v30) rfl (by kernel_rfl) (by kernel_rfl) (by kernel_rfl) (by kernel_rfl) (fun _ _ _ h => h) (by kernel_rfl) ?hy30 (by assumption) ?_
                case hy30 => (intro w hSw; (try dsimp only at hSw); go_simp; try with_reducible rfl)
                try simp only [Act.put, List.setIfInBounds_toArray, List.set_cons_zero, List.set_cons_succ]
                refine Take.take (i := 11) (oi := _) (t := 32) (v := ?v31) rfl (by kernel_rfl) (by kernel_rfl) (by kernel_rfl) (by kernel_rfl) (fun _ _ _ h => h) (by kernel_rfl) ?hy31 (by assumption) ?_
                case hy31 => (intro w hSw; (try dsimp only at hSw); go_simp; try with_reducible rfl)
                try simp only [Act.put, List.setIfInBounds_toArray, List.set_cons_zero, List.set_cons_succ]
                refine Take.take (i := 12) (oi := _) (t := 33) (v := ?v32) rfl (by kernel_rfl) (by kernel_rfl) (by kernel_rfl) (by kernel_rfl) (fun _ _ _ h => h) (by kernel_rfl) ?hy32 (by assumption) ?_
                case hy32 => (intro w hSw; (try dsimp only at hSw); go_simp; try with_reducible rfl)
                try simp only [Act.put, List.setIfInBounds_toArray, List.set_cons_zero, List.set_cons_succ]
                refine Take.take (i := 13) (oi := _) (t := 34) (v := ?v33) rfl (by kernel_rfl) (by kernel_rfl) (by kernel_rfl) (by kernel_rfl) (fun _ _ _ h => h) (by kernel_rfl) ?hy33 (by assumption) ?_
                case hy33 => (intro w hSw; (try dsimp only at hSw); go_simp; try with_reducible rfl)
                try simp only [Act.put, List.setIfInBounds_toArray, List.set_cons_zero, List.set_cons_succ]
                refine Take.take (i := 14) (oi := _) (t := 35) (v := ?v34) rfl (by kernel_rfl) (by kernel_rfl) (by kernel_rfl) (by kernel_rfl) (fun _ _ _ h => h) (by kernel_rfl) ?hy34 (by assumption) ?_
                case hy34 => (intro w hSw; (try dsimp only at hSw); go_simp; try with_reducible rfl)
                try simp only [Act.put, List.setIfInBounds_toArray, List.set_cons_zero, List.set_cons_succ]
                refine Take.take (i := 15) (oi := _) (t := 36) (v := ?v35) rfl (by kernel_rfl) (by kernel_rfl) (by kernel_rfl) (by kernel_rfl) (fun _ _ _ h => h) (by kernel_rfl) ?hy35 (by assumption) ?_
                case hy35 => (intro w hSw; (try dsimp only at hSw); go_simp; try with_reducible rfl)
                try simp only [Act.put, List.setIfInBounds_toArray, List.set_cons_zero, List.set_cons_succ]
                refine Take.take (i := 16) (oi := _) (t := 37) (v := ?v36) rfl (by kernel_rfl) (by kernel_rfl) (by kernel_rfl) (by kernel_rfl) (fun _ _ _ h => h) (by kernel_rfl) ?hy36 (by assumption) ?_
                case hy36 => (intro w hSw; (try dsimp only at hSw); go_simp; try with_reducible rfl)
                try simp only [Act.put, List.setIfInBounds_toArray, List.set_cons_zero, List.set_cons_succ]
                refine Take.take (i := 17) (oi := _) (t := 38) (v := ?v37) rfl (by kernel_rfl) (by kernel_rfl) (by kernel_rfl) (by kernel_rfl) (fun _ _ _ h => h) (by kernel_rfl) ?hy37 (by assumption) ?_
                case hy37 => (intro w hSw; (try dsimp only at hSw); go_simp; try with_reducible rfl)
                try simp only [Act.put, List.setIfInBounds_toArray, List.set_cons_zero, List.set_cons_succ]
                refine Take.take (i := 18) (oi := _) (t := 39) (v := ?v38) rfl (by kernel_rfl) (by kernel_rfl) (by kernel_rfl) (by kernel_rfl) (fun _ _ _ h => h) (by kernel_rfl) ?hy38 (by assumption) ?_
                case hy38 => (intro w hSw; (try dsimp only at hSw); go_simp; try with_reducible rfl)
                try simp only [Act.put, List.setIfInBounds_toArray, List.set_cons_zero, List.set_cons_succ]
                refine Take.take (i := 19) (oi := _) (t := 40) (v := ?v39) rfl (by kernel_rfl) (by kernel_rfl) (by kernel_rfl) (by kernel_rfl) (fun _ _ _ h => h) (by kernel_rfl) ?hy39 (by assumption) ?_
                case hy39 => (intro w hSw; (try dsimp only at hSw); go_simp; try with_reducible rfl)
                try simp only [Act.put, List.setIfInBounds_toArray, List.set_cons_zero, List.set_cons_succ]
                refine Take.skip (i := 20) (t := 41) (g := 19) (b := true) (by kernel_rfl) (by kernel_rfl) (by kernel_rfl) (by kernel_rfl) (fun _ _ _ h => h) (by kernel_rfl) (by assumption) ?_
                try simp only [Act.put, List.setIfInBounds_toArray, List.set_cons_zero, List.set_cons_succ]
                refine Take.skip (i := 21) (t := 42) (g := 19) (b := true) (by kernel_rfl) (by kernel_rfl) (by kernel_rfl) (by kernel_rfl) (fun _ _ _ h => h) (by kernel_rfl) (by assumption) ?_
                try simp only [Act.put, List.setIfInBounds_toArray, List.set_cons_zero, List.set_cons_succ]
                refine Take.skip (i := 22) (t := 43) (g := 19) (b := true) (by kernel_rfl) (by kernel_rfl) (by kernel_rfl) (by kernel_rfl) (fun _ _ _ h => h) (by kernel_rfl) (by assumption) ?_
                try simp only [Act.put, List.setIfInBounds_toArray, List.set_cons_zero, List.set_cons_succ]
                refine Take.skip (i := 23) (t := 44) (g := 19) (b := true) (by kernel_rfl) (by kernel_rfl) (by kernel_rfl) (by kernel_rfl) (fun _ _ _ h => h) (by kernel_rfl) (by assumption) ?_
                try simp only [Act.put, List.setIfInBounds_toArray, List.set_cons_zero, List.set_cons_succ]
                refine Take.take (i := 24) (oi := _) (t := 45) (v := ?v40) rfl (by kernel_rfl) (by kernel_rfl) (by kernel_rfl) (by kernel_rfl) (fun _ _ _ h => h) (by kernel_rfl) ?hy40 (by assumption) ?_
                case hy40 => (intro w hSw; (try dsimp only at hSw); go_simp; try with_reducible rfl)
                try simp only [Act.put, List.setIfInBounds_toArray, List.set_cons_zero, List.set_cons_succ]
                refine Take.take (i := 25) (oi := _) (t := 46) (v := ?v41) rfl (by kernel_rfl) (by kernel_rfl) (by kernel_rfl) (by kernel_rfl) (fun _ _ _ h => h) (by kernel_rfl) ?hy41 (by assumption) ?_
                case hy41 => (intro w hSw; (try dsimp only at hSw); go_simp; try with_reducible rfl)
                try simp only [Act.put, List.setIfInBounds_toArray, List.set_cons_zero, List.set_cons_succ]
                refine Take.take (i := 26) (oi := _) (t := 6) (v := ?v42) rfl (by kernel_rfl) (by kernel_rfl) (by kernel_rfl) (by kernel_rfl) (fun _ _ _ h => h) (by kernel_rfl) ?hy42 (by assumption) ?_
                case hy42 => (intro w hSw; (try dsimp only at hSw); go_simp; try with_reducible rfl)
                try simp only [Act.put, List.setIfInBounds_toArray, List.set_cons_zero, List.set_cons_succ]
                refine wpAnyH_done (by kernel_rfl) ?_ _
                go_wp2_with fail
                go_roundg (r.length - (j + 1))
                case measure => have := Hgj.out; omega
                case rel => exact ⟨j + 1, rfl, by rw [Hn2.out], by go_num, hjl, LV.out.drew⟩
              · rcases f3 : (x.hops == (i : Int)) with _ | _
                · skip
                  have Hn2 := Lib.hid (show okP r u v i (j + 1) = false from by rw [Hnx.out, stepP, f1, f2, f3]; rfl)
                  refine wp_region_held_drew (S := fun w' => w'.cell? ⟨X, 0, none⟩ = some (.int .i64 x.node) ∧ w'.cell? ⟨X, 2, none⟩ = some (.int .i64 x.hops) ∧ w'.cell? ⟨X, 3, none⟩ = some (.int .i64 x.frm) ∧ w'.cell? ⟨gp, i, none⟩ = some (.int .i64 v) ∧ w'.cell? ⟨gp, i - 1, none⟩ = some (.int .i64 u)) (by kernel_rfl) ⟨x0, x2, x3, cv, cu⟩ (fun hHeld => ?_)
                  refine Take.take (i := 0) (oi := _) (t := 21) (v := ?v43) rfl (by kernel_rfl) (by kernel_rfl) (by kernel_rfl) (by kernel_rfl) (fun _ _ _ h => h) (by kernel_rfl) ?hy43 (by assumption) ?_
                  case hy43 => (intro w hSw; (try dsimp only at hSw); go_simp; try with_reducible rfl)
                  try simp only [Act.put, List.setIfInBounds_toArray, List.set_cons_zero, List.set_cons_succ]
                  refine Take.take (i := 1) (oi := _) (t := 22) (v := ?v44) rfl (by kernel_rfl) (by kernel_rfl) (by kernel_rfl) (by kernel_rfl) (fun _ _ _ h => h) (by kernel_rfl) ?hy44 (by assumption) ?_
                  case hy44 => (intro w hSw; (try dsimp only at hSw); go_simp; try with_reducible rfl)
                  try simp only [Act.put, List.setIfInBounds_toArray, List.set_cons_zero, List.set_cons_succ]
                  refine Take.take (i := 2) (oi := _) (t := 23) (v := ?v45) rfl (by kernel_rfl) (by kernel_rfl) (by kernel_rfl) (by kernel_rfl) (fun _ _ _ h => h) (by kernel_rfl) ?hy45 (by assumption) ?_
                  case hy45 => (intro w hSw; (try dsimp only at hSw); go_simp; try with_reducible rfl)
                  try simp only [Act.put, List.setIfInBounds_toArray, List.set_cons_zero, List.set_cons_succ]
                  refine Take.take (i := 3) (oi := _) (t := 24) (v := ?v46) rfl (by kernel_rfl) (by kernel_rfl) (by kernel_rfl) (by kernel_rfl) (fun _ _ _ h => h) (by kernel_rfl) ?hy46 (by assumption) ?_
                  case hy46 => (intro w hSw; (try dsimp only at hSw); go_simp; try with_reducible rfl)
                  try simp only [Act.put, List.setIfInBounds_toArray, List.set_cons_zero, List.set_cons_succ]
                  refine Take.take (i := 4) (oi := _) (t := 25) (v := ?v47) rfl (by kernel_rfl) (by kernel_rfl) (by kernel_rfl) (by kernel_rfl) (fun _ _ _ h => h) (by kernel_rfl) ?hy47 (by assumption) ?_
                  case hy47 => (intro w hSw; (try dsimp only at hSw); go_simp; try with_reducible rfl)
                  try simp only [Act.put, List.setIfInBounds_toArray, List.set_cons_zero, List.set_cons_succ]
                  refine Take.take (i := 5) (oi := _) (t := 26) (v := ?v48) rfl (by kernel_rfl) (by kernel_rfl) (by kernel_rfl) (by kernel_rfl) (fun _ _ _ h => h) (by kernel_rfl) ?hy48 (by assumption) ?_
                  case hy48 => (intro w hSw; (try dsimp only at hSw); go_simp; try with_reducible rfl)
                  try simp only [Act.put, List.setIfInBounds_toArray, List.set_cons_zero, List.set_cons_succ]
                  refine Take.take (i := 6) (oi := _) (t := 27) (v := ?v49) rfl (by kernel_rfl) (by kernel_rfl) (by kernel_rfl) (by kernel_rfl) (fun _ _ _ h => h) (by kernel_rfl) ?hy49 (by assumption) ?_
                  case hy49 => (intro w hSw; (try dsimp only at hSw); go_simp; try with_reducible rfl)
                  try simp only [Act.put, List.setIfInBounds_toArray, List.set_cons_zero, List.set_cons_succ]
                  refine Take.take (i := 7) (oi := _) (t := 28) (v := ?v50) rfl (by kernel_rfl) (by kernel_rfl) (by kernel_rfl) (by kernel_rfl) (fun _ _ _ h => h) (by kernel_rfl) ?hy50 (by assumption) ?_
                  case hy50 => (intro w hSw; (try dsimp only at hSw); go_simp; try with_reducible rfl)
                  try simp only [Act.put, List.setIfInBounds_toArray, List.set_cons_zero, List.set_cons_succ]
                  refine Take.take (i := 8) (oi := _) (t := 29) (v := ?v51) rfl (by kernel_rfl) (by kernel_rfl) (by kernel_rfl) (by kernel_rfl) (fun _ _ _ h => h) (by kernel_rfl) ?hy51 (by assumption) ?_
                  case hy51 => (intro w hSw; (try dsimp only at hSw); go_simp; try with_reducible rfl)
                  try simp only [Act.put, List.setIfInBounds_toArray, List.set_cons_zero, List.set_cons_succ]
                  refine Take.take (i := 9) (oi := _) (t := 30) (v := ?v52) rfl (by kernel_rfl) (by kernel_rfl) (by kernel_rfl) (by kernel_rfl) (fun _ _ _ h => h) (by kernel_rfl) ?hy52 (by assumption) ?_
                  case hy52 => (intro w hSw; (try dsimp only at hSw); go_simp; try with_reducible rfl)
                  try simp only [Act.put, List.setIfInBounds_toArray, List.set_cons_zero, List.set_cons_succ]
                  refine Take.take (i := 10) (oi := _) (t := 31) (v := ?v53) rfl (by kernel_rfl) (by kernel_rfl) (by kernel_rfl) (by kernel_rfl) (fun _ _ _ h => h) (by kernel_rfl) ?hy53 (by assumption) ?_
                  case hy53 => (intro w hSw; (try dsimp only at hSw); go_simp; try with_reducible rfl)
                  try simp only [Act.put, List.setIfInBounds_toArray, List.set_cons_zero, List.set_cons_succ]
                  refine Take.take (i := 11) (oi := _) (t := 32) (v := ?v54) rfl (by kernel_rfl) (by kernel_rfl) (by kernel_rfl) (by kernel_rfl) (fun _ _ _ h => h) (by kernel_rfl) ?hy54 (by assumption) ?_
                  case hy54 => (intro w hSw; (try dsimp only at hSw); go_simp; try with_reducible rfl)
                  try simp only [Act.put, List.setIfInBounds_toArray, List.set_cons_zero, List.set_cons_succ]
                  refine Take.take (i := 12) (oi := _) (t := 33) (v := ?v55) rfl (by kernel_rfl) (by kernel_rfl) (by kernel_rfl) (by kernel_rfl) (fun _ _ _ h => h) (by kernel_rfl) ?hy55 (by assumption) ?_
                  case hy55 => (intro w hSw; (try dsimp only at hSw); go_simp; try with_reducible rfl)
                  try simp only [Act.put, List.setIfInBounds_toArray, List.set_cons_zero, List.set_cons_succ]
                  refine Take.take (i := 13) (oi := _) (t := 34) (v := ?v56) rfl (by kernel_rfl) (by kernel_rfl) (by kernel_rfl) (by kernel_rfl) (fun _ _ _ h => h) (by kernel_rfl) ?hy56 (by assumption) ?_
                  case hy56 => (intro w hSw; (try dsimp only at hSw); go_simp; try with_reducible rfl)
                  try simp only [Act.put, List.setIfInBounds_toArray, List.set_cons_zero, List.set_cons_succ]
                  refine Take.take (i := 14) (oi := _) (t := 35) (v := ?v57) rfl (by kernel_rfl) (by kernel_rfl) (by kernel_rfl) (by kernel_rfl) (fun _ _ _ h => h) (by kernel_rfl) ?hy57 (by assumption) ?_
                  case hy57 => (intro w hSw; (try dsimp only at hSw); go_simp; try with_reducible rfl)
                  try simp only [Act.put, List.setIfInBounds_toArray, List.set_cons_zero, List.set_cons_succ]
                  refine Take.take (i := 15) (oi := _) (t := 36) (v := ?v58) rfl (by kernel_rfl) (by kernel_rfl) (by kernel_rfl) (by kernel_rfl) (fun _ _ _ h => h) (by kernel_rfl) ?hy58 (by assumption) ?_
                  case hy58 => (intro w hSw; (try dsimp only at hSw); go_simp; try with_reducible rfl)
                  try simp only [Act.put, List.setIfInBounds_toArray, List.set_cons_zero, List.set_cons_succ]
                  refine Take.take (i := 16) (oi := _) (t := 37) (v := ?v59) rfl (by kernel_rfl) (by kernel_rfl) (by kernel_rfl) (by kernel_rfl) (fun _ _ _ h => h) (by kernel_rfl) ?hy59 (by assumption) ?_
                  case hy59 => (intro w hSw; (try dsimp only at hSw); go_simp; try with_reducible rfl)
                  try simp only [Act.put, List.setIfInBounds_toArray, List.set_cons_zero, List.set_cons_succ]
                  refine Take.take (i := 17) (oi := _) (t := 38) (v := ?v60) rfl (by kernel_rfl) (by kernel_rfl) (by kernel_rfl) (by kernel_rfl) (fun _ _ _ h => h) (by kernel_rfl) ?hy60 (by assumption) ?_
                  case hy60 => (intro w hSw; (try dsimp only at hSw); go_simp; try with_reducible rfl)
                  try simp only [Act.put, List.setIfInBounds_toArray, List.set_cons_zero, List.set_cons_succ]
                  refine Take.take (i := 18) (oi := _) (t := 39) (v := ?v61) rfl (by kernel_rfl) (by kernel_rfl) (by kernel_rfl) (by kernel_rfl) (fun _ _ _ h => h) (by kernel_rfl) ?hy61 (by assumption) ?_
                  case hy61 => (intro w hSw; (try dsimp only at hSw); go_simp; try with_reducible rfl)
                  try simp only [Act.put, List.setIfInBounds_toArray, List.set_cons_zero, List.set_cons_succ]
                  refine Take.take (i := 19) (oi := _) (t := 40) (v := ?v62) rfl (by kernel_rfl) (by kernel_rfl) (by kernel_rfl) (by kernel_rfl) (fun _ _ _ h => h) (by kernel_rfl) ?hy62 (by assumption) ?_
                  case hy62 => (intro w hSw; (try dsimp only at hSw); go_simp; try with_reducible rfl)
                  try simp only [Act.put, List.setIfInBounds_toArray, List.set_cons_zero, List.set_cons_succ]
                  refine Take.take (i := 20) (oi := _) (t := 41) (v := ?v63) rfl (by kernel_rfl) (by kernel_rfl) (by kernel_rfl) (by kernel_rfl) (fun _ _ _ h => h) (by kernel_rfl) ?hy63 (by assumption) ?_
                  case hy63 => (intro w hSw; (try dsimp only at hSw); go_simp; try with_reducible rfl)
                  try simp only [Act.put, List.setIfInBounds_toArray, List.set_cons_zero, List.set_cons_succ]
                  refine Take.take (i := 21) (oi := _) (t := 42) (v := ?v64) rfl (by kernel_rfl) (by kernel_rfl) (by kernel_rfl) (by kernel_rfl) (fun _ _ _ h => h) (by kernel_rfl) ?hy64 (by assumption) ?_
                  case hy64 => (intro w hSw; (try dsimp only at hSw); go_simp; try with_reducible rfl)
                  try simp only [Act.put, List.setIfInBounds_toArray, List.set_cons_zero, List.set_cons_succ]
                  refine Take.take (i := 22) (oi := _) (t := 43) (v := ?v65) rfl (by kernel_rfl) (by kernel_rfl) (by kernel_rfl) (by kernel_rfl) (fun _ _ _ h => h) (by kernel_rfl) ?hy65 (by assumption) ?_
                  case hy65 => (intro w hSw; (try dsimp only at hSw); go_simp; try with_reducible rfl)
                  try simp only [Act.put, List.setIfInBounds_toArray, List.set_cons_zero, List.set_cons_succ]
                  refine Take.take (i := 23) (oi := _) (t := 44) (v := ?v66) rfl (by kernel_rfl) (by kernel_rfl) (by kernel_rfl) (by kernel_rfl) (fun _ _ _ h => h) (by kernel_rfl) ?hy66 (by assumption) ?_
                  case hy66 => (intro w hSw; (try dsimp only at hSw); go_simp; try with_reducible rfl)
                  try simp only [Act.put, List.setIfInBounds_toArray, List.set_cons_zero, List.set_cons_succ]
                  refine Take.take (i := 24) (oi := _) (t := 45) (v := ?v67) rfl (by kernel_rfl) (by kernel_rfl) (by kernel_rfl) (by kernel_rfl) (fun _ _ _ h => h) (by kernel_rfl) ?hy67 (by assumption) ?_
                  case hy67 => (intro w hSw; (try dsimp only at hSw); go_simp; try with_reducible rfl)
                  try simp only [Act.put, List.setIfInBounds_toArray, List.set_cons_zero, List.set_cons_succ]
                  refine Take.take (i := 25) (oi := _) (t := 46) (v := ?v68) rfl (by kernel_rfl) (by kernel_rfl) (by kernel_rfl) (by kernel_rfl) (fun _ _ _ h => h) (by kernel_rfl) ?hy68 (by assumption) ?_
                  case hy68 => (intro w hSw; (try dsimp only at hSw); go_simp; try with_reducible rfl)
                  try simp only [Act.put, List.setIfInBounds_toArray, List.set_cons_zero, List.set_cons_succ]
                  refine Take.take (i := 26) (oi := _) (t := 6) (v := ?v69) rfl (by kernel_rfl) (by kernel_rfl) (by kernel_rfl) (by kernel_rfl) (fun _ _ _ h => h) (by kernel_rfl) ?hy69 (by assumption) ?_
                  case hy69 => (intro w hSw; (try dsimp only at hSw); go_simp; try with_reducible rfl)
                  try simp only [Act.put, List.setIfInBounds_toArray, List.set_cons_zero, List.set_cons_succ]
                  refine wpAnyH_done (by kernel_rfl) ?_ _
                  go_wp2_with fail
                  go_roundg (r.length - (j + 1))
                  case measure => have := Hgj.out; omega
                  case rel => exact ⟨j + 1, rfl, by rw [Hn2.out], by go_num, hjl, LV.out.drew⟩
                · skip
                  have Hn2 := Lib.hid (show okP r u v i (j + 1) = true from by rw [Hnx.out, stepP, f1, f2, f3]; rfl)
                  refine wp_region_held_drew (S := fun w' => w'.cell? ⟨X, 0, none⟩ = some (.int .i64 x.node) ∧ w'.cell? ⟨X, 2, none⟩ = some (.int .i64 x.hops) ∧ w'.cell? ⟨X, 3, none⟩ = some (.int .i64 x.frm) ∧ w'.cell? ⟨gp, i, none⟩ = some (.int .i64 v) ∧ w'.cell? ⟨gp, i - 1, none⟩ = some (.int .i64 u)) (by kernel_rfl) ⟨x0, x2, x3, cv, cu⟩ (fun hHeld => ?_)
                  refine Take.take (i := 0) (oi := _) (t := 21) (v := ?v70) rfl (by kernel_rfl) (by kernel_rfl) (by kernel_rfl) (by kernel_rfl) (fun _ _ _ h => h) (by kernel_rfl) ?hy70 (by assumption) ?_
                  case hy70 => (intro w hSw; (try dsimp only at hSw); go_simp; try with_reducible rfl)
                  try simp only [Act.put, List.setIfInBounds_toArray, List.set_cons_zero, List.set_cons_succ]
                  refine Take.take (i := 1) (oi := _) (t := 22) (v := ?v71) rfl (by kernel_rfl) (by kernel_rfl) (by kernel_rfl) (by kernel_rfl) (fun _ _ _ h => h) (by kernel_rfl) ?hy71 (by assumption) ?_
                  case hy71 => (intro w hSw; (try dsimp only at hSw); go_simp; try with_reducible rfl)
                  try simp only [Act.put, List.setIfInBounds_toArray, List.set_cons_zero, List.set_cons_succ]
                  refine Take.take (i := 2) (oi := _) (t := 23) (v := ?v72) rfl (by kernel_rfl) (by kernel_rfl) (by kernel_rfl) (by kernel_rfl) (fun _ _ _ h => h) (by kernel_rfl) ?hy72 (by assumption) ?_
                  case hy72 => (intro w hSw; (try dsimp only at hSw); go_simp; try with_reducible rfl)
                  try simp only [Act.put, List.setIfInBounds_toArray, List.set_cons_zero, List.set_cons_succ]
                  refine Take.take (i := 3) (oi := _) (t := 24) (v := ?v73) rfl (by kernel_rfl) (by kernel_rfl) (by kernel_rfl) (by kernel_rfl) (fun _ _ _ h => h) (by kernel_rfl) ?hy73 (by assumption) ?_
                  case hy73 => (intro w hSw; (try dsimp only at hSw); go_simp; try with_reducible rfl)
                  try simp only [Act.put, List.setIfInBounds_toArray, List.set_cons_zero, List.set_cons_succ]
                  refine Take.take (i := 4) (oi := _) (t := 25) (v := ?v74) rfl (by kernel_rfl) (by kernel_rfl) (by kernel_rfl) (by kernel_rfl) (fun _ _ _ h => h) (by kernel_rfl) ?hy74 (by assumption) ?_
                  case hy74 => (intro w hSw; (try dsimp only at hSw); go_simp; try with_reducible rfl)
                  try simp only [Act.put, List.setIfInBounds_toArray, List.set_cons_zero, List.set_cons_succ]
                  refine Take.take (i := 5) (oi := _) (t := 26) (v := ?v75) rfl (by kernel_rfl) (by kernel_rfl) (by kernel_rfl) (by kernel_rfl) (fun _ _ _ h => h) (by kernel_rfl) ?hy75 (by assumption) ?_
                  case hy75 => (intro w hSw; (try dsimp only at hSw); go_simp; try with_reducible rfl)
                  try simp only [Act.put, List.setIfInBounds_toArray, List.set_cons_zero, List.set_cons_succ]
                  refine Take.take (i := 6) (oi := _) (t := 27) (v := ?v76) rfl (by kernel_rfl) (by kernel_rfl) (by kernel_rfl) (by kernel_rfl) (fun _ _ _ h => h) (by kernel_rfl) ?hy76 (by assumption) ?_
                  case hy76 => (intro w hSw; (try dsimp only at hSw); go_simp; try with_reducible rfl)
                  try simp only [Act.put, List.setIfInBounds_toArray, List.set_cons_zero, List.set_cons_succ]
                  refine Take.take (i := 7) (oi := _) (t := 28) (v := ?v77) rfl (by kernel_rfl) (by kernel_rfl) (by kernel_rfl) (by kernel_rfl) (fun _ _ _ h => h) (by kernel_rfl) ?hy77 (by assumption) ?_
                  case hy77 => (intro w hSw; (try dsimp only at hSw); go_simp; try with_reducible rfl)
                  try simp only [Act.put, List.setIfInBounds_toArray, List.set_cons_zero, List.set_cons_succ]
                  refine Take.take (i := 8) (oi := _) (t := 29) (v := ?v78) rfl (by kernel_rfl) (by kernel_rfl) (by kernel_rfl) (by kernel_rfl) (fun _ _ _ h => h) (by kernel_rfl) ?hy78 (by assumption) ?_
                  case hy78 => (intro w hSw; (try dsimp only at hSw); go_simp; try with_reducible rfl)
                  try simp only [Act.put, List.setIfInBounds_toArray, List.set_cons_zero, List.set_cons_succ]
                  refine Take.take (i := 9) (oi := _) (t := 30) (v := ?v79) rfl (by kernel_rfl) (by kernel_rfl) (by kernel_rfl) (by kernel_rfl) (fun _ _ _ h => h) (by kernel_rfl) ?hy79 (by assumption) ?_
                  case hy79 => (intro w hSw; (try dsimp only at hSw); go_simp; try with_reducible rfl)
                  try simp only [Act.put, List.setIfInBounds_toArray, List.set_cons_zero, List.set_cons_succ]
                  refine Take.take (i := 10) (oi := _) (t := 31) (v := ?v80) rfl (by kernel_rfl) (by kernel_rfl) (by kernel_rfl) (by kernel_rfl) (fun _ _ _ h => h) (by kernel_rfl) ?hy80 (by assumption) ?_
                  case hy80 => (intro w hSw; (try dsimp only at hSw); go_simp; try with_reducible rfl)
                  try simp only [Act.put, List.setIfInBounds_toArray, List.set_cons_zero, List.set_cons_succ]
                  refine Take.take (i := 11) (oi := _) (t := 32) (v := ?v81) rfl (by kernel_rfl) (by kernel_rfl) (by kernel_rfl) (by kernel_rfl) (fun _ _ _ h => h) (by kernel_rfl) ?hy81 (by assumption) ?_
                  case hy81 => (intro w hSw; (try dsimp only at hSw); go_simp; try with_reducible rfl)
                  try simp only [Act.put, List.setIfInBounds_toArray, List.set_cons_zero, List.set_cons_succ]
                  refine Take.take (i := 12) (oi := _) (t := 33) (v := ?v82) rfl (by kernel_rfl) (by kernel_rfl) (by kernel_rfl) (by kernel_rfl) (fun _ _ _ h => h) (by kernel_rfl) ?hy82 (by assumption) ?_
                  case hy82 => (intro w hSw; (try dsimp only at hSw); go_simp; try with_reducible rfl)
                  try simp only [Act.put, List.setIfInBounds_toArray, List.set_cons_zero, List.set_cons_succ]
                  refine Take.take (i := 13) (oi := _) (t := 34) (v := ?v83) rfl (by kernel_rfl) (by kernel_rfl) (by kernel_rfl) (by kernel_rfl) (fun _ _ _ h => h) (by kernel_rfl) ?hy83 (by assumption) ?_
                  case hy83 => (intro w hSw; (try dsimp only at hSw); go_simp; try with_reducible rfl)
                  try simp only [Act.put, List.setIfInBounds_toArray, List.set_cons_zero, List.set_cons_succ]
                  refine Take.take (i := 14) (oi := _) (t := 35) (v := ?v84) rfl (by kernel_rfl) (by kernel_rfl) (by kernel_rfl) (by kernel_rfl) (fun _ _ _ h => h) (by kernel_rfl) ?hy84 (by assumption) ?_
                  case hy84 => (intro w hSw; (try dsimp only at hSw); go_simp; try with_reducible rfl)
                  try simp only [Act.put, List.setIfInBounds_toArray, List.set_cons_zero, List.set_cons_succ]
                  refine Take.take (i := 15) (oi := _) (t := 36) (v := ?v85) rfl (by kernel_rfl) (by kernel_rfl) (by kernel_rfl) (by kernel_rfl) (fun _ _ _ h => h) (by kernel_rfl) ?hy85 (by assumption) ?_
                  case hy85 => (intro w hSw; (try dsimp only at hSw); go_simp; try with_reducible rfl)
                  try simp only [Act.put, List.setIfInBounds_toArray, List.set_cons_zero, List.set_cons_succ]
                  refine Take.take (i := 16) (oi := _) (t := 37) (v := ?v86) rfl (by kernel_rfl) (by kernel_rfl) (by kernel_rfl) (by kernel_rfl) (fun _ _ _ h => h) (by kernel_rfl) ?hy86 (by assumption) ?_
                  case hy86 => (intro w hSw; (try dsimp only at hSw); go_simp; try with_reducible rfl)
                  try simp only [Act.put, List.setIfInBounds_toArray, List.set_cons_zero, List.set_cons_succ]
                  refine Take.take (i := 17) (oi := _) (t := 38) (v := ?v87) rfl (by kernel_rfl) (by kernel_rfl) (by kernel_rfl) (by kernel_rfl) (fun _ _ _ h => h) (by kernel_rfl) ?hy87 (by assumption) ?_
                  case hy87 => (intro w hSw; (try dsimp only at hSw); go_simp; try with_reducible rfl)
                  try simp only [Act.put, List.setIfInBounds_toArray, List.set_cons_zero, List.set_cons_succ]
                  refine Take.take (i := 18) (oi := _) (t := 39) (v := ?v88) rfl (by kernel_rfl) (by kernel_rfl) (by kernel_rfl) (by kernel_rfl) (fun _ _ _ h => h) (by kernel_rfl) ?hy88 (by assumption) ?_
                  case hy88 => (intro w hSw; (try dsimp only at hSw); go_simp; try with_reducible rfl)
                  try simp only [Act.put, List.setIfInBounds_toArray, List.set_cons_zero, List.set_cons_succ]
                  refine Take.take (i := 19) (oi := _) (t := 40) (v := ?v89) rfl (by kernel_rfl) (by kernel_rfl) (by kernel_rfl) (by kernel_rfl) (fun _ _ _ h => h) (by kernel_rfl) ?hy89 (by assumption) ?_
                  case hy89 => (intro w hSw; (try dsimp only at hSw); go_simp; try with_reducible rfl)
                  try simp only [Act.put, List.setIfInBounds_toArray, List.set_cons_zero, List.set_cons_succ]
                  refine Take.take (i := 20) (oi := _) (t := 41) (v := ?v90) rfl (by kernel_rfl) (by kernel_rfl) (by kernel_rfl) (by kernel_rfl) (fun _ _ _ h => h) (by kernel_rfl) ?hy90 (by assumption) ?_
                  case hy90 => (intro w hSw; (try dsimp only at hSw); go_simp; try with_reducible rfl)
                  try simp only [Act.put, List.setIfInBounds_toArray, List.set_cons_zero, List.set_cons_succ]
                  refine Take.take (i := 21) (oi := _) (t := 42) (v := ?v91) rfl (by kernel_rfl) (by kernel_rfl) (by kernel_rfl) (by kernel_rfl) (fun _ _ _ h => h) (by kernel_rfl) ?hy91 (by assumption) ?_
                  case hy91 => (intro w hSw; (try dsimp only at hSw); go_simp; try with_reducible rfl)
                  try simp only [Act.put, List.setIfInBounds_toArray, List.set_cons_zero, List.set_cons_succ]
                  refine Take.take (i := 22) (oi := _) (t := 43) (v := ?v92) rfl (by kernel_rfl) (by kernel_rfl) (by kernel_rfl) (by kernel_rfl) (fun _ _ _ h => h) (by kernel_rfl) ?hy92 (by assumption) ?_
                  case hy92 => (intro w hSw; (try dsimp only at hSw); go_simp; try with_reducible rfl)
                  try simp only [Act.put, List.setIfInBounds_toArray, List.set_cons_zero, List.set_cons_succ]
                  refine Take.take (i := 23) (oi := _) (t := 44) (v := ?v93) rfl (by kernel_rfl) (by kernel_rfl) (by kernel_rfl) (by kernel_rfl) (fun _ _ _ h => h) (by kernel_rfl) ?hy93 (by assumption) ?_
                  case hy93 => (intro w hSw; (try dsimp only at hSw); go_simp; try with_reducible rfl)
                  try simp only [Act.put, List.setIfInBounds_toArray, List.set_cons_zero, List.set_cons_succ]
                  refine Take.take (i := 24) (oi := _) (t := 45) (v := ?v94) rfl (by kernel_rfl) (by kernel_rfl) (by kernel_rfl) (by kernel_rfl) (fun _ _ _ h => h) (by kernel_rfl) ?hy94 (by assumption) ?_
                  case hy94 => (intro w hSw; (try dsimp only at hSw); go_simp; try with_reducible rfl)
                  try simp only [Act.put, List.setIfInBounds_toArray, List.set_cons_zero, List.set_cons_succ]
                  refine Take.take (i := 25) (oi := _) (t := 46) (v := ?v95) rfl (by kernel_rfl) (by kernel_rfl) (by kernel_rfl) (by kernel_rfl) (fun _ _ _ h => h) (by kernel_rfl) ?hy95 (by assumption) ?_
                  case hy95 => (intro w hSw; (try dsimp only at hSw); go_simp; try with_reducible rfl)
                  try simp only [Act.put, List.setIfInBounds_toArray, List.set_cons_zero, List.set_cons_succ]
                  refine Take.take (i := 26) (oi := _) (t := 6) (v := ?v96) rfl (by kernel_rfl) (by kernel_rfl) (by kernel_rfl) (by kernel_rfl) (fun _ _ _ h => h) (by kernel_rfl) ?hy96 (by assumption) ?_
                  case hy96 => (intro w hSw; (try dsimp only at hSw); go_simp; try with_reducible rfl)
                  try simp only [Act.put, List.setIfInBounds_toArray, List.set_cons_zero, List.set_cons_succ]
                  refine wpAnyH_done (by kernel_rfl) ?_ _
                  go_wp2_with fail
                  go_roundg (r.length - (j + 1))
                  case measure => have := Hgj.out; omega
                  case rel => exact ⟨j + 1, rfl, by rw [Hn2.out], by go_num, hjl, LV.out.drew⟩
          · skip
            have Hn2 := Lib.hid (show okP r u v i (j + 1) = true from by rw [Hnx.out]; rfl)
            refine wp_region_held_drew (S := fun w' => w'.cell? ⟨X, 0, none⟩ = some (.int .i64 x.node) ∧ w'.cell? ⟨X, 2, none⟩ = some (.int .i64 x.hops) ∧ w'.cell? ⟨X, 3, none⟩ = some (.int .i64 x.frm) ∧ w'.cell? ⟨gp, i, none⟩ = some (.int .i64 v) ∧ w'.cell? ⟨gp, i - 1, none⟩ = some (.int .i64 u)) (by kernel_rfl) ⟨x0, x2, x3, cv, cu⟩ (fun hHeld => ?_)
            refine Take.take (i := 0) (oi := _) (t := 21) (v := ?v1) rfl (by kernel_rfl) (by kernel_rfl) (by kernel_rfl) (by kernel_rfl) (fun _ _ _ h => h) (by kernel_rfl) ?hy1 (by assumption) ?_
            case hy1 => (intro w hSw; (try dsimp only at hSw); go_simp; try with_reducible rfl)
            try simp only [Act.put, List.setIfInBounds_toArray, List.set_cons_zero, List.set_cons_succ]
            refine Take.take (i := 1) (oi := _) (t := 22) (v := ?v2) rfl (by kernel_rfl) (by kernel_rfl) (by kernel_rfl) (by kernel_rfl) (fun _ _ _ h => h) (by kernel_rfl) ?hy2 (by assumption) ?_
            case hy2 => (intro w hSw; (try dsimp only at hSw); go_simp; try with_reducible rfl)
            try simp only [Act.put, List.setIfInBounds_toArray, List.set_cons_zero, List.set_cons_succ]
            refine Take.skip (i := 2) (t := 23) (g := 1) (b := false) (by kernel_rfl) (by kernel_rfl) (by kernel_rfl) (by kernel_rfl) (fun _ _ _ h => h) (by kernel_rfl) (by assumption) ?_
            try simp only [Act.put, List.setIfInBounds_toArray, List.set_cons_zero, List.set_cons_succ]
            refine Take.skip (i := 3) (t := 24) (g := 1) (b := false) (by kernel_rfl) (by kernel_rfl) (by kernel_rfl) (by kernel_rfl) (fun _ _ _ h => h) (by kernel_rfl) (by assumption) ?_
            try simp only [Act.put, List.setIfInBounds_toArray, List.set_cons_zero, List.set_cons_succ]
            refine Take.skip (i := 4) (t := 25) (g := 1) (b := false) (by kernel_rfl) (by kernel_rfl) (by kernel_rfl) (by kernel_rfl) (fun _ _ _ h => h) (by kernel_rfl) (by assumption) ?_
            try simp only [Act.put, List.setIfInBounds_toArray, List.set_cons_zero, List.set_cons_succ]
            refine Take.skip (i := 5) (t := 26) (g := 1) (b := false) (by kernel_rfl) (by kernel_rfl) (by kernel_rfl) (by kernel_rfl) (fun _ _ _ h => h) (by kernel_rfl) (by assumption) ?_
            try simp only [Act.put, List.setIfInBounds_toArray, List.set_cons_zero, List.set_cons_succ]
            refine Take.skip (i := 6) (t := 27) (g := 1) (b := false) (by kernel_rfl) (by kernel_rfl) (by kernel_rfl) (by kernel_rfl) (fun _ _ _ h => h) (by kernel_rfl) (by assumption) ?_
            try simp only [Act.put, List.setIfInBounds_toArray, List.set_cons_zero, List.set_cons_succ]
            refine Take.skip (i := 7) (t := 28) (g := 1) (b := false) (by kernel_rfl) (by kernel_rfl) (by kernel_rfl) (by kernel_rfl) (fun _ _ _ h => h) (by kernel_rfl) (by assumption) ?_
            try simp only [Act.put, List.setIfInBounds_toArray, List.set_cons_zero, List.set_cons_succ]
            refine Take.skip (i := 8) (t := 29) (g := 1) (b := false) (by kernel_rfl) (by kernel_rfl) (by kernel_rfl) (by kernel_rfl) (fun _ _ _ h => h) (by kernel_rfl) (by assumption) ?_
            try simp only [Act.put, List.setIfInBounds_toArray, List.set_cons_zero, List.set_cons_succ]
            refine Take.skip (i := 9) (t := 30) (g := 1) (b := false) (by kernel_rfl) (by kernel_rfl) (by kernel_rfl) (by kernel_rfl) (fun _ _ _ h => h) (by kernel_rfl) (by assumption) ?_
            try simp only [Act.put, List.setIfInBounds_toArray, List.set_cons_zero, List.set_cons_succ]
            refine Take.skip (i := 10) (t := 31) (g := 9) (b := true) (by kernel_rfl) (by kernel_rfl) (by kernel_rfl) (by kernel_rfl) (fun _ _ _ h => h) (by kernel_rfl) (by assumption) ?_
            try simp only [Act.put, List.setIfInBounds_toArray, List.set_cons_zero, List.set_cons_succ]
            refine Take.skip (i := 11) (t := 32) (g := 9) (b := true) (by kernel_rfl) (by kernel_rfl) (by kernel_rfl) (by kernel_rfl) (fun _ _ _ h => h) (by kernel_rfl) (by assumption) ?_
            try simp only [Act.put, List.setIfInBounds_toArray, List.set_cons_zero, List.set_cons_succ]
            refine Take.skip (i := 12) (t := 33) (g := 9) (b := true) (by kernel_rfl) (by kernel_rfl) (by kernel_rfl) (by kernel_rfl) (fun _ _ _ h => h) (by kernel_rfl) (by assumption) ?_
            try simp only [Act.put, List.setIfInBounds_toArray, List.set_cons_zero, List.set_cons_succ]
            refine Take.skip (i := 13) (t := 34) (g := 9) (b := true) (by kernel_rfl) (by kernel_rfl) (by kernel_rfl) (by kernel_rfl) (fun _ _ _ h => h) (by kernel_rfl) (by assumption) ?_
            try simp only [Act.put, List.setIfInBounds_toArray, List.set_cons_zero, List.set_cons_succ]
            refine Take.skip (i := 14) (t := 35) (g := 9) (b := true) (by kernel_rfl) (by kernel_rfl) (by kernel_rfl) (by kernel_rfl) (fun _ _ _ h => h) (by kernel_rfl) (by assumption) ?_
            try simp only [Act.put, List.setIfInBounds_toArray, List.set_cons_zero, List.set_cons_succ]
            refine Take.skip (i := 15) (t := 36) (g := 9) (b := true) (by kernel_rfl) (by kernel_rfl) (by kernel_rfl) (by kernel_rfl) (fun _ _ _ h => h) (by kernel_rfl) (by assumption) ?_
            try simp only [Act.put, List.setIfInBounds_toArray, List.set_cons_zero, List.set_cons_succ]
            refine Take.skip (i := 16) (t := 37) (g := 9) (b := true) (by kernel_rfl) (by kernel_rfl) (by kernel_rfl) (by kernel_rfl) (fun _ _ _ h => h) (by kernel_rfl) (by assumption) ?_
            try simp only [Act.put, List.setIfInBounds_toArray, List.set_cons_zero, List.set_cons_succ]
            refine Take.skip (i := 17) (t := 38) (g := 9) (b := true) (by kernel_rfl) (by kernel_rfl) (by kernel_rfl) (by kernel_rfl) (fun _ _ _ h => h) (by kernel_rfl) (by assumption) ?_
            try simp only [Act.put, List.setIfInBounds_toArray, List.set_cons_zero, List.set_cons_succ]
            refine Take.skip (i := 18) (t := 39) (g := 1) (b := false) (by kernel_rfl) (by kernel_rfl) (by kernel_rfl) (by kernel_rfl) (fun _ _ _ h => h) (by kernel_rfl) (by assumption) ?_
            try simp only [Act.put, List.setIfInBounds_toArray, List.set_cons_zero, List.set_cons_succ]
            refine Take.skip (i := 19) (t := 40) (g := 1) (b := false) (by kernel_rfl) (by kernel_rfl) (by kernel_rfl) (by kernel_rfl) (fun _ _ _ h => h) (by kernel_rfl) (by assumption) ?_
            try simp only [Act.put, List.setIfInBounds_toArray, List.set_cons_zero, List.set_cons_succ]
            refine Take.skip (i := 20) (t := 41) (g := 19) (b := true) (by kernel_rfl) (by kernel_rfl) (by kernel_rfl) (by kernel_rfl) (fun _ _ _ h => h) (by kernel_rfl) (by assumption) ?_
            try simp only [Act.put, List.setIfInBounds_toArray, List.set_cons_zero, List.set_cons_succ]
            refine Take.skip (i := 21) (t := 42) (g := 19) (b := true) (by kernel_rfl) (by kernel_rfl) (by kernel_rfl) (by kernel_rfl) (fun _ _ _ h => h) (by kernel_rfl) (by assumption) ?_
            try simp only [Act.put, List.setIfInBounds_toArray, List.set_cons_zero, List.set_cons_succ]
            refine Take.skip (i := 22) (t := 43) (g := 19) (b := true) (by kernel_rfl) (by kernel_rfl) (by kernel_rfl) (by kernel_rfl) (fun _ _ _ h => h) (by kernel_rfl) (by assumption) ?_
            try simp only [Act.put, List.setIfInBounds_toArray, List.set_cons_zero, List.set_cons_succ]
            refine Take.skip (i := 23) (t := 44) (g := 19) (b := true) (by kernel_rfl) (by kernel_rfl) (by kernel_rfl) (by kernel_rfl) (fun _ _ _ h => h) (by kernel_rfl) (by assumption) ?_
            try simp only [Act.put, List.setIfInBounds_toArray, List.set_cons_zero, List.set_cons_succ]
            refine Take.skip (i := 24) (t := 45) (g := 1) (b := false) (by kernel_rfl) (by kernel_rfl) (by kernel_rfl) (by kernel_rfl) (fun _ _ _ h => h) (by kernel_rfl) (by assumption) ?_
            try simp only [Act.put, List.setIfInBounds_toArray, List.set_cons_zero, List.set_cons_succ]
            refine Take.take (i := 25) (oi := _) (t := 46) (v := ?v3) rfl (by kernel_rfl) (by kernel_rfl) (by kernel_rfl) (by kernel_rfl) (fun _ _ _ h => h) (by kernel_rfl) ?hy3 (by assumption) ?_
            case hy3 => (intro w hSw; (try dsimp only at hSw); go_simp; try with_reducible rfl)
            try simp only [Act.put, List.setIfInBounds_toArray, List.set_cons_zero, List.set_cons_succ]
            refine Take.take (i := 26) (oi := _) (t := 6) (v := ?v4) rfl (by kernel_rfl) (by kernel_rfl) (by kernel_rfl) (by kernel_rfl) (fun _ _ _ h => h) (by kernel_rfl) ?hy4 (by assumption) ?_
            case hy4 => (intro w hSw; (try dsimp only at hSw); go_simp; try with_reducible rfl)
            try simp only [Act.put, List.setIfInBounds_toArray, List.set_cons_zero, List.set_cons_succ]
            refine wpAnyH_done (by kernel_rfl) ?_ _
            go_wp2_with fail
            go_roundg (r.length - (j + 1))
            case measure => have := Hgj.out; omega
            case rel => exact ⟨j + 1, rfl, by rw [Hn2.out], by go_num, hjl, LV.out.drew⟩
        · obtain rfl : j = r.length := by omega
          rw [Hyes.out]
          have LI2 := Lib.hid LI
          clear LI
          go_wp2_with fail
          go_roundg (p.length - (i + 1))
          case measure => have := Hgi.out; omega
          case rel => exact ⟨i + 1, rfl, by go_num, by omega, hlt, LI2.out⟩
    · have LR2 := Lib.hid LR
      obtain rfl : i = p.length := by omega
      clear LR
      go_wp2_with fail
      go_ret
      exact ⟨rfl, LR2.out⟩
end Go.Proofs.YtmbblhajbecomaaDoor.Flood
