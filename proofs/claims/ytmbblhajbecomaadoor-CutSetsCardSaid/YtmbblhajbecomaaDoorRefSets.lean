/- The document's Cuts and Sets, walked. -/
import Derived.Test.YtmbblhajbecomaaDoorCutFirst
import Derived.Test.YtmbblhajbecomaaDoorRefWide
import Derived.Deep.LoopGhost
namespace Go.Proofs.YtmbblhajbecomaaDoor.Cut
open Go.RowKit
open Go.Proofs.YtmbblhajbecomaaDoor.RF Go.Proofs.YtmbblhajbecomaaDoor.Heap Go.Proofs.YtmbblhajbecomaaDoor.Nodes Go.Proofs.YtmbblhajbecomaaDoor.Graph Go.Proofs.YtmbblhajbecomaaDoor.Reach
set_option linter.unusedVariables false
set_option linter.unusedSimpArgs false
theorem cutsB_lt (near : List Nat) (s : Nat) : cutsB near s = decide (wideF near s < 0) := by
  unfold cutsB
  by_cases h : 0 ≤ wideF near s
  · rw [decide_eq_true h, decide_eq_false (by omega)]; rfl
  · rw [decide_eq_false h, decide_eq_true (by omega)]; rfl
theorem refcuts_any {w : World} (n : Nat) (v : Value) (L : List (Int × Int)) (near : List Nat) (hp : PairsAt w v L) (hlen : L.length ≤ 65536) (hM : Match n near L) (h1 : 1 ≤ n) (hn : n ≤ 64) (s : Nat) (hs : s < 2 ^ 64) :
    Calls Tryd.prog 17 #[.agg #[.int .i64 (n : Nat), v], .int .u64 (s : Nat)] w fun e w' => e = .returned (.bool (cutsB near s)) ∧ Below w.heap.size w w' := by
  rw [cutsB_lt]
  have low : Below w.heap.size w (w.alloc (.cells #[.int .i64 (n : Nat), v] 27)) := (Below.refl _ w).alloc (Nat.le_refl _) _
  have HW := refwide_any n v L near (hp.below low (Nat.le_refl _)) hlen hM h1 hn s hs
  obtain ⟨x, hx⟩ : ∃ x, wideF near s = x := ⟨_, rfl⟩
  rw [hx] at HW ⊢
  have HW := Lib.hid HW
  have HL := Lib.hid low
  obtain ⟨la, lc, rfl, _⟩ := hp.1
  clear hx low
  by_cases h : x < 0
  · rw [decide_eq_true h]
    go_enter Tryd.func17, Tryd.ntmps17
    go_wp2_with (go_at_call 31; refine HW.out.mono ?_; rintro e w' ⟨rfl, b1⟩)
    go_ret
    exact ⟨by simp [h], HL.out.trans (b1.mono (by simp))⟩
  · rw [decide_eq_false h]
    go_enter Tryd.func17, Tryd.ntmps17
    go_wp2_with (go_at_call 31; refine HW.out.mono ?_; rintro e w' ⟨rfl, b1⟩)
    go_ret
    exact ⟨by simp [h], HL.out.trans (b1.mono (by simp))⟩
/-- Numbers as cells. -/
def uc (l : List Nat) : List Value := l.map fun k : Nat => .int .u64 (k : Nat)
theorem uc_snoc (l : List Nat) (k : Nat) : uc (l ++ [k]) = uc l ++ [.int .u64 (k : Nat)] := by simp [uc]
def tap (n k s : Nat) : List Nat := (List.range s).filter fun s => (ones s).length == k
theorem tap_succ (n k s : Nat) : tap n k (s + 1) = tap n k s ++ if (ones s).length = k then [s] else [] := by
  simp only [tap, List.range_succ, List.filter_append]
  by_cases h : (ones s).length = k
  · rw [if_pos h]; simp [h]
  · rw [if_neg h]; simp [h]
theorem tap_full (n k : Nat) : tap n k (2 ^ n) = sub n k := rfl
theorem tap_len (n k s : Nat) : (tap n k s).length ≤ s := by
  have := List.length_filter_le (fun s => (ones s).length == k) (List.range s)
  simpa [tap] using this
theorem setsTo_len (n : Nat) : ∀ K, (setsTo n K).length ≤ K * 2 ^ n
  | 0 => by simp [setsTo]
  | K + 1 => by
    rw [setsTo_succ, List.length_append]
    have := setsTo_len n K
    have := tap_len n K (2 ^ n)
    rw [tap_full] at this
    rw [Nat.add_mul]; omega
theorem infoU : (Tryd.prog.info? 25).map (fun i => (i.zero, i.size, i.bytes)) = some (some (.int .u64 0), 1, 8) := by kernel_rfl
theorem own_form {w : World} {base : Nat} {e : TypeId} {s n : Nat} {v : Value} {xs : List Value} (h : w.ownsRow base e s v n xs) : ∃ A cap, v = .slice A n cap := by
  rcases h.2 with ⟨rfl, h0⟩ | ⟨g, cap, cur, rfl, _⟩
  · subst h0; exact ⟨_, _, rfl⟩
  · exact ⟨_, _, rfl⟩
set_option maxRecDepth 100000 in
set_option maxHeartbeats 4000000 in
theorem refsets_any (w : World) (n : Nat) (hn : n < 9) (m : Int) (hm : m ≤ 4) :
    Calls Tryd.prog 23 #[.int .i64 (n : Nat), .int .i64 m] w fun e w' => ∃ v, e = .returned v ∧ w'.ownsRow w.heap.size 25 1 v (setsF n m).length (uc (setsF n m)) ∧ Below w.heap.size w w' := by
  obtain ⟨i0, hi0, hz⟩ := Option.map_eq_some_iff.1 infoU
  simp only [Prod.mk.injEq] at hz
  obtain ⟨hz0, hz1, hz2⟩ := hz
  have Hi0 := Lib.hid hi0
  have Hz0 := Lib.hid hz0
  have Hz1 := Lib.hid hz1
  have Hz2 := Lib.hid hz2
  unfold setsF
  obtain ⟨K, hK⟩ : ∃ K, (min (n : Int) m + 1).toNat = K := ⟨_, rfl⟩
  rw [hK]
  have hKk := fun (k : Nat) => (show (k < K ↔ (k : Int) ≤ m ∧ (k : Int) ≤ (n : Int)) by omega)
  have hK9 : K ≤ 9 := by omega
  have HKk := Lib.hid hKk
  have hP : 2 ^ n ≤ 256 := Nat.pow_le_pow_right (n := 2) (by omega) (show n ≤ 8 by omega)
  have e1 := pow_wrap (i := n) (by omega)
  have e2 : IntKind.u64.wrap (n : Int) = (n : Int) := by rw [IntKind.wrap_u64]; omega
  have Htf := Lib.hid (fun k => tap_full n k)
  have Hsl := Lib.hid (fun k => setsTo_len n k)
  obtain ⟨P, hPP⟩ : ∃ P, 2 ^ n = P := ⟨_, rfl⟩
  simp only [hPP] at hP e1 Htf Hsl
  have own0 : (w.alloc (.cells #[] 25)).ownsRow w.heap.size 25 1 (.slice (some ⟨w.heap.size, 0, none⟩) 0 0) 0 [] := by
    have := row_of_blk (base := w.heap.size) (n := 0) (s := 1) (cap := 0) (Blk.new w 25 #[]) (Nat.le_refl _) (Nat.le_refl _) (by unfold maxLen; omega) rfl
    simpa using this
  have Own0 := Lib.hid own0
  have Low0 := Lib.hid (show Below w.heap.size w (w.alloc (.cells #[] 25)) from (Below.refl _ w).alloc (Nat.le_refl _) _)
  clear hi0 hz0 hz1 hz2 hK hKk hPP own0
  go_enter Tryd.func23, Tryd.ntmps23
  go_wp2_with fail
  go_loopg [5, 6] (K + 1) (fun q v5 v6 wr => ∃ (k : Nat), q = K + 1 - k ∧ v6 = .int .i64 k ∧ k ≤ K ∧ RowKit.Hid (wr.ownsRow w.heap.size 25 1 v5 (setsTo n k).length (uc (setsTo n k))) ∧ Below w.heap.size w wr)
  case atStart => exact ⟨0, rfl, rfl, Nat.zero_le _, Own0, Low0.out⟩
  case round =>
    obtain ⟨k, hgk, rfl, hk, own, lR⟩ := hrel
    have Hgk := Lib.hid hgk
    clear hgk
    have HR := Lib.hid lR
    by_cases hlt : k < K
    · obtain ⟨h1, h2⟩ := (HKk.out k).1 hlt
      have Htap := Lib.hid (Htf.out k)
      have hsl := Hsl.out k
      have hkP : k * P ≤ 9 * 256 := Nat.mul_le_mul (by omega) hP
      have Hsucc := Lib.hid (setsTo_succ n k)
      go_upto_region 6 with fail
      go_loopg [5, 7] (P + 1) (fun q v5 v7 wr => ∃ (s : Nat), q = P + 1 - s ∧ v7 = .int .u64 s ∧ s ≤ P ∧ RowKit.Hid (wr.ownsRow w.heap.size 25 1 v5 (setsTo n k ++ tap n k s).length (uc (setsTo n k ++ tap n k s))) ∧ Below w.heap.size w wr)
      case atStart => exact ⟨0, rfl, rfl, Nat.zero_le _, by rw [show tap n k 0 = [] from rfl, List.append_nil]; exact own, HR.out⟩
      case round =>
        clear own lR HR
        obtain ⟨s, hgs, rfl, hs, own, lR⟩ := hrel
        have Hgs := Lib.hid hgs
        clear hgs
        have HR := Lib.hid lR
        have hw := lR.size
        by_cases hsP : s < P
        · have q1 : (s : Int) < (P : Int) := by omega
          have hL := reflist_any s (by omega) wr
          have hts := tap_succ n k s
          have htl := tap_len n k s
          obtain ⟨z, hz⟩ : ∃ z, (ones s).length = z := ⟨_, rfl⟩
          rw [hz] at hL hts
          have HL := Lib.hid hL
          have Hts := Lib.hid hts
          obtain ⟨q, hq⟩ : ∃ q, (setsTo n k ++ tap n k s).length = q := ⟨_, rfl⟩
          have hql : q ≤ 9 * 256 + 256 := by rw [← hq, List.length_append]; omega
          rw [hq] at own
          have Hq := Lib.hid hq
          have hw64 : IntKind.u64.wrap ((s : Int) + 1) = ((s + 1 : Nat) : Int) := by rw [IntKind.wrap_u64]; omega
          clear hz hL hts hq lR htl hsl
          rcases hzk : ((z : Int) == (k : Int)) with _ | _
          · have Hno := Lib.hid (show tap n k (s + 1) = tap n k s by rw [Hts.out, if_neg (by intro c; subst c; simp at hzk), List.append_nil])
            go_wp2_with (go_at_call 45; refine HL.out.mono ?_; rintro e w1 ⟨v1, rfl, o1, l1⟩; obtain ⟨A1, C1, rfl⟩ := own_form o1; have l2 := HR.out.trans (l1.mono HR.out.size); have own2 := own_below own.out l1)
            go_roundg (P + 1 - (s + 1))
            case measure => have := Hgs.out; omega
            case rel => exact ⟨s + 1, rfl, rfl, hsP, Lib.hid (by rw [Hno.out, Hq.out]; exact own2), l2⟩
          · have Hyes := Lib.hid (show tap n k (s + 1) = tap n k s ++ [s] by rw [Hts.out, if_pos (by simp at hzk; omega)])
            go_wp2_with (first
              | (go_at_call 45; refine HL.out.mono ?_; rintro e w1 ⟨v1, rfl, o1, l1⟩; obtain ⟨A1, C1, rfl⟩ := own_form o1; have l2 := HR.out.trans (l1.mono HR.out.size); have own2 := own_below own.out l1; have hw2 := l2.size)
              | (at_builtin; refine wpList_append_own _ rfl _ _ 48 rfl w.heap.size 25 i0 _ 1 8 Tryd.underlying48 Hi0.out Hz0.out Hz1.out Hz2.out rfl (by decide) _ _ _ rfl (own2.alloc _) ⟨w1.heap.size, 0, none⟩ 1 1 [.int .u64 (s : Nat)] rfl rfl (cell_one_new _ _ _) (by simp [Value.oneCell']) (by unfold maxLen; omega) (by omega) (by simp; omega) ?_; intro v' w3 hown3 hgrow3 _; have l3 := below_own (l2.alloc hw2 _) hgrow3 (own2.alloc _) (Nat.le_refl _) (Nat.le_refl _)))
            go_roundg (P + 1 - (s + 1))
            case measure => have := Hgs.out; omega
            case rel => exact ⟨s + 1, rfl, rfl, hsP, Lib.hid (by rw [Hyes.out, ← List.append_assoc, uc_snoc, List.length_append, Hq.out]; exact hown3), l3⟩
        · obtain rfl : s = P := by omega
          have q1 : ¬ (s : Int) < (s : Int) := by omega
          have own3 := own
          rw [Htap.out, ← Hsucc.out] at own3
          clear own lR
          go_wp2_with fail
          go_roundg (K + 1 - (k + 1))
          case measure => have := Hgk.out; omega
          case rel => exact ⟨k + 1, rfl, rfl, hlt, own3, HR.out⟩
    · have h3 : ¬ ((k : Int) ≤ m ∧ (k : Int) ≤ (n : Int)) := fun h => hlt ((HKk.out k).2 h)
      obtain rfl : k = K := by omega
      by_cases h4 : (k : Int) ≤ m
      · have h5 : ¬ (k : Int) ≤ (n : Int) := fun h => h3 ⟨h4, h⟩
        clear h3 lR
        go_wp2_with fail
        go_ret
        exact ⟨_, rfl, own.out, HR.out⟩
      · clear h3 lR
        go_wp2_with fail
        go_ret
        exact ⟨_, rfl, own.out, HR.out⟩
end Go.Proofs.YtmbblhajbecomaaDoor.Cut
namespace Go.Proofs.YtmbblhajbecomaaDoor.Cut
open Go.RowKit
open Go.Proofs.YtmbblhajbecomaaDoor.RF Go.Proofs.YtmbblhajbecomaaDoor.Heap Go.Proofs.YtmbblhajbecomaaDoor.Nodes Go.Proofs.YtmbblhajbecomaaDoor.Graph Go.Proofs.YtmbblhajbecomaaDoor.Reach
set_option linter.unusedVariables false
set_option linter.unusedSimpArgs false
theorem own_at {w : World} {base : Nat} {e : TypeId} {n : Nat} {v u : Value} {xs : List Value} (h : w.ownsRow base e 1 v n xs) {i : Nat} (hi : xs[i]? = some u) : ∃ g cap, v = .slice (some ⟨g, 0, none⟩) n cap ∧ w.cell? ⟨g, i, none⟩ = some u ∧ g < w.heap.size := by
  have hl := h.1
  rcases h.2 with ⟨rfl, h0⟩ | ⟨g, cap, cur, rfl, hb, hg, hnc, hcm, hcs, ht⟩
  · have := (List.getElem?_eq_some_iff.1 hi).1
    omega
  · have hb' : Blk w g e cur := hg
    refine ⟨g, cap, rfl, ?_, hb'.lt⟩
    rw [hb'.cell, ← Array.getElem?_toList]
    rw [← ht, List.getElem?_take] at hi
    split at hi
    · exact hi
    · cases hi
theorem uc_at {l : List Nat} {i : Nat} (h : i < l.length) : (uc l)[i]? = some (.int .u64 (l[i] : Nat)) := by simp [uc, h]
theorem first_hit {f : Nat → Bool} {l : List Nat} {i : Nat} (h : i < l.length) (hn : ∀ j (hj : j < l.length), j < i → f l[j] = false) (hx : f l[i] = true) : l.find? f = some l[i] := by
  refine find_some (p := l.take i) (fun y hy => ?_) hx ?_
  · obtain ⟨j, hj, rfl⟩ := List.mem_iff_getElem.1 hy
    simp only [List.length_take] at hj
    rw [List.getElem_take]
    exact hn j (by omega) (by omega)
  · rw [show l.take i ++ [l[i]] = l.take (i + 1) by rw [List.take_add_one, List.getElem?_eq_getElem h]; rfl]
    exact List.take_prefix _ _
theorem first_miss {f : Nat → Bool} {l : List Nat} (hn : ∀ j (hj : j < l.length), f l[j] = false) : l.find? f = none := find_none fun x hx => by
  obtain ⟨j, hj, rfl⟩ := List.mem_iff_getElem.1 hx
  exact hn j hj
theorem sets_lt {n : Nat} {m : Int} (hn : n < 9) {x : Nat} (h : x ∈ setsF n m) : x < 2 ^ 64 := by
  have h1 := (mem_setsTo.1 h).1
  have h2 : 2 ^ n ≤ 2 ^ 8 := Nat.pow_le_pow_right (by omega) (by omega)
  omega
theorem sets_few {n : Nat} {m : Int} (hn : n < 9) : (setsF n m).length ≤ 65536 := by
  unfold setsF
  have h1 := setsTo_len n (min (n : Int) m + 1).toNat
  have h2 : 2 ^ n ≤ 2 ^ 8 := Nat.pow_le_pow_right (by omega) (by omega)
  have h3 : (min (n : Int) m + 1).toNat * 2 ^ n ≤ 9 * 2 ^ 8 := Nat.mul_le_mul (by omega) h2
  omega
set_option maxRecDepth 100000 in
set_option maxHeartbeats 4000000 in
theorem reffirst_any {w : World} (n : Nat) (v : Value) (L : List (Int × Int)) (near : List Nat) (hp : PairsAt w v L) (hlen : L.length ≤ 65536) (hM : Match n near L) (h1 : 1 ≤ n) (hn : n < 9) (f : Int) :
    Calls Tryd.prog 15 #[.agg #[.int .i64 (n : Nat), v], .int .i64 f] w fun e w' => Firsts near (min f 3) w e w' := by
  obtain ⟨la, lc, rfl, _⟩ := hp.1
  obtain ⟨v, hv⟩ : ∃ v, Value.slice la L.length lc = v := ⟨_, rfl⟩
  obtain ⟨m, hm⟩ : ∃ m, min f 3 = m := ⟨_, rfl⟩
  rw [hm]
  unfold Firsts
  have hff : firstF near m = (setsF n m).find? (cutsB near) := by unfold firstF; rw [hM.len]
  obtain ⟨W, hW⟩ : ∃ W, w.alloc (.cells #[.int .i64 (n : Nat), .slice la L.length lc] 27) = W := ⟨_, rfl⟩
  have bW : Blk W w.heap.size 27 #[.int .i64 (n : Nat), .slice la L.length lc] := by rw [← hW]; exact Blk.new w _ _
  have lW : Below w.heap.size w W := by rw [← hW]; exact (Below.refl _ w).alloc (Nat.le_refl _) _
  have HS := Lib.hid (fun (x : Int) (hx : x = m) => (show Calls Tryd.prog 23 #[.int .i64 (n : Nat), .int .i64 x] W fun e w' => ∃ v, e = .returned v ∧ w'.ownsRow W.heap.size 25 1 v (setsF n m).length (uc (setsF n m)) ∧ Below W.heap.size W w' from by
    subst hx
    exact refsets_any W n hn x (by omega)))
  have hsl := fun (x : Nat) (h : x ∈ setsF n m) => sets_lt hn h
  have hfew := sets_few (m := m) hn
  obtain ⟨l, hl⟩ : ∃ l, setsF n m = l := ⟨_, rfl⟩
  simp only [hl] at HS hff hsl hfew
  obtain ⟨r, hr⟩ : ∃ r, firstF near m = r := ⟨_, rfl⟩
  rw [hr] at hff ⊢
  have Hff := Lib.hid hff
  have Hsl := Lib.hid hsl
  have HW := Lib.hid hW
  have HbW := Lib.hid bW
  have c0 : W.cell? ⟨w.heap.size, 0, none⟩ = some (.int .i64 (n : Nat)) := bW.cell 0
  have hlw := bW.lt
  have HC := Lib.hid (fun (s : Nat) (hs : s < 2 ^ 64) (V : World) (k : Below w.heap.size w V) => refcuts_any n (.slice la L.length lc) L near (hp.below k (Nat.le_refl _)) hlen hM h1 (by omega) s hs)
  clear hW bW hl hr hff hsl hv
  go_enter Tryd.func15, Tryd.ntmps15
  go_upto_region 4 with (first
    | (rw [HW.out])
    | (go_at_call 23; refine (HS.out _ (by omega)).mono ?_; rintro e W1 ⟨v1, rfl, own, l1⟩))
  all_goals
    obtain ⟨A1, C1, rfl⟩ := own_form own
    have HbV := Lib.hid (HbW.out.below l1 hlw)
    have LW1 := Lib.hid (lW.trans (l1.mono lW.size))
    have hl1 := l1.size
    have lV : w.heap.size < W1.heap.size := by omega
    have Own := Lib.hid own
    clear HS hp own l1 c0 hm lW
    go_wp2_with fail
    go_loopw [7] (fun v7 wr => ∃ (i : Nat), v7 = .int .i64 i ∧ i ≤ l.length ∧ RowKit.Hid (∀ j (hj : j < l.length), j < i → cutsB near l[j] = false) ∧ Below W1.heap.size W1 wr) (fun v7 _ => match v7 with | .int _ i => l.length - i.toNat | _ => 0)
    case atStart => exact ⟨0, rfl, Nat.zero_le _, Lib.hid (fun j hj h => by omega), Below.refl _ _⟩
    case round =>
      obtain ⟨i, rfl, hi, Hno, lR⟩ := hrel
      have HR := Lib.hid lR
      have LWr := Lib.hid (LW1.out.trans (lR.mono LW1.out.size))
      by_cases hlt : i < l.length
      · have q1 : (0 : Int) ≤ (i : Int) := by omega
        have q2 : (i : Int) < (l.length : Int) := by omega
        have q3 : (i : Int) ≤ 65535 := by omega
        obtain ⟨g, cap, hv1, hcg, hgl⟩ := own_at Own.out (uc_at hlt)
        simp only [Value.slice.injEq] at hv1
        obtain ⟨rfl, _, rfl⟩ := hv1
        have bV := HbV.out.below lR lV
        have c0 : wr.cell? ⟨w.heap.size, 0, none⟩ = some (.int .i64 (n : Nat)) := bV.cell 0
        have c1 : wr.cell? ⟨w.heap.size, 1, none⟩ = some (.slice la L.length lc) := bV.cell 1
        have hs64 := Hsl.out l[i] (List.getElem_mem hlt)
        have cg : wr.cell? ⟨g, i, none⟩ = some (.int .u64 (l[i] : Nat)) := (lR.cell (p := ⟨g, i, none⟩) hgl).trans hcg
        have hhit := fun h => first_hit (f := cutsB near) hlt Hno.out h
        have hno2 := fun (h : cutsB near l[i] = false) (j : Nat) (hj : j < l.length) (h2 : j < i + 1) => (show cutsB near l[j] = false from by
          rcases Nat.lt_or_ge j i with c | c
          · exact Hno.out j hj c
          · obtain rfl : j = i := by omega
            exact h)
        have hHC := HC.out l[i] hs64 wr.drew LWr.out.drew
        obtain ⟨s, hs⟩ : ∃ s, l[i] = s := ⟨_, rfl⟩
        rw [hs] at cg hhit hHC hno2
        obtain ⟨b, hb⟩ : ∃ b, cutsB near s = b := ⟨_, rfl⟩
        rw [hb] at hHC
        have hlg : g < wr.heap.size := by have := lR.size; omega
        have hlb := bV.lt
        have HSw := Lib.hid (fun (V : World) (k : Below wr.heap.size wr V) => (show V.cell? ⟨w.heap.size, 0, none⟩ = some (.int .i64 (n : Nat)) ∧ V.cell? ⟨w.heap.size, 1, none⟩ = some (.slice la L.length lc) ∧ V.cell? ⟨g, i, none⟩ = some (.int .u64 (s : Nat)) from ⟨(k.cell (p := ⟨w.heap.size, 0, none⟩) hlb).trans c0, (k.cell (p := ⟨w.heap.size, 1, none⟩) hlb).trans c1, (k.cell (p := ⟨g, i, none⟩) hlg).trans cg⟩))
        have HHC := Lib.hid hHC
        have Hhit := Lib.hid hhit
        have Hno2 := Lib.hid hno2
        have Hb := Lib.hid hb
        clear hcg bV c0 c1 cg hhit hno2 hHC hs hb lR hs64
        go_upto_region 7 with fail
        go_region_held3 (fun V => V.cell? ⟨w.heap.size, 0, none⟩ = some (.int .i64 (n : Nat)) ∧ V.cell? ⟨w.heap.size, 1, none⟩ = some (.slice la L.length lc) ∧ V.cell? ⟨g, i, none⟩ = some (.int .u64 (s : Nat))) (first | exact HSw.out _ (Below.refl _ _).drew | exact HSw.out _ ((Below.refl _ wr).drew.trans k2)) ((go_at_call 17; refine HHC.out.mono ?_; rintro e V2 ⟨rfl, k2⟩))
        have kk : Below wr.heap.size wr V2 := (Below.refl _ wr).drew.trans k2
        have c2 := (HSw.out V2 kk).2.2
        clear HSw HHC k2
        cases b
        · go_wp2_with fail
          go_round
          case rel => exact ⟨i + 1, rfl, hlt, Lib.hid (Hno2.out Hb.out), HR.out.trans (kk.mono HR.out.size)⟩
          case measure => simp; omega
        · have Hr := Lib.hid (Hff.out.trans (Hhit.out Hb.out))
          go_wp2_with fail
          go_ret2
          exact ⟨by rw [Hr.out]; rfl, LWr.out.trans (kk.mono LWr.out.size)⟩
      · obtain rfl : i = l.length := by omega
        have Hr := Lib.hid (Hff.out.trans (first_miss fun j hj => Hno.out j hj hj))
        clear lR
        go_wp2_with fail
        go_ret2
        exact ⟨by rw [Hr.out]; rfl, LWr.out⟩
theorem refsafe_any {w : World} (n : Nat) (v : Value) (L : List (Int × Int)) (near : List Nat) (hp : PairsAt w v L) (hlen : L.length ≤ 65536) (hM : Match n near L) (h1 : 1 ≤ n) (hn : n < 9) (f : Int) :
    Calls Tryd.prog 19 #[.agg #[.int .i64 (n : Nat), v], .int .i64 f] w fun e w' => e = .returned (.bool (safeF near f)) ∧ Below w.heap.size w w' := by
  have hl : near.length = n := hM.len
  obtain ⟨la, lc, rfl, _⟩ := hp.1
  have low : Below w.heap.size w (w.alloc (.cells #[.int .i64 (n : Nat), .slice la L.length lc] 27)) := (Below.refl _ w).alloc (Nat.le_refl _) _
  have HL := Lib.hid low
  by_cases c1 : f < 0
  · rw [safe_no (.inl c1)]
    go_enter Tryd.func19, Tryd.ntmps19
    go_wp2_with fail
    go_ret
    exact ⟨rfl, HL.out⟩
  · by_cases c2 : 3 < f
    · rw [safe_no (.inr (.inl c2))]
      go_enter Tryd.func19, Tryd.ntmps19
      go_wp2_with fail
      go_ret
      exact ⟨rfl, HL.out⟩
    · by_cases c3 : (n : Int) ≤ f
      · rw [safe_no (.inr (.inr (by rw [hl]; exact c3)))]
        go_enter Tryd.func19, Tryd.ntmps19
        go_wp2_with fail
        go_ret
        exact ⟨rfl, HL.out⟩
      · have HF := reffirst_any n _ L near (hp.below low (Nat.le_refl _)) hlen hM h1 hn f
        rw [show min f 3 = f by omega] at HF
        unfold Firsts at HF
        rw [safe_yes (by omega) (by omega) (by rw [hl]; omega)]
        obtain ⟨s, hs⟩ : ∃ s, (firstF near f).getD 0 = s := ⟨_, rfl⟩
        obtain ⟨b, hb⟩ : ∃ b, (firstF near f).isSome = b := ⟨_, rfl⟩
        rw [hs, hb] at HF
        rw [hb]
        have HF := Lib.hid HF
        clear hs hb low
        go_enter Tryd.func19, Tryd.ntmps19
        go_wp2_with (go_at_call 15; refine HF.out.mono ?_; rintro e w1 ⟨rfl, l1⟩)
        go_ret
        exact ⟨rfl, HL.out.trans (l1.mono (by simp))⟩
end Go.Proofs.YtmbblhajbecomaaDoor.Cut
