/- The document's lists of nodes and links: in, power, Of, Near, Links, walked. -/
import Derived.Test.YtmbblhajbecomaaDoorPairs
import Derived.OwnWalk
namespace Go.Proofs.YtmbblhajbecomaaDoor.Graph
set_option maxRecDepth 100000
open Go.RowKit
open Go.Proofs.YtmbblhajbecomaaDoor.RF Go.Proofs.YtmbblhajbecomaaDoor.Heap Go.Proofs.YtmbblhajbecomaaDoor.Nodes Go.Proofs.YtmbblhajbecomaaDoor.Seen
set_option linter.unusedVariables false
set_option linter.unusedSimpArgs false

theorem infoI : (Tryd.prog.info? 3).map (fun i => (i.zero, i.size, i.bytes)) = some (some (.int .i64 0), 1, 8) := by kernel_rfl
/-- A list of numbers lies. -/
def IntsAt (w : World) (v : Value) (xs : List Int) : Prop := ∃ a cap, v = .slice a xs.length cap ∧ ∀ (j : Nat) (x : Int), xs[j]? = some x → ∃ b, a = some ⟨b, 0, none⟩ ∧ w.cell? ⟨b, j, none⟩ = some (.int .i64 x)
theorem own_ints {w : World} {base : Nat} {v : Value} {xs : List Int} {n : Nat} (h : w.ownsRow base 3 1 v n (xs.map (Value.int .i64))) (hn : xs.length = n) : IntsAt w v xs := by
  subst hn
  rcases h.2 with ⟨rfl, h0⟩ | ⟨g, cap, cur, rfl, hb, hg, hnc, hcm, hcs, ht⟩
  · refine ⟨none, 0, by rw [h0], fun i p hp => ?_⟩
    rw [List.length_eq_zero_iff.1 h0] at hp
    simp at hp
  · refine ⟨_, _, rfl, fun j x hx => ⟨g, rfl, ?_⟩⟩
    rw [cell_of_row w g j cur _ _ hg]
    have hk : (xs.map (Value.int .i64))[j]? = some (.int .i64 x) := by simp [hx]
    rw [← ht, List.getElem?_take] at hk
    split at hk
    · simpa using hk
    · cases hk
theorem in_any (w : World) (v : Value) (xs : List Int) (i : Int) (h : IntsAt w v xs) (hlen : xs.length ≤ 65536) :
    Calls Tryd.prog 55 #[v, .int .i64 i] w fun e w' => e = .returned (.bool (decide (i ∈ xs))) ∧ w' = w := by
  obtain ⟨a, cap, rfl, hc⟩ := h
  go_enter Tryd.func55, Tryd.ntmps55
  go_wp2
  go_loop [5] (fun v5 => ∃ k : Nat, v5 = .int .i64 k ∧ k ≤ xs.length ∧ RowKit.Hid (i ∉ xs.take k)) (fun v5 => match v5 with | .int _ k => xs.length - k.toNat | _ => 0)
  case atStart => exact ⟨0, rfl, Nat.zero_le _, Lib.hid (by simp)⟩
  case round =>
    obtain ⟨k, rfl, hk, hn⟩ := hrel
    by_cases hlt : k < xs.length
    · obtain ⟨x, hx⟩ : ∃ x, xs[k]? = some x := ⟨_, List.getElem?_eq_getElem hlt⟩
      obtain ⟨b, rfl, c0⟩ := hc k x hx
      have l3 : (0 : Int) ≤ (k : Int) := by omega
      have l4 : (k : Int) < (xs.length : Int) := by omega
      have l5 : (k : Int) + 1 ≤ 65536 := by omega
      clear hc
      rcases e1 : x == i with _ | _
      · have hn2 := Lib.hid (show i ∉ xs.take (k + 1) from fun c => by
          rw [List.take_add_one, hx] at c
          rcases List.mem_append.1 c with c | c
          · exact hn.out c
          · simp at c; subst c; simp at e1)
        clear hn hx
        go_wp2
        go_round
        case rel => exact ⟨k + 1, rfl, hlt, hn2⟩
        case measure => simp; omega
      · have hm := Lib.hid (show decide (i ∈ xs) = true from by
          rw [decide_eq_true_eq]
          rw [beq_iff_eq] at e1
          subst e1
          exact List.mem_of_getElem? hx)
        clear hn hx
        go_wp2
        go_ret
        exact ⟨ret_b hm.out.symm, rfl⟩
    · obtain rfl : k = xs.length := by omega
      have hm := Lib.hid (show decide (i ∈ xs) = false from by
        rw [decide_eq_false_iff_not]
        have := hn.out
        rwa [List.take_length] at this)
      clear hn
      go_wp2
      go_ret
      exact ⟨ret_b hm.out.symm, rfl⟩
theorem power_any (i : Nat) (hi : i < 64) (w : World) :
    Calls Tryd.prog 49 #[.int .i64 i] w fun e w' => e = .returned (.int .u64 ((2 ^ i : Nat) : Int)) ∧ w' = w := by
  go_enter Tryd.func49, Tryd.ntmps49
  go_wp2
  go_loop [3, 4] (fun v3 v4 => ∃ k p : Nat, v3 = .int .u64 p ∧ v4 = .int .i64 k ∧ k ≤ i ∧ RowKit.Hid (p = 2 ^ k)) (fun _ v4 => match v4 with | .int _ k => i - k.toNat | _ => 0)
  case atStart => exact ⟨0, 1, rfl, rfl, Nat.zero_le _, Lib.hid rfl⟩
  case round =>
    obtain ⟨k, p, rfl, rfl, hk, hp⟩ := hrel
    by_cases hlt : k < i
    · have hp2 := Lib.hid (show p * 2 = 2 ^ (k + 1) by rw [Nat.pow_succ, hp.out])
      have hb : p * 2 < 2 ^ 64 := by rw [hp2.out]; exact Nat.pow_lt_pow_right (by omega) (by omega)
      have hw : IntKind.u64.wrap ((p : Int) * 2) = ((p * 2 : Nat) : Int) := by rw [IntKind.wrap_u64]; omega
      have l4 : (k : Int) < (i : Int) := by omega
      have l5 : (k : Int) + 1 ≤ 64 := by omega
      go_wp2
      go_round
      case rel => exact ⟨k + 1, p * 2, rfl, rfl, hlt, hp2⟩
      case measure => simp; omega
    · obtain rfl : k = i := by omega
      go_wp2
      go_ret
      exact ⟨ret_u (by simp [hp.out]), rfl⟩
theorem of_any (w : World) (v : Value) (xs : List Nat) (h : IntsAt w v (xs.map fun k : Nat => (k : Int))) (hlen : xs.length ≤ 65536) :
    Calls Tryd.prog 33 #[v] w fun e w' => e = .returned (.int .u64 ((ofBits (fun k => decide (k ∈ xs)) 64 : Nat) : Int)) ∧ w' = w := by
  obtain ⟨f, hf⟩ : ∃ f : Nat → Bool, (fun k => decide (k ∈ xs)) = f := ⟨_, rfl⟩
  rw [hf]
  have Hin := Lib.hid (show ∀ k : Nat, Calls Tryd.prog 55 #[v, .int .i64 k] w fun e w' => e = .returned (.bool (f k)) ∧ w' = w from fun k => by
    have := in_any w v _ k h (by simpa using hlen)
    rw [show decide ((k : Int) ∈ xs.map fun k : Nat => (k : Int)) = f k by
      rw [← hf]
      show _ = decide (k ∈ xs)
      rw [decide_eq_decide, List.mem_map]
      exact ⟨fun ⟨a, h1, h2⟩ => by rwa [← Int.natCast_inj.1 h2], fun h => ⟨k, h, rfl⟩⟩] at this
    exact this)
  clear h hlen hf
  go_enter Tryd.func33, Tryd.ntmps33
  go_wp2
  go_loop [3, 4] (fun v3 v4 => ∃ k p : Nat, v3 = .int .u64 p ∧ v4 = .int .i64 k ∧ k ≤ 64 ∧ RowKit.Hid (p = ofBits f k)) (fun _ v4 => match v4 with | .int _ k => 64 - k.toNat | _ => 0)
  case atStart => exact ⟨0, 0, rfl, rfl, Nat.zero_le _, Lib.hid rfl⟩
  case round =>
    obtain ⟨k, p, rfl, rfl, hk, hp⟩ := hrel
    by_cases hlt : k < 64
    · have l3 : (0 : Int) ≤ (k : Int) := by omega
      have l4 : (k : Int) < 64 := by omega
      have Hk := Lib.hid (Hin.out k)
      have Hpow := Lib.hid (power_any k hlt w)
      rcases e1 : f k with _ | _
      · have hp2 := Lib.hid (show p = ofBits f (k + 1) by rw [ofBits, e1, hp.out]; simp)
        rw [e1] at Hk
        go_wp2_with (go_at_call 55; refine Hk.out.mono ?_; rintro e w' ⟨rfl, h⟩; rw [h]; clear h w')
        go_round
        case rel => exact ⟨k + 1, p, rfl, rfl, hlt, hp2⟩
        case measure => simp; omega
      · have hp2 := Lib.hid (show p + 2 ^ k = ofBits f (k + 1) by rw [ofBits, e1, hp.out]; simp)
        have hlt2 := ofBits_lt f (k + 1)
        have h64 : 2 ^ (k + 1) ≤ 2 ^ 64 := Nat.pow_le_pow_right (by omega) (by omega)
        obtain ⟨q, hq⟩ : ∃ q, 2 ^ k = q := ⟨_, rfl⟩
        rw [hq] at hp2 Hpow
        rw [← hp2.out] at hlt2
        have hw : IntKind.u64.wrap ((p : Int) + (q : Int)) = ((p + q : Nat) : Int) := by rw [IntKind.wrap_u64]; omega
        clear hlt2 h64 hq
        rw [e1] at Hk
        go_wp2_with (first
          | (go_at_call 55; refine Hk.out.mono ?_; rintro e w' ⟨rfl, h⟩; rw [h]; clear h w')
          | (go_at_call 49; refine Hpow.out.mono ?_; rintro e w' ⟨rfl, h⟩; rw [h]; clear h w'))
        go_round
        case rel => exact ⟨k + 1, p + q, rfl, rfl, hlt, hp2⟩
        case measure => simp; omega
    · obtain rfl : k = 64 := by omega
      go_wp2
      go_ret
      exact ⟨ret_u (by rw [hp.out]), rfl⟩
theorem refNear_succ (k : Nat) (L : List (Int × Int)) (i : Int) : refNear (k + 1) L i = refNear k L i ++ if refL L i k = true then [k] else [] := by
  rw [refNear, List.range_succ, List.filter_append, refNear]
  congr 1
  cases h : refL L i k <;> simp [h]
theorem refNear_len (k : Nat) (L : List (Int × Int)) (i : Int) : (refNear k L i).length ≤ k := by
  have := List.length_filter_le (fun k : Nat => refL L i k) (List.range k)
  simpa [refNear] using this
/-- Numbers as cells. -/
def nc (l : List Nat) : List Value := l.map fun k : Nat => Value.int .i64 (k : Int)
theorem nc_snoc (l : List Nat) (k : Nat) : nc (l ++ [k]) = nc l ++ [.int .i64 (k : Int)] := by simp [nc]
theorem nc_map (l : List Nat) : nc l = (l.map fun k : Nat => (k : Int)).map (Value.int .i64) := by simp [nc]
theorem nc_ints {w : World} {base n : Nat} {v : Value} {l : List Nat} (h : w.ownsRow base 3 1 v n (nc l)) (hn : l.length = n) : IntsAt w v (l.map fun k : Nat => (k : Int)) := by
  rw [nc_map] at h
  exact own_ints h (by simpa using hn)
set_option maxRecDepth 100000 in
set_option maxHeartbeats 4000000 in
theorem refnear_any (n : Nat) (v : Value) (L : List (Int × Int)) (i : Int) (w : World) (hp : PairsAt w v L) (hlen : L.length ≤ 65536) (hn : n ≤ 64) :
    Calls Tryd.prog 24 #[.agg #[.int .i64 n, v], .int .i64 i] w fun e w' => ∃ v', e = .returned v' ∧ w'.ownsRow w.heap.size 3 1 v' (refNear n L i).length (nc (refNear n L i)) ∧ Below w.heap.size w w' := by
  obtain ⟨i0, hi0, hz⟩ := Option.map_eq_some_iff.1 infoI
  simp only [Prod.mk.injEq] at hz
  obtain ⟨hz0, hz1, hz2⟩ := hz
  obtain ⟨la, lcap, hv, _⟩ := hp.1
  have Hp := Lib.hid hp
  subst hv
  clear hp
  obtain ⟨W, hW⟩ : ∃ W, w.alloc (.cells #[.int .i64 (n : Nat), .slice la L.length lcap] 27) = W := ⟨_, rfl⟩
  have bW : Blk W w.heap.size 27 #[.int .i64 (n : Nat), .slice la L.length lcap] := by rw [← hW]; exact Blk.new w _ _
  have lW : Below w.heap.size w W := by rw [← hW]; exact (Below.refl _ w).alloc (Nat.le_refl _) _
  obtain ⟨V, hV⟩ : ∃ V, W.alloc (.cells #[] 3) = V := ⟨_, rfl⟩
  have bV := (bW.alloc (.cells #[] 3))
  have lV := lW.alloc lW.size (.cells #[] 3)
  have oV : V.ownsRow w.heap.size 3 1 (.slice (some ⟨W.heap.size, 0, none⟩) 0 0) 0 [] := by
    have := row_of_blk (base := w.heap.size) (n := 0) (s := 1) (cap := 0) (Blk.new W 3 #[]) (by have := bW.lt; omega) (Nat.le_refl _) (by unfold maxLen; omega) rfl
    rw [hV] at this
    simpa using this
  rw [hV] at bV lV
  go_enter Tryd.func24, Tryd.ntmps24
  go_wp2_with (first | (rw [hW]) | (rw [hV]))
  clear hW hV bW lW
  go_loopw [5, 6] (fun v5 v6 wr => ∃ k : Nat, v6 = .int .i64 k ∧ k ≤ n ∧ RowKit.Hid (wr.ownsRow w.heap.size 3 1 v5 (refNear k L i).length (nc (refNear k L i))) ∧ Blk wr w.heap.size 27 #[.int .i64 (n : Nat), .slice la L.length lcap] ∧ Below w.heap.size w wr) (fun _ v6 _ => match v6 with | .int _ k => n - k.toNat | _ => 0)
  case atStart => exact ⟨0, rfl, Nat.zero_le _, Lib.hid oV, bV, lV⟩
  case round =>
    obtain ⟨k, rfl, hk, own, bR, lR⟩ := hrel
    have c0 := bR.cell 0
    have c1 := bR.cell 1
    simp at c0 c1
    by_cases hlt : k < n
    · have l3 : (0 : Int) ≤ (k : Int) := by omega
      have l4 : (k : Int) < (n : Int) := by omega
      have l5 : (k : Int) + 1 ≤ 64 := by omega
      have hz := bR.lt
      have hq := Lib.hid (Hp.out.off lR)
      rcases e1 : refL L i k with _ | _
      · have hs := refNear_succ k L i
        rw [e1, if_neg (by decide), List.append_nil] at hs
        go_wp2_with fail
        refine (reflinked_any n _ L i k wr hq.out hlen).mono ?_
        rintro e w2 ⟨rfl, o2⟩
        rw [e1]
        have own2 := Lib.hid (own_below own.out o2)
        have b2 := bR.below o2 hz
        have l2 := lR.trans (o2.mono (by omega))
        clear own bR lR c0 c1 o2
        go_wp2_with fail
        go_round
        case rel => exact ⟨k + 1, rfl, hlt, by rw [hs]; exact own2, b2, l2⟩
        case measure => simp; omega
      · have hs := refNear_succ k L i
        rw [e1, if_pos rfl] at hs
        have hl := refNear_len k L i
        go_wp2_with fail
        refine (reflinked_any n _ L i k wr hq.out hlen).mono ?_
        rintro e w2 ⟨rfl, o2⟩
        rw [e1]
        have own2 := Lib.hid (own_below own.out o2)
        have b2 := bR.below o2 hz
        have l2 := lR.trans (o2.mono (by omega))
        have z2 := b2.lt
        have Hi0 := Lib.hid hi0
        have Hz0 := Lib.hid hz0
        have Hz1 := Lib.hid hz1
        have Hz2 := Lib.hid hz2
        clear own bR lR c0 c1 o2 hi0 hz0 hz1 hz2
        go_wp2_with (at_builtin; refine wpList_append_own _ rfl _ _ 51 rfl w.heap.size 3 i0 _ 1 8 Tryd.underlying51 Hi0.out Hz0.out Hz1.out Hz2.out rfl (by decide) _ _ _ rfl (own2.out.alloc _) ⟨w2.heap.size, 0, none⟩ 1 1 [.int .i64 (k : Nat)] rfl rfl (cell_one_new _ _ _) (by simp [Value.oneCell']) (by unfold maxLen; omega) (by omega) (by simp; omega) ?_; intro v' w3 hown3 hgrow3 _)
        go_round
        case rel => exact ⟨k + 1, rfl, hlt, Lib.hid (by rw [hs, nc_snoc, List.length_append]; exact hown3), (b2.alloc _).grown hgrow3 (own_free own2.out b2 (by decide)), below_own (l2.alloc l2.size _) hgrow3 (own2.out.alloc _) (Nat.le_refl _) (Nat.le_refl _)⟩
        case measure => simp; omega
    · obtain rfl : k = n := by omega
      go_wp2_with fail
      go_ret
      exact ⟨_, rfl, own.out, lR⟩
end Go.Proofs.YtmbblhajbecomaaDoor.Graph
