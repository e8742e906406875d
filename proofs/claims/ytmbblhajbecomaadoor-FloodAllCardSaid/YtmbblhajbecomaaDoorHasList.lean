/- The document's Has and List of sets; graph.Graph's Without: walked. -/
import Derived.Test.YtmbblhajbecomaaDoorWithoutPure
import Derived.Test.YtmbblhajbecomaaDoorRefLists
import Derived.Deep.RegionHeld3
namespace Go.Proofs.YtmbblhajbecomaaDoor.Graph
set_option maxRecDepth 100000
open Go.RowKit
open Go.Proofs.YtmbblhajbecomaaDoor.RF Go.Proofs.YtmbblhajbecomaaDoor.Heap Go.Proofs.YtmbblhajbecomaaDoor.Nodes Go.Proofs.YtmbblhajbecomaaDoor.Seen
set_option linter.unusedVariables false
set_option linter.unusedSimpArgs false

theorem quo_bit (s i : Nat) : ((s / 2 ^ i % 2 : Nat) == 1) = s.testBit i := by
  rw [Nat.testBit_eq_decide_div_mod_eq, Bool.eq_iff_iff]
  simp
theorem quo_val {s p : Nat} (h : s / p < 18446744073709551616) : ((IntKind.u64.wrap ((s : Int) / (p : Int))).tmod 2 == 1) = (s / p % 2 == 1) := by
  have e1 : (s : Int) / (p : Int) = ((s / p : Nat) : Int) := by simp
  rw [e1]
  obtain ⟨q, hq⟩ : ∃ q, s / p = q := ⟨_, rfl⟩
  rw [hq] at h ⊢
  have e2 : IntKind.u64.wrap (q : Int) = (q : Int) := by rw [IntKind.wrap_u64]; omega
  rw [e2, Int.tmod_eq_emod_of_nonneg (by omega), Bool.eq_iff_iff, beq_iff_eq, beq_iff_eq]
  omega
theorem refhas_any (s : Nat) (hs : s < 2 ^ 64) (i : Int) (w : World) :
    Calls Tryd.prog 27 #[.int .u64 s, .int .i64 i] w fun e w' => e = .returned (.bool (hasR s i)) ∧ w' = w := by
  by_cases h0 : 0 ≤ i
  · by_cases h64 : i < 64
    · obtain ⟨k, rfl⟩ : ∃ k : Nat, i = k := ⟨i.toNat, by omega⟩
      have hk : k < 64 := by omega
      have Hpow := Lib.hid (power_any k hk w)
      have hr : hasR s (k : Int) = s.testBit k := by simp [hasR]; omega
      rw [hr, ← quo_bit]
      have hp0 : 0 < 2 ^ k := Nat.pow_pos (by omega)
      obtain ⟨p, hp⟩ : ∃ p, 2 ^ k = p := ⟨_, rfl⟩
      rw [hp] at Hpow hp0 ⊢
      clear hp hr
      have hp1 : ¬ (p : Int) = 0 := by omega
      have hq : s / p < 18446744073709551616 := Nat.lt_of_le_of_lt (Nat.div_le_self _ _) (by omega)
      go_enter Tryd.func27, Tryd.ntmps27
      go_wp2_with (go_at_call 49; refine Hpow.out.mono ?_; rintro e w' ⟨rfl, h⟩; rw [h]; clear h w')
      go_ret
      exact ⟨ret_b (quo_val hq), rfl⟩
    · have hr : hasR s i = false := by simp [hasR, h64]
      rw [hr]
      clear hr
      go_enter Tryd.func27, Tryd.ntmps27
      go_wp2
      go_ret
      exact ⟨rfl, rfl⟩
  · have hr : hasR s i = false := by simp [hasR, h0]
    rw [hr]
    clear hr
    go_enter Tryd.func27, Tryd.ntmps27
    go_wp2
    go_ret
    exact ⟨rfl, rfl⟩
/-- The bits below m. -/
def onesTo (s m : Nat) : List Nat := (List.range m).filter fun i => s.testBit i
theorem onesTo_succ (s m : Nat) : onesTo s (m + 1) = onesTo s m ++ if s.testBit m = true then [m] else [] := by
  unfold onesTo
  rw [List.range_succ, List.filter_append]
  congr 1
  cases h : s.testBit m <;> simp [h]
theorem onesTo_len (s m : Nat) : (onesTo s m).length ≤ m := by
  have := List.length_filter_le (fun i => s.testBit i) (List.range m)
  simpa [onesTo] using this
set_option maxRecDepth 100000 in
set_option maxHeartbeats 4000000 in
theorem reflist_any (s : Nat) (hs : s < 2 ^ 64) (w : World) :
    Calls Tryd.prog 45 #[.int .u64 s] w fun e w' => ∃ v', e = .returned v' ∧ w'.ownsRow w.heap.size 3 1 v' (ones s).length (nc (ones s)) ∧ Below w.heap.size w w' := by
  obtain ⟨i0, hi0, hz⟩ := Option.map_eq_some_iff.1 infoI
  simp only [Prod.mk.injEq] at hz
  obtain ⟨hz0, hz1, hz2⟩ := hz
  have Hi0 := Lib.hid hi0
  have Hz0 := Lib.hid hz0
  have Hz1 := Lib.hid hz1
  have Hz2 := Lib.hid hz2
  clear hi0 hz0 hz1 hz2
  obtain ⟨V, hV⟩ : ∃ V, w.alloc (.cells #[] 3) = V := ⟨_, rfl⟩
  have lV : Below w.heap.size w V := by rw [← hV]; exact (Below.refl _ w).alloc (Nat.le_refl _) _
  have oV : V.ownsRow w.heap.size 3 1 (.slice (some ⟨w.heap.size, 0, none⟩) 0 0) 0 [] := by
    have := row_of_blk (base := w.heap.size) (n := 0) (s := 1) (cap := 0) (Blk.new w 3 #[]) (Nat.le_refl _) (Nat.le_refl _) (by unfold maxLen; omega) rfl
    rw [hV] at this
    simpa using this
  have HV := Lib.hid hV
  have HoV := Lib.hid oV
  clear hV oV
  go_enter Tryd.func45, Tryd.ntmps45
  go_wp2_with fail
  rw [HV.out]
  go_loopw [3, 4] (fun v3 v4 wr => ∃ k : Nat, v4 = .int .i64 k ∧ k ≤ 64 ∧ RowKit.Hid (wr.ownsRow w.heap.size 3 1 v3 (onesTo s k).length (nc (onesTo s k))) ∧ Below w.heap.size w wr) (fun _ v4 _ => match v4 with | .int _ k => 64 - k.toNat | _ => 0)
  case atStart => exact ⟨0, rfl, Nat.zero_le _, HoV, lV⟩
  case round =>
    clear lV
    obtain ⟨k, rfl, hk, own, lR⟩ := hrel
    by_cases hlt : k < 64
    · have l3 : (0 : Int) ≤ (k : Int) := by omega
      have l4 : (k : Int) < 64 := by omega
      have hr : hasR s (k : Int) = s.testBit k := by simp [hasR]; omega
      have hh := refhas_any s hs (k : Int) wr
      rw [hr] at hh
      have HH := Lib.hid hh
      have hsu := onesTo_succ s k
      have hl := onesTo_len s k
      have hw := lR.size
      clear hr hh
      rcases e1 : s.testBit k with _ | _
      · rw [e1, if_neg (by decide), List.append_nil] at hsu
        rw [e1] at HH
        go_wp2_with (go_at_call 27; refine HH.out.mono ?_; rintro e w' ⟨rfl, h⟩; rw [h]; clear h w')
        go_round
        case rel => exact ⟨k + 1, rfl, hlt, by rw [hsu]; exact own, lR⟩
        case measure => simp; omega
      · rw [e1, if_pos rfl] at hsu
        rw [e1] at HH
        go_wp2_with (first
          | (go_at_call 27; refine HH.out.mono ?_; rintro e w' ⟨rfl, h⟩; rw [h]; clear h w')
          | (at_builtin; refine wpList_append_own _ rfl _ _ 51 rfl w.heap.size 3 i0 _ 1 8 Tryd.underlying51 Hi0.out Hz0.out Hz1.out Hz2.out rfl (by decide) _ _ _ rfl (own.out.alloc _) ⟨wr.heap.size, 0, none⟩ 1 1 [.int .i64 (k : Nat)] rfl rfl (cell_one_new _ _ _) (by simp [Value.oneCell']) (by unfold maxLen; omega) (by omega) (by simp; omega) ?_; intro v' w3 hown3 hgrow3 _))
        go_round
        case rel => exact ⟨k + 1, rfl, hlt, Lib.hid (by rw [hsu, nc_snoc, List.length_append]; exact hown3), below_own (lR.alloc lR.size _) hgrow3 (own.out.alloc _) (Nat.le_refl _) (Nat.le_refl _)⟩
        case measure => simp; omega
    · obtain rfl : k = 64 := by omega
      go_wp2_with fail
      go_ret
      exact ⟨_, rfl, own.out, lR⟩
end Go.Proofs.YtmbblhajbecomaaDoor.Graph
