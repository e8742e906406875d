/- cut's exact and the iterator of cut's Each, walked. -/
import Derived.Test.YtmbblhajbecomaaDoorCutPure
import Derived.Sort.LoopGhostIn
namespace Go.Proofs.YtmbblhajbecomaaDoor.Cut
open Go.RowKit
open Go.Proofs.YtmbblhajbecomaaDoor.RF Go.Proofs.YtmbblhajbecomaaDoor.Heap Go.Proofs.YtmbblhajbecomaaDoor.Nodes Go.Proofs.YtmbblhajbecomaaDoor.Graph Go.Proofs.YtmbblhajbecomaaDoor.Reach
set_option linter.unusedVariables false
set_option linter.unusedSimpArgs false
theorem next_gt (s : Nat) (h0 : 0 < s) (h1 : s < 256) : s < nextN s := by
  have := low_ok s h1 h0
  have h2 : s + lowN s ≤ nextN s := Nat.left_le_or
  omega
theorem anot_in {n s : Nat} (hn : n < 64) (h : s < 2 ^ n) : anotN s (2 ^ n - 1) = 0 := by
  have h64 : 2 ^ n < 2 ^ 64 := Nat.pow_lt_pow_right (by omega) hn
  refine Nat.eq_of_testBit_eq fun k => ?_
  rw [anotN_bits (by omega) (by omega), Nat.testBit_two_pow_sub_one, Nat.zero_testBit]
  by_cases c : k < n
  · simp [c]
  · rw [Nat.testBit_lt_two_pow (Nat.lt_of_lt_of_le h (Nat.pow_le_pow_right (by omega) (by omega)))]; rfl
theorem anot_out {n s : Nat} (hn : n < 64) (h : 2 ^ n ≤ s) (h2 : s < 2 ^ 64) : anotN s (2 ^ n - 1) ≠ 0 := fun e => by
  have h64 : 2 ^ n < 2 ^ 64 := Nat.pow_lt_pow_right (by omega) hn
  have : s < 2 ^ n := Nat.lt_pow_two_of_testBit s fun k hk => by
    rcases c : s.testBit k with _ | _
    · rfl
    · have e2 : (anotN s (2 ^ n - 1)).testBit k = true := by
        rw [anotN_bits h2 (by omega), Nat.testBit_two_pow_sub_one, c]
        simp; omega
      rw [e, Nat.zero_testBit] at e2; cases e2
  omega
theorem take_snoc {l : List Nat} {j s : Nat} (h : l[j]? = some s) : l.take j ++ [s] = l.take (j + 1) := by
  rw [List.take_add_one, h]; rfl
theorem pre_take (p l : List Nat) (j : Nat) : p ++ l.take j <+: p ++ l := List.prefix_append_right_inj p |>.2 (List.take_prefix j l)
set_option maxRecDepth 100000 in
set_option maxHeartbeats 4000000 in
theorem exact_gives (n k : Nat) (hn : n < 9) (hk : k < 5) (hkn : k ≤ n) (l : Nat) (J Jx : List Nat → World → Prop) (pre0 : List Nat) (W : World)
    (hY : ∀ pre (x : Nat) A, J pre A → pre ++ [x] <+: pre0 ++ sub n k → YieldAt Fence.wide 0 Tryd.prog l #[.int .u64 x] A fun e B => (e = .returned (.bool true) ∧ J (pre ++ [x]) B) ∨ (e = .returned (.bool false) ∧ Jx (pre ++ [x]) B)) (h0 : J pre0 W) :
    CallsIn Fence.wide 0 Tryd.prog 44 #[.int .i64 (n : Nat), .int .i64 (k : Nat), .func (.yield l) #[] #[]] W fun e B => (e = .returned (.bool true) ∧ J (pre0 ++ sub n k) B) ∨ (e = .returned (.bool false) ∧ ∃ pre, pre <+: pre0 ++ sub n k ∧ Jx pre B) := by
  have hcc := fun (h : 1 ≤ k) => sub_chk n hn k hk h hkn
  have hc0 := fun (h : k = 0) => (show sub n k = [0] by rw [h]; exact sub_zero n hn)
  obtain ⟨L, hL⟩ : ∃ L, sub n k = L := ⟨_, rfl⟩
  rw [hL] at hY hcc hc0 ⊢
  clear hL
  have HA1 := Lib.hid (all_any n (by omega) W)
  have HA2 := Lib.hid (all_any k (by omega) W)
  refine callsIn_of_wp Tryd.func44 rfl trivial ?_ rfl
  simp only [Tryd.ntmps44, List.size_toArray, List.length_cons, List.length_nil, Nat.reduceAdd, Nat.reduceSub, Array.replicate_succ, Array.replicate_zero, List.push_toArray, List.append_toArray, List.nil_append, List.cons_append]
  gi_wp2
  refine ⟨trivial, rfl, (callsIn_wide.2 HA1.out).mono ?_⟩
  rintro e w' ⟨rfl, h⟩
  rw [h]
  clear h w'
  gi_wp2
  refine ⟨trivial, rfl, (callsIn_wide.2 HA2.out).mono ?_⟩
  rintro e w' ⟨rfl, h⟩
  rw [h]
  clear h w' HA1 HA2
  by_cases hk0 : k = 0
  · have hL0 := hc0 hk0
    subst hk0 hL0
    obtain ⟨fn, tmps, assign, body, hy, hR⟩ := hY pre0 0 W h0 (List.prefix_refl _)
    rw [show ((0 : Nat) : Int) = 0 from rfl] at hy
    gi_wp2
    refine ⟨rfl, hR.mono ?_⟩
    rintro e W3 (⟨rfl, hJ3⟩ | ⟨rfl, hJx3⟩)
    · gi_wp2
      refine bodyPost_ret (results_tmp rfl _ _ _) rfl ?_
      exact .inl ⟨rfl, hJ3⟩
    · gi_wp2
      refine bodyPost_ret (results_tmp rfl _ _ _) rfl ?_
      exact .inr ⟨rfl, _, List.prefix_refl _, hJx3⟩
  · have hc := hcc (by omega)
    rw [Bool.and_eq_true, decide_eq_true_eq] at hc
    obtain ⟨hc1, hc2⟩ := hc
    have hat := fun (j s : Nat) (h : L[j]? = some s) => chk_at hc1 j s h
    have h256 : 2 ^ n ≤ 256 := Nat.pow_le_pow_right (n := 2) (by omega) (show n ≤ 8 by omega)
    have hpk : 2 ^ k ≤ 16 := Nat.pow_le_pow_right (n := 2) (by omega) (show k ≤ 4 by omega)
    have Hat := Lib.hid hat
    have HY := Lib.hid hY
    have hkb : ((k : Int) == 0) = false := by simp; omega
    have hin := fun s (h : s < 2 ^ n) => anot_in (n := n) (s := s) (by omega) h
    have hout := fun s (h : 2 ^ n ≤ s) (h2 : s < 65536) => anot_out (n := n) (s := s) (by omega) h (by omega)
    have hbits := fun s (h : s < 65536) => bits_andNot_nat s (2 ^ n - 1) (by omega) (by omega)
    have Hin := Lib.hid hin
    have Hout := Lib.hid hout
    have Hbits := Lib.hid hbits
    clear hat hY hin hout hbits hc1 hcc hc0
    gi_wp2
    gi_loopg [8] (L.length + 1) (fun q v8 wr => ∃ (j s : Nat), q = L.length + 1 - j ∧ v8 = .int .u64 s ∧ s < 65536 ∧ j ≤ L.length ∧ RowKit.Hid ((L[j]? = some s ∨ j = L.length ∧ 2 ^ n ≤ s) ∧ J (pre0 ++ L.take j) wr))
    case atStart =>
      exact ⟨0, 2 ^ k - 1, rfl, rfl, by omega, Nat.zero_le _, Lib.hid ⟨.inl hc2, by simpa using h0⟩⟩
    case round =>
      obtain ⟨j, s, hgk, rfl, hs, hj, HI⟩ := hrel
      have Hgk := Lib.hid hgk
      clear hgk hc2 h0
      rcases HI.out.1 with hs1 | ⟨hs1, hs2⟩
      · have h1 := Hat.out j s hs1
        have hz := Hin.out s h1.2.1
        have hb := Hbits.out s hs
        rw [show s &&& (18446744073709551615 - (2 ^ n - 1)) = anotN s (2 ^ n - 1) from rfl, hz] at hb
        obtain ⟨fn, tmps, assign, body, hy, hR⟩ := HY.out _ s _ HI.out.2 (by rw [List.append_assoc, take_snoc hs1]; exact pre_take _ _ _)
        have HN := Lib.hid (fun V => next_any s h1.1 (by omega) V)
        rw [show ((0 : Nat) : Int) = 0 from rfl] at hb
        have hgt := next_gt s h1.1 (by omega)
        obtain ⟨t, ht⟩ : ∃ t, nextN s = t := ⟨_, rfl⟩
        rw [ht] at HN hgt
        have h3 : t < 65536 ∧ (L[j + 1]? = some t ∨ j + 1 = L.length ∧ 2 ^ n ≤ t) := by
          rcases h1.2.2 with ⟨u, h4, h5⟩ | ⟨h4, h5, h6⟩
          · rw [ht] at h5; subst h5
            have := Hat.out _ _ h4
            exact ⟨by omega, .inl h4⟩
          · rw [ht] at h5 h6
            exact ⟨h6, .inr ⟨h4.symm, h5⟩⟩
        have hjl : j < L.length := (List.getElem?_eq_some_iff.1 hs1).1
        have ht0 : ((t : Int) == 0) = false := by simp; omega
        rw [List.append_assoc, take_snoc hs1] at hR
        have H3 := Lib.hid h3
        have Hpre := Lib.hid (pre_take pre0 L (j + 1))
        clear h1 hz hs1 ht h3 HI
        gi_wp2
        refine ⟨rfl, hR.mono ?_⟩
        rintro e W3 (⟨rfl, hJ3⟩ | ⟨rfl, hJx3⟩)
        · gi_wp2
          refine ⟨trivial, rfl, (callsIn_wide.2 (HN.out _)).mono ?_⟩
          rintro e w' ⟨rfl, h⟩
          rw [h]
          clear h w'
          gi_wp2
          gi_roundg (L.length + 1 - (j + 1))
          case measure => have := Hgk.out; omega
          case rel => exact ⟨j + 1, t, rfl, rfl, H3.out.1, hjl, Lib.hid ⟨H3.out.2, hJ3⟩⟩
        · gi_wp2
          refine bodyPost_ret (results_tmp rfl _ _ _) rfl ?_
          exact .inr ⟨rfl, _, Hpre.out, hJx3⟩
      · have hz := Hout.out s hs2 hs
        have hb := Hbits.out s hs
        rw [show s &&& (18446744073709551615 - (2 ^ n - 1)) = anotN s (2 ^ n - 1) from rfl] at hb
        obtain ⟨z, hzz⟩ : ∃ z, anotN s (2 ^ n - 1) = z := ⟨_, rfl⟩
        rw [hzz] at hb hz
        have hzb : ((z : Int) == 0) = false := by simp; omega
        have hJ := HI.out.2
        rw [hs1, List.take_length] at hJ
        have HJ := Lib.hid hJ
        clear hzz hz HI hJ hs1
        gi_wp2
        refine bodyPost_ret (results_tmp rfl _ _ _) rfl ?_
        exact .inl ⟨rfl, HJ.out⟩
end Go.Proofs.YtmbblhajbecomaaDoor.Cut
namespace Go.Proofs.YtmbblhajbecomaaDoor.Cut
open Go.RowKit
open Go.Proofs.YtmbblhajbecomaaDoor.RF Go.Proofs.YtmbblhajbecomaaDoor.Heap Go.Proofs.YtmbblhajbecomaaDoor.Nodes Go.Proofs.YtmbblhajbecomaaDoor.Graph Go.Proofs.YtmbblhajbecomaaDoor.Reach
set_option linter.unusedVariables false
set_option linter.unusedSimpArgs false
theorem setsTo_pre (n : Nat) {k K : Nat} (h : k ≤ K) : setsTo n k <+: setsTo n K := by
  induction K with
  | zero => rw [show k = 0 by omega]; exact List.prefix_refl _
  | succ K ih =>
    rcases Nat.lt_or_ge k (K + 1) with c | c
    · exact (ih (by omega)).trans (by rw [setsTo_succ]; exact List.prefix_append _ _)
    · rw [show k = K + 1 by omega]; exact List.prefix_refl _
/-- Where Each's value lies. -/
structure EachAt (w : World) (n : Nat) (m : Int) (w' : World) : Prop where
  b1 : Blk w' w.heap.size 3 #[.int .i64 (n : Nat)]
  b2 : Blk w' (w.heap.size + 1) 3 #[.int .i64 m]
  low : Below w.heap.size w w'
theorem eachcut_any (n : Nat) (hn : n ≤ 64) (m : Int) (w : World) :
    Calls Tryd.prog 22 #[.int .i64 (n : Nat), .int .i64 m] w fun e w' => e = .returned (.func (.func 43) #[] #[.pointer (some ⟨w.heap.size, 0, none⟩), .pointer (some ⟨w.heap.size + 1, 0, none⟩)]) ∧ EachAt w n m w' := by
  have h1 : ¬ (n : Int) < 0 := by omega
  have h2 : ¬ (64 : Int) < (n : Int) := by omega
  have key : EachAt w n m ((w.alloc (.cells #[.int .i64 (n : Nat)] 3)).alloc (.cells #[.int .i64 m] 3)) := by
    have b1 := (Blk.new w 3 #[.int .i64 (n : Nat)]).alloc (.cells #[.int .i64 m] 3)
    have b2 := Blk.new (w.alloc (.cells #[.int .i64 (n : Nat)] 3)) 3 #[.int .i64 m]
    rw [show (w.alloc (.cells #[.int .i64 (n : Nat)] 3)).heap.size = w.heap.size + 1 by simp] at b2
    exact ⟨b1, b2, ((Below.refl _ w).alloc (Nat.le_refl _) _).alloc (by simp) _⟩
  have Key := Lib.hid key
  clear key
  by_cases h64 : n = 64
  · subst h64
    go_enter Tryd.func22, Tryd.ntmps22
    go_wp2
    go_ret
    exact ⟨rfl, Key.out⟩
  · by_cases h0 : n = 0
    · subst h0
      go_enter Tryd.func22, Tryd.ntmps22
      go_wp2
      go_ret
      exact ⟨rfl, Key.out⟩
    · have h3 : (0 : Int) < (n : Int) := by omega
      have h4 : (n : Int) < 64 := by omega
      go_enter Tryd.func22, Tryd.ntmps22
      go_wp2
      go_ret
      exact ⟨rfl, Key.out⟩
set_option maxRecDepth 100000 in
set_option maxHeartbeats 4000000 in
/-- THE ITERATOR: it hands over all sets of few nodes, in their order; it turns nothing. -/
theorem eachcut_gives (B1 B2 n : Nat) (m : Int) (hn : n < 9) (hm : m ≤ 4) (W : World) (hB1 : Blk W B1 3 #[.int .i64 (n : Nat)]) (hB2 : Blk W B2 3 #[.int .i64 m]) :
    Gives Tryd.prog 43 #[.pointer (some ⟨B1, 0, none⟩), .pointer (some ⟨B2, 0, none⟩)] (fun s : Nat => #[.int .u64 s]) (fun A C => C = A) (fun k => k = B1 ∨ k = B2) (fun xs => xs = setsF n m) (fun pre => pre <+: setsF n m) W := by
  intro l J Jx W1 hW1 hJ hJx hY h0
  have b1 : Blk W1 B1 _ _ := hB1.off hW1 (fun c => c)
  have b2 : Blk W1 B2 _ _ := hB2.off hW1 (fun c => c)
  clear hB1 hB2 hW1 hJ hJx
  unfold setsF at hY ⊢
  obtain ⟨K, hK⟩ : ∃ K, (min (n : Int) m + 1).toNat = K := ⟨_, rfl⟩
  rw [hK] at hY ⊢
  have HE := Lib.hid (fun (k : Nat) (hk : k < K) (V : World) (hj : J (setsTo n k) V) (c1 : Blk V B1 3 #[.int .i64 (n : Nat)]) (c2 : Blk V B2 3 #[.int .i64 m]) =>
    exact_gives n k hn (by omega) (by omega) l (fun pre V => J pre V ∧ Blk V B1 3 #[.int .i64 (n : Nat)] ∧ Blk V B2 3 #[.int .i64 m]) Jx (setsTo n k) V
      (fun pre x A hA hp => by
        obtain ⟨fn, tmps, assign, body, hy, hR⟩ := hY pre x A hA.1 (hp.trans (by rw [← setsTo_succ]; exact setsTo_pre n hk))
        exact ⟨fn, tmps, assign, body, hy, hR.mono fun e B he => by
          rcases he with ⟨h1, h2, h3, h4⟩ | h1
          · exact .inl ⟨h1, h2, (h4 B1 (.inl rfl)).trans hA.2.1, (h4 B2 (.inr rfl)).trans hA.2.2⟩
          · exact .inr h1⟩) ⟨hj, c1, c2⟩)
  have hKk := fun (k : Nat) => (show (k < K ↔ (k : Int) ≤ min (n : Int) m) by omega)
  clear hY hK
  refine callsIn_of_wp Tryd.func43 rfl trivial ?_ rfl
  simp only [Tryd.ntmps43, List.size_toArray, List.length_cons, List.length_nil, Nat.reduceAdd, Nat.reduceSub, Array.replicate_succ, Array.replicate_zero, List.push_toArray, List.append_toArray, List.nil_append, List.cons_append]
  gi_wp2
  gi_loopg [4] (K + 1) (fun q v4 wr => ∃ (k : Nat), q = K + 1 - k ∧ v4 = .int .i64 k ∧ k ≤ K ∧ RowKit.Hid (J (setsTo n k) wr) ∧ Blk wr B1 3 #[.int .i64 (n : Nat)] ∧ Blk wr B2 3 #[.int .i64 m])
  case atStart => exact ⟨0, rfl, rfl, Nat.zero_le _, Lib.hid h0, b1, b2⟩
  case round =>
    obtain ⟨k, hgk, rfl, hk, HJ, c1, c2⟩ := hrel
    have Hgk := Lib.hid hgk
    have d1 := c1.cell 0
    have d2 := c2.cell 0
    simp at d1 d2
    clear hgk b1 b2 h0
    by_cases hlt : k < K
    · have hE := Lib.hid (HE.out k hlt wr HJ.out c1 c2)
      have h4 := (hKk k).1 hlt
      have hsucc := Lib.hid (setsTo_succ n k)
      have hpre := Lib.hid (setsTo_pre n (show k + 1 ≤ K from hlt))
      have hfin : ∀ (V : World), True := fun _ => trivial
      clear hfin HE HJ c1 c2 hKk
      rcases Int.lt_or_le m (n : Int) with hmn | hmn
      · have h5 : (k : Int) ≤ m := by omega
        clear h4
        gi_wp2
        refine ⟨trivial, rfl, hE.out.mono ?_⟩
        rintro e B (⟨rfl, h7, h8, h9⟩ | ⟨rfl, pre, h7, h8⟩)
        · rw [← hsucc.out] at h7
          have H7 := Lib.hid h7
          clear h7
          gi_wp2
          gi_roundg (K + 1 - (k + 1))
          case measure => have := Hgk.out; omega
          case rel => exact ⟨k + 1, rfl, rfl, hlt, H7, h8, h9⟩
        · rw [← hsucc.out] at h7
          have H7 := Lib.hid (h7.trans hpre.out)
          clear h7
          gi_wp2
          refine bodyPost_ret (results_none rfl _ _ _) rfl ?_
          exact ⟨⟨_, rfl⟩, .inr ⟨pre, H7.out, h8⟩⟩
      · have h5 : (k : Int) ≤ (n : Int) := by omega
        clear h4
        gi_wp2
        refine ⟨trivial, rfl, hE.out.mono ?_⟩
        rintro e B (⟨rfl, h7, h8, h9⟩ | ⟨rfl, pre, h7, h8⟩)
        · rw [← hsucc.out] at h7
          have H7 := Lib.hid h7
          clear h7
          gi_wp2
          gi_roundg (K + 1 - (k + 1))
          case measure => have := Hgk.out; omega
          case rel => exact ⟨k + 1, rfl, rfl, hlt, H7, h8, h9⟩
        · rw [← hsucc.out] at h7
          have H7 := Lib.hid (h7.trans hpre.out)
          clear h7
          gi_wp2
          refine bodyPost_ret (results_none rfl _ _ _) rfl ?_
          exact ⟨⟨_, rfl⟩, .inr ⟨pre, H7.out, h8⟩⟩
    · obtain rfl : k = K := by omega
      have h4 : ¬ (k : Int) ≤ min (n : Int) m := fun h => hlt ((hKk k).2 h)
      clear HE hKk
      rcases Int.lt_or_le m (n : Int) with hmn | hmn
      · have h5 : ¬ (k : Int) ≤ m := by omega
        clear h4
        gi_wp2
        go_end0
        exact ⟨⟨_, rfl⟩, .inl HJ.out⟩
      · have h5 : ¬ (k : Int) ≤ (n : Int) := by omega
        clear h4
        gi_wp2
        go_end0
        exact ⟨⟨_, rfl⟩, .inl HJ.out⟩
end Go.Proofs.YtmbblhajbecomaaDoor.Cut
