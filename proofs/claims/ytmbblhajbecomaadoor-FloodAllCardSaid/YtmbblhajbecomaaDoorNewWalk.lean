/- graph.New, walked. -/
import Derived.Test.YtmbblhajbecomaaDoorNew
import Derived.Deep.OwnRows
import Derived.Carry
import Derived.Laws.StructEq
namespace Go.Proofs.YtmbblhajbecomaaDoor.Graph
set_option maxRecDepth 100000
open Go.RowKit
open Go.WideMaps (ArrKey)
open Go.Proofs.YtmbblhajbecomaaDoor.RF Go.Proofs.YtmbblhajbecomaaDoor.Heap Go.Proofs.YtmbblhajbecomaaDoor.Nodes Go.Proofs.YtmbblhajbecomaaDoor.Seen
set_option linter.unusedVariables false

theorem arrP : ArrKey Tryd.prog 55 3 2 := ⟨Tryd.underlying55, by kernel_rfl, by kernel_rfl, by kernel_rfl⟩
theorem typesP : ∃ m, Tryd.prog.types.size = m + 1 := ⟨Tryd.prog.types.size - 1, by kernel_rfl⟩
theorem infoS : (Tryd.prog.info? 31).map (fun i => (i.zero, i.size, i.bytes)) = some (some (.int .u64 0), 1, 8) := by kernel_rfl
theorem made_eq (n : Nat) : madeCells #[(.int .u64 0 : Value)] n = ((List.replicate n 0).map fun s : Nat => Value.int .u64 s).toArray := by
  apply Array.ext
  · simp [madeCells]
  · intro i h1 h2
    simp [madeCells, Nat.mod_one]
theorem zeroI (w : World) : (zeroValue 3).run Tryd.prog w = .ok (.int .i64 0) w := by kernel_rfl

theorem eqP (a b c d : Int) (w : World) : (Op.equalIn 10000 55 (.agg #[.int .i64 a, .int .i64 b]) (.agg #[.int .i64 c, .int .i64 d])).run Tryd.prog w = .ok (a == c && b == d) w := by
  have u3 := Tryd.underlying3
  have a3 := Tryd.isAgg3
  have z3 := Tryd.sizeOf3
  rw [show (10000 : Nat) = 9999 + 1 from rfl, Op.equalIn]
  simp only [Sem.run_bind, run_underlying Tryd.underlying55, Result.andThen_ok]
  simp only [Std.Legacy.Range.forIn_eq_forIn_range', Std.Legacy.Range.size, Nat.sub_zero, Nat.add_sub_cancel, Nat.div_one, List.range'_succ, List.range'_zero, List.forIn_cons, List.forIn_nil]
  go_simp
  by_cases h1 : a = c <;> by_cases h2 : b = d <;> simp [h1, h2]

theorem new_no (n : Int) (v : Value) (w : World) (hn : n < 1 ∨ 64 < n) :
    Calls Tryd.prog 26 #[.int .i64 n, v] w fun e w' => e = .returned (.tuple #[.pointer none, .int .i64 1]) ∧ w' = w := by
  rcases hn with hn | hn
  · go_enter Tryd.func26, Tryd.ntmps26
    go_wp2
    go_ret2
    exact ⟨rfl, rfl⟩
  · have h0 : ¬ n < 1 := by omega
    go_enter Tryd.func26, Tryd.ntmps26
    go_wp2
    go_ret2
    exact ⟨rfl, rfl⟩
theorem ret_n {c d : Int} (h : c = d) : Ending.returned (.tuple #[.pointer none, .int .i64 c]) = Ending.returned (.tuple #[.pointer none, .int .i64 d]) := by rw [h]
theorem below_off {b : Nat} {K : Nat → Prop} {w A B : World} (h : Below b w A) (o : Off K A B) (hb : b ≤ w.heap.size) (hK : ∀ k, K k → b ≤ k) : Below b w B :=
  ⟨o.os.trans h.os, o.tape.trans h.tape, o.output.trans h.output, Nat.le_trans h.size o.size, fun k hk => (o.block k (by have := h.size; omega) (fun c => by have := hK k c; omega)).trans (h.block k hk)⟩
/-- Ahead of a round. -/
structure NInv (w : World) (n k : Nat) (ls : List (Int × Int)) (G R M : Nat) (W : World) : Prop where
  graph : GraphAt W G R (nearOf n ((ls.take k).map lk))
  seen : SeenAt W M ((ls.take k).map lk)
  low : Below w.heap.size w W
  sofar : newE n [] ls = newE n ((ls.take k).map lk) (ls.drop k)

set_option maxRecDepth 100000 in
set_option maxHeartbeats 8000000 in
theorem new_yes (n : Nat) (v : Value) (ls : List (Int × Int)) (w : World) (hn : 1 ≤ n ∧ n ≤ 64) (hp : PairsAt w v ls) (hlen : ls.length ≤ 65536) :
    Calls Tryd.prog 26 #[.int .i64 n, v] w fun e w' => Below w.heap.size w w' ∧ ((newE n [] ls = 0 ∧ ∃ G R, e = .returned (.tuple #[.pointer (some ⟨G, 0, none⟩), .int .i64 0]) ∧ GraphAt w' G R (nearOf n (ls.map lk))) ∨ (newE n [] ls ≠ 0 ∧ e = .returned (.tuple #[.pointer none, .int .i64 (newE n [] ls)]))) := by
  obtain ⟨a, cap, rfl, hcell⟩ := hp.1
  have hwf := hp.2
  have b1 : (1 : Int) ≤ (n : Int) := by omega
  have b2 : (n : Int) ≤ 64 := by omega
  have b3 : ¬ (n : Int) < 1 := by omega
  have b4 : ¬ (64 : Int) < (n : Int) := by omega
  go_enter Tryd.func26, Tryd.ntmps26
  have hmk := run_make_row' (P := Tryd.prog) 91 31 (.int .u64 0) 8 Tryd.underlying91 infoS rfl .i64 .i64 n (by omega) (by omega)
  have hmm := @run_makeMap Tryd.prog
  have hw0 : w.heap.size < w.heap.size + 1 := by omega
  go_wp2_with fail
  obtain ⟨W1, hW1⟩ : ∃ W1, ((w.alloc (.cells (madeCells #[.int .u64 0] n) 31)).alloc (.cells #[.slice (some ⟨w.heap.size, 0, none⟩) n n] 93)).alloc (.map #[] 0) = W1 := ⟨_, rfl⟩
  have I0 : NInv w n 0 ls (w.heap.size + 1) w.heap.size (w.heap.size + 1 + 1) W1 := by
    rw [← hW1]
    have z1 : (w.alloc (.cells (madeCells #[.int .u64 0] n) 31)).heap.size = w.heap.size + 1 := by simp
    have z2 : ((w.alloc (.cells (madeCells #[.int .u64 0] n) 31)).alloc (.cells #[.slice (some ⟨w.heap.size, 0, none⟩) n n] 93)).heap.size = w.heap.size + 1 + 1 := by simp
    have r1 := (Blk.new w 31 (madeCells #[.int .u64 0] n)).alloc (.cells #[.slice (some ⟨w.heap.size, 0, none⟩) n n] 93)
    have g1 := Blk.new (w.alloc (.cells (madeCells #[.int .u64 0] n) 31)) 93 #[.slice (some ⟨w.heap.size, 0, none⟩) n n]
    have s1 := SeenAt.nil ((w.alloc (.cells (madeCells #[.int .u64 0] n) 31)).alloc (.cells #[.slice (some ⟨w.heap.size, 0, none⟩) n n] 93))
    rw [z1] at g1
    rw [z2] at s1
    refine ⟨⟨?_, ?_, fun s hs => ?_, ?_⟩, s1, ((((Below.refl _ w).alloc (Nat.le_refl _) _).alloc (by omega) _).alloc (by omega) _), rfl⟩
    · have := g1.alloc (.map #[] 0)
      simpa [nearOf] using this
    · have e : nearOf n ((ls.take 0).map lk) = List.replicate n 0 := by simp [nearOf]
      rw [e, ← made_eq]
      exact r1.alloc (.map #[] 0)
    · simp [nearOf] at hs
      omega
    · rw [nearOf_len]; omega
  rw [hW1]
  clear hW1 hmk hmm
  go_loopw [24] (fun v wr => ∃ k : Nat, v = .int .i64 k ∧ k ≤ ls.length ∧ NInv w n k ls (w.heap.size + 1) w.heap.size (w.heap.size + 1 + 1) wr) (fun v _ => match v with | .int _ k => ls.length - k.toNat | _ => 0)
  case atStart => exact ⟨0, rfl, Nat.zero_le _, I0⟩
  case round =>
    obtain ⟨k, rfl, hk, hI⟩ := hrel
    by_cases hlt : k < ls.length
    · obtain ⟨p, hpk⟩ : ∃ p, ls[k]? = some p := ⟨_, List.getElem?_eq_getElem hlt⟩
      obtain ⟨b, rfl, hb, c0, c1⟩ := hcell k p hpk
      have e0 := (hI.low.cell (p := ⟨b, k * 2, none⟩) hb).trans c0
      have e1 := (hI.low.cell (p := ⟨b, k * 2 + 1, none⟩) hb).trans c1
      have hwp := wfp_lk (hwf p (List.mem_of_getElem? hpk))
      have l3 : (0 : Int) ≤ (k : Int) := by omega
      have l4 : (k : Int) < (ls.length : Int) := by omega
      have l5 : (k : Int) + 1 ≤ 65536 := by omega
      obtain ⟨x, y⟩ := p
      simp only at e0 e1
      go_wp2_with fail
      refine (link_any _ _ _).mono ?_
      rintro e w2 ⟨rfl, o2⟩
      obtain ⟨mn, hmn⟩ : ∃ m, min x y = m := ⟨_, rfl⟩
      obtain ⟨mx, hmx⟩ : ∃ m, max x y = m := ⟨_, rfl⟩
      have hlk : lk (x, y) = (mn, mx) := by rw [← hmn, ← hmx]; rfl
      rw [hlk] at hwp
      rw [hmn, hmx]
      have lr := hI.low.size
      obtain ⟨W, hW⟩ : ∃ W, w2.alloc (.cells #[.int .i64 mn, .int .i64 mx] 55) = W := ⟨_, rfl⟩
      have oW : Below wr.heap.size wr W := by
        rw [← hW]
        have h1 : Below wr.heap.size wr (wr.alloc (.cells #[.int .i64 x, .int .i64 y] 55)) := (Below.refl _ wr).alloc (Nat.le_refl _) _
        have h2 := h1.trans (o2.mono (by simp))
        exact h2.alloc h2.size _
      have bK : Blk W w2.heap.size 55 #[.int .i64 mn, .int .i64 mx] := by rw [← hW]; exact Blk.new w2 _ _
      have gW := hI.graph.below oW (Nat.le_refl _)
      have sW := hI.seen.same (oW.block _ hI.seen.lt)
      have lowW : Below w.heap.size w W := hI.low.trans (oW.mono lr)
      have hso := hI.sofar
      have HN : ∀ i, Calls Tryd.prog 47 #[.pointer (some ⟨w.heap.size + 1, 0, none⟩), .int .i64 i] W fun e w' => e = .returned (.bool (isN n i)) ∧ w' = W := fun i => by
        have := node_any gW i
        rwa [nearOf_len] at this
      replace HN := Lib.hid HN
      have k0 := bK.cell 0
      have k1 := bK.cell 1
      simp at k0 k1
      obtain ⟨S, hS⟩ : ∃ S, (ls.take k).map lk = S := ⟨_, rfl⟩
      rw [hS] at hso sW gW
      have hS1 : (ls.take (k + 1)).map lk = S ++ [(mn, mx)] := by rw [List.take_add_one, hpk, List.map_append, hS]; simp [hlk]
      have kn : w2.heap.size < W.heap.size := bK.lt
      have Ho := Lib.hid (And.intro oW (And.intro gW (And.intro sW lowW)))
      have Hs := Lib.hid (And.intro hso (And.intro hS1 (And.intro hS hlk)))
      clear oW gW sW lowW hso hS1 hS hI e0 e1 c0 c1 hcell hmn hmx o2 hlk lr
      by_cases h1 : isN n mn = true
      · by_cases h2 : isN n mx = true
        · obtain ⟨a, rfl, ha⟩ := isN_yes h1
          obtain ⟨c, rfl, hc⟩ := isN_yes h2
          by_cases h3 : a = c
          · subst h3
            have hb : bad n S (x, y) = 5 := by simp only [bad, Hs.out.2.2.2, h1]; simp
            have hE : newE n [] ls = 5 := by rw [Hs.out.1, newE_bad hpk (by rw [hb]; decide), hb]
            have heq := eqP a a a a W
            simp only [beq_self_eq_true, Bool.and_self] at heq
            go_wp2_with (first
              | (rw [hW])
              | (go_at_call 47; refine (HN.out _).mono ?_; rintro e w' ⟨rfl, h⟩; rw [h]; clear h w'))
            go_ret2
            exact ⟨Ho.out.2.2.2, .inr ⟨by rw [hE]; decide, ret_n hE.symm⟩⟩
          · have heq := eqP a c c a W
            have hne : ((a : Int) == (c : Int)) = false := by simp; omega
            rw [hne, Bool.false_and] at heq
            clear hne
            have hlook := Ho.out.2.2.1.look arrP Tryd.underlying3 typesP Tryd.underlying94 zeroI hwp
            simp only [pk] at hlook
            by_cases h4 : ((a : Int), (c : Int)) ∈ S
            · rw [if_pos h4] at hlook
              have hb : bad n S (x, y) = 12 := by simp only [bad, Hs.out.2.2.2, h1, h2]; simp [h4]; omega
              have hE : newE n [] ls = 12 := by rw [Hs.out.1, newE_bad hpk (by rw [hb]; decide), hb]
              go_wp2_with (first
                | (rw [hW])
                | (go_at_call 47; refine (HN.out _).mono ?_; rintro e w' ⟨rfl, h⟩; rw [h]; clear h w'))
              go_ret2
              exact ⟨Ho.out.2.2.2, .inr ⟨by rw [hE]; decide, ret_n hE.symm⟩⟩
            · rw [if_neg h4] at hlook
              have hb : bad n S (x, y) = 0 := by simp only [bad, Hs.out.2.2.2, h1, h2]; simp [h4]; omega
              have hE : newE n [] ls = newE n (S ++ [((a : Int), (c : Int))]) (ls.drop (k + 1)) := by rw [Hs.out.1, newE_at hpk hb, Hs.out.2.2.2]
              go_wp2_with (first
                | (rw [hW])
                | (go_at_call 47; refine (HN.out _).mono ?_; rintro e w' ⟨rfl, h⟩; rw [h]; clear h w'))
              have sD : SeenAt W.drew (w.heap.size + 1 + 1) S := Ho.out.2.2.1.same rfl
              obtain ⟨st, w3, q1, o3, q2, q3⟩ := sD.enter arrP Tryd.underlying3 typesP Tryd.underlying94 zeroI hwp h4
              obtain ⟨w4, q4, o4, s4⟩ := q3 w3 rfl
              have hlD := sD.look arrP Tryd.underlying3 typesP Tryd.underlying94 zeroI hwp
              rw [if_neg h4] at hlD
              simp only [pk] at q1 q2 hlD
              have hKM : w2.heap.size ≠ w.heap.size + 1 + 1 := by
                intro e
                obtain ⟨es, cl, hm, _⟩ := sD
                rw [← e] at hm
                have := bK.symm.trans hm
                cases this
              have kD0 : W.drew.cell? ⟨w2.heap.size, 0, none⟩ = some (.int .i64 a) := k0
              have kD1 : W.drew.cell? ⟨w2.heap.size, 1, none⟩ = some (.int .i64 c) := k1
              have k30 : w3.cell? ⟨w2.heap.size, 0, none⟩ = some (.int .i64 a) := (World.cell?_of_block (o3.block w2.heap.size kn hKM)).trans k0
              have k31 : w3.cell? ⟨w2.heap.size, 1, none⟩ = some (.int .i64 c) := (World.cell?_of_block (o3.block w2.heap.size kn hKM)).trans k1
              have o5 : Off (fun j => j = w.heap.size + 1 + 1) W w4 := ((Off.drew (Off.refl _ W)).trans o3).trans o4
              have g4 := Ho.out.2.1.off o5 (by omega) (by omega)
              have bK4 := bK.off o5 hKM
              have k40 := bK4.cell 0
              have k41 := bK4.cell 1
              simp at k40 k41
              have hj := Lib.hid (join_any g4 a c (by rw [nearOf_len]; exact ha) (by rw [nearOf_len]; exact hc) h3)
              have H4 := Lib.hid (And.intro s4 o5)
              clear q3 g4 bK4 s4 o5 o3 o4 sD hlook heq
              go_region
              all_goals
                go_wp2_with (go_at_call 48; refine hj.out.mono ?_; rintro e w5 ⟨rfl, g5, o6⟩)
                refine ⟨⟨k + 1, rfl, hlt, ?_⟩, ?_⟩
                · refine ⟨?_, ?_, below_off (below_off Ho.out.2.2.2 H4.out.2 (Nat.le_refl _) (fun j hj => by omega)) o6 (Nat.le_refl _) (fun j hj => by omega), ?_⟩
                  · rw [Hs.out.2.1, nearOf_snoc]
                    simpa [joinR] using g5
                  · rw [Hs.out.2.1]
                    exact H4.out.1.same (o6.block _ H4.out.1.lt (by omega))
                  · rw [Hs.out.2.1]; exact hE
                · simp; omega
        · have h2 : isN n mx = false := by simpa using h2
          have hb : bad n S (x, y) = 8 := by simp only [bad, Hs.out.2.2.2]; rw [if_pos (.inr h2)]
          have hE : newE n [] ls = 8 := by rw [Hs.out.1, newE_bad hpk (by rw [hb]; decide), hb]
          go_wp2_with (first
            | (rw [hW])
            | (go_at_call 47; refine (HN.out _).mono ?_; rintro e w' ⟨rfl, h⟩; rw [h]; clear h w'))
          go_ret2
          exact ⟨Ho.out.2.2.2, .inr ⟨by rw [hE]; decide, ret_n hE.symm⟩⟩
      · have h1 : isN n mn = false := by simpa using h1
        have hb : bad n S (x, y) = 8 := by simp only [bad, Hs.out.2.2.2]; rw [if_pos (.inl h1)]
        have hE : newE n [] ls = 8 := by rw [Hs.out.1, newE_bad hpk (by rw [hb]; decide), hb]
        go_wp2_with (first
          | (rw [hW])
          | (go_at_call 47; refine (HN.out _).mono ?_; rintro e w' ⟨rfl, h⟩; rw [h]; clear h w'))
        go_ret2
        exact ⟨Ho.out.2.2.2, .inr ⟨by rw [hE]; decide, ret_n hE.symm⟩⟩
    · obtain rfl : k = ls.length := by omega
      have hs := hI.sofar
      have hg := hI.graph
      rw [List.take_length] at hs hg
      rw [List.drop_length] at hs
      go_wp2_with fail
      go_ret2
      exact ⟨hI.low, .inl ⟨hs, _, _, rfl, hg⟩⟩
end Go.Proofs.YtmbblhajbecomaaDoor.Graph
