/- reach's rings: walked. -/
import Derived.Test.YtmbblhajbecomaaDoorReachGrow
import Derived.WalkMore
import Derived.ScopeJumps
namespace Go.Proofs.YtmbblhajbecomaaDoor.Reach
set_option maxRecDepth 100000
open Go.RowKit
open Go.Proofs.YtmbblhajbecomaaDoor.RF Go.Proofs.YtmbblhajbecomaaDoor.Heap Go.Proofs.YtmbblhajbecomaaDoor.Nodes Go.Proofs.YtmbblhajbecomaaDoor.Graph
set_option linter.unusedVariables false
set_option linter.unusedSimpArgs false

theorem infoSet : (Tryd.prog.info? 31).map (fun i => (i.zero, i.size, i.bytes)) = some (some (.int .u64 0), 1, 8) := by kernel_rfl
/-- Sets as cells. -/
def sc (l : List Nat) : List Value := l.map fun k : Nat => Value.int .u64 (k : Int)
theorem sc_snoc (l : List Nat) (k : Nat) : sc (l ++ [k]) = sc l ++ [.int .u64 (k : Int)] := by simp [sc]
theorem sc_len (l : List Nat) : (sc l).length = l.length := by simp [sc]
def lenV : Value → Nat | .slice _ n _ => n | _ => 0
theorem own_lenV {w : World} {base : Nat} {e : TypeId} {s n : Nat} {v : Value} {xs : List Value} (h : w.ownsRow base e s v n xs) : lenV v = n := by
  rcases h.2 with ⟨rfl, h0⟩ | ⟨g, cap, cur, rfl, _⟩
  · exact h0.symm
  · rfl
theorem wp_scope_again {P : Program} {c rest : Code} {Q : Exit → Act → World → Prop} {a : Act} {w : World} (l : Nat) (J : Act → World → Prop) (μ : Act → World → Nat) (hf : findLabel c l = some (Code.skip.seq rest))
    (first : (∀ a w, J a w → rest.wp P (Exit.jump l J Q) a w) → c.wp P (Exit.jump l J Q) a w)
    (pass : ∀ a w, J a w → rest.wp P (Exit.jump l (fun a' w' => J a' w' ∧ μ a' w' < μ a w) Q) a w) : (Code.scope c).wp P Q a w :=
  wp_scope_jumps l J μ hf (first fun a w h => wp_mono (pass a w h) fun e a' w' h' => by
    cases e with
    | goto k => exact ⟨h'.1, h'.2.1⟩
    | _ => exact h') fun a w h => wp_seq (wp_skip (pass a w h))
/-- What holds at the label. -/
structure JInv (w : World) (near : List Nat) (off : Nat) (i : Int) (v : Value) (out : List Nat) (all ring : Nat) (W : World) : Prop where
  inv : RgInv near off i out all ring
  own : W.ownsRow w.heap.size 31 1 v out.length (sc out)
  low : Below w.heap.size w W
  eq : rings near off i = out ++ ringsF near off (65 - out.length) all ring
set_option maxRecDepth 100000 in
set_option maxHeartbeats 8000000 in
theorem rings_any {w : World} {G R : Nat} {near : List Nat} (hg : GraphAt w G R near) (hT : Tab w) (ok : Ok near) (i : Int) (off : Nat) (ho : off < 2 ^ 64) :
    Calls Tryd.prog 78 #[.pointer (some ⟨G, 0, none⟩), .int .i64 i, .int .u64 (off : Nat)] w fun e w' => ∃ v, e = .returned v ∧ w'.ownsRow w.heap.size 31 1 v (rings near off i).length (sc (rings near off i)) ∧ Below w.heap.size w w' := by
  obtain ⟨i0, hi0, hz⟩ := Option.map_eq_some_iff.1 infoSet
  simp only [Prod.mk.injEq] at hz
  obtain ⟨hz0, hz1, hz2⟩ := hz
  have Hi0 := Lib.hid hi0
  have Hz0 := Lib.hid hz0
  have Hz1 := Lib.hid hz1
  have Hz2 := Lib.hid hz2
  clear hi0 hz0 hz1 hz2
  have H1 := Lib.hid (start_any hg i off ho)
  have Hrings := Lib.hid (show rings near off i = [] ++ ringsF near off 65 0 (startN near off i) from rfl)
  go_enter Tryd.func78, Tryd.ntmps78
  go_wp2_with fail
  refine wp_scope_again 0 (fun a' W => ∃ (out : List Nat) (all ring : Nat) (v u10 u11 u12 u13 u14 u15 u16 u17 u18 u19 u20 u21 u22 u23 u24 u25 u26 u27 u28 u29 : Value), a' = { tmps := #[.pointer (some ⟨G, 0, none⟩), .int .i64 i, .int .u64 (off : Nat), undef, undef, undef, .slice none 0 0, v, .int .u64 (all : Nat), .int .u64 (ring : Nat), u10, u11, u12, u13, u14, u15, u16, u17, u18, u19, u20, u21, u22, u23, u24, u25, u26, u27, u28, u29], defers := [] } ∧ RowKit.Hid (JInv w near off i v out all ring W)) (fun a' _ => 65 - lenV (a'.tmps.getD 7 undef)) rfl ?_ ?_
  · intro rest
    go_wp2_with (go_at_call 84; refine H1.out.mono ?_; rintro e w1 ⟨rfl, b1⟩)
    go_step3
    rename_i K0 hK0
    exact hK0 _ _ (rest _ _ ⟨[], 0, startN near off i, _, _, _, _, _, _, _, _, _, _, _, _, _, _, _, _, _, _, _, _, _, rfl, Lib.hid ⟨RgInv.start, World.ownsRow_nil _ _ _ _, b1, Hrings.out⟩⟩)
  · rintro a' W ⟨out, all, ring, v, u10, u11, u12, u13, u14, u15, u16, u17, u18, u19, u20, u21, u22, u23, u24, u25, u26, u27, u28, u29, rfl, hJ⟩
    obtain ⟨inv, own, low, heq⟩ := hJ.out
    have hl := inv.len
    have hz := low.size
    have hf := ok.few
    have hrl := inv.ring_lt ok
    have hal := inv.all_lt ok
    have hnil := ringsF_zero (near := near) (off := off) (65 - out.length) all
    obtain ⟨va, vc, rfl⟩ : ∃ a c, v = .slice a out.length c := by
      rcases own.2 with ⟨h1, h2⟩ | ⟨g, c, cur, h1, _⟩
      · exact ⟨none, 0, by rw [h1, h2]⟩
      · exact ⟨_, c, h1⟩
    by_cases h0 : ring = 0
    · subst h0
      rw [hnil, List.append_nil] at heq
      have Heq := Lib.hid heq
      have Own := Lib.hid own
      clear own heq inv hJ hnil
      go_wp2_with fail
      simp only [Exit.jump]
      go_ret
      exact ⟨_, rfl, by rw [Heq.out]; exact Own.out, low⟩
    · have hn := inv.next ok ho h0
      have hlt := inv.len_lt ok ho h0
      obtain ⟨m, hm⟩ : ∃ m, 65 - out.length = m + 1 := ⟨64 - out.length, by omega⟩
      rw [hm, ringsF, if_neg h0] at heq
      have heq2 : rings near off i = (out ++ [ring]) ++ ringsF near off (65 - (out ++ [ring]).length) (all ||| ring) (anotN (growN near off ring) (all ||| ring)) := by
        rw [heq, List.append_assoc, List.length_append, List.length_singleton, show 65 - (out.length + 1) = m by omega]; rfl
      have e0 : ((ring : Int) != 0) = true := by simp; omega
      have e1 : bits .or .u64 (all : Int) (ring : Int) = ((all ||| ring : Nat) : Int) := bits_or_u64_nat _ _ hal hrl
      have hgl : growN near off ring < 2 ^ 64 := anotN_lt (fold_lt ok hrl _)
      have hol : all ||| ring < 2 ^ 64 := Nat.or_lt_two_pow hal hrl
      have e2 := bits_andNot_nat (growN near off ring) (all ||| ring) hgl hol
      change _ = ((anotN (growN near off ring) (all ||| ring) : Nat) : Int) at e2
      obtain ⟨g, hgg⟩ : ∃ g, growN near off ring = g := ⟨_, rfl⟩
      obtain ⟨o, hoo⟩ : ∃ o, all ||| ring = o := ⟨_, rfl⟩
      rw [hgg, hoo] at e2 hn heq2
      rw [hoo] at e1
      obtain ⟨r2, hr2⟩ : ∃ r, anotN g o = r := ⟨_, rfl⟩
      rw [hr2] at e2 hn heq2
      have Hgg := Lib.hid hgg
      have Own := Lib.hid own
      have Hn := Lib.hid hn
      have Heq := Lib.hid heq2
      clear hJ own heq heq2 hn hgg hoo hr2 inv hnil hgl hol hm
      go_wp2_with (at_builtin; refine wpList_append_own _ rfl _ _ 91 rfl w.heap.size 31 i0 _ 1 8 Tryd.underlying91 Hi0.out Hz0.out Hz1.out Hz2.out rfl (by decide) _ _ _ rfl (Own.out.alloc _) ⟨W.heap.size, 0, none⟩ 1 1 [.int .u64 (ring : Nat)] rfl rfl (cell_one_new _ _ _) (by simp [Value.oneCell']) (by unfold maxLen; omega) (by omega) (by simp; omega) ?_; intro v' w3 hown3 hgrow3 _)
      have low3 := below_own (low.alloc low.size _) hgrow3 (Own.out.alloc _) (Nat.le_refl _) (Nat.le_refl _)
      have Own3 := Lib.hid hown3
      have Low3 := Lib.hid low3
      have hgr := Lib.hid (grow_any (hg.below low3 (Nat.le_refl _)) (hT.below low3 hT.size) ok ring off hrl ho)
      clear hown3 hgrow3 low3
      go_wp2_with (go_at_call 85; refine hgr.out.mono ?_; rintro e w4 ⟨rfl, b4⟩; rw [Hgg.out])
      go_step3
      refine ⟨rfl, ⟨out ++ [ring], o, r2, _, _, _, _, _, _, _, _, _, _, _, _, _, _, _, _, _, _, _, _, _, rfl, Lib.hid ⟨Hn.out, ?_, Low3.out.trans (b4.mono Low3.out.size), Heq.out⟩⟩, ?_⟩
      · rw [sc_snoc, List.length_append]
        exact own_below Own3.out b4
      · have := own_lenV Own3.out
        simp only [Array.getD_eq_getD_getElem?, List.getElem?_toArray] at this ⊢
        simp [lenV] at this ⊢
        omega
end Go.Proofs.YtmbblhajbecomaaDoor.Reach
