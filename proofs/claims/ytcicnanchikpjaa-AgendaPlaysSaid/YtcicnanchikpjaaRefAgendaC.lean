/- The document's agenda: Add when it is full; Take: walked. -/
import Derived.Test.YtcicnanchikpjaaRefAgendaB
namespace Go.Proofs.Ytcicnanchikpjaa.Heap
open Go.RowKit
open Go.Proofs.Ytcicnanchikpjaa.RF
set_option linter.unusedVariables false
set_option linter.unusedSimpArgs false

set_option maxRecDepth 100000 in
set_option maxHeartbeats 8000000 in
theorem refadd_full (most : Int) (a : Option Addr) (cap : Nat) (S : List (Th Int)) (due x : Int) (w : World) (hm : most ≤ (S.length : Int)) :
    Calls Try.prog 26 #[.agg #[.slice a S.length cap, .int .i64 most], .int .i64 due, .int .i64 x] w fun e w' => e = .returned (.tuple #[.agg #[.slice a S.length cap, .int .i64 most], .bool false]) ∧ Below w.heap.size w w' := by
  obtain ⟨X, hX⟩ : ∃ X, (w.alloc (.cells #[.slice a S.length cap, .int .i64 most] 43)).alloc (.cells #[.slice none 0 0, .int .i64 0] 43) = X := ⟨_, rfl⟩
  have bX : Blk X w.heap.size 43 #[.slice a S.length cap, .int .i64 most] := by rw [← hX]; exact (Blk.new w _ _).alloc _
  have bR : Blk X (w.heap.size + 1) 43 #[.slice none 0 0, .int .i64 0] := by rw [← hX]; exact blk_two w _ _ _
  have lX : Below w.heap.size w X := by rw [← hX]; exact ((Below.refl _ w).alloc (Nat.le_refl _) _).alloc (by simp) _
  have HAS : RowKit.Hid (AS w X X) := Lib.hid ⟨Off.refl _ _, _, _, bR⟩
  have HX := Lib.hid hX
  have Llow := Lib.hid lX
  have BR := Lib.hid bR
  have d0 := bX.cell 0
  have d1 := bX.cell 1
  have e0 := bR.cell 0
  have e1 := bR.cell 1
  have e2 := bR.frozen 0
  have e3 := bR.frozen 1
  simp at d0 d1 e0 e1
  clear hX bX bR lX
  go_enter Try.func26, Try.ntmps26
  go_wp2_with (rw [HX.out])
  have hfin : Blk ((X.setCell ⟨w.heap.size + 1, 0, none⟩ (.slice a S.length cap)).setCell ⟨w.heap.size + 1, 1, none⟩ (.int .i64 most)) (w.heap.size + 1) 43 #[.slice a S.length cap, .int .i64 most] := (BR.out.put 0 _).put 1 _
  refine bodyPost_ret (results_agg1 (b := w.heap.size + 1) Try.results26 rfl (d := _) rfl (by kernel_rfl) (by kernel_rfl) (rng_blk hfin)) rfl ?_
  exact ⟨rfl, HAS.out.low Llow.out⟩
/-- Nothing is to be taken. -/
def Late (S : List (Th Int)) (now : Int) : Prop := ∀ (j : Nat) (u : Th Int), S[j]? = some u → now < u.due
theorem firstTo_yes {S : List (Th Int)} {p : Int} (h : FirstTo S S.length p) (hS : S ≠ []) : ∃ (i : Nat) (t : Th Int), p = (i : Int) ∧ First S i t := by
  rcases h with ⟨h0, _⟩ | ⟨i, t, h1, _, h2⟩
  · exact absurd (List.length_eq_zero_iff.1 h0) hS
  · rw [List.take_length] at h2; exact ⟨i, t, h1, h2⟩
set_option maxRecDepth 100000 in
set_option maxHeartbeats 8000000 in
theorem reftake_no (most : Int) (a : Option Addr) (cap : Nat) (S : List (Th Int)) (now : Int) (w : World) (h : TAt w a cap S) (hS : S.length ≤ 65536) (hl : Late S now) :
    Calls Try.prog 28 #[.agg #[.slice a S.length cap, .int .i64 most], .int .i64 now] w fun e w' => e = .returned (.tuple #[.agg #[.slice a S.length cap, .int .i64 most], .int .i64 0, .bool false]) ∧ Below w.heap.size w w' := by
  obtain ⟨X, hX⟩ : ∃ X, (w.alloc (.cells #[.slice a S.length cap, .int .i64 most] 43)).alloc (.cells #[.slice none 0 0, .int .i64 0] 43) = X := ⟨_, rfl⟩
  have bX : Blk X w.heap.size 43 #[.slice a S.length cap, .int .i64 most] := by rw [← hX]; exact (Blk.new w _ _).alloc _
  have bR : Blk X (w.heap.size + 1) 43 #[.slice none 0 0, .int .i64 0] := by rw [← hX]; exact blk_two w _ _ _
  have lX : Below w.heap.size w X := by rw [← hX]; exact ((Below.refl _ w).alloc (Nat.le_refl _) _).alloc (by simp) _
  have HF := Lib.hid (reffirst_any most a cap S X (h.below lX) hS)
  have hT := Lib.hid (fun V (k : Below X.heap.size X V) => (h.below lX).below k)
  have HX := Lib.hid hX
  have HlX := Lib.hid lX
  have BX := Lib.hid bX
  have BR := Lib.hid bR
  have d0 := bX.cell 0
  have d1 := bX.cell 1
  simp at d0 d1
  clear hX bX bR lX h
  go_enter Try.func28, Try.ntmps28
  go_wp2_with (rw [HX.out])
  refine HF.out.mono ?_
  rintro e V ⟨p, rfl, hp, bV⟩
  have bX2 := BX.out.below bV BX.out.lt
  have bR2 := Lib.hid (BR.out.below bV BR.out.lt)
  have lV : RowKit.Hid (Below w.heap.size w V) := Lib.hid (HlX.out.trans (bV.mono HlX.out.size))
  have HAS : RowKit.Hid (AS w V V) := Lib.hid ⟨Off.refl _ _, _, _, bR2.out⟩
  have d0 := bX2.cell 0
  have d1 := bX2.cell 1
  have e0 := bR2.out.cell 0
  have e1 := bR2.out.cell 1
  have e2 := bR2.out.frozen 0
  have e3 := bR2.out.frozen 1
  simp at d0 d1 e0 e1
  have hfin : ∀ y, Blk ((V.setCell ⟨w.heap.size + 1, 0, none⟩ (.slice a S.length cap)).setCell ⟨w.heap.size + 1, 1, none⟩ (.int .i64 y)) (w.heap.size + 1) 43 #[.slice a S.length cap, .int .i64 y] := fun y => (bR2.out.put 0 _).put 1 _
  have Hfin := Lib.hid hfin
  clear hfin bX2
  by_cases h0 : S = []
  · have hp1 : p = -1 := by
      subst h0
      rcases hp with ⟨_, c⟩ | ⟨i, t, _, c, _⟩
      · exact c
      · simp at c
    subst hp1
    clear hp h0
    go_wp2_with fail
    refine bodyPost_ret (results_agg2 (b := w.heap.size + 1) Try.results28 rfl (d := _) rfl (by kernel_rfl) (by kernel_rfl) (rng_blk (Hfin.out _))) rfl ?_
    exact ⟨rfl, HAS.out.low lV.out⟩
  · obtain ⟨i, t, rfl, hf⟩ := firstTo_yes hp h0
    obtain ⟨b, rfl, hb, f0, _⟩ := (hT.out V bV).get hf.get
    have hi := lt_of_get hf.get
    have l1 : (0 : Int) ≤ (i : Int) := by omega
    have l2 : (i : Int) < (S.length : Int) := by omega
    have l3 : ¬ (i : Int) < 0 := by omega
    have l4 : now < t.due := hl _ _ hf.get
    clear hp h0 hf hl
    go_wp2_with fail
    refine bodyPost_ret (results_agg2 (b := w.heap.size + 1) Try.results28 rfl (d := _) rfl (by kernel_rfl) (by kernel_rfl) (rng_blk (Hfin.out _))) rfl ?_
    exact ⟨rfl, HAS.out.low lV.out⟩
theorem tf_drop (S : List (Th Int)) {k : Nat} (hk : k ≤ S.length) (j : Nat) : (tf (S.drop k))[j]? = (tf S)[k * 2 + j]? := by
  have e : tf S = tf (S.take k) ++ tf (S.drop k) := by rw [← tf_append, List.take_append_drop]
  have hl : (tf (S.take k)).length = k * 2 := by rw [tf_len, List.length_take]; omega
  rw [e, List.getElem?_append_right (by omega), hl]
  congr 1; omega
theorem tf_take {S : List (Th Int)} {k j : Nat} {u : Value} (h : (tf (S.take k))[j]? = some u) : (tf S)[j]? = some u := by
  have e : tf S = tf (S.take k) ++ tf (S.drop k) := by rw [← tf_append, List.take_append_drop]
  rw [e, List.getElem?_append_left (List.getElem?_eq_some_iff.1 h).1]; exact h
theorem own_TAt' {w : World} {base n : Nat} {v : Value} {S : List (Th Int)} (h : w.ownsRow base 54 2 v n (tf S)) (hn : S.length = n) (hv : v ≠ .slice none 0 0) : ∃ b cap, v = .slice (some ⟨b, 0, none⟩) n cap ∧ base ≤ b ∧ TAt w (some ⟨b, 0, none⟩) cap S := by
  subst hn
  rcases h.2 with ⟨rfl, h0⟩ | ⟨g, cap, cur, rfl, hb, hg, hnc, hcm, hcs, ht⟩
  · exact absurd rfl hv
  · refine ⟨g, cap, rfl, hb, hnc, hcm, .inr ⟨g, rfl, (show Blk w g _ cur from hg).lt, fun j u hu => ?_, cur, hg⟩⟩
    rw [(show Blk w g _ cur from hg).cell j]
    rw [← ht, List.getElem?_take] at hu
    split at hu
    · simpa using hu
    · cases hu
set_option maxRecDepth 100000 in
set_option maxHeartbeats 8000000 in
theorem reftake_yes (most : Int) (a : Option Addr) (cap : Nat) (S : List (Th Int)) (now : Int) (w : World) (h : TAt w a cap S) (hS : S.length ≤ 65536) (i : Nat) (t : Th Int) (hf : First S i t) (hn : t.due ≤ now) :
    Calls Try.prog 28 #[.agg #[.slice a S.length cap, .int .i64 most], .int .i64 now] w fun e w' => ∃ b cap', e = .returned (.tuple #[.agg #[.slice (some ⟨b, 0, none⟩) (S.eraseIdx i).length cap', .int .i64 most], .int .i64 t.x, .bool true]) ∧ TAt w' (some ⟨b, 0, none⟩) cap' (S.eraseIdx i) ∧ Below w.heap.size w w' := by
  obtain ⟨i0, hi0, hz⟩ := Option.map_eq_some_iff.1 infoTh
  simp only [Prod.mk.injEq] at hz
  obtain ⟨hz0, hz1, hz2⟩ := hz
  have Hi0 := Lib.hid hi0
  have Hz0 := Lib.hid hz0
  have Hz1 := Lib.hid hz1
  have Hz2 := Lib.hid hz2
  clear hi0 hz0 hz1 hz2
  have hi := lt_of_get hf.get
  have hmax : S.length ≤ maxLen := by unfold maxLen; omega
  have hel : (S.eraseIdx i).length = i + (S.length - (i + 1)) := by rw [List.length_eraseIdx, if_pos hi]; omega
  have hee : tf (S.eraseIdx i) = tf (S.take i) ++ tf (S.drop (i + 1)) := by rw [← tf_append, List.eraseIdx_eq_take_drop_succ]
  obtain ⟨W, hW⟩ : ∃ W, (w.alloc (.cells #[.slice a S.length cap, .int .i64 most] 43)).alloc (.cells #[.slice none 0 0, .int .i64 0] 43) = W := ⟨_, rfl⟩
  have bX : Blk W w.heap.size 43 #[.slice a S.length cap, .int .i64 most] := by rw [← hW]; exact (Blk.new w _ _).alloc _
  have bR : Blk W (w.heap.size + 1) 43 #[.slice none 0 0, .int .i64 0] := by rw [← hW]; exact blk_two w _ _ _
  have lX : Below w.heap.size w W := by rw [← hW]; exact ((Below.refl _ w).alloc (Nat.le_refl _) _).alloc (by simp) _
  have HF := Lib.hid (reffirst_any most a cap S W (h.below lX) hS)
  have hT := Lib.hid (fun V (k : Below W.heap.size W V) => (h.below lX).below k)
  have hbw := Lib.hid (fun b (e : a = some ⟨b, 0, none⟩) => (show b < w.heap.size from by
    rcases h.at_ with ⟨c, _⟩ | ⟨b2, e2, hb2, _⟩
    · rw [c] at e; cases e
    · rw [e] at e2; injection e2 with e2; injection e2 with e2 _; omega))
  have hle := h.le
  have HX := Lib.hid hW
  have HlX := Lib.hid lX
  have BX := Lib.hid bX
  have BR := Lib.hid bR
  have zW : w.heap.size + 1 < W.heap.size := by rw [← hW]; simp
  have d0 := bX.cell 0
  have d1 := bX.cell 1
  simp at d0 d1
  clear hW bX bR lX h
  go_enter Try.func28, Try.ntmps28
  go_wp2_with (rw [HX.out])
  refine HF.out.mono ?_
  rintro e X ⟨p, rfl, hp, bV⟩
  obtain ⟨i', t', rfl, hf'⟩ := firstTo_yes hp (by rintro rfl; simp at hi)
  obtain ⟨rfl, rfl⟩ := hf'.uniq hf
  have bX2 := Lib.hid (BX.out.below bV BX.out.lt)
  have bR2 := Lib.hid (BR.out.below bV BR.out.lt)
  have zX := bV.size
  have lV : RowKit.Hid (Below w.heap.size w X) := Lib.hid (HlX.out.trans (bV.mono HlX.out.size))
  have HAS : RowKit.Hid (AS w X X) := Lib.hid ⟨Off.refl _ _, _, _, bR2.out⟩
  obtain ⟨b, rfl, hb, f0, f1⟩ := (hT.out X bV).get hf.get
  have hbw2 := hbw.out b rfl
  have hc : ∀ v : World, Off (fun j => j = w.heap.size + 1) X v → ∀ (j : Nat) (u : Value), (tf S)[j]? = some u → v.cell? ⟨b, j, none⟩ = some u := fun v hv j u hu => by
    rcases (hT.out X bV).at_ with ⟨c, _⟩ | ⟨b2, e2, hb2, hc, _⟩
    · cases c
    · injection e2 with e2
      injection e2 with e2 _
      subst e2
      exact (hv.cell (p := ⟨b, j, none⟩) hb (by show ¬ b = w.heap.size + 1; omega)).trans (hc j u hu)
  have Hc := Lib.hid hc
  have Hsrc2 := Lib.hid (fun (v : World) (hv : Off (fun j => j = w.heap.size + 1) X v) (j : Nat) (u : Value) (hu : (tf (S.drop (i' + 1)))[j]? = some u) => (show v.cell? ((if cap = i' + 1 then (⟨b, 0, none⟩ : Addr) else ⟨b, (i' + 1) * 2, none⟩).add j) = some u from by
    by_cases hcap : cap = i' + 1
    · rw [List.drop_eq_nil_of_le (by omega)] at hu
      simp [tf] at hu
    rw [if_neg hcap]
    rw [show (⟨b, (i' + 1) * 2, none⟩ : Addr).add j = ⟨b, (i' + 1) * 2 + j, none⟩ by simp [Addr.add]]
    rw [tf_drop S (by omega)] at hu
    exact hc v hv _ _ hu))
  have d0 := bX2.out.cell 0
  have d1 := bX2.out.cell 1
  simp at d0 d1
  have l1 : (0 : Int) ≤ (i' : Int) := by omega
  have l2 : (i' : Int) < (S.length : Int) := by omega
  have l3 : ¬ (i' : Int) < 0 := by omega
  have l4 : ¬ now < t'.due := by omega
  have l5 : (i' : Int) ≤ (cap : Int) := by omega
  have zwX : w.heap.size < X.heap.size := by omega
  have zbX : b < X.heap.size := hb
  have HS := Lib.hid (fun (w' : World) (hA : AS w X w') => (show RowKit.Hid (AS w X w') ∧ w'.cell? ⟨w.heap.size, 0, none⟩ = some (.slice (some ⟨b, 0, none⟩) S.length cap) ∧ w'.cell? ⟨w.heap.size, 1, none⟩ = some (.int .i64 most) from ⟨Lib.hid hA, (bX2.out.off hA.off (by show ¬ w.heap.size = w.heap.size + 1; omega)).cell 0, (bX2.out.off hA.off (by show ¬ w.heap.size = w.heap.size + 1; omega)).cell 1⟩))
  have Hee := Lib.hid hee
  have Hel := Lib.hid hel
  have Hf := Lib.hid hf
  clear hp hf hf' hc hee hel
  go_wp2_with (at_builtin; refine wpList_append_own _ rfl _ _ 41 rfl X.heap.size 54 i0 _ 2 16 Try.underlying41 Hi0.out Hz0.out Hz1.out Hz2.out rfl (by decide) (.slice (some ⟨X.heap.size, 0, none⟩) 0 0) 0 [] rfl (own_empty (Blk.new X _ _) (Nat.le_refl _)) ⟨b, 0, none⟩ i' cap (tf (S.take i')) rfl (by rw [tf_len, List.length_take]; omega) (fun j u hu => by rw [show (⟨b, 0, none⟩ : Addr).add j = ⟨b, j, none⟩ by simp [Addr.add]; try exact fun h => h.symm]; exact Hc.out _ (AS.off (AS.alloc HAS.out _)) j u (tf_take hu)) (tf_one' _) (by omega) (by omega) (by simp) ?_; intro v3 w3 own3 g3 hz3)
  have HAS3 : RowKit.Hid (AS w X w3) := Lib.hid (AS.grown (AS.alloc HAS.out _) g3 (fun k hk => .inr (by simp [Value.ownBlock] at hk; omega)) (by simp [Value.ownBlock]; omega))
  have hv3 : v3 ≠ .slice none 0 0 := fun c => by have := (hz3.1 c).1; simp at this
  have Hv3 := Lib.hid hv3
  rw [Nat.zero_add, List.nil_append] at own3
  have Own3 := Lib.hid own3
  have l6 : (i' : Int) + 1 ≤ (S.length : Int) := by omega
  have l7 : (0 : Int) ≤ (i' : Int) + 1 := by omega
  have l8 : (i' : Int) + 1 ≤ (cap : Int) := by omega
  have e9 : IntKind.i64.wrap ((i' : Int) + 1) = (i' : Int) + 1 := IntWalk.i64_in _ (by omega)
  clear own3 g3 hz3 hv3 d0 d1 f0 f1
  refine wp_region_held_drew (S := fun w' => RowKit.Hid (AS w X w') ∧ w'.cell? ⟨w.heap.size, 0, none⟩ = some (.slice (some ⟨b, 0, none⟩) S.length cap) ∧ w'.cell? ⟨w.heap.size, 1, none⟩ = some (.int .i64 most)) (by kernel_rfl) (HS.out _ (AS.drew HAS3.out)) (fun hHeld => ?_)
  refine Take.take (i := 0) (oi := _) (t := 37) (v := ?v1) rfl (by kernel_rfl) (by kernel_rfl) (by kernel_rfl) (by kernel_rfl) (fun _ _ _ h => h) (by kernel_rfl) ?hy1 (by assumption) ?_
  case hy1 => (intro w hSw; (try dsimp only at hSw); go_simp; try with_reducible rfl)
  try simp only [Act.put, List.setIfInBounds_toArray, List.set_cons_zero, List.set_cons_succ]
  refine Take.take (i := 1) (oi := _) (t := 38) (v := ?v2) rfl (by kernel_rfl) (by kernel_rfl) (by kernel_rfl) (by kernel_rfl) (fun _ _ _ h => h) (by kernel_rfl) ?hy2 (by assumption) ?_
  case hy2 => (intro w hSw; (try dsimp only at hSw); go_simp; try with_reducible rfl)
  try simp only [Act.put, List.setIfInBounds_toArray, List.set_cons_zero, List.set_cons_succ]
  refine Take.take (i := 2) (oi := _) (t := 39) (v := ?v3) rfl (by kernel_rfl) (by kernel_rfl) (by kernel_rfl) (by kernel_rfl) (fun _ _ _ h => h) (by kernel_rfl) ?hy3 (by assumption) ?_
  case hy3 => (intro w hSw; (try dsimp only at hSw); go_simp; try with_reducible rfl)
  try simp only [Act.put, List.setIfInBounds_toArray, List.set_cons_zero, List.set_cons_succ]
  refine Take.take (i := 3) (oi := _) (t := 40) (v := ?v4) rfl (by kernel_rfl) (by kernel_rfl) (by kernel_rfl) (by kernel_rfl) (fun _ _ _ h => h) (by kernel_rfl) ?hy4 (by assumption) ?_
  case hy4 => (intro w hSw; (try dsimp only at hSw); go_simp; try with_reducible rfl)
  try simp only [Act.put, List.setIfInBounds_toArray, List.set_cons_zero, List.set_cons_succ]
  refine Take.take (i := 4) (oi := _) (t := 41) (v := ?v5) rfl (by kernel_rfl) (by kernel_rfl) (by kernel_rfl) (by kernel_rfl) (fun _ _ _ h => h) (by kernel_rfl) ?hy5 (by assumption) ?_
  case hy5 => (intro w hSw; (try dsimp only at hSw); go_simp; try with_reducible rfl)
  try simp only [Act.put, List.setIfInBounds_toArray, List.set_cons_zero, List.set_cons_succ]
  refine Take.take (i := 5) (oi := _) (t := 42) (v := ?v6) rfl (by kernel_rfl) (by kernel_rfl) (by kernel_rfl) (by kernel_rfl) (fun _ _ _ h => h) (by kernel_rfl) ?hy6 (by assumption) ?_
  case hy6 => (intro w hSw; (try dsimp only at hSw); go_simp; try with_reducible rfl)
  try simp only [Act.put, List.setIfInBounds_toArray, List.set_cons_zero, List.set_cons_succ]
  refine Take.take (i := 7) (oi := _) (t := 44) (v := ?v7) rfl (by kernel_rfl) (by kernel_rfl) (by kernel_rfl) (by kernel_rfl) (fun _ _ _ h => h) (by kernel_rfl) ?hy7 (by assumption) ?_
  case hy7 => (intro w hSw; (try dsimp only at hSw); go_simp; try with_reducible rfl)
  try simp only [Act.put, List.setIfInBounds_toArray, List.set_cons_zero, List.set_cons_succ]
  refine Take.take (i := 8) (oi := _) (t := 45) (v := ?v8) rfl (by kernel_rfl) (by kernel_rfl) (by kernel_rfl) (by kernel_rfl) (fun _ _ _ h => h) (by kernel_rfl) ?hy8 (by assumption) ?_
  case hy8 => (intro w hSw; (try dsimp only at hSw); go_simp; try with_reducible rfl)
  try simp only [Act.put, List.setIfInBounds_toArray, List.set_cons_zero, List.set_cons_succ]
  refine Take.take (i := 10) (oi := _) (t := 47) (v := ?v9) rfl (by kernel_rfl) (by kernel_rfl) (by kernel_rfl) (by kernel_rfl) (fun _ _ _ h => h) (by kernel_rfl) ?hy9 (by assumption) ?_
  case hy9 => (intro w hSw; (try dsimp only at hSw); go_simp; try with_reducible rfl)
  try simp only [Act.put, List.setIfInBounds_toArray, List.set_cons_zero, List.set_cons_succ]
  refine wpAnyH_ready (rs := [6]) (by kernel_rfl) (by simp) ?_
  refine AllReadyH.cons (o := _) rfl (fun K hK => ?_) AllReadyH.nil
  rw [if_pos (by rfl)]
  refine wp_append_own _ (.tmp 37) (.tmp 42) 41 rfl X.heap.size 54 i0 _ 2 16 Try.underlying41 Hi0.out Hz0.out Hz1.out Hz2.out rfl (by decide) _ _ _ rfl (own_drew Own3.out) (if cap = i' + 1 then (⟨b, 0, none⟩ : Addr) else ⟨b, (i' + 1) * 2, none⟩) (S.length - (i' + 1)) (cap - (i' + 1)) (tf (S.drop (i' + 1))) (congrArg (fun z => Value.slice z (S.length - (i' + 1)) (cap - (i' + 1))) (show (if cap = i' + 1 then some (⟨b, 0, none⟩ : Addr) else some ⟨b, (i' + 1) * 2, none⟩) = some (if cap = i' + 1 then (⟨b, 0, none⟩ : Addr) else ⟨b, (i' + 1) * 2, none⟩) from by split <;> rfl)) (by rw [tf_len, List.length_drop]) (fun j u hu => Hsrc2.out _ (AS.off HAS3.out) j u hu) (tf_one' _) (by omega) (by omega) (by have := HAS3.out.off.size; exact this) ?_
  intro v8 w8 own8 g8 hz8
  have HA8 : AS w X w8 := AS.grown (by repeat (first | exact HAS3.out | refine AS.drew ?_)) g8 (fun k hk => .inr (own_high Own3.out hk.symm)) (own_low Own3.out (by omega))
  have own9 : w8.ownsRow X.heap.size 54 2 v8 (S.eraseIdx i').length (tf (S.eraseIdx i')) := by rw [Hee.out, Hel.out]; exact own8
  obtain ⟨b8, cap8, rfl, hb8, hT8⟩ := own_TAt' own9 rfl (fun c => Hv3.out (hz8.1 c).1)
  have HT8 := Lib.hid hT8
  have HA9 := Lib.hid HA8
  clear own8 own9 hT8 g8 hz8
  refine hK.out _ _ ?hS10 (fun hHeld => ?_)
  case hS10 => (refine HS.out _ ?_; repeat (first | exact HAS3.out | exact HA8 | refine AS.drew ?_ | refine AS.alloc ?_ _ | refine AS.put0 ?_ _ | refine AS.put1 ?_ _))
  clear hK K
  try simp only [Act.put, List.setIfInBounds_toArray, List.set_cons_zero, List.set_cons_succ]
  refine Take.take (i := 9) (oi := _) (t := 46) (v := ?v11) rfl (by kernel_rfl) (by kernel_rfl) (by kernel_rfl) (by kernel_rfl) (fun _ _ _ h => h) (by kernel_rfl) ?hy11 (by assumption) ?_
  case hy11 => (intro w hSw; (try dsimp only at hSw); go_simp; try with_reducible rfl)
  try simp only [Act.put, List.setIfInBounds_toArray, List.set_cons_zero, List.set_cons_succ]
  obtain ⟨c0, c1, hres⟩ := HA9.out.res
  have e0 := hres.cell 0
  have e1 := hres.cell 1
  have e2 := hres.frozen 0
  have e3 := hres.frozen 1
  simp at e0 e1
  refine wpAnyH_ready (rs := [11]) (by kernel_rfl) (by simp) ?_
  refine AllReadyH.cons (o := _) rfl (fun K hK => ?_) AllReadyH.nil
  go_simp
  refine hK.out _ _ ?hS12 (fun hHeld => ?_)
  case hS12 => (refine HS.out _ ?_; repeat (first | exact HAS3.out | exact HA8 | refine AS.drew ?_ | refine AS.alloc ?_ _ | refine AS.put0 ?_ _ | refine AS.put1 ?_ _))
  clear hK K
  try simp only [Act.put, List.setIfInBounds_toArray, List.set_cons_zero, List.set_cons_succ]
  refine Take.take (i := 12) (oi := _) (t := 5) (v := ?v13) rfl (by kernel_rfl) (by kernel_rfl) (by kernel_rfl) (by kernel_rfl) (fun _ _ _ h => h) (by kernel_rfl) ?hy13 (by assumption) ?_
  case hy13 => (intro w hSw; (try dsimp only at hSw); go_simp; try with_reducible rfl)
  try simp only [Act.put, List.setIfInBounds_toArray, List.set_cons_zero, List.set_cons_succ]
  refine Take.take (i := 13) (oi := _) (t := 6) (v := ?v14) rfl (by kernel_rfl) (by kernel_rfl) (by kernel_rfl) (by kernel_rfl) (fun _ _ _ h => h) (by kernel_rfl) ?hy14 (by assumption) ?_
  case hy14 => (intro w hSw; (try dsimp only at hSw); go_simp; try with_reducible rfl)
  try simp only [Act.put, List.setIfInBounds_toArray, List.set_cons_zero, List.set_cons_succ]
  refine wpAnyH_done (by kernel_rfl) ?_ _
  go_wp2_with fail
  all_goals
    have hfin : Blk ((w8.setCell ⟨w.heap.size + 1, 0, none⟩ (.slice (some ⟨b8, 0, none⟩) (S.eraseIdx i').length cap8)).setCell ⟨w.heap.size + 1, 1, none⟩ (.int .i64 most)) (w.heap.size + 1) 43 #[.slice (some ⟨b8, 0, none⟩) (S.eraseIdx i').length cap8, .int .i64 most] := (hres.put 0 _).put 1 _
    refine bodyPost_ret (results_agg2 (b := w.heap.size + 1) Try.results28 rfl (d := _) rfl (by kernel_rfl) (by kernel_rfl) (rng_blk hfin)) rfl ?_
    exact ⟨b8, cap8, rfl, (HT8.out.put (by show b8 ≠ w.heap.size + 1; omega) _).put (by show b8 ≠ w.heap.size + 1; omega) _, HA9.out.low lV.out⟩
end Go.Proofs.Ytcicnanchikpjaa.Heap
