/- The document's agenda: Add, walked. -/
import Derived.Test.YtcicnanchikpjaaRefAgenda
import Derived.Deep.AppendSrc
namespace Go.Proofs.Ytcicnanchikpjaa.Heap
open Go.RowKit
open Go.Proofs.Ytcicnanchikpjaa.RF
set_option linter.unusedVariables false
set_option linter.unusedSimpArgs false

theorem infoTh : (Try.prog.info? 54).map (fun i => (i.zero, i.size, i.bytes)) = some (some (.agg #[.int .i64 0, .int .i64 0]), 2, 16) := by kernel_rfl
theorem grown_refl (w : World) (row : Option Nat) : w.grownBy w row := ⟨rfl, rfl, rfl, Nat.le_refl _, fun _ _ _ => rfl⟩
/-- What may be nil is appended. -/
theorem wp_append_maybe {P : Program} (w : World) {o : Oper} {a : Act} {K : Act → World → Prop} {Q : Exit → Act → World → Prop} (s x : Operand) (t : TypeId)
    (ho : o.op = .call { callee := .builtin .append, args := #[s, x], argTypes := #[t, t] })
    (base : Nat) (e : TypeId) (i : TypeInfo) (z : Value) (size bytes : Nat) (ht : P.underlying t = some (.slice e)) (hi : P.info? e = some i) (hz : i.zero = some z)
    (hsize : i.size = size) (hby : i.bytes = bytes) (hzs : z.cells.size = size) (hsz : 0 < size)
    (g n c0 : Nat) (xs : List Value) (hs : a.eval s = .slice (some ⟨g, 0, none⟩) n c0) (hown : w.ownsRow base e size (.slice (some ⟨g, 0, none⟩) n c0) n xs)
    (ad : Option Addr) (m c : Nat) (news : List Value) (hx : a.eval x = .slice ad m c) (hl : news.length = m * size) (hnone : ad = none → m = 0) (hnews : ∀ b, ad = some b → ∀ (j : Nat) (u : Value), news[j]? = some u → w.cell? (b.add j) = some u) (h1 : ∀ u ∈ news, u.oneCell' = true)
    (h63 : n + m ≤ maxLen) (hbytes : (n + m) * bytes ≤ 140737488355328) (hbase : base ≤ w.heap.size)
    (h : ∀ v' w', w'.ownsRow base e size v' (n + m) (xs ++ news) → w.grownBy w' (Value.ownBlock (.slice (some ⟨g, 0, none⟩) n c0)) → K (a.put o.dst v') w') : o.wp P a w K Q := by
  rcases ad with _ | b
  · obtain rfl := hnone rfl
    obtain rfl : news = [] := List.length_eq_zero_iff.1 (by simpa using hl)
    have hn : n ≤ c0 := by
      rcases hown.2 with ⟨h0, _⟩ | ⟨g', c', cur, h0, _, _, hnc, _⟩
      · simp at h0
      · simp only [Value.slice.injEq] at h0
        omega
    have hr := run_append_room_src (P := P) w t t o.type e i ht hi g 0 n c0 (.slice none 0 c) 0 [] (Src.ofNil w ht c) (by omega) (fun j hj => by simp at hj) (fun j hj => by simp at hj)
    unfold Oper.wp execOp
    simp only [ho, resolve, invoke, builtin, Sem.run_bind, Sem.run_pure, Result.andThen_ok, List.map_toArray, List.map_cons, List.map_nil, hs, hx, hr]
    have e0 : w.setCells g (0 + n * i.size) [] = w := rfl
    rw [e0]
    exact h _ _ (by simpa using hown) (grown_refl _ _)
  · exact wp_append_own w s x t ho base e i z size bytes ht hi hz hsize hby hzs hsz _ n xs hs hown b m c news hx hl (hnews b rfl) h1 h63 hbytes hbase fun v' w' h2 h3 _ => h v' w' h2 h3
theorem own_empty {V : World} {bA : Nat} {e : TypeId} {s base : Nat} (h : Blk V bA e #[]) (hb : base ≤ bA) : V.ownsRow base e s (.slice (some ⟨bA, 0, none⟩) 0 0) 0 [] := by
  have := row_of_blk (base := base) (n := 0) (s := s) (cap := 0) h hb (Nat.le_refl _) (by unfold maxLen; omega) (by simp)
  simpa using this
theorem own_low {W : World} {base b : Nat} {e : TypeId} {s n : Nat} {v : Value} {xs : List Value} (h : W.ownsRow base e s v n xs) (hb : b < base) : some b ≠ v.ownBlock := by
  rcases h.2 with ⟨rfl, _⟩ | ⟨g, cap, cur, rfl, hbg, _⟩
  · simp [Value.ownBlock]
  · simp only [Value.ownBlock, ne_eq, Option.some.injEq]; omega
theorem own_high {W : World} {base b : Nat} {e : TypeId} {s n : Nat} {v : Value} {xs : List Value} (h : W.ownsRow base e s v n xs) (hb : some b = v.ownBlock) : base ≤ b := by
  rcases h.2 with ⟨rfl, _⟩ | ⟨g, cap, cur, rfl, hbg, _⟩
  · simp [Value.ownBlock] at hb
  · simp only [Value.ownBlock, Option.some.injEq] at hb; omega
theorem tf_one' (S : List (Th Int)) : ∀ u ∈ tf S, u.oneCell' = true := fun u hu => by
  obtain ⟨l, hl, hul⟩ := List.mem_flatten.1 hu
  obtain ⟨t, _, rfl⟩ := List.mem_map.1 hl
  simp only [tc, List.mem_cons, List.not_mem_nil, or_false] at hul
  rcases hul with rfl | rfl <;> rfl
theorem own_TAt {w : World} {base n : Nat} {v : Value} {S : List (Th Int)} (h : w.ownsRow base 54 2 v n (tf S)) (hn : S.length = n) (hS : 0 < n) : ∃ b cap, v = .slice (some ⟨b, 0, none⟩) n cap ∧ base ≤ b ∧ TAt w (some ⟨b, 0, none⟩) cap S := by
  subst hn
  rcases h.2 with ⟨rfl, h0⟩ | ⟨g, cap, cur, rfl, hb, hg, hnc, hcm, hcs, ht⟩
  · omega
  · refine ⟨g, cap, rfl, hb, hnc, hcm, .inr ⟨g, rfl, (show Blk w g _ cur from hg).lt, fun j u hu => ?_, cur, hg⟩⟩
    rw [(show Blk w g _ cur from hg).cell j]
    rw [← ht, List.getElem?_take] at hu
    split at hu
    · simpa using hu
    · cases hu
/-- While a result is made. -/
structure AS (w X v : World) : Prop where
  off : Off (fun j => j = w.heap.size + 1) X v
  res : ∃ c0 c1, Blk v (w.heap.size + 1) 43 #[c0, c1]
theorem AS.drew {w X v : World} (h : AS w X v) : AS w X v.drew := ⟨h.off.drew, h.res⟩
theorem AS.alloc {w X v : World} (h : AS w X v) (o : Obj) : AS w X (v.alloc o) := ⟨h.off.alloc o, by obtain ⟨c0, c1, hb⟩ := h.res; exact ⟨c0, c1, hb.alloc o⟩⟩
theorem AS.put0 {w X v : World} (h : AS w X v) (u : Value) : AS w X (v.setCell ⟨w.heap.size + 1, 0, none⟩ u) := ⟨h.off.setCell (p := ⟨w.heap.size + 1, 0, none⟩) (.inl rfl) u, by obtain ⟨c0, c1, hb⟩ := h.res; exact ⟨u, c1, hb.put 0 u⟩⟩
theorem AS.put1 {w X v : World} (h : AS w X v) (u : Value) : AS w X (v.setCell ⟨w.heap.size + 1, 1, none⟩ u) := ⟨h.off.setCell (p := ⟨w.heap.size + 1, 1, none⟩) (.inl rfl) u, by obtain ⟨c0, c1, hb⟩ := h.res; exact ⟨c0, u, hb.put 1 u⟩⟩
theorem AS.low {w X v : World} (h : AS w X v) (hl : Below w.heap.size w X) {i j : Nat} {u u' : Value} : Below w.heap.size w ((v.setCell ⟨w.heap.size + 1, i, none⟩ u).setCell ⟨w.heap.size + 1, j, none⟩ u') := by
  have hv : Below w.heap.size w v := by
    rcases h.off.below (b := w.heap.size) (fun k _ hk => by omega) with c | c
    · exact hl.trans c
    · have := hl.size; omega
  exact (hv.setCell (p := ⟨w.heap.size + 1, i, none⟩) (by show w.heap.size ≤ w.heap.size + 1; omega) u).setCell (p := ⟨w.heap.size + 1, j, none⟩) (by show w.heap.size ≤ w.heap.size + 1; omega) u'
theorem TAt.put {v : World} {b cap : Nat} {S : List (Th Int)} (h : TAt v (some ⟨b, 0, none⟩) cap S) {p : Addr} (hp : b ≠ p.block) (u : Value) : TAt (v.setCell p u) (some ⟨b, 0, none⟩) cap S := by
  refine ⟨h.le, h.max, ?_⟩
  rcases h.at_ with ⟨c, _⟩ | ⟨b', e, h2, h3, cur, hcur⟩
  · cases c
  · injection e with e
    injection e with e _
    subst e
    refine .inr ⟨b, rfl, by simpa [World.setCell] using h2, fun j x hx => ?_, cur, hcur.far hp u⟩
    have hk := Below.heap_setCell v p u b hp
    have : (v.setCell p u).cell? ⟨b, j, none⟩ = v.cell? ⟨b, j, none⟩ := World.cell?_of_block hk
    rw [this]; exact h3 j x hx
theorem blk_two (X : World) (t : TypeId) (c d : Array Value) : Blk ((X.alloc (.cells c t)).alloc (.cells d t)) (X.heap.size + 1) t d := by
  have := Blk.new (X.alloc (.cells c t)) t d
  rwa [show (X.alloc (.cells c t)).heap.size = X.heap.size + 1 by simp] at this
theorem AS.grown {w X v v' : World} {row : Option Nat} (h : AS w X v) (hg : v.grownBy v' row) (hr : ∀ k, row = some k → k = w.heap.size + 1 ∨ X.heap.size ≤ k) (hn : some (w.heap.size + 1) ≠ row) : AS w X v' :=
  ⟨h.off.grown hg hr, by obtain ⟨c0, c1, hb⟩ := h.res; exact ⟨c0, c1, hb.grown hg hn⟩⟩
set_option maxRecDepth 100000 in
set_option maxHeartbeats 8000000 in
theorem refadd_any (most : Int) (a : Option Addr) (cap : Nat) (S : List (Th Int)) (due x : Int) (w : World) (h : TAt w a cap S) (hS : S.length ≤ 65536) (hm : ¬ most ≤ (S.length : Int)) (no : Nat) :
    Calls Try.prog 26 #[.agg #[.slice a S.length cap, .int .i64 most], .int .i64 due, .int .i64 x] w fun e w' => ∃ b cap', e = .returned (.tuple #[.agg #[.slice (some ⟨b, 0, none⟩) (S.length + 1) cap', .int .i64 most], .bool true]) ∧ TAt w' (some ⟨b, 0, none⟩) cap' (S ++ [⟨due, no, x⟩]) ∧ Below w.heap.size w w' := by
  obtain ⟨i0, hi0, hz⟩ := Option.map_eq_some_iff.1 infoTh
  simp only [Prod.mk.injEq] at hz
  obtain ⟨hz0, hz1, hz2⟩ := hz
  have Hi0 := Lib.hid hi0
  have Hz0 := Lib.hid hz0
  have Hz1 := Lib.hid hz1
  have Hz2 := Lib.hid hz2
  clear hi0 hz0 hz1 hz2
  have hmax : S.length + 1 ≤ maxLen := by unfold maxLen; omega
  obtain ⟨X, hX⟩ : ∃ X, (w.alloc (.cells #[.slice a S.length cap, .int .i64 most] 43)).alloc (.cells #[.slice none 0 0, .int .i64 0] 43) = X := ⟨_, rfl⟩
  have z1 : (w.alloc (.cells #[.slice a S.length cap, .int .i64 most] 43)).heap.size = w.heap.size + 1 := by simp
  have bX : Blk X w.heap.size 43 #[.slice a S.length cap, .int .i64 most] := by rw [← hX]; exact (Blk.new w _ _).alloc _
  have bR : Blk X (w.heap.size + 1) 43 #[.slice none 0 0, .int .i64 0] := by
    rw [← hX]
    have := Blk.new (w.alloc (.cells #[.slice a S.length cap, .int .i64 most] 43)) 43 #[.slice none 0 0, .int .i64 0]
    rwa [z1] at this
  have lX : Below w.heap.size w X := by rw [← hX]; exact ((Below.refl _ w).alloc (Nat.le_refl _) _).alloc (by simp) _
  have zX : X.heap.size = w.heap.size + 2 := by rw [← hX]; simp
  have hnone : a = none → S.length = 0 := fun e => by
    subst e
    rcases h.at_ with ⟨_, c⟩ | ⟨b, c, _⟩
    · have := h.le; omega
    · cases c
  have hsrc : ∀ v : World, Off (fun j => j = w.heap.size + 1) X v → ∀ b, a = some b → ∀ (j : Nat) (u : Value), (tf S)[j]? = some u → v.cell? (b.add j) = some u := fun v hv b e j u hu => by
    have hT := h.below lX
    rcases hT.at_ with ⟨c, _⟩ | ⟨b', e', hb, hc, _⟩
    · rw [c] at e; cases e
    · rw [e'] at e
      injection e with e
      subst e
      have hb2 : b' < w.heap.size := by
        rcases h.at_ with ⟨c, _⟩ | ⟨b2, e2, hb2, _⟩
        · rw [c] at e'; cases e'
        · rw [e'] at e2; injection e2 with e2; injection e2 with e2 _; omega
      rw [show (⟨b', 0, none⟩ : Addr).add j = ⟨b', j, none⟩ by simp [Addr.add]; try exact fun h => h.symm]
      exact (hv.cell (p := ⟨b', j, none⟩) hb (by show ¬ b' = w.heap.size + 1; omega)).trans (hc j u hu)
  have Hsrc := Lib.hid hsrc
  have Hnone := Lib.hid hnone
  have HAS : RowKit.Hid (AS w X X) := Lib.hid ⟨Off.refl _ _, _, _, bR⟩
  have HbX := Lib.hid bX
  have HS := Lib.hid (fun (w' : World) (hA : AS w X w') => (show RowKit.Hid (AS w X w') ∧ w'.cell? ⟨w.heap.size, 0, none⟩ = some (.slice a S.length cap) ∧ w'.cell? ⟨w.heap.size, 1, none⟩ = some (.int .i64 most) from ⟨Lib.hid hA, (HbX.out.off hA.off (by show ¬ w.heap.size = w.heap.size + 1; omega)).cell 0, (HbX.out.off hA.off (by show ¬ w.heap.size = w.heap.size + 1; omega)).cell 1⟩))
  have Llow := Lib.hid lX
  have zX2 : w.heap.size + 1 < X.heap.size := by omega
  have HX := Lib.hid hX
  have d0 := bX.cell 0
  have d1 := bX.cell 1
  simp at d0 d1
  clear hX z1 bX bR lX hnone hsrc h zX
  go_enter Try.func26, Try.ntmps26
  go_wp2_with (rw [HX.out])
  clear d0 d1 HX
  refine wp_region_held_drew (S := fun w' => RowKit.Hid (AS w X w') ∧ w'.cell? ⟨w.heap.size, 0, none⟩ = some (.slice a S.length cap) ∧ w'.cell? ⟨w.heap.size, 1, none⟩ = some (.int .i64 most)) (by kernel_rfl) (HS.out _ (AS.drew HAS.out)) (fun hHeld => ?_)
  refine Take.take (i := 1) (oi := _) (t := 16) (v := ?v1) rfl (by kernel_rfl) (by kernel_rfl) (by kernel_rfl) (by kernel_rfl) (fun _ _ _ h => h) (by kernel_rfl) ?hy1 (by assumption) ?_
  case hy1 => (intro w hSw; (try dsimp only at hSw); go_simp; try with_reducible rfl)
  try simp only [Act.put, List.setIfInBounds_toArray, List.set_cons_zero, List.set_cons_succ]
  refine Take.take (i := 2) (oi := _) (t := 17) (v := ?v2) rfl (by kernel_rfl) (by kernel_rfl) (by kernel_rfl) (by kernel_rfl) (fun _ _ _ h => h) (by kernel_rfl) ?hy2 (by assumption) ?_
  case hy2 => (intro w hSw; (try dsimp only at hSw); go_simp; try with_reducible rfl)
  try simp only [Act.put, List.setIfInBounds_toArray, List.set_cons_zero, List.set_cons_succ]
  refine Take.take (i := 4) (oi := _) (t := 19) (v := ?v3) rfl (by kernel_rfl) (by kernel_rfl) (by kernel_rfl) (by kernel_rfl) (fun _ _ _ h => h) (by kernel_rfl) ?hy3 (by assumption) ?_
  case hy3 => (intro w hSw; (try dsimp only at hSw); go_simp; try with_reducible rfl)
  try simp only [Act.put, List.setIfInBounds_toArray, List.set_cons_zero, List.set_cons_succ]
  refine Take.take (i := 5) (oi := _) (t := 20) (v := ?v4) rfl (by kernel_rfl) (by kernel_rfl) (by kernel_rfl) (by kernel_rfl) (fun _ _ _ h => h) (by kernel_rfl) ?hy4 (by assumption) ?_
  case hy4 => (intro w hSw; (try dsimp only at hSw); go_simp; try with_reducible rfl)
  try simp only [Act.put, List.setIfInBounds_toArray, List.set_cons_zero, List.set_cons_succ]
  refine Take.take (i := 6) (oi := _) (t := 21) (v := ?v5) rfl (by kernel_rfl) (by kernel_rfl) (by kernel_rfl) (by kernel_rfl) (fun _ _ _ h => h) (by kernel_rfl) ?hy5 (by assumption) ?_
  case hy5 => (intro w hSw; (try dsimp only at hSw); go_simp; try with_reducible rfl)
  try simp only [Act.put, List.setIfInBounds_toArray, List.set_cons_zero, List.set_cons_succ]
  refine Take.take (i := 9) (oi := _) (t := 24) (v := ?v6) rfl (by kernel_rfl) (by kernel_rfl) (by kernel_rfl) (by kernel_rfl) (fun _ _ _ h => h) (by kernel_rfl) ?hy6 (by assumption) ?_
  case hy6 => (intro w hSw; (try dsimp only at hSw); go_simp; try with_reducible rfl)
  try simp only [Act.put, List.setIfInBounds_toArray, List.set_cons_zero, List.set_cons_succ]
  refine Take.take (i := 10) (oi := _) (t := 25) (v := ?v7) rfl (by kernel_rfl) (by kernel_rfl) (by kernel_rfl) (by kernel_rfl) (fun _ _ _ h => h) (by kernel_rfl) ?hy7 (by assumption) ?_
  case hy7 => (intro w hSw; (try dsimp only at hSw); go_simp; try with_reducible rfl)
  try simp only [Act.put, List.setIfInBounds_toArray, List.set_cons_zero, List.set_cons_succ]
  refine wpAnyH_ready (rs := [0, 7]) (by kernel_rfl) (by simp) ?_
  refine AllReadyH.cons (o := _) rfl (fun K hK => ?_) (AllReadyH.cons (o := _) rfl (fun K hK => ?_) AllReadyH.nil)
  go_simp
  refine hK.out _ _ ?hS8 (fun hHeld => ?_)
  case hS8 => (refine HS.out _ ?_; repeat (first | exact HAS.out | exact HA3 | exact HA8 | refine AS.drew ?_ | refine AS.alloc ?_ _ | refine AS.put0 ?_ _ | refine AS.put1 ?_ _))
  clear hK K
  try simp only [Act.put, List.setIfInBounds_toArray, List.set_cons_zero, List.set_cons_succ]
  refine wpAnyH_ready (rs := [3, 7]) (by kernel_rfl) (by simp) ?_
  refine AllReadyH.cons (o := _) rfl (fun K hK => ?_) (AllReadyH.cons (o := _) rfl (fun K hK => ?_) AllReadyH.nil)
  rw [if_pos (by rfl)]
  refine wp_append_maybe _ (.tmp 15) (.tmp 17) 41 rfl X.heap.size 54 i0 _ 2 16 Try.underlying41 Hi0.out Hz0.out Hz1.out Hz2.out rfl (by decide) X.heap.size 0 0 [] rfl (by exact own_empty (by first | exact blk_two X _ _ _ | exact Blk.new X _ _ | exact (Blk.new X _ _).alloc _ | exact Blk.new (X.alloc _) _ _ | exact Blk.new X.drew _ _) (by first | omega | simp)) a S.length cap (tf S) rfl (tf_len S) Hnone.out (fun b e j u hu => Hsrc.out _ (AS.off (by repeat (first | exact HAS.out | refine AS.drew ?_ | refine AS.alloc ?_ _))) b e j u hu) (tf_one' S) (by omega) (by omega) (by first | (simp; omega) | simp) ?_
  intro v3 w3 own3 g3
  have HA3 : AS w X w3 := AS.grown (by repeat (first | exact HAS.out | refine AS.drew ?_ | refine AS.alloc ?_ _)) g3 (fun k hk => .inr (by simp [Value.ownBlock] at hk; omega)) (by simp [Value.ownBlock]; omega)
  rw [Nat.zero_add, List.nil_append] at own3
  have s3 := g3.size
  try simp only [World.size_alloc, size_drew] at s3
  refine hK.out _ _ ?hS9 (fun hHeld => ?_)
  case hS9 => (refine HS.out _ ?_; repeat (first | exact HAS.out | exact HA3 | exact HA8 | refine AS.drew ?_ | refine AS.alloc ?_ _ | refine AS.put0 ?_ _ | refine AS.put1 ?_ _))
  clear hK K
  try simp only [Act.put, List.setIfInBounds_toArray, List.set_cons_zero, List.set_cons_succ]
  refine wpAnyH_ready (rs := [7]) (by kernel_rfl) (by simp) ?_
  refine AllReadyH.cons (o := _) rfl (fun K hK => ?_) AllReadyH.nil
  go_simp
  refine hK.out _ _ ?hS10 (fun hHeld => ?_)
  case hS10 => (refine HS.out _ ?_; repeat (first | exact HAS.out | exact HA3 | exact HA8 | refine AS.drew ?_ | refine AS.alloc ?_ _ | refine AS.put0 ?_ _ | refine AS.put1 ?_ _))
  clear hK K
  try simp only [Act.put, List.setIfInBounds_toArray, List.set_cons_zero, List.set_cons_succ]
  refine wpAnyH_ready (rs := [8]) (by kernel_rfl) (by simp) ?_
  refine AllReadyH.cons (o := _) rfl (fun K hK => ?_) AllReadyH.nil
  rw [if_pos (by rfl)]
  refine wp_append_own _ (.tmp 18) (.tmp 22) 41 rfl X.heap.size 54 i0 _ 2 16 Try.underlying41 Hi0.out Hz0.out Hz1.out Hz2.out rfl (by decide) _ _ _ rfl (own3.alloc _) ⟨w3.heap.size, 0, none⟩ 1 1 [.int .i64 due, .int .i64 x] rfl rfl (World.news_of_block (cs := #[.int .i64 due, .int .i64 x]) (t := 54) (fr := (0, 0)) (show ((w3).alloc (.cells #[.int .i64 due, .int .i64 x] 54)).heap[w3.heap.size]? = _ from heap_alloc_new _ _)) (by simp [Value.oneCell']) (by omega) (by omega) (by first | omega | (simp; omega)) ?_
  intro v8 w8 own8 g8 _
  have HA8 : AS w X w8 := AS.grown (by repeat (first | exact HA3 | refine AS.drew ?_ | refine AS.alloc ?_ _)) g8 (fun k hk => .inr (own_high own3 hk.symm)) (own_low own3 (by omega))
  have own9 : w8.ownsRow X.heap.size 54 2 v8 (S.length + 1) (tf (S ++ [⟨due, no, x⟩])) := by rw [tf_append, tf_one]; exact own8
  obtain ⟨b8, cap8, rfl, hb8, hT8⟩ := own_TAt own9 (by simp) (by omega)
  have HT8 := Lib.hid hT8
  have HA9 := Lib.hid HA8
  clear own8 own9 hT8 g8
  refine hK.out _ _ ?hS11 (fun hHeld => ?_)
  case hS11 => (refine HS.out _ ?_; repeat (first | exact HAS.out | exact HA3 | exact HA8 | refine AS.drew ?_ | refine AS.alloc ?_ _ | refine AS.put0 ?_ _ | refine AS.put1 ?_ _))
  clear hK K
  try simp only [Act.put, List.setIfInBounds_toArray, List.set_cons_zero, List.set_cons_succ]
  refine Take.take (i := 11) (oi := _) (t := 26) (v := ?v12) rfl (by kernel_rfl) (by kernel_rfl) (by kernel_rfl) (by kernel_rfl) (fun _ _ _ h => h) (by kernel_rfl) ?hy12 (by assumption) ?_
  case hy12 => (intro w hSw; (try dsimp only at hSw); go_simp; try with_reducible rfl)
  try simp only [Act.put, List.setIfInBounds_toArray, List.set_cons_zero, List.set_cons_succ]
  obtain ⟨c0, c1, hres⟩ := HA9.out.res
  have e0 := hres.cell 0
  have e1 := hres.cell 1
  have e2 := hres.frozen 0
  have e3 := hres.frozen 1
  simp at e0 e1
  refine wpAnyH_ready (rs := [12]) (by kernel_rfl) (by simp) ?_
  refine AllReadyH.cons (o := _) rfl (fun K hK => ?_) AllReadyH.nil
  go_simp
  refine hK.out _ _ ?hS13 (fun hHeld => ?_)
  case hS13 => (refine HS.out _ ?_; repeat (first | exact HAS.out | exact HA3 | exact HA8 | refine AS.drew ?_ | refine AS.alloc ?_ _ | refine AS.put0 ?_ _ | refine AS.put1 ?_ _))
  clear hK K
  try simp only [Act.put, List.setIfInBounds_toArray, List.set_cons_zero, List.set_cons_succ]
  refine Take.take (i := 13) (oi := _) (t := 7) (v := ?v14) rfl (by kernel_rfl) (by kernel_rfl) (by kernel_rfl) (by kernel_rfl) (fun _ _ _ h => h) (by kernel_rfl) ?hy14 (by assumption) ?_
  case hy14 => (intro w hSw; (try dsimp only at hSw); go_simp; try with_reducible rfl)
  try simp only [Act.put, List.setIfInBounds_toArray, List.set_cons_zero, List.set_cons_succ]
  refine wpAnyH_done (by kernel_rfl) ?_ _
  go_wp2_with fail
  have hfin : Blk ((w8.setCell ⟨w.heap.size + 1, 0, none⟩ (.slice (some ⟨b8, 0, none⟩) (S.length + 1) cap8)).setCell ⟨w.heap.size + 1, 1, none⟩ (.int .i64 most)) (w.heap.size + 1) 43 #[.slice (some ⟨b8, 0, none⟩) (S.length + 1) cap8, .int .i64 most] := (hres.put 0 _).put 1 _
  refine bodyPost_ret (results_agg1 (b := w.heap.size + 1) Try.results26 rfl (d := _) rfl (by kernel_rfl) (by kernel_rfl) (rng_blk hfin)) rfl ?_
  exact ⟨b8, cap8, rfl, (HT8.out.put (by show b8 ≠ w.heap.size + 1; omega) _).put (by show b8 ≠ w.heap.size + 1; omega) _, HA9.out.low Llow.out⟩
  go_simp
  refine hK.out _ _ ?hS15 (fun hHeld => ?_)
  case hS15 => (refine HS.out _ ?_; repeat (first | exact HAS.out | exact HA3 | exact HA8 | refine AS.drew ?_ | refine AS.alloc ?_ _ | refine AS.put0 ?_ _ | refine AS.put1 ?_ _))
  clear hK K
  try simp only [Act.put, List.setIfInBounds_toArray, List.set_cons_zero, List.set_cons_succ]
  refine wpAnyH_ready (rs := [3]) (by kernel_rfl) (by simp) ?_
  refine AllReadyH.cons (o := _) rfl (fun K hK => ?_) AllReadyH.nil
  rw [if_pos (by rfl)]
  refine wp_append_maybe _ (.tmp 15) (.tmp 17) 41 rfl X.heap.size 54 i0 _ 2 16 Try.underlying41 Hi0.out Hz0.out Hz1.out Hz2.out rfl (by decide) X.heap.size 0 0 [] rfl (by exact own_empty (by first | exact blk_two X _ _ _ | exact Blk.new X _ _ | exact (Blk.new X _ _).alloc _ | exact Blk.new (X.alloc _) _ _ | exact Blk.new X.drew _ _) (by first | omega | simp)) a S.length cap (tf S) rfl (tf_len S) Hnone.out (fun b e j u hu => Hsrc.out _ (AS.off (by repeat (first | exact HAS.out | refine AS.drew ?_ | refine AS.alloc ?_ _))) b e j u hu) (tf_one' S) (by omega) (by omega) (by first | (simp; omega) | simp) ?_
  intro v3 w3 own3 g3
  have HA3 : AS w X w3 := AS.grown (by repeat (first | exact HAS.out | refine AS.drew ?_ | refine AS.alloc ?_ _)) g3 (fun k hk => .inr (by simp [Value.ownBlock] at hk; omega)) (by simp [Value.ownBlock]; omega)
  rw [Nat.zero_add, List.nil_append] at own3
  have s3 := g3.size
  try simp only [World.size_alloc, size_drew] at s3
  refine hK.out _ _ ?hS16 (fun hHeld => ?_)
  case hS16 => (refine HS.out _ ?_; repeat (first | exact HAS.out | exact HA3 | exact HA8 | refine AS.drew ?_ | refine AS.alloc ?_ _ | refine AS.put0 ?_ _ | refine AS.put1 ?_ _))
  clear hK K
  try simp only [Act.put, List.setIfInBounds_toArray, List.set_cons_zero, List.set_cons_succ]
  have hbB : Blk w3 (X.heap.size + 1) 54 #[.int .i64 due, .int .i64 x] := Blk.grown (blk_drew (blk_two X _ _ _)) g3 (by simp [Value.ownBlock])
  refine wpAnyH_ready (rs := [8]) (by kernel_rfl) (by simp) ?_
  refine AllReadyH.cons (o := _) rfl (fun K hK => ?_) AllReadyH.nil
  rw [if_pos (by rfl)]
  refine wp_append_own _ (.tmp 18) (.tmp 22) 41 rfl X.heap.size 54 i0 _ 2 16 Try.underlying41 Hi0.out Hz0.out Hz1.out Hz2.out rfl (by decide) _ _ _ rfl (own3) ⟨X.heap.size + 1, 0, none⟩ 1 1 [.int .i64 due, .int .i64 x] rfl rfl (World.news_of_block (cs := #[.int .i64 due, .int .i64 x]) (t := 54) (fr := (0, 0)) hbB) (by simp [Value.oneCell']) (by omega) (by omega) (by first | omega | (simp; omega)) ?_
  intro v8 w8 own8 g8 _
  have HA8 : AS w X w8 := AS.grown (by repeat (first | exact HA3 | refine AS.drew ?_ | refine AS.alloc ?_ _)) g8 (fun k hk => .inr (own_high own3 hk.symm)) (own_low own3 (by omega))
  have own9 : w8.ownsRow X.heap.size 54 2 v8 (S.length + 1) (tf (S ++ [⟨due, no, x⟩])) := by rw [tf_append, tf_one]; exact own8
  obtain ⟨b8, cap8, rfl, hb8, hT8⟩ := own_TAt own9 (by simp) (by omega)
  have HT8 := Lib.hid hT8
  have HA9 := Lib.hid HA8
  clear own8 own9 hT8 g8
  refine hK.out _ _ ?hS17 (fun hHeld => ?_)
  case hS17 => (refine HS.out _ ?_; repeat (first | exact HAS.out | exact HA3 | exact HA8 | refine AS.drew ?_ | refine AS.alloc ?_ _ | refine AS.put0 ?_ _ | refine AS.put1 ?_ _))
  clear hK K
  try simp only [Act.put, List.setIfInBounds_toArray, List.set_cons_zero, List.set_cons_succ]
  refine Take.take (i := 11) (oi := _) (t := 26) (v := ?v18) rfl (by kernel_rfl) (by kernel_rfl) (by kernel_rfl) (by kernel_rfl) (fun _ _ _ h => h) (by kernel_rfl) ?hy18 (by assumption) ?_
  case hy18 => (intro w hSw; (try dsimp only at hSw); go_simp; try with_reducible rfl)
  try simp only [Act.put, List.setIfInBounds_toArray, List.set_cons_zero, List.set_cons_succ]
  obtain ⟨c0, c1, hres⟩ := HA9.out.res
  have e0 := hres.cell 0
  have e1 := hres.cell 1
  have e2 := hres.frozen 0
  have e3 := hres.frozen 1
  simp at e0 e1
  refine wpAnyH_ready (rs := [12]) (by kernel_rfl) (by simp) ?_
  refine AllReadyH.cons (o := _) rfl (fun K hK => ?_) AllReadyH.nil
  go_simp
  refine hK.out _ _ ?hS19 (fun hHeld => ?_)
  case hS19 => (refine HS.out _ ?_; repeat (first | exact HAS.out | exact HA3 | exact HA8 | refine AS.drew ?_ | refine AS.alloc ?_ _ | refine AS.put0 ?_ _ | refine AS.put1 ?_ _))
  clear hK K
  try simp only [Act.put, List.setIfInBounds_toArray, List.set_cons_zero, List.set_cons_succ]
  refine Take.take (i := 13) (oi := _) (t := 7) (v := ?v20) rfl (by kernel_rfl) (by kernel_rfl) (by kernel_rfl) (by kernel_rfl) (fun _ _ _ h => h) (by kernel_rfl) ?hy20 (by assumption) ?_
  case hy20 => (intro w hSw; (try dsimp only at hSw); go_simp; try with_reducible rfl)
  try simp only [Act.put, List.setIfInBounds_toArray, List.set_cons_zero, List.set_cons_succ]
  refine wpAnyH_done (by kernel_rfl) ?_ _
  go_wp2_with fail
  have hfin : Blk ((w8.setCell ⟨w.heap.size + 1, 0, none⟩ (.slice (some ⟨b8, 0, none⟩) (S.length + 1) cap8)).setCell ⟨w.heap.size + 1, 1, none⟩ (.int .i64 most)) (w.heap.size + 1) 43 #[.slice (some ⟨b8, 0, none⟩) (S.length + 1) cap8, .int .i64 most] := (hres.put 0 _).put 1 _
  refine bodyPost_ret (results_agg1 (b := w.heap.size + 1) Try.results26 rfl (d := _) rfl (by kernel_rfl) (by kernel_rfl) (rng_blk hfin)) rfl ?_
  exact ⟨b8, cap8, rfl, (HT8.out.put (by show b8 ≠ w.heap.size + 1; omega) _).put (by show b8 ≠ w.heap.size + 1; omega) _, HA9.out.low Llow.out⟩
  go_simp
  refine hK.out _ _ ?hS21 (fun hHeld => ?_)
  case hS21 => (refine HS.out _ ?_; repeat (first | exact HAS.out | exact HA3 | exact HA8 | refine AS.drew ?_ | refine AS.alloc ?_ _ | refine AS.put0 ?_ _ | refine AS.put1 ?_ _))
  clear hK K
  try simp only [Act.put, List.setIfInBounds_toArray, List.set_cons_zero, List.set_cons_succ]
  refine wpAnyH_ready (rs := [0]) (by kernel_rfl) (by simp) ?_
  refine AllReadyH.cons (o := _) rfl (fun K hK => ?_) AllReadyH.nil
  go_simp
  refine hK.out _ _ ?hS22 (fun hHeld => ?_)
  case hS22 => (refine HS.out _ ?_; repeat (first | exact HAS.out | exact HA3 | exact HA8 | refine AS.drew ?_ | refine AS.alloc ?_ _ | refine AS.put0 ?_ _ | refine AS.put1 ?_ _))
  clear hK K
  try simp only [Act.put, List.setIfInBounds_toArray, List.set_cons_zero, List.set_cons_succ]
  refine wpAnyH_ready (rs := [3]) (by kernel_rfl) (by simp) ?_
  refine AllReadyH.cons (o := _) rfl (fun K hK => ?_) AllReadyH.nil
  rw [if_pos (by rfl)]
  refine wp_append_maybe _ (.tmp 15) (.tmp 17) 41 rfl X.heap.size 54 i0 _ 2 16 Try.underlying41 Hi0.out Hz0.out Hz1.out Hz2.out rfl (by decide) (X.heap.size + 1) 0 0 [] rfl (by exact own_empty (by first | exact blk_two X _ _ _ | exact Blk.new X _ _ | exact (Blk.new X _ _).alloc _ | exact Blk.new (X.alloc _) _ _ | exact Blk.new X.drew _ _) (by first | omega | simp)) a S.length cap (tf S) rfl (tf_len S) Hnone.out (fun b e j u hu => Hsrc.out _ (AS.off (by repeat (first | exact HAS.out | refine AS.drew ?_ | refine AS.alloc ?_ _))) b e j u hu) (tf_one' S) (by omega) (by omega) (by first | (simp; omega) | simp) ?_
  intro v3 w3 own3 g3
  have HA3 : AS w X w3 := AS.grown (by repeat (first | exact HAS.out | refine AS.drew ?_ | refine AS.alloc ?_ _)) g3 (fun k hk => .inr (by simp [Value.ownBlock] at hk; omega)) (by simp [Value.ownBlock]; omega)
  rw [Nat.zero_add, List.nil_append] at own3
  have s3 := g3.size
  try simp only [World.size_alloc, size_drew] at s3
  refine hK.out _ _ ?hS23 (fun hHeld => ?_)
  case hS23 => (refine HS.out _ ?_; repeat (first | exact HAS.out | exact HA3 | exact HA8 | refine AS.drew ?_ | refine AS.alloc ?_ _ | refine AS.put0 ?_ _ | refine AS.put1 ?_ _))
  clear hK K
  try simp only [Act.put, List.setIfInBounds_toArray, List.set_cons_zero, List.set_cons_succ]
  have hbB : Blk w3 X.heap.size 54 #[.int .i64 due, .int .i64 x] := Blk.grown (blk_drew ((Blk.new X _ _).alloc _)) g3 (by simp [Value.ownBlock])
  refine wpAnyH_ready (rs := [8]) (by kernel_rfl) (by simp) ?_
  refine AllReadyH.cons (o := _) rfl (fun K hK => ?_) AllReadyH.nil
  rw [if_pos (by rfl)]
  refine wp_append_own _ (.tmp 18) (.tmp 22) 41 rfl X.heap.size 54 i0 _ 2 16 Try.underlying41 Hi0.out Hz0.out Hz1.out Hz2.out rfl (by decide) _ _ _ rfl (own3) ⟨X.heap.size, 0, none⟩ 1 1 [.int .i64 due, .int .i64 x] rfl rfl (World.news_of_block (cs := #[.int .i64 due, .int .i64 x]) (t := 54) (fr := (0, 0)) hbB) (by simp [Value.oneCell']) (by omega) (by omega) (by first | omega | (simp; omega)) ?_
  intro v8 w8 own8 g8 _
  have HA8 : AS w X w8 := AS.grown (by repeat (first | exact HA3 | refine AS.drew ?_ | refine AS.alloc ?_ _)) g8 (fun k hk => .inr (own_high own3 hk.symm)) (own_low own3 (by omega))
  have own9 : w8.ownsRow X.heap.size 54 2 v8 (S.length + 1) (tf (S ++ [⟨due, no, x⟩])) := by rw [tf_append, tf_one]; exact own8
  obtain ⟨b8, cap8, rfl, hb8, hT8⟩ := own_TAt own9 (by simp) (by omega)
  have HT8 := Lib.hid hT8
  have HA9 := Lib.hid HA8
  clear own8 own9 hT8 g8
  refine hK.out _ _ ?hS24 (fun hHeld => ?_)
  case hS24 => (refine HS.out _ ?_; repeat (first | exact HAS.out | exact HA3 | exact HA8 | refine AS.drew ?_ | refine AS.alloc ?_ _ | refine AS.put0 ?_ _ | refine AS.put1 ?_ _))
  clear hK K
  try simp only [Act.put, List.setIfInBounds_toArray, List.set_cons_zero, List.set_cons_succ]
  refine Take.take (i := 11) (oi := _) (t := 26) (v := ?v25) rfl (by kernel_rfl) (by kernel_rfl) (by kernel_rfl) (by kernel_rfl) (fun _ _ _ h => h) (by kernel_rfl) ?hy25 (by assumption) ?_
  case hy25 => (intro w hSw; (try dsimp only at hSw); go_simp; try with_reducible rfl)
  try simp only [Act.put, List.setIfInBounds_toArray, List.set_cons_zero, List.set_cons_succ]
  obtain ⟨c0, c1, hres⟩ := HA9.out.res
  have e0 := hres.cell 0
  have e1 := hres.cell 1
  have e2 := hres.frozen 0
  have e3 := hres.frozen 1
  simp at e0 e1
  refine wpAnyH_ready (rs := [12]) (by kernel_rfl) (by simp) ?_
  refine AllReadyH.cons (o := _) rfl (fun K hK => ?_) AllReadyH.nil
  go_simp
  refine hK.out _ _ ?hS26 (fun hHeld => ?_)
  case hS26 => (refine HS.out _ ?_; repeat (first | exact HAS.out | exact HA3 | exact HA8 | refine AS.drew ?_ | refine AS.alloc ?_ _ | refine AS.put0 ?_ _ | refine AS.put1 ?_ _))
  clear hK K
  try simp only [Act.put, List.setIfInBounds_toArray, List.set_cons_zero, List.set_cons_succ]
  refine Take.take (i := 13) (oi := _) (t := 7) (v := ?v27) rfl (by kernel_rfl) (by kernel_rfl) (by kernel_rfl) (by kernel_rfl) (fun _ _ _ h => h) (by kernel_rfl) ?hy27 (by assumption) ?_
  case hy27 => (intro w hSw; (try dsimp only at hSw); go_simp; try with_reducible rfl)
  try simp only [Act.put, List.setIfInBounds_toArray, List.set_cons_zero, List.set_cons_succ]
  refine wpAnyH_done (by kernel_rfl) ?_ _
  go_wp2_with fail
  have hfin : Blk ((w8.setCell ⟨w.heap.size + 1, 0, none⟩ (.slice (some ⟨b8, 0, none⟩) (S.length + 1) cap8)).setCell ⟨w.heap.size + 1, 1, none⟩ (.int .i64 most)) (w.heap.size + 1) 43 #[.slice (some ⟨b8, 0, none⟩) (S.length + 1) cap8, .int .i64 most] := (hres.put 0 _).put 1 _
  refine bodyPost_ret (results_agg1 (b := w.heap.size + 1) Try.results26 rfl (d := _) rfl (by kernel_rfl) (by kernel_rfl) (rng_blk hfin)) rfl ?_
  exact ⟨b8, cap8, rfl, (HT8.out.put (by show b8 ≠ w.heap.size + 1; omega) _).put (by show b8 ≠ w.heap.size + 1; omega) _, HA9.out.low Llow.out⟩
end Go.Proofs.Ytcicnanchikpjaa.Heap
