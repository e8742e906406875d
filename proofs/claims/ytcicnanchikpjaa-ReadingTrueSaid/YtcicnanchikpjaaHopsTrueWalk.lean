/- The walk of the law HopsTrue. -/
import Derived.Test.YtcicnanchikpjaaHopsLaws
import Derived.Test.YtcicnanchikpjaaRead
namespace Go.Proofs.Ytcicnanchikpjaa.HopsTrue
open Go.Proofs.Ytcicnanchikpjaa.Arith Go.Proofs.Ytcicnanchikpjaa.Span Go.Proofs.Ytcicnanchikpjaa.Hops
open Go.RowKit (wrap64 Below intOf)
open Go.Proofs.Ytcicnanchikpjaa.Read (IntRow)

theorem below_d (w : World) (o : Obj) (n : Nat) : Below w.heap.size w ((w.alloc o).drewN n) :=
  ((Below.refl _ _).alloc (Nat.le_refl _) _).trans ⟨rfl, rfl, rfl, Nat.le_refl _, fun _ _ => rfl⟩
theorem mod_bd {x y : Int} (hy : 1 ≤ y) : 0 ≤ x % y ∧ x % y ≤ y - 1 :=
  ⟨Int.emod_nonneg x (by omega), by have := Int.emod_lt_of_pos x (by omega : 0 < y); omega⟩
theorem tmod_bd (x y : Int) (hy : 1 ≤ y) : -(y - 1) ≤ x.tmod y ∧ x.tmod y ≤ y - 1 := by
  have h := Int.natAbs_tmod x y
  have h2 : (x.tmod y).natAbs < y.natAbs := by rw [h]; exact Nat.mod_lt _ (by omega)
  omega
theorem step_mul (k : Nat) (a T x : Int) (h : (k : Int) * a ≤ T) (hx : a ≤ x) : ((k + 1 : Nat) : Int) * a ≤ T + x := by
  rw [Int.natCast_add, Int.add_mul]; omega
theorem step_mul' (k : Nat) (a T x : Int) (h : T ≤ (k : Int) * a) (hx : x ≤ a) : T + x ≤ ((k + 1 : Nat) : Int) * a := by
  rw [Int.natCast_add, Int.add_mul]; omega
theorem dev_step (i : Nat) (r G d : Int) (h : -(r * i) ≤ G - 1024 * i ∧ G - 1024 * i ≤ r * i) (hd : -r ≤ d ∧ d ≤ r) :
    -(r * ((i + 1 : Nat) : Int)) ≤ G + (1024 + d) - 1024 * ((i + 1 : Nat) : Int) ∧ G + (1024 + d) - 1024 * ((i + 1 : Nat) : Int) ≤ r * ((i + 1 : Nat) : Int) := by
  rw [Int.natCast_add, Int.mul_add]
  omega
/-- What holds ahead of each round of the first loop: k links, T ticks. -/
def L1 (H lo hi : Int) (u i : Value) : Prop := ∃ (k : Nat) (T : Int), (k : Int) ≤ H ∧ i = .int .i64 k ∧ u = .int .i64 T ∧ RowKit.Hid ((k : Int) * lo ≤ T ∧ T ≤ (k : Int) * hi) ∧ 0 ≤ T ∧ T ≤ 8 * k
theorem l1_mk {H lo hi : Int} {u i : Value} (k : Nat) (T : Int) (h1 : (k : Int) ≤ H) (h2 : i = .int .i64 k) (h3 : u = .int .i64 T) (h4 : (k : Int) * lo ≤ T ∧ T ≤ (k : Int) * hi) (h5 : 0 ≤ T) (h6 : T ≤ 8 * k) : L1 H lo hi u i :=
  ⟨k, T, h1, h2, h3, Lib.hid h4, h5, h6⟩
/-- What holds ahead of each round of the second loop: j ticks, G grains. -/
def L2 (T r : Int) (u i : Value) : Prop := ∃ (j : Nat) (G : Int), (j : Int) ≤ T ∧ i = .int .i64 j ∧ u = .int .i64 G ∧ RowKit.Hid (-(r * j) ≤ G - 1024 * j ∧ G - 1024 * j ≤ r * j) ∧ -64 * (j : Int) ≤ G - 1024 * j ∧ G - 1024 * j ≤ 64 * j
theorem l2_mk {T r : Int} {u i : Value} (j : Nat) (G : Int) (h1 : (j : Int) ≤ T) (h2 : i = .int .i64 j) (h3 : u = .int .i64 G) (h4 : -(r * j) ≤ G - 1024 * j ∧ G - 1024 * j ≤ r * j) (h5 : -64 * (j : Int) ≤ G - 1024 * j) (h6 : G - 1024 * j ≤ 64 * j) : L2 T r u i :=
  ⟨j, G, h1, h2, h3, Lib.hid h4, h5, h6⟩
/-- The whole law, in numbers. -/
theorem whole {A B T G r : Int} (h1 : A ≤ T) (h2 : T ≤ B) (hr : 0 ≤ r) (h3 : -(r * T) ≤ G - 1024 * T ∧ G - 1024 * T ≤ r * T) :
    G - (A + B) * 512 ≤ (B - A) * 512 + r * B ∧ (A + B) * 512 - G ≤ (B - A) * 512 + r * B := by
  have : r * T ≤ r * B := Int.mul_le_mul_of_nonneg_left h2 hr
  omega

set_option maxRecDepth 100000 in
set_option maxHeartbeats 4000000 in
theorem lo_all (d0 d1 r : Int) (a1 a2 : Option Addr) (n1 c1 n2 c2 : Nat) (z1 z2 : List Int) (w : World)
    (h0 : 0 ≤ d0 ∧ d0 ≤ 255) (h1 : 0 ≤ d1 ∧ d1 ≤ 255) (hr : 0 ≤ r ∧ r ≤ 255) (r1 : IntRow .u8 w a1 n1 c1 z1) (r2 : IntRow .i8 w a2 n2 c2 z2) (sw : ¬ d1 % 9 < d0 % 9) (hcut : n1 ≤ 20) :
    Calls Try.prog 9 #[.agg #[.int .u8 d0, .int .u8 d1, .int .u8 r, .slice a1 n1 c1, .slice a2 n2 c2]] w fun e w' => e = .returned (.bool true) ∧ Below w.heap.size w w' := by
  have hn1 : n1 ≤ 9223372036854775807 := Nat.le_trans r1.le r1.max
  have hn2 : n2 ≤ 9223372036854775807 := Nat.le_trans r2.le r2.max
  have hg : goodH (n1 : Int) (d0 % 9) (d1 % 9) = true := goodH_iff.2 (by omega)
  have hg' := Lib.hid hg
  have hbd := hb_of hg
  have hrb := prod_small (x := r % 65) (y := (n1 : Int) * (d1 % 9)) (m := 64) (n := 4032) (by omega) (by omega) (by omega) (by omega)
  have hok : okE (n1 : Int) (d0 % 9) (d1 % 9) (r % 65) = true := okE_iff.2 ⟨hg, by omega⟩
  have hok' := Lib.hid hok
  clear hg hok
  have R1 := Lib.hid r1
  have R2 := Lib.hid r2
  clear r1 r2
  go_enter Try.func9, Try.ntmps9
  go_wp2_with fail
  go_quiet (fail)
  go_wp2_with fail
  go_quiet (fail)
  go_wp2_with fail
  go_loop [7, 9] (fun u i => L1 (n1 : Int) (d0 % 9) (d1 % 9) u i) (fun _ i => n1 - (intOf i).toNat)
  case atStart => exact l1_mk 0 0 (by omega) rfl rfl (by simp) (by omega) (by omega)
  case round =>
    obtain ⟨k, T, hk, rfl, rfl, hT, hT0, hT1⟩ := hrel
    by_cases hlt : (k : Int) < (n1 : Int)
    · obtain ⟨b, off, x, rfl, hb, hcell, hx⟩ : ∃ b off x, a1 = some ⟨b, off, none⟩ ∧ b < w.heap.size ∧ w.cell? ⟨b, off + k, none⟩ = some (.int .u8 x) ∧ 0 ≤ x ∧ x ≤ 255 := by
        have r1 := R1.out
        have hle := r1.le
        rcases r1.at' with c | ⟨b, off, e, hb, hc⟩
        · omega
        · exact ⟨b, off, _, e, hb, hc k (by omega), range_u8 r1.wf k⟩
      have hm := mod_bd (x := x) (y := d1 % 9 - d0 % 9 + 1) (by omega)
      have hz : (d1 % 9 - d0 % 9 + 1 == 0) = false := eq_false' (by omega)
      go_wp2_with fail
      go_round
      case rel =>
        have hT' := hT.out
        exact l1_mk (k + 1) (T + (d0 % 9 + x % (d1 % 9 - d0 % 9 + 1))) (by omega) (by go_num) rfl ⟨step_mul _ _ _ _ hT'.1 (by omega), step_mul' _ _ _ _ hT'.2 (by omega)⟩ (by omega) (by omega)
      case measure => simp [intOf]; omega
    · have hkk : k = n1 := by omega
      subst hkk
      go_wp2_with fail
      go_loop [8, 10] (fun u i => L2 T (r % 65) u i) (fun _ i => T.toNat - (intOf i).toNat)
      case atStart => exact l2_mk 0 0 (by omega) rfl rfl (by simp) (by omega) (by omega)
      case round =>
        obtain ⟨j, G, hj, rfl, rfl, hG, hG0, hG1⟩ := hrel
        by_cases hlt : (j : Int) < T
        · by_cases hw : j < n2
          · obtain ⟨b, off, y, rfl, hb, hcell, hy⟩ : ∃ b off y, a2 = some ⟨b, off, none⟩ ∧ b < w.heap.size ∧ w.cell? ⟨b, off + j, none⟩ = some (.int .i8 y) ∧ -128 ≤ y ∧ y ≤ 127 := by
              have r2 := R2.out
              have hle := r2.le
              rcases r2.at' with c | ⟨b, off, e, hb, hc⟩
              · omega
              · exact ⟨b, off, _, e, hb, hc j (by omega), range_i8 r2.wf j⟩
            have hm := tmod_bd y (r % 65 + 1) (by omega)
            have hz : (r % 65 + 1 == 0) = false := eq_false' (by omega)
            go_wp2_with fail
            go_round
            case rel =>
              have hG' := hG.out
              exact l2_mk (j + 1) (G + (1024 + y.tmod (r % 65 + 1))) (by omega) (by go_num) rfl (dev_step j _ G _ hG' (by omega)) (by omega) (by omega)
            case measure => simp [intOf]; omega
          · go_wp2_with fail
            go_round
            case rel =>
              have hG' := hG.out
              exact l2_mk (j + 1) (G + (1024 + 0)) (by omega) (by go_num) (by go_num) (dev_step j _ G 0 hG' (by omega)) (by omega) (by omega)
            case measure => simp [intOf]; omega
        · obtain rfl : T = j := by omega
          have hT' := hT.out
          have hw := whole hT'.1 hT'.2 (by omega : 0 ≤ r % 65) hG.out
          clear hG0
          go_wp2_with fail
          refine (mid_h _ _ _ _).mono ?_
          rintro e w1 ⟨rfl, rfl⟩
          rw [midH_yes hg'.out, hg'.out]
          go_wp2_with fail
          refine (err_h _ _ _ _ _).mono ?_
          rintro e w1 ⟨rfl, rfl⟩
          rw [errH_yes hok'.out, hok'.out]
          go_wp2_with fail
          refine (span_any _ _ _ _).mono ?_
          rintro e w1 ⟨rfl, rfl⟩
          rw [spanLo_yes hg'.out, spanHi_yes hg'.out, hg'.out]
          go_wp2_with fail
          refine (works_any _).mono ?_
          rintro e w1 ⟨rfl, rfl⟩
          go_wp2_with fail
          go_ret
          exact ⟨rfl, below_d _ _ _⟩

set_option maxRecDepth 100000 in
set_option maxHeartbeats 4000000 in
theorem lo_cut (d0 d1 r : Int) (a1 a2 : Option Addr) (n1 c1 n2 c2 : Nat) (z1 z2 : List Int) (w : World)
    (h0 : 0 ≤ d0 ∧ d0 ≤ 255) (h1 : 0 ≤ d1 ∧ d1 ≤ 255) (hr : 0 ≤ r ∧ r ≤ 255) (r1 : IntRow .u8 w a1 n1 c1 z1) (r2 : IntRow .i8 w a2 n2 c2 z2) (sw : ¬ d1 % 9 < d0 % 9) (hcut : 20 < n1) :
    Calls Try.prog 9 #[.agg #[.int .u8 d0, .int .u8 d1, .int .u8 r, .slice a1 n1 c1, .slice a2 n2 c2]] w fun e w' => e = .returned (.bool true) ∧ Below w.heap.size w w' := by
  have hn1 : n1 ≤ 9223372036854775807 := Nat.le_trans r1.le r1.max
  have hn2 : n2 ≤ 9223372036854775807 := Nat.le_trans r2.le r2.max
  have hg : goodH 20 (d0 % 9) (d1 % 9) = true := goodH_iff.2 (by omega)
  have hg' := Lib.hid hg
  have hbd := hb_of hg
  have hrb := prod_small (x := r % 65) (y := 20 * (d1 % 9)) (m := 64) (n := 4032) (by omega) (by omega) (by omega) (by omega)
  have hok : okE 20 (d0 % 9) (d1 % 9) (r % 65) = true := okE_iff.2 ⟨hg, by omega⟩
  have hok' := Lib.hid hok
  clear hg hok
  have R1 := Lib.hid r1
  have R2 := Lib.hid r2
  clear r1 r2
  go_enter Try.func9, Try.ntmps9
  go_wp2_with fail
  go_quiet (fail)
  go_wp2_with fail
  go_quiet (fail)
  go_wp2_with fail
  go_loop [7, 9] (fun u i => L1 20 (d0 % 9) (d1 % 9) u i) (fun _ i => 20 - (intOf i).toNat)
  case atStart => exact l1_mk 0 0 (by omega) rfl rfl (by simp) (by omega) (by omega)
  case round =>
    obtain ⟨k, T, hk, rfl, rfl, hT, hT0, hT1⟩ := hrel
    by_cases hlt : (k : Int) < 20
    · obtain ⟨b, off, x, rfl, hb, hcell, hx⟩ : ∃ b off x, a1 = some ⟨b, off, none⟩ ∧ b < w.heap.size ∧ w.cell? ⟨b, off + k, none⟩ = some (.int .u8 x) ∧ 0 ≤ x ∧ x ≤ 255 := by
        have r1 := R1.out
        have hle := r1.le
        rcases r1.at' with c | ⟨b, off, e, hb, hc⟩
        · omega
        · exact ⟨b, off, _, e, hb, hc k (by omega), range_u8 r1.wf k⟩
      have hm := mod_bd (x := x) (y := d1 % 9 - d0 % 9 + 1) (by omega)
      have hz : (d1 % 9 - d0 % 9 + 1 == 0) = false := eq_false' (by omega)
      go_wp2_with fail
      go_round
      case rel =>
        have hT' := hT.out
        exact l1_mk (k + 1) (T + (d0 % 9 + x % (d1 % 9 - d0 % 9 + 1))) (by omega) (by go_num) rfl ⟨step_mul _ _ _ _ hT'.1 (by omega), step_mul' _ _ _ _ hT'.2 (by omega)⟩ (by omega) (by omega)
      case measure => simp [intOf]; omega
    · have hkk : k = 20 := by omega
      subst hkk
      go_wp2_with fail
      go_loop [8, 10] (fun u i => L2 T (r % 65) u i) (fun _ i => T.toNat - (intOf i).toNat)
      case atStart => exact l2_mk 0 0 (by omega) rfl rfl (by simp) (by omega) (by omega)
      case round =>
        obtain ⟨j, G, hj, rfl, rfl, hG, hG0, hG1⟩ := hrel
        by_cases hlt : (j : Int) < T
        · by_cases hw : j < n2
          · obtain ⟨b, off, y, rfl, hb, hcell, hy⟩ : ∃ b off y, a2 = some ⟨b, off, none⟩ ∧ b < w.heap.size ∧ w.cell? ⟨b, off + j, none⟩ = some (.int .i8 y) ∧ -128 ≤ y ∧ y ≤ 127 := by
              have r2 := R2.out
              have hle := r2.le
              rcases r2.at' with c | ⟨b, off, e, hb, hc⟩
              · omega
              · exact ⟨b, off, _, e, hb, hc j (by omega), range_i8 r2.wf j⟩
            have hm := tmod_bd y (r % 65 + 1) (by omega)
            have hz : (r % 65 + 1 == 0) = false := eq_false' (by omega)
            go_wp2_with fail
            go_round
            case rel =>
              have hG' := hG.out
              exact l2_mk (j + 1) (G + (1024 + y.tmod (r % 65 + 1))) (by omega) (by go_num) rfl (dev_step j _ G _ hG' (by omega)) (by omega) (by omega)
            case measure => simp [intOf]; omega
          · go_wp2_with fail
            go_round
            case rel =>
              have hG' := hG.out
              exact l2_mk (j + 1) (G + (1024 + 0)) (by omega) (by go_num) (by go_num) (dev_step j _ G 0 hG' (by omega)) (by omega) (by omega)
            case measure => simp [intOf]; omega
        · obtain rfl : T = j := by omega
          have hT' := hT.out
          have hw := whole hT'.1 hT'.2 (by omega : 0 ≤ r % 65) hG.out
          have e20 : ((20 : Nat) : Int) = 20 := rfl
          rw [e20] at hT' hw
          clear e20
          go_wp2_with fail
          refine (mid_h _ _ _ _).mono ?_
          rintro e w1 ⟨rfl, rfl⟩
          rw [midH_yes hg'.out, hg'.out]
          go_wp2_with fail
          refine (err_h _ _ _ _ _).mono ?_
          rintro e w1 ⟨rfl, rfl⟩
          rw [errH_yes hok'.out, hok'.out]
          go_wp2_with fail
          refine (span_any _ _ _ _).mono ?_
          rintro e w1 ⟨rfl, rfl⟩
          rw [spanLo_yes hg'.out, spanHi_yes hg'.out, hg'.out]
          go_wp2_with fail
          refine (works_any _).mono ?_
          rintro e w1 ⟨rfl, rfl⟩
          go_wp2_with fail
          go_ret
          exact ⟨rfl, below_d _ _ _⟩

set_option maxRecDepth 100000 in
set_option maxHeartbeats 4000000 in
theorem hi_all (d0 d1 r : Int) (a1 a2 : Option Addr) (n1 c1 n2 c2 : Nat) (z1 z2 : List Int) (w : World)
    (h0 : 0 ≤ d0 ∧ d0 ≤ 255) (h1 : 0 ≤ d1 ∧ d1 ≤ 255) (hr : 0 ≤ r ∧ r ≤ 255) (r1 : IntRow .u8 w a1 n1 c1 z1) (r2 : IntRow .i8 w a2 n2 c2 z2) (sw : d1 % 9 < d0 % 9) (hcut : n1 ≤ 20) :
    Calls Try.prog 9 #[.agg #[.int .u8 d0, .int .u8 d1, .int .u8 r, .slice a1 n1 c1, .slice a2 n2 c2]] w fun e w' => e = .returned (.bool true) ∧ Below w.heap.size w w' := by
  have hn1 : n1 ≤ 9223372036854775807 := Nat.le_trans r1.le r1.max
  have hn2 : n2 ≤ 9223372036854775807 := Nat.le_trans r2.le r2.max
  have hg : goodH (n1 : Int) (d1 % 9) (d0 % 9) = true := goodH_iff.2 (by omega)
  have hg' := Lib.hid hg
  have hbd := hb_of hg
  have hrb := prod_small (x := r % 65) (y := (n1 : Int) * (d0 % 9)) (m := 64) (n := 4032) (by omega) (by omega) (by omega) (by omega)
  have hok : okE (n1 : Int) (d1 % 9) (d0 % 9) (r % 65) = true := okE_iff.2 ⟨hg, by omega⟩
  have hok' := Lib.hid hok
  clear hg hok
  have R1 := Lib.hid r1
  have R2 := Lib.hid r2
  clear r1 r2
  go_enter Try.func9, Try.ntmps9
  go_wp2_with fail
  go_quiet (fail)
  go_wp2_with fail
  go_quiet (fail)
  go_wp2_with fail
  go_loop [7, 9] (fun u i => L1 (n1 : Int) (d1 % 9) (d0 % 9) u i) (fun _ i => n1 - (intOf i).toNat)
  case atStart => exact l1_mk 0 0 (by omega) rfl rfl (by simp) (by omega) (by omega)
  case round =>
    obtain ⟨k, T, hk, rfl, rfl, hT, hT0, hT1⟩ := hrel
    by_cases hlt : (k : Int) < (n1 : Int)
    · obtain ⟨b, off, x, rfl, hb, hcell, hx⟩ : ∃ b off x, a1 = some ⟨b, off, none⟩ ∧ b < w.heap.size ∧ w.cell? ⟨b, off + k, none⟩ = some (.int .u8 x) ∧ 0 ≤ x ∧ x ≤ 255 := by
        have r1 := R1.out
        have hle := r1.le
        rcases r1.at' with c | ⟨b, off, e, hb, hc⟩
        · omega
        · exact ⟨b, off, _, e, hb, hc k (by omega), range_u8 r1.wf k⟩
      have hm := mod_bd (x := x) (y := d0 % 9 - d1 % 9 + 1) (by omega)
      have hz : (d0 % 9 - d1 % 9 + 1 == 0) = false := eq_false' (by omega)
      go_wp2_with fail
      go_round
      case rel =>
        have hT' := hT.out
        exact l1_mk (k + 1) (T + (d1 % 9 + x % (d0 % 9 - d1 % 9 + 1))) (by omega) (by go_num) rfl ⟨step_mul _ _ _ _ hT'.1 (by omega), step_mul' _ _ _ _ hT'.2 (by omega)⟩ (by omega) (by omega)
      case measure => simp [intOf]; omega
    · have hkk : k = n1 := by omega
      subst hkk
      go_wp2_with fail
      go_loop [8, 10] (fun u i => L2 T (r % 65) u i) (fun _ i => T.toNat - (intOf i).toNat)
      case atStart => exact l2_mk 0 0 (by omega) rfl rfl (by simp) (by omega) (by omega)
      case round =>
        obtain ⟨j, G, hj, rfl, rfl, hG, hG0, hG1⟩ := hrel
        by_cases hlt : (j : Int) < T
        · by_cases hw : j < n2
          · obtain ⟨b, off, y, rfl, hb, hcell, hy⟩ : ∃ b off y, a2 = some ⟨b, off, none⟩ ∧ b < w.heap.size ∧ w.cell? ⟨b, off + j, none⟩ = some (.int .i8 y) ∧ -128 ≤ y ∧ y ≤ 127 := by
              have r2 := R2.out
              have hle := r2.le
              rcases r2.at' with c | ⟨b, off, e, hb, hc⟩
              · omega
              · exact ⟨b, off, _, e, hb, hc j (by omega), range_i8 r2.wf j⟩
            have hm := tmod_bd y (r % 65 + 1) (by omega)
            have hz : (r % 65 + 1 == 0) = false := eq_false' (by omega)
            go_wp2_with fail
            go_round
            case rel =>
              have hG' := hG.out
              exact l2_mk (j + 1) (G + (1024 + y.tmod (r % 65 + 1))) (by omega) (by go_num) rfl (dev_step j _ G _ hG' (by omega)) (by omega) (by omega)
            case measure => simp [intOf]; omega
          · go_wp2_with fail
            go_round
            case rel =>
              have hG' := hG.out
              exact l2_mk (j + 1) (G + (1024 + 0)) (by omega) (by go_num) (by go_num) (dev_step j _ G 0 hG' (by omega)) (by omega) (by omega)
            case measure => simp [intOf]; omega
        · obtain rfl : T = j := by omega
          have hT' := hT.out
          have hw := whole hT'.1 hT'.2 (by omega : 0 ≤ r % 65) hG.out
          clear hG0
          go_wp2_with fail
          refine (mid_h _ _ _ _).mono ?_
          rintro e w1 ⟨rfl, rfl⟩
          rw [midH_yes hg'.out, hg'.out]
          go_wp2_with fail
          refine (err_h _ _ _ _ _).mono ?_
          rintro e w1 ⟨rfl, rfl⟩
          rw [errH_yes hok'.out, hok'.out]
          go_wp2_with fail
          refine (span_any _ _ _ _).mono ?_
          rintro e w1 ⟨rfl, rfl⟩
          rw [spanLo_yes hg'.out, spanHi_yes hg'.out, hg'.out]
          go_wp2_with fail
          refine (works_any _).mono ?_
          rintro e w1 ⟨rfl, rfl⟩
          go_wp2_with fail
          go_ret
          exact ⟨rfl, below_d _ _ _⟩

set_option maxRecDepth 100000 in
set_option maxHeartbeats 4000000 in
theorem hi_cut (d0 d1 r : Int) (a1 a2 : Option Addr) (n1 c1 n2 c2 : Nat) (z1 z2 : List Int) (w : World)
    (h0 : 0 ≤ d0 ∧ d0 ≤ 255) (h1 : 0 ≤ d1 ∧ d1 ≤ 255) (hr : 0 ≤ r ∧ r ≤ 255) (r1 : IntRow .u8 w a1 n1 c1 z1) (r2 : IntRow .i8 w a2 n2 c2 z2) (sw : d1 % 9 < d0 % 9) (hcut : 20 < n1) :
    Calls Try.prog 9 #[.agg #[.int .u8 d0, .int .u8 d1, .int .u8 r, .slice a1 n1 c1, .slice a2 n2 c2]] w fun e w' => e = .returned (.bool true) ∧ Below w.heap.size w w' := by
  have hn1 : n1 ≤ 9223372036854775807 := Nat.le_trans r1.le r1.max
  have hn2 : n2 ≤ 9223372036854775807 := Nat.le_trans r2.le r2.max
  have hg : goodH 20 (d1 % 9) (d0 % 9) = true := goodH_iff.2 (by omega)
  have hg' := Lib.hid hg
  have hbd := hb_of hg
  have hrb := prod_small (x := r % 65) (y := 20 * (d0 % 9)) (m := 64) (n := 4032) (by omega) (by omega) (by omega) (by omega)
  have hok : okE 20 (d1 % 9) (d0 % 9) (r % 65) = true := okE_iff.2 ⟨hg, by omega⟩
  have hok' := Lib.hid hok
  clear hg hok
  have R1 := Lib.hid r1
  have R2 := Lib.hid r2
  clear r1 r2
  go_enter Try.func9, Try.ntmps9
  go_wp2_with fail
  go_quiet (fail)
  go_wp2_with fail
  go_quiet (fail)
  go_wp2_with fail
  go_loop [7, 9] (fun u i => L1 20 (d1 % 9) (d0 % 9) u i) (fun _ i => 20 - (intOf i).toNat)
  case atStart => exact l1_mk 0 0 (by omega) rfl rfl (by simp) (by omega) (by omega)
  case round =>
    obtain ⟨k, T, hk, rfl, rfl, hT, hT0, hT1⟩ := hrel
    by_cases hlt : (k : Int) < 20
    · obtain ⟨b, off, x, rfl, hb, hcell, hx⟩ : ∃ b off x, a1 = some ⟨b, off, none⟩ ∧ b < w.heap.size ∧ w.cell? ⟨b, off + k, none⟩ = some (.int .u8 x) ∧ 0 ≤ x ∧ x ≤ 255 := by
        have r1 := R1.out
        have hle := r1.le
        rcases r1.at' with c | ⟨b, off, e, hb, hc⟩
        · omega
        · exact ⟨b, off, _, e, hb, hc k (by omega), range_u8 r1.wf k⟩
      have hm := mod_bd (x := x) (y := d0 % 9 - d1 % 9 + 1) (by omega)
      have hz : (d0 % 9 - d1 % 9 + 1 == 0) = false := eq_false' (by omega)
      go_wp2_with fail
      go_round
      case rel =>
        have hT' := hT.out
        exact l1_mk (k + 1) (T + (d1 % 9 + x % (d0 % 9 - d1 % 9 + 1))) (by omega) (by go_num) rfl ⟨step_mul _ _ _ _ hT'.1 (by omega), step_mul' _ _ _ _ hT'.2 (by omega)⟩ (by omega) (by omega)
      case measure => simp [intOf]; omega
    · have hkk : k = 20 := by omega
      subst hkk
      go_wp2_with fail
      go_loop [8, 10] (fun u i => L2 T (r % 65) u i) (fun _ i => T.toNat - (intOf i).toNat)
      case atStart => exact l2_mk 0 0 (by omega) rfl rfl (by simp) (by omega) (by omega)
      case round =>
        obtain ⟨j, G, hj, rfl, rfl, hG, hG0, hG1⟩ := hrel
        by_cases hlt : (j : Int) < T
        · by_cases hw : j < n2
          · obtain ⟨b, off, y, rfl, hb, hcell, hy⟩ : ∃ b off y, a2 = some ⟨b, off, none⟩ ∧ b < w.heap.size ∧ w.cell? ⟨b, off + j, none⟩ = some (.int .i8 y) ∧ -128 ≤ y ∧ y ≤ 127 := by
              have r2 := R2.out
              have hle := r2.le
              rcases r2.at' with c | ⟨b, off, e, hb, hc⟩
              · omega
              · exact ⟨b, off, _, e, hb, hc j (by omega), range_i8 r2.wf j⟩
            have hm := tmod_bd y (r % 65 + 1) (by omega)
            have hz : (r % 65 + 1 == 0) = false := eq_false' (by omega)
            go_wp2_with fail
            go_round
            case rel =>
              have hG' := hG.out
              exact l2_mk (j + 1) (G + (1024 + y.tmod (r % 65 + 1))) (by omega) (by go_num) rfl (dev_step j _ G _ hG' (by omega)) (by omega) (by omega)
            case measure => simp [intOf]; omega
          · go_wp2_with fail
            go_round
            case rel =>
              have hG' := hG.out
              exact l2_mk (j + 1) (G + (1024 + 0)) (by omega) (by go_num) (by go_num) (dev_step j _ G 0 hG' (by omega)) (by omega) (by omega)
            case measure => simp [intOf]; omega
        · obtain rfl : T = j := by omega
          have hT' := hT.out
          have hw := whole hT'.1 hT'.2 (by omega : 0 ≤ r % 65) hG.out
          have e20 : ((20 : Nat) : Int) = 20 := rfl
          rw [e20] at hT' hw
          clear e20
          go_wp2_with fail
          refine (mid_h _ _ _ _).mono ?_
          rintro e w1 ⟨rfl, rfl⟩
          rw [midH_yes hg'.out, hg'.out]
          go_wp2_with fail
          refine (err_h _ _ _ _ _).mono ?_
          rintro e w1 ⟨rfl, rfl⟩
          rw [errH_yes hok'.out, hok'.out]
          go_wp2_with fail
          refine (span_any _ _ _ _).mono ?_
          rintro e w1 ⟨rfl, rfl⟩
          rw [spanLo_yes hg'.out, spanHi_yes hg'.out, hg'.out]
          go_wp2_with fail
          refine (works_any _).mono ?_
          rintro e w1 ⟨rfl, rfl⟩
          go_wp2_with fail
          go_ret
          exact ⟨rfl, below_d _ _ _⟩

theorem true_walk (d0 d1 r : Int) (a1 a2 : Option Addr) (n1 c1 n2 c2 : Nat) (z1 z2 : List Int) (w : World)
    (h0 : 0 ≤ d0 ∧ d0 ≤ 255) (h1 : 0 ≤ d1 ∧ d1 ≤ 255) (hr : 0 ≤ r ∧ r ≤ 255) (r1 : IntRow .u8 w a1 n1 c1 z1) (r2 : IntRow .i8 w a2 n2 c2 z2) :
    Calls Try.prog 9 #[.agg #[.int .u8 d0, .int .u8 d1, .int .u8 r, .slice a1 n1 c1, .slice a2 n2 c2]] w fun e w' => e = .returned (.bool true) ∧ Below w.heap.size w w' := by
  by_cases sw : d1 % 9 < d0 % 9 <;> by_cases hc : n1 ≤ 20
  · exact hi_all d0 d1 r a1 a2 n1 c1 n2 c2 z1 z2 w h0 h1 hr r1 r2 sw hc
  · exact hi_cut d0 d1 r a1 a2 n1 c1 n2 c2 z1 z2 w h0 h1 hr r1 r2 sw (by omega)
  · exact lo_all d0 d1 r a1 a2 n1 c1 n2 c2 z1 z2 w h0 h1 hr r1 r2 sw hc
  · exact lo_cut d0 d1 r a1 a2 n1 c1 n2 c2 z1 z2 w h0 h1 hr r1 r2 sw (by omega)
end Go.Proofs.Ytcicnanchikpjaa.HopsTrue
