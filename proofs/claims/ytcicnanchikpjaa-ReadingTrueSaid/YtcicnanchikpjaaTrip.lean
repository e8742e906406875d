/- Contracts of the functions bounds and went of layer 23's laws, and what they come to in numbers. -/
import Derived.Test.YtcicnanchikpjaaReading2
import Derived.Test.YtcicnanchikpjaaHopsTrueWalk
namespace Go.Proofs.Ytcicnanchikpjaa.Trip
open Go.Proofs.Ytcicnanchikpjaa.Arith Go.Proofs.Ytcicnanchikpjaa.Span Go.Proofs.Ytcicnanchikpjaa.Hops Go.Proofs.Ytcicnanchikpjaa.Reading
open Go.RowKit (wrap64 Below intOf)
open Go.Proofs.Ytcicnanchikpjaa.Read (IntRow)
open Go.Proofs.Ytcicnanchikpjaa.HopsTrue (tmod_bd below_d mod_bd L1 l1_mk step_mul step_mul' whole)

theorem below_dd (w : World) (o : Obj) (m n : Nat) : Below w.heap.size w (((w.alloc o).drewN m).drewN n) :=
  (below_d w o m).trans ⟨rfl, rfl, rfl, Nat.le_refl _, fun _ _ => rfl⟩
/-- A trip's cells. -/
def trip (d0 d1 r s th ba : Int) (own other : Value) (sent val : Int) : Array Value :=
  #[.int .u8 d0, .int .u8 d1, .int .u8 r, .int .u8 s, .int .u8 th, .int .u8 ba, own, other, .int .u32 sent, .int .u32 val]
def bLo (x y : Int) : Int := if y % 9 < x % 9 then y % 9 else x % 9
def bHi (x y : Int) : Int := if y % 9 < x % 9 then x % 9 else y % 9
theorem b_bd (x y : Int) : 0 ≤ bLo x y ∧ bLo x y ≤ bHi x y ∧ bHi x y ≤ 8 := by
  unfold bLo bHi; split <;> omega

set_option maxHeartbeats 1000000 in
theorem bounds_any (d0 d1 r s th ba : Int) (a1 a2 : Option Addr) (n1 c1 n2 c2 : Nat) (sent val : Int) (w : World)
    (h0 : 0 ≤ d0 ∧ d0 ≤ 255) (h1 : 0 ≤ d1 ∧ d1 ≤ 255) (hr : 0 ≤ r ∧ r ≤ 255) (hs : 0 ≤ s ∧ s ≤ 255) :
    Calls Try.prog 49 #[.agg #[.int .u8 d0, .int .u8 d1, .int .u8 r, .int .u8 s, .int .u8 th, .int .u8 ba, .slice a1 n1 c1, .slice a2 n2 c2, .int .u32 sent, .int .u32 val]] w fun e w' =>
      e = .returned (.tuple #[.int .i64 (bLo d0 d1), .int .i64 (bHi d0 d1), .int .i64 (r % 65), .int .i64 (s + 1)]) ∧ Below w.heap.size w w' := by
  by_cases sw : d1 % 9 < d0 % 9
  · have e1 := Lib.hid (by unfold bLo; rw [if_pos sw] : bLo d0 d1 = d1 % 9)
    have e2 := Lib.hid (by unfold bHi; rw [if_pos sw] : bHi d0 d1 = d0 % 9)
    go_enter Try.func49, Try.ntmps49
    go_wp2_with fail
    go_quiet (fail)
    go_wp2_with fail
    go_quiet (fail)
    go_wp2_with fail
    exact bodyPost_ret (v := .tuple #[.int .i64 (bLo d0 d1), .int .i64 (bHi d0 d1), .int .i64 (r % 65), .int .i64 (s + 1)]) (by simp [results, Try.results49, go_sem, e1.out, e2.out]) rfl ⟨rfl, below_dd _ _ _ _⟩
  · have e1 := Lib.hid (by unfold bLo; rw [if_neg sw] : bLo d0 d1 = d0 % 9)
    have e2 := Lib.hid (by unfold bHi; rw [if_neg sw] : bHi d0 d1 = d1 % 9)
    go_enter Try.func49, Try.ntmps49
    go_wp2_with fail
    go_quiet (fail)
    go_wp2_with fail
    go_quiet (fail)
    go_wp2_with fail
    exact bodyPost_ret (v := .tuple #[.int .i64 (bLo d0 d1), .int .i64 (bHi d0 d1), .int .i64 (r % 65), .int .i64 (s + 1)]) (by simp [results, Try.results49, go_sem, e1.out, e2.out]) rfl ⟨rfl, below_dd _ _ _ _⟩

/-- By how much a clock goes on: from tick f on, for k ticks, wrong by what stands in z (n numbers). -/
def wentF (z : List Int) (n f : Nat) (m : Int) : Nat → Int
  | 0 => 0
  | k + 1 => wentF z n f m k + 1024 + (if f + k < n then (z[f + k]?.getD 0).tmod (m + 1) else 0)
theorem went_bd (z : List Int) (n f : Nat) (m : Int) (hm : 0 ≤ m) : ∀ k : Nat, -(m * k) ≤ wentF z n f m k - 1024 * k ∧ wentF z n f m k - 1024 * k ≤ m * k
  | 0 => by simp [wentF]
  | k + 1 => by
    have ih := went_bd z n f m hm k
    have hb := tmod_bd (z[f + k]?.getD 0) (m + 1) (by omega)
    rw [wentF, Int.natCast_add, Int.mul_add]
    split <;> omega
theorem went_lin (z : List Int) (n f : Nat) (m : Int) (hm : 0 ≤ m ∧ m ≤ 320) (k : Nat) : -(320 * (k : Int)) ≤ wentF z n f m k - 1024 * k ∧ wentF z n f m k - 1024 * k ≤ 320 * (k : Int) := by
  have h := went_bd z n f m hm.1 k
  have h2 : m * k ≤ 320 * (k : Int) := Int.mul_le_mul_of_nonneg_right hm.2 (by omega)
  omega

/-- What holds ahead of each round: k ticks of T. -/
def L3 (z : List Int) (n f T : Nat) (m : Int) (g i : Value) : Prop := ∃ (k : Nat) (G : Int), k ≤ T ∧ i = .int .i64 ((f : Int) + k) ∧ g = .int .i64 G ∧ RowKit.Hid (G = wentF z n f m k) ∧ -(320 * (k : Int)) ≤ G - 1024 * k ∧ G - 1024 * k ≤ 320 * (k : Int)
theorem l3_mk {z : List Int} {n f T : Nat} {m : Int} {g i : Value} (k : Nat) (hm : 0 ≤ m ∧ m ≤ 320) (h1 : k ≤ T) (h2 : i = .int .i64 ((f : Int) + k)) (h3 : g = .int .i64 (wentF z n f m k)) : L3 z n f T m g i :=
  ⟨k, _, h1, h2, h3, Lib.hid rfl, went_lin z n f m hm k⟩
theorem went_in {z : List Int} {n f : Nat} {m : Int} (k : Nat) (h : f + k < n) : wentF z n f m (k + 1) = wentF z n f m k + 1024 + (z[f + k]?.getD 0).tmod (m + 1) := by rw [wentF, if_pos h]
theorem went_out {z : List Int} {n f : Nat} {m : Int} (k : Nat) (h : ¬ f + k < n) : wentF z n f m (k + 1) = wentF z n f m k + 1024 := by rw [wentF, if_neg h]; omega

set_option maxHeartbeats 1000000 in
theorem went_any (a : Option Addr) (n c : Nat) (z : List Int) (f T : Nat) (m : Int) (w : World) (R : IntRow .i16 w a n c z) (hf : f ≤ 100) (hT : T ≤ 1000) (hm : 0 ≤ m ∧ m ≤ 320) :
    Calls Try.prog 50 #[.slice a n c, .int .i64 f, .int .i64 T, .int .i64 m] w fun e w' => e = .returned (.int .i64 (wentF z n f m T)) ∧ w = w' := by
  have hn : n ≤ 9223372036854775807 := Nat.le_trans R.le R.max
  have R1 := Lib.hid R
  clear R
  go_enter Try.func50, Try.ntmps50
  go_wp2_with fail
  go_loop [9, 10] (fun g i => L3 z n f T m g i) (fun _ i => f + T - (intOf i).toNat)
  case atStart => exact l3_mk 0 hm (by omega) (by simp) rfl
  case round =>
    obtain ⟨k, G, hk, rfl, rfl, hG, g0, g1⟩ := hrel
    by_cases hlt : k < T
    · by_cases hin : f + k < n
      · obtain ⟨b, off, x, rfl, hb, hcell, hx, hnext⟩ : ∃ b off x, a = some ⟨b, off, none⟩ ∧ b < w.heap.size ∧ w.cell? ⟨b, off + (f + k), none⟩ = some (.int .i16 x) ∧ (-32768 ≤ x ∧ x ≤ 32767) ∧ RowKit.Hid (wentF z n f m (k + 1) = wentF z n f m k + 1024 + x.tmod (m + 1)) := by
          have r1 := R1.out
          have hle := r1.le
          rcases r1.at' with c0 | ⟨b, off, e, hb, hc⟩
          · omega
          · exact ⟨b, off, _, e, hb, hc (f + k) (by omega), range_i16 r1.wf (f + k), Lib.hid (went_in k hin)⟩
        have hm' := tmod_bd x (m + 1) (by omega)
        have hz : (m + 1 == 0) = false := eq_false' (by omega)
        go_wp2_with fail
        go_round
        case rel => exact l3_mk (k + 1) hm (by omega) (by go_num) (by rw [hnext.out, ← hG.out])
        case measure => simp [intOf]; omega
      · have hnext := Lib.hid (went_out (z := z) (m := m) k hin)
        go_wp2_with fail
        go_round
        case rel => exact l3_mk (k + 1) hm (by omega) (by go_num) (by rw [hnext.out, ← hG.out])
        case measure => simp [intOf]; omega
    · have hkk : k = T := by omega
      subst hkk
      go_wp2_with fail
      go_ret
      exact ⟨ret1 hG.out, rfl⟩
theorem went_int (a : Option Addr) (n c : Nat) (z : List Int) (f T m : Int) (w : World) (R : IntRow .i16 w a n c z) (hf : 0 ≤ f ∧ f ≤ 100) (hT : 0 ≤ T ∧ T ≤ 1000) (hm : 0 ≤ m ∧ m ≤ 320) :
    Calls Try.prog 50 #[.slice a n c, .int .i64 f, .int .i64 T, .int .i64 m] w fun e w' => e = .returned (.int .i64 (wentF z n f.toNat m T.toNat)) ∧ w = w' := by
  obtain ⟨f, rfl⟩ := Int.eq_ofNat_of_zero_le hf.1
  obtain ⟨T, rfl⟩ := Int.eq_ofNat_of_zero_le hT.1
  exact went_any a n c z f T m w R (by omega) (by omega) hm

/-- A row lies on where nothing that was there has turned. -/
theorem row_below {k : IntKind} {w w' : World} {a : Option Addr} {len cap : Nat} {zs : List Int} (h : IntRow k w a len cap zs) (hb : Below w.heap.size w w') : IntRow k w' a len cap zs :=
  ⟨h.le, h.max, h.size, h.wf, h.at'.elim .inl fun ⟨b, off, e, hlt, hc⟩ => .inr ⟨b, off, e, Nat.lt_of_lt_of_le hlt hb.size, fun i hi => (hb.cell (p := ⟨b, off + i, none⟩) hlt).trans (hc i hi)⟩⟩
theorem below_dN {B : Nat} {a w : World} (h : Below B a w) (n : Nat) : Below B a (w.drewN n) := h.trans ⟨rfl, rfl, rfl, Nat.le_refl _, fun _ _ => rfl⟩
/-- A callee that leaves the world alone, met in a region that only reads: behind draws. -/
theorem quiet_l {f : FuncId} {args : Array Value} {w : World} {n : Nat} {v : Value} (h : Calls Try.prog f args (w.drewN n) fun e w' => e = .returned v ∧ w.drewN n = w') :
    Calls Try.prog f args (w.drewN n) fun e w'' => e = .returned v ∧ ∃ m, w'' = w.drewN m := h.mono fun _ _ ⟨he, hm⟩ => ⟨he, n, hm.symm⟩
theorem quiet_l2 {f : FuncId} {args : Array Value} {w : World} {a n : Nat} {v : Value} (h : Calls Try.prog f args (w.drewN (a + n)) fun e w' => e = .returned v ∧ w.drewN (a + n) = w') :
    Calls Try.prog f args (w.drewN (a + n)) fun e w'' => e = .returned v ∧ ∃ m, w'' = w.drewN (a + m) := h.mono fun _ _ ⟨he, hm⟩ => ⟨he, n, hm.symm⟩
theorem row_dN {k : IntKind} {w : World} {a : Option Addr} {len cap : Nat} {zs : List Int} (h : IntRow k w a len cap zs) (n : Nat) : IntRow k (w.drewN n) a len cap zs :=
  row_below h ⟨rfl, rfl, rfl, Nat.le_refl _, fun _ _ => rfl⟩
end Go.Proofs.Ytcicnanchikpjaa.Trip
