/-
  Plain arithmetic of int64 and of bits, with no program in sight: signs of 'and', 'xor'; the middle of two numbers by their bits; what fits an int64.
-/
import Derived.Laws.Entries
import Derived.IntWalk
namespace Go.Proofs.YtpbabpbinojodaaDoor.Arith
open Go.RowKit (wrap64)

/-- It fits an int64. -/
def inr (x : Int) : Bool := decide (-9223372036854775808 ≤ x ∧ x ≤ 9223372036854775807)
/-- What is handed back: it, or 0 where it does not fit. -/
def fit (x : Int) : Int := if inr x then x else 0
def I64 (x : Int) : Prop := -9223372036854775808 ≤ x ∧ x ≤ 9223372036854775807

theorem inr_iff {x : Int} : inr x = true ↔ I64 x := by simp [inr, I64]
theorem fit_of {x : Int} (h : I64 x) : fit x = x := by rw [fit, if_pos (inr_iff.2 h)]
theorem fit_not {x : Int} (h : ¬ I64 x) : fit x = 0 := by rw [fit, if_neg (fun e => h (inr_iff.1 e))]
theorem inr_of {x : Int} (h : I64 x) : inr x = true := inr_iff.2 h
theorem inr_not {x : Int} (h : ¬ I64 x) : inr x = false := by
  cases e : inr x
  · rfl
  · exact absurd (inr_iff.1 e) h
theorem fit_I64 (x : Int) : I64 (fit x) := by
  by_cases h : I64 x
  · rw [fit_of h]; exact h
  · rw [fit_not h]; unfold I64; omega

theorem wrap64_I64 (x : Int) : I64 (wrap64 x) := by unfold wrap64 I64; omega
theorem wrap_toInt (v : BitVec 64) : IntKind.i64.wrap (v.toNat : Int) = v.toInt := by
  rw [IntKind.wrap_i64, BitVec.toInt_eq_toNat_cond]
  have := v.isLt
  split <;> omega
theorem toInt_of {x : Int} (h : I64 x) : (BitVec.ofInt 64 x).toInt = x := by
  unfold I64 at h
  rw [BitVec.toInt_ofInt]
  show x.bmod 18446744073709551616 = x
  rw [Int.bmod_def]
  split <;> omega
theorem msb_of {x : Int} (h : I64 x) : (BitVec.ofInt 64 x).msb = decide (x < 0) := by
  rw [BitVec.msb_eq_toInt, toInt_of h]

theorem and_neg {x y : Int} (hx : I64 x) (hy : I64 y) : bits .and .i64 x y < 0 ↔ (x < 0 ∧ y < 0) := by
  show IntKind.i64.wrap (BitVec.toNat (BitVec.ofInt 64 x &&& BitVec.ofInt 64 y) : Int) < 0 ↔ _
  rw [wrap_toInt]
  have := BitVec.msb_eq_toInt (x := BitVec.ofInt 64 x &&& BitVec.ofInt 64 y)
  rw [BitVec.msb_and, msb_of hx, msb_of hy] at this
  have h2 := congrArg (· = true) this
  simp only [Bool.and_eq_true, decide_eq_true_eq] at h2
  exact ⟨fun h => by rw [h2]; exact h, fun h => by rw [h2] at h; exact h⟩
theorem xor_neg {x y : Int} (hx : I64 x) (hy : I64 y) : bits .xor .i64 x y < 0 ↔ ¬ ((x < 0) ↔ (y < 0)) := by
  show IntKind.i64.wrap (BitVec.toNat (BitVec.ofInt 64 x ^^^ BitVec.ofInt 64 y) : Int) < 0 ↔ _
  rw [wrap_toInt]
  have := BitVec.msb_eq_toInt (x := BitVec.ofInt 64 x ^^^ BitVec.ofInt 64 y)
  rw [BitVec.msb_xor, msb_of hx, msb_of hy] at this
  have h2 := congrArg (· = true) this
  simp only [decide_eq_true_eq] at h2
  rw [← h2]
  by_cases a : x < 0 <;> by_cases b : y < 0 <;> simp [a, b]
theorem bits_I64 (op : BinOp) (x y : Int) : I64 (bits op .i64 x y) := by
  unfold bits
  show I64 (IntKind.i64.wrap _)
  rw [IntKind.wrap_i64]
  unfold I64
  omega

/-- (s^a)&(s^b) < 0 tells whether the sum is too great. -/
theorem add_over {a b : Int} (ha : I64 a) (hb : I64 b) :
    bits .and .i64 (bits .xor .i64 (wrap64 (a + b)) a) (bits .xor .i64 (wrap64 (a + b)) b) < 0 ↔ ¬ I64 (a + b) := by
  have hs := wrap64_I64 (a + b)
  rw [and_neg (bits_I64 _ _ _) (bits_I64 _ _ _), xor_neg hs ha, xor_neg hs hb]
  unfold I64 wrap64 at *
  omega
/-- (a^b)&(a^d) < 0 tells whether the difference is too great. -/
theorem sub_over {a b : Int} (ha : I64 a) (hb : I64 b) :
    bits .and .i64 (bits .xor .i64 a b) (bits .xor .i64 a (wrap64 (a - b))) < 0 ↔ ¬ I64 (a - b) := by
  have hs := wrap64_I64 (a - b)
  rw [and_neg (bits_I64 _ _ _) (bits_I64 _ _ _), xor_neg ha hs, xor_neg ha hb]
  unfold I64 wrap64 at *
  omega

/-- x + y by bits. -/
theorem nat_add_bits (x : Nat) : ∀ y : Nat, 2 * (x &&& y) + (x ^^^ y) = x + y := by
  induction x using Nat.strongRecOn with
  | _ x ih =>
    intro y
    by_cases hx : x = 0
    · subst hx; simp
    · have h := ih (x / 2) (by omega) (y / 2)
      have a1 : (x &&& y) / 2 = x / 2 &&& y / 2 := Nat.and_div_two
      have a2 : (x ^^^ y) / 2 = x / 2 ^^^ y / 2 := Nat.xor_div_two
      have b1 : (x &&& y) % 2 = (x % 2) &&& (y % 2) := Nat.and_mod_two_pow (n := 1)
      have b2 : (x ^^^ y) % 2 = (x % 2) ^^^ (y % 2) := Nat.xor_mod_two_pow (n := 1)
      rw [← a1, ← a2] at h
      have c1 : (x &&& y) % 2 = (x % 2) * (y % 2) := by
        rw [b1]; rcases Nat.mod_two_eq_zero_or_one x with p | p <;> rcases Nat.mod_two_eq_zero_or_one y with q | q <;> rw [p, q] <;> rfl
      have c2 : (x ^^^ y) % 2 = (x + y) % 2 := by
        rw [b2, Nat.add_mod]; rcases Nat.mod_two_eq_zero_or_one x with p | p <;> rcases Nat.mod_two_eq_zero_or_one y with q | q <;> rw [p, q] <;> rfl
      clear a1 a2 b1 b2 ih
      generalize x &&& y = m at *
      generalize x ^^^ y = n at *
      rcases Nat.mod_two_eq_zero_or_one x with p | p <;> rcases Nat.mod_two_eq_zero_or_one y with q | q <;>
        (rw [p, q] at c1; omega)

theorem toNat_of {x : Int} (h : I64 x) : ((BitVec.ofInt 64 x).toNat : Int) = if x < 0 then x + 18446744073709551616 else x := by
  unfold I64 at h
  rw [BitVec.toNat_ofInt]
  show ((x % ((18446744073709551616 : Nat) : Int)).toNat : Int) = _
  split <;> omega

/-- The bits that both have, and half of those that one has. -/
theorem mid_bits {a b : Int} (ha : I64 a) (hb : I64 b) : 2 * bits .and .i64 a b + bits .xor .i64 a b = a + b := by
  have e1 : bits .and .i64 a b = (BitVec.ofInt 64 a &&& BitVec.ofInt 64 b).toInt := by rw [← wrap_toInt]; rfl
  have e2 : bits .xor .i64 a b = (BitVec.ofInt 64 a ^^^ BitVec.ofInt 64 b).toInt := by rw [← wrap_toInt]; rfl
  have n1 := and_neg ha hb
  have n2 := xor_neg ha hb
  have k1 := toNat_of (x := bits .and .i64 a b) (bits_I64 _ _ _)
  have k2 := toNat_of (x := bits .xor .i64 a b) (bits_I64 _ _ _)
  rw [e1, BitVec.ofInt_toInt] at k1
  rw [e2, BitVec.ofInt_toInt] at k2
  rw [← e1] at k1
  rw [← e2] at k2
  have h := nat_add_bits (BitVec.ofInt 64 a).toNat (BitVec.ofInt 64 b).toNat
  rw [BitVec.toNat_and] at k1
  rw [BitVec.toNat_xor] at k2
  have ka := toNat_of ha
  have kb := toNat_of hb
  generalize ((BitVec.ofInt 64 a).toNat &&& (BitVec.ofInt 64 b).toNat) = p at *
  generalize ((BitVec.ofInt 64 a).toNat ^^^ (BitVec.ofInt 64 b).toNat) = q at *
  generalize (BitVec.ofInt 64 a).toNat = u at *
  generalize (BitVec.ofInt 64 b).toNat = v at *
  generalize bits .and .i64 a b = m at *
  generalize bits .xor .i64 a b = n at *
  clear e1 e2 ha hb
  by_cases pa : a < 0 <;> by_cases pb : b < 0 <;> simp only [pa, pb, if_true, if_false] at ka kb n1 n2 <;> simp at n1 n2
  all_goals (split at k1 <;> split at k2 <;> omega)
theorem mid_eq {a b : Int} (ha : I64 a) (hb : I64 b) : bits .and .i64 a b + bits .xor .i64 a b / 2 = (a + b) / 2 := by
  have := mid_bits ha hb
  omega

def clampI (x lo hi : Int) : Int := if x < lo then lo else if hi < x then hi else x
def absI (a : Int) : Int := if a < 0 then -a else a

/-! ### quotients -/
/-- There is a quotient. -/
def quoOk (a b : Int) : Bool := !(b == 0) && (!(a == -9223372036854775808) || !(b == -1))
/-- Rounded down; rounded up. -/
def flo (a b : Int) : Int := if a.tmod b ≠ 0 ∧ ¬ (a.tmod b < 0 ↔ b < 0) then a.tdiv b - 1 else a.tdiv b
def cei (a b : Int) : Int := if a.tmod b ≠ 0 ∧ (a.tmod b < 0 ↔ b < 0) then a.tdiv b + 1 else a.tdiv b
def divI (a b : Int) : Int := if quoOk a b then flo a b else 0
def upI (a b : Int) : Int := if quoOk a b then cei a b else 0

theorem quoOk_ne {a b : Int} (h : quoOk a b = true) : b ≠ 0 := by rintro rfl; simp [quoOk] at h
theorem tdiv_small {a b : Int} (ha : I64 a) (h0 : b ≠ 0) (h1 : b ≠ 1) (h2 : b ≠ -1) : -4611686018427387904 ≤ a.tdiv b ∧ a.tdiv b ≤ 4611686018427387904 := by
  unfold I64 at ha
  have hn := Int.natAbs_tdiv a b
  have hb : 2 ≤ b.natAbs := by omega
  have h3 : a.natAbs / b.natAbs ≤ a.natAbs / 2 := Nat.div_le_div_left hb (by decide)
  have hn' : (a.tdiv b).natAbs ≤ a.natAbs / 2 := by rw [hn]; exact h3
  clear hn h3
  generalize a.tdiv b = t at *
  omega
theorem tmod_unit (a : Int) : a.tmod 1 = 0 ∧ a.tmod (-1) = 0 := by
  constructor
  · exact Int.tmod_one a
  · rw [Int.tmod_neg]; exact Int.tmod_one a
theorem tdiv_I64 {a b : Int} (ha : I64 a) (h : quoOk a b = true) : I64 (a.tdiv b) := by
  have h0 := quoOk_ne h
  by_cases h1 : b = 1
  · subst h1; rw [Int.tdiv_one]; exact ha
  · by_cases h2 : b = -1
    · subst h2
      rw [Int.tdiv_neg, Int.tdiv_one]
      unfold I64 at *
      simp [quoOk] at h
      omega
    · have := tdiv_small ha h0 h1 h2
      unfold I64; omega
theorem tdiv_rest {a b : Int} (ha : I64 a) (h0 : b ≠ 0) (hr : a.tmod b ≠ 0) : -4611686018427387904 ≤ a.tdiv b ∧ a.tdiv b ≤ 4611686018427387904 := by
  refine tdiv_small ha h0 ?_ ?_
  · rintro rfl; exact hr (tmod_unit a).1
  · rintro rfl; exact hr (tmod_unit a).2
theorem tmod_sign {a b : Int} (hr : a.tmod b ≠ 0) : (a.tmod b < 0) ↔ (a < 0) := by
  by_cases h : a < 0
  · have h1 : 0 ≤ (-a).tmod b := Int.tmod_nonneg _ (by omega)
    rw [Int.neg_tmod] at h1
    omega
  · have h1 : 0 ≤ a.tmod b := Int.tmod_nonneg _ (by omega)
    omega
/-- q * b is what the quotient takes off. -/
theorem tdiv_mul_eq (a b : Int) : a.tdiv b * b = a - a.tmod b := by
  have := Int.tmod_add_tdiv_mul a b
  omega
theorem tmod_abs (a b : Int) : (a.tmod b).natAbs ≤ a.natAbs := by
  rw [Int.natAbs_tmod]; exact Nat.mod_le _ _
theorem back_mul {a b : Int} (ha : I64 a) (h : quoOk a b = true) : wrap64 (wrap64 (a.tdiv b) * b) = a - a.tmod b := by
  rw [IntWalk.wrap64_in _ (tdiv_I64 ha h), tdiv_mul_eq]
  refine IntWalk.wrap64_in _ ?_
  have := tmod_abs a b
  by_cases hr : a.tmod b = 0
  · unfold I64 at ha; omega
  · have := tmod_sign hr
    unfold I64 at ha; omega

theorem flo_off {a b : Int} (ha : I64 a) (h : quoOk a b = true) (h1 : a.tmod b ≠ 0) (h2 : ¬ (a.tmod b < 0 ↔ b < 0)) : wrap64 (wrap64 (a.tdiv b) - 1) = divI a b := by
  have := tdiv_rest ha (quoOk_ne h) h1
  rw [IntWalk.wrap64_in (a.tdiv b) (tdiv_I64 ha h), divI, if_pos h, flo, if_pos ⟨h1, h2⟩]
  exact IntWalk.wrap64_in _ (by omega)
theorem flo_on {a b : Int} (ha : I64 a) (h : quoOk a b = true) (h1 : ¬ (a.tmod b ≠ 0 ∧ ¬ (a.tmod b < 0 ↔ b < 0))) : wrap64 (a.tdiv b) = divI a b := by
  rw [IntWalk.wrap64_in (a.tdiv b) (tdiv_I64 ha h), divI, if_pos h, flo, if_neg h1]
theorem cei_off {a b : Int} (ha : I64 a) (h : quoOk a b = true) (h1 : a.tmod b ≠ 0) (h2 : a.tmod b < 0 ↔ b < 0) : wrap64 (wrap64 (a.tdiv b) + 1) = upI a b := by
  have := tdiv_rest ha (quoOk_ne h) h1
  rw [IntWalk.wrap64_in (a.tdiv b) (tdiv_I64 ha h), upI, if_pos h, cei, if_pos ⟨h1, h2⟩]
  exact IntWalk.wrap64_in _ (by omega)
theorem cei_on {a b : Int} (ha : I64 a) (h : quoOk a b = true) (h1 : ¬ (a.tmod b ≠ 0 ∧ (a.tmod b < 0 ↔ b < 0))) : wrap64 (a.tdiv b) = upI a b := by
  rw [IntWalk.wrap64_in (a.tdiv b) (tdiv_I64 ha h), upI, if_pos h, cei, if_neg h1]

theorem flo_pos {a b : Int} (hb : 0 < b) : flo a b = a / b := by
  unfold flo
  have e := Int.tmod_add_tdiv_mul a b
  have hl := Int.natAbs_tmod a b
  have hm : a.natAbs % b.natAbs < b.natAbs := Nat.mod_lt _ (by omega)
  have hs := @tmod_sign a b
  symm
  split
  · rename_i h
    rw [Int.ediv_eq_iff_of_pos hb]
    rw [Int.sub_mul]
    generalize a.tdiv b * b = m at *
    omega
  · rename_i h
    rw [Int.ediv_eq_iff_of_pos hb]
    generalize a.tdiv b * b = m at *
    omega

theorem cei_pos {a b : Int} (hb : 0 < b) : cei a b = if a % b = 0 then a / b else a / b + 1 := by
  have hf := flo_pos (a := a) hb
  have hs := @tmod_sign a b
  have e := Int.tmod_add_tdiv_mul a b
  have e2 := Int.emod_add_mul_ediv a b
  have hl := Int.natAbs_tmod a b
  have hm : a.natAbs % b.natAbs < b.natAbs := Nat.mod_lt _ (by omega)
  have h1 := Int.emod_nonneg a (by omega : b ≠ 0)
  have h2 := Int.emod_lt_of_pos a hb
  have hz : a % b = 0 ↔ a.tmod b = 0 := by
    rw [← Int.dvd_iff_emod_eq_zero, ← Int.dvd_iff_tmod_eq_zero]
  unfold flo at hf
  unfold cei
  by_cases h : a.tmod b = 0
  · rw [if_neg (by simp [h])] at hf
    rw [if_neg (by simp [h]), if_pos (hz.2 h)]
    exact hf
  · rw [if_neg (fun c => h (hz.1 c))]
    by_cases k : a.tmod b < 0
    · rw [if_pos ⟨h, by omega⟩] at hf
      rw [if_neg (by omega)]
      omega
    · rw [if_neg (by omega)] at hf
      rw [if_pos ⟨h, by omega⟩]
      omega

theorem quoOk_pos {a b : Int} (hb : 0 < b) : quoOk a b = true := by
  have h1 : (b == 0) = false := by simp; omega
  have h2 : (b == -1) = false := by simp; omega
  simp [quoOk, h1, h2]
theorem divI_pos {a b : Int} (hb : 0 < b) : divI a b = a / b := by rw [divI, if_pos (quoOk_pos hb), flo_pos hb]
theorem divI_two (a : Int) : divI a 2 = a / 2 := divI_pos (by decide)
theorem two_I64 : I64 2 := by unfold I64; omega

end Go.Proofs.YtpbabpbinojodaaDoor.Arith
