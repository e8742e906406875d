/- The contract of span.Sum over a slice of at most 1000 numbers. -/
import Derived.Test.YtcenicbmadbamaaSpan3
namespace Go.Proofs.Ytcenicbmadbamaa.Span
open Go.Proofs.Ytcenicbmadbamaa.Arith
open Go.RowKit (wrap64 Below intOf)

/-- The sum of all. -/
def total : List Int → Int
  | [] => 0
  | x :: l => x + total l
theorem total_append (l m : List Int) : total (l ++ m) = total l + total m := by
  induction l with
  | nil => simp [total]
  | cons x l ih => simp only [List.cons_append, total, ih]; omega
theorem total_take (zs : List Int) (k : Nat) (h : k < zs.length) : total (zs.take (k + 1)) = total (zs.take k) + zs[k]?.getD 0 := by
  rw [List.take_succ_eq_append_getElem h, total_append]
  simp [total, h]
theorem total_bound (zs : List Int) (hz : ∀ x ∈ zs, I64 x) (k : Nat) : -(k : Int) * 9223372036854775808 ≤ total (zs.take k) ∧ total (zs.take k) ≤ (k : Int) * 9223372036854775808 := by
  induction k with
  | zero => simp [total]
  | succ k ih =>
    by_cases h : k < zs.length
    · rw [total_take zs k h]
      have := hz (zs[k]?.getD 0) (by simp [h])
      unfold I64 at this
      omega
    · rw [List.take_of_length_le (by omega)] at ih ⊢
      omega
theorem getD_I64 (zs : List Int) (hz : ∀ x ∈ zs, I64 x) (k : Nat) : I64 (zs[k]?.getD 0) := by
  by_cases h : k < zs.length
  · exact hz _ (by simp [h])
  · simp [List.getElem?_eq_none (by omega : zs.length ≤ k)]; unfold I64; omega
theorem below_dN {B : Nat} {a w : World} (h : Below B a w) (n : Nat) : Below B a (w.drewN n) := h.trans ⟨rfl, rfl, rfl, Nat.le_refl _, fun _ _ => rfl⟩
theorem bcell {W w1 : World} (hb : Below W.heap.size W w1) : (∀ b o, b < W.heap.size → w1.cell? ⟨b, o, none⟩ = W.cell? ⟨b, o, none⟩) ∧ (∀ b o, b < W.heap.size → w1.frozen? ⟨b, o, none⟩ = W.frozen? ⟨b, o, none⟩) :=
  ⟨fun b o h => hb.cell (p := ⟨b, o, none⟩) h, fun b o h => hb.frozen (p := ⟨b, o, none⟩) h⟩

set_option maxHeartbeats 1000000 in
theorem sum_any (b off n c : Nat) (zs : List Int) (hn : n ≤ zs.length) (hm : n ≤ 1000) (w : World) (hb : b < w.heap.size) (hc : ∀ i, i < n → w.cell? ⟨b, off + i, none⟩ = some (.int .i64 (zs[i]?.getD 0))) (hz : ∀ x ∈ zs, I64 x) :
    Calls Try.prog 11 #[.slice (some ⟨b, off, none⟩) n c] w fun e w' => e = .returned (.tuple #[.int .i64 (fit (total (zs.take n))), .bool (inr (total (zs.take n)))]) ∧ Below w.heap.size w w' := by
  go_enter Try.func11, Try.ntmps11
  go_wp2_with fail
  go_loopw [9] (fun i wr => ∃ k : Nat, k ≤ n ∧ i = .int .i64 k ∧ Below w.heap.size w wr ∧ w.heap.size < wr.heap.size ∧ wr.cell? ⟨w.heap.size, 0, none⟩ = some (.int .i64 (wideHi (total (zs.take k)))) ∧ wr.cell? ⟨w.heap.size, 1, none⟩ = some (.int .u64 (wideLo (total (zs.take k)))) ∧ wr.frozen? ⟨w.heap.size, 0, none⟩ = false ∧ wr.frozen? ⟨w.heap.size, 1, none⟩ = false) (fun i _ => n - (intOf i).toNat)
  case atStart => exact ⟨0, by omega, rfl, (Below.refl _ _).alloc (Nat.le_refl _) _, by simp, by go_simp; rfl, by go_simp; rfl, by go_simp, by go_simp⟩
  case round =>
    obtain ⟨k, hk, rfl, hbw, hsz, hc0, hc1, hf0, hf1⟩ := hrel
    by_cases hlt : k < n
    · have hcell := (hbw.cell (p := ⟨b, off + k, none⟩) hb).trans (hc k hlt)
      go_wp2_with fail
      have hbd := total_bound zs hz k
      refine (plus_any _ _ (by omega) (getD_I64 zs hz k) _).mono ?_
      rintro e w1 ⟨rfl, hb1⟩
      rw [← total_take zs k (by omega)]
      obtain ⟨hcl, hfl⟩ := bcell hb1
      have d0 := (hcl w.heap.size 0 hsz).trans hc0
      have d1 := (hcl w.heap.size 1 hsz).trans hc1
      have f0 := (hfl w.heap.size 0 hsz).trans hf0
      have f1 := (hfl w.heap.size 1 hsz).trans hf1
      have hs1 : w.heap.size < w1.heap.size := Nat.lt_of_lt_of_le hsz hb1.size
      have hbw1 := hbw.trans (hb1.mono (Nat.le_of_lt hsz))
      clear hcl hfl hc0 hc1 hf0 hf1
      go_wp2_with fail
      go_roundw
      case rel => exact ⟨k + 1, by omega, by go_num, (hbw1.setCell (by simp) _).setCell (by simp) _, by simp; omega, by go_simp, by go_simp, by go_simp, by go_simp⟩
      case measure => simp [intOf]; omega
    · obtain rfl : k = n := by omega
      have hbd := total_bound zs hz k
      go_wp2_with fail
      refine (narrow_any _ (by omega) _).mono ?_
      rintro e w1 ⟨rfl, hb1⟩
      go_wp2_with fail
      go_ret2
      exact ⟨rfl, hbw.trans (hb1.mono (Nat.le_of_lt hsz))⟩
end Go.Proofs.Ytcenicbmadbamaa.Span
