/- The laws of New and of Linked, walked. -/
import Derived.Test.YtcangalpccppbaaDoorSame
namespace Go.Proofs.YtcangalpccppbaaDoor.Graph
open Go.RowKit
open Go.Proofs.YtcangalpccppbaaDoor.RF Go.Proofs.YtcangalpccppbaaDoor.Heap Go.Proofs.YtcangalpccppbaaDoor.Nodes Go.Proofs.YtcangalpccppbaaDoor.Seen
set_option linter.unusedVariables false
set_option linter.unusedSimpArgs false

theorem pairs_in {w : World} {a : Option Addr} {len cap : Nat} (g : Read.Rd Tryd.prog w 22 [.slice a len cap]) : ∃ ls, PairIn w a len cap ls :=
  rd_pairs Tryd.underlying22 Tryd.underlying41 Tryd.underlying3 (by kernel_rfl) (by kernel_rfl) g
theorem two_in {w : World} {cs : Array Value} (g : Read.Rd Tryd.prog w 41 cs.toList) : ∃ x y : Int, cs = #[.int .i64 x, .int .i64 y] := by
  obtain ⟨x, y, h, _, _⟩ := g.two Tryd.underlying41 Tryd.underlying3 (by kernel_rfl) (by kernel_rfl)
  exact ⟨x, y, by rw [← Array.toArray_toList (xs := cs), h]⟩
/-- What graph.New comes to. -/
def GoEnds (w : World) (n : Int) (ls : List (Int × Int)) (e : Ending) (w' : World) : Prop :=
  Below w.heap.size w w' ∧ ((newR n ls = 0 ∧ ∃ (k G R : Nat), n = k ∧ 1 ≤ k ∧ k ≤ 64 ∧ e = .returned (.tuple #[.pointer (some ⟨G, 0, none⟩), .int .i64 0]) ∧ RowKit.Hid (GraphAt w' G R (nearOf k (ls.map lk))) ∧ RowKit.Hid (newE k [] ls = 0)) ∨ (newR n ls ≠ 0 ∧ e = .returned (.tuple #[.pointer none, .int .i64 (newR n ls)])))
theorem newgo_any (n : Int) (v : Value) (ls : List (Int × Int)) (w : World) (hp : PairsAt w v ls) (hlen : ls.length ≤ 65536) :
    Calls Tryd.prog 15 #[.int .i64 n, v] w fun e w' => GoEnds w n ls e w' := by
  by_cases h : n < 1 ∨ 64 < n
  · have hr : newR n ls = 1 := by simp only [newR]; rw [if_pos (by omega)]
    refine (new_no n v w h).mono fun e w' he => ?_
    obtain ⟨rfl, rfl⟩ := he
    exact ⟨Below.refl _ _, .inr ⟨by rw [hr]; decide, by rw [hr]⟩⟩
  · obtain ⟨k, rfl⟩ : ∃ k : Nat, n = k := ⟨n.toNat, by omega⟩
    have hr : newR k ls = newE k [] ls := by simp only [newR, Int.toNat_natCast]; rw [if_neg (by omega)]
    refine (new_yes k v ls w ⟨by omega, by omega⟩ hp hlen).mono fun e w' he => ?_
    obtain ⟨hb, ⟨h0, G, R, rfl, hg⟩ | ⟨h0, rfl⟩⟩ := he
    · exact ⟨hb, .inl ⟨by rw [hr]; exact h0, k, G, R, rfl, by omega, by omega, rfl, Lib.hid hg, Lib.hid h0⟩⟩
    · exact ⟨hb, .inr ⟨by rw [hr]; exact h0, by rw [hr]⟩⟩
set_option maxRecDepth 100000 in
set_option maxHeartbeats 8000000 in
theorem graphnew_walk (w : World) (hT : Tab w) (n : Int) (a : Option Addr) (len cap : Nat) (ls : List (Int × Int)) (hp : PairIn w a len cap ls) :
    Calls Tryd.prog 3 #[.int .i64 n, .slice a len cap] w fun e w' => e = .returned (.bool true) ∧ Below w.heap.size w w' := by
  have HT := Lib.hid hT
  clear hT
  go_enter Tryd.func3, Tryd.ntmps3
  go_wp2_with fail
  refine (cut_any w a len cap ls hp).mono ?_
  rintro e w1 ⟨v, rfl, _, hP, b1⟩
  obtain ⟨L, hL⟩ : ∃ L, ls.take 60 = L := ⟨_, rfl⟩
  have hl : L.length ≤ 65536 := by rw [← hL, List.length_take]; omega
  rw [hL] at hP
  have HP := Lib.hid hP
  have Hl := Lib.hid hl
  clear hL hl hP hp
  go_wp2_with fail
  refine (newgo_any n v L w1 HP.out Hl.out).mono ?_
  rintro e w2 ⟨b2, ⟨h0, k, G, R, rfl, hk1, hk, rfl, hg, hE⟩ | ⟨h0, rfl⟩⟩
  · have H0 := Lib.hid h0
    clear h0
    have P2 := Lib.hid (HP.out.off b2)
    go_wp2_with fail
    refine (refnew_any k v L w2 P2.out Hl.out).mono ?_
    rintro e w3 ⟨b3, ⟨_, v', rfl, P3⟩ | ⟨hc, _⟩⟩
    · obtain ⟨la, lc, rfl, _⟩ := P3.1
      have P3 := Lib.hid P3
      have bW := Lib.hid ((Below.refl w3.heap.size w3).alloc (Nat.le_refl _) (.cells #[.int .i64 (k : Nat), .slice la L.length lc] 29))
      have sW := w3
      have s1 := b1.size
      have s2 := b2.size
      have s3 := b3.size
      have B3 := Lib.hid (b1.trans ((b2.mono s1).trans (b3.mono (Nat.le_trans s1 s2))))
      go_wp2_with fail
      refine (same_any k (nearOf k (L.map lk)) L _ G R _ (HT.out.below (B3.out.trans (bW.out.mono B3.out.size)) HT.out.size) ((hg.out.below b3 (Nat.le_refl _)).below bW.out (Nat.le_refl _)) (P3.out.off bW.out) (match_new hE.out) Hl.out hk).mono ?_
      rintro e w5 ⟨rfl, b5⟩
      have B5 := Lib.hid ((B3.out.trans (bW.out.mono B3.out.size)).trans (b5.mono (Nat.le_trans B3.out.size bW.out.size)))
      clear b1 b2 b3 b5
      go_wp2_with fail
      refine (works_any _ (HT.out.below B5.out HT.out.size)).mono ?_
      rintro e w6 ⟨rfl, b6⟩
      go_wp2_with fail
      go_ret
      exact ⟨rfl, B5.out.trans (b6.mono B5.out.size)⟩
    · exact absurd H0.out hc
  · have H0 := Lib.hid h0
    have P2 := Lib.hid (HP.out.off b2)
    clear h0
    go_wp2_with fail
    refine (refnew_any n v L w2 P2.out Hl.out).mono ?_
    rintro e w3 ⟨b3, ⟨hc, _⟩ | ⟨_, rfl⟩⟩
    · exact absurd hc H0.out
    · obtain ⟨c, hc⟩ : ∃ c, newR n L = c := ⟨_, rfl⟩
      have h0 := H0.out
      rw [hc] at h0 ⊢
      clear hc H0
      have h1 : (c != 0) = true := by simpa using h0
      clear h0
      have s1 := b1.size
      have s2 := b2.size
      have s3 := b3.size
      have B3 := Lib.hid (b1.trans ((b2.mono s1).trans (b3.mono (Nat.le_trans s1 s2))))
      have bW := Lib.hid ((Below.refl w3.heap.size w3).alloc (Nat.le_refl _) (.cells #[.int .i64 0, .slice none 0 0] 29))
      unfold noGraph
      go_wp2_with fail
      refine (works_any _ (HT.out.below (B3.out.trans (bW.out.mono B3.out.size)) HT.out.size)).mono ?_
      rintro e w6 ⟨rfl, b6⟩
      go_wp2_with fail
      go_ret
      exact ⟨rfl, (B3.out.trans (bW.out.mono B3.out.size)).trans (b6.mono (Nat.le_trans B3.out.size bW.out.size))⟩
end Go.Proofs.YtcangalpccppbaaDoor.Graph
