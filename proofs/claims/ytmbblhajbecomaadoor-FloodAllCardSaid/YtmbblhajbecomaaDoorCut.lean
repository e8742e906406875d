/- The law's Cut and links, walked; in, power, Of over lists of numbers, walked. -/
import Derived.Test.YtmbblhajbecomaaDoorPairs
namespace Go.Proofs.YtmbblhajbecomaaDoor.Graph
set_option maxRecDepth 100000
open Go.RowKit
open Go.Proofs.YtmbblhajbecomaaDoor.RF Go.Proofs.YtmbblhajbecomaaDoor.Heap Go.Proofs.YtmbblhajbecomaaDoor.Nodes Go.Proofs.YtmbblhajbecomaaDoor.Seen
set_option linter.unusedVariables false
set_option linter.unusedSimpArgs false

/-- Nothing is appended. -/
theorem wpList_append_nothing {P : Program} (w : World) {ops : Array Oper} {rest : List Oper} {o : Oper} {a : Act} {Q : Exit → Act → World → Prop} (hgd : o.guard = none) (s x : Operand) (t : TypeId)
    (ho : o.op = .call { callee := .builtin .append, args := #[s, x], argTypes := #[t, t] }) (e : TypeId) (i : TypeInfo) (ht : P.underlying t = some (.slice e)) (hi : P.info? e = some i)
    (g n cap c : Nat) (hs : a.eval s = .slice (some ⟨g, 0, none⟩) n cap) (hx : a.eval x = .slice none 0 c) (hn : n ≤ cap)
    (h : wpList P ops Q rest (a.put o.dst (.slice (some ⟨g, 0, none⟩) n cap)) w) : wpList P ops Q (o :: rest) a w := by
  refine wpList_plain hgd fun K hK => ?_
  have hr := run_append_room_src (P := P) w t t o.type e i ht hi g 0 n cap (.slice none 0 c) 0 [] (Src.ofNil w ht c) (by omega) (fun j hj => by simp at hj) (fun j hj => by simp at hj)
  unfold Oper.wp execOp
  simp only [ho, resolve, invoke, builtin, Sem.run_bind, Sem.run_pure, Result.andThen_ok, List.map_toArray, List.map_cons, List.map_nil, hs, hx, hr]
  exact hK _ _ h
set_option maxRecDepth 100000 in
set_option maxHeartbeats 4000000 in
theorem cut_any (w : World) (a : Option Addr) (len cap : Nat) (ls : List (Int × Int)) (hp : PairIn w a len cap ls) :
    Calls Tryd.prog 39 #[.slice a len cap] w fun e w' => ∃ v, e = .returned v ∧ w'.ownsRow w.heap.size 55 2 v (ls.take 60).length (pcI (ls.take 60)) ∧ PairsAt w' v (ls.take 60) ∧ Below w.heap.size w w' := by
  obtain ⟨i0, hi0, hz⟩ := Option.map_eq_some_iff.1 infoP
  simp only [Prod.mk.injEq] at hz
  obtain ⟨hz0, hz1, hz2⟩ := hz
  have hle := hp.le
  have hmax := hp.max
  have hsz := hp.size
  have hwf : ∀ p ∈ ls.take 60, wfp p := fun p h => hp.wf p (List.mem_of_mem_take h)
  have tl : (ls.take 60).length = min len 60 := by rw [List.length_take]; omega
  have b1 : (0 : Int) ≤ min (len : Int) 60 := by omega
  have b2 : min (len : Int) 60 ≤ (cap : Int) := by omega
  have b3 : min (len : Int) 60 = ((min len 60 : Nat) : Int) := by omega
  have own0 : (w.alloc (.cells #[] 55)).ownsRow w.heap.size 55 2 (.slice (some ⟨w.heap.size, 0, none⟩) 0 0) 0 [] := by
    have := row_of_blk (base := w.heap.size) (n := 0) (s := 2) (cap := 0) (Blk.new w 55 #[]) (Nat.le_refl _) (Nat.le_refl _) (by unfold maxLen; omega) rfl
    simpa using this
  have Own0 := Lib.hid own0
  have Hwf := Lib.hid hwf
  have Hi0 := Lib.hid hi0
  have Hz0 := Lib.hid hz0
  have Hz1 := Lib.hid hz1
  have Hz2 := Lib.hid hz2
  have hat := hp.at'
  have lowA : Below w.heap.size w (w.alloc (.cells #[] 55)) := (Below.refl _ w).alloc (Nat.le_refl _) _
  have LowA := Lib.hid lowA
  clear own0 hwf hi0 hz0 hz1 hz2 hp lowA
  rcases hat with ⟨rfl, rfl, rfl⟩ | ⟨x, rfl, rfl⟩ | ⟨b, off, rfl, hb, hc⟩
  · obtain rfl := List.length_eq_zero_iff.1 hsz
    go_enter Tryd.func39, Tryd.ntmps39
    go_wp2_with (at_builtin; refine wpList_append_nothing _ rfl _ _ 22 rfl 55 i0 Tryd.underlying22 Hi0.out _ 0 0 0 rfl rfl (Nat.le_refl _) ?_)
    go_ret
    exact ⟨_, rfl, Own0.out, own_pairs (l := []) Own0.out rfl (by simp), LowA.out⟩
  · obtain rfl := List.length_eq_zero_iff.1 hsz
    have hc0 : (0 : Int) ≤ (cap : Int) := by omega
    go_enter Tryd.func39, Tryd.ntmps39
    go_wp2_with (at_builtin; refine wpList_append_own _ rfl _ _ 22 rfl w.heap.size 55 i0 _ 2 16 Tryd.underlying22 Hi0.out Hz0.out Hz1.out Hz2.out rfl (by decide) _ _ _ rfl Own0.out x 0 cap [] rfl rfl (by simp) (by simp) (by unfold maxLen; omega) (by omega) (by simp) ?_; intro v' w3 hown3 hgrow3 _)
    go_ret
    exact ⟨_, rfl, hown3, own_pairs (l := []) hown3 rfl (by simp), below_own LowA.out hgrow3 Own0.out (Nat.le_refl _) (Nat.le_refl _)⟩
  · have hnews : ∀ j u, (pcI (ls.take 60))[j]? = some u → (w.alloc (.cells #[] 55)).cell? ((⟨b, off, none⟩ : Addr).add j) = some u := fun j u hu => by
      rw [show (⟨b, off, none⟩ : Addr).add j = ⟨b, off + j, none⟩ by simp [Addr.add], World.cell?_alloc_lt w _ _ hb]
      exact hc j u (pcI_take ls 60 j u hu)
    have Hnews := Lib.hid hnews
    have hl2 := pcI_len (ls.take 60)
    have hone := Lib.hid (pcI_one (ls.take 60))
    clear hnews hc
    by_cases h60 : len ≤ 60
    · have l1 : (len : Int) ≤ 60 := by omega
      have l2 : ((ls.take 60).length : Nat) = len := by omega
      rw [l2] at hl2 ⊢
      go_enter Tryd.func39, Tryd.ntmps39
      go_wp2_with (at_builtin; refine wpList_append_own _ rfl _ _ 22 rfl w.heap.size 55 i0 _ 2 16 Tryd.underlying22 Hi0.out Hz0.out Hz1.out Hz2.out rfl (by decide) _ _ _ rfl Own0.out ⟨b, off, none⟩ len cap (pcI (ls.take 60)) rfl hl2 Hnews.out hone.out (by unfold maxLen; omega) (by omega) (by simp) ?_; intro v' w3 hown3 hgrow3 _)
      go_ret
      rw [Nat.zero_add, List.nil_append] at hown3
      exact ⟨_, rfl, hown3, own_pairs hown3 l2 Hwf.out, below_own LowA.out hgrow3 Own0.out (Nat.le_refl _) (Nat.le_refl _)⟩
    · have l1 : ¬ (len : Int) ≤ 60 := by omega
      have l3 : (60 : Int) < (len : Int) := by omega
      have l2 : ((ls.take 60).length : Nat) = 60 := by omega
      rw [l2] at hl2 ⊢
      go_enter Tryd.func39, Tryd.ntmps39
      go_wp2_with (at_builtin; refine wpList_append_own _ rfl _ _ 22 rfl w.heap.size 55 i0 _ 2 16 Tryd.underlying22 Hi0.out Hz0.out Hz1.out Hz2.out rfl (by decide) _ _ _ rfl Own0.out ⟨b, off, none⟩ 60 cap (pcI (ls.take 60)) rfl hl2 Hnews.out hone.out (by unfold maxLen; omega) (by omega) (by simp) ?_; intro v' w3 hown3 hgrow3 _)
      go_ret
      rw [Nat.zero_add, List.nil_append] at hown3
      exact ⟨_, rfl, hown3, own_pairs hown3 l2 Hwf.out, below_own LowA.out hgrow3 Own0.out (Nat.le_refl _) (Nat.le_refl _)⟩
end Go.Proofs.YtmbblhajbecomaaDoor.Graph
