/- What Drain does to an agenda's state, at each type. -/
import Derived.Test.YtcicnanchikpjaaAgendaE
namespace Go.Proofs.Ytcicnanchikpjaa.Agenda
open Go.RowKit (wrap64 Below intOf)
open Go.Proofs.Ytcicnanchikpjaa.Heap Go.Proofs.Ytcicnanchikpjaa.RF
set_option linter.unusedVariables false
def lenOf : Value → Nat
  | .slice _ n _ => n
  | _ => 0

namespace I64
theorem infoE : (Try.prog.info? 2).map (fun i => (i.zero, i.size, i.bytes)) = some (some (.int .i64 0), 1, 8) := by kernel_rfl
set_option maxRecDepth 100000 in
set_option maxHeartbeats 4000000 in
theorem drain_any (base p : Nat) (most : Int) (no : Nat) (S : List (Th Int)) (now : Int) (w : World) (h : Ag base p most no S w) (hr : Rising S) (hS : S.length ≤ 65536) :
    Calls Try.prog 22 #[.pointer (some ⟨p, 0, none⟩), .int .i64 now] w fun e w' => ∃ (v : Value) (xs : List Int) (S' : List (Th Int)), e = .returned v ∧
      w'.ownsRow w.heap.size 2 1 v xs.length (xs.map (Value.int .i64)) ∧ Drained now S xs S' ∧ Rising S' ∧ xs.length + S'.length = S.length ∧ Ag base p most no S' w' ∧ Fr base ts w w' := by
  obtain ⟨i0, hi0, hz0, hz1, hz2⟩ := info_parts infoE
  have Hz := Lib.hid hi0
  have Hz0 := Lib.hid hz0
  have Hz1 := Lib.hid hz1
  have Hz2 := Lib.hid hz2
  have H := Lib.hid h
  have Hr := Lib.hid hr
  clear h hr hi0 hz0 hz1 hz2
  go_enter Try.func22, Try.ntmps22
  go_wp2
  go_loopw [5] (fun so wr => ∃ (pre : List Int) (S1 : List (Th Int)), wr.ownsRow w.heap.size 2 1 so pre.length (pre.map (Value.int .i64)) ∧ RowKit.Hid (∀ xs S', Drained now S1 xs S' → Drained now S (pre ++ xs) S') ∧ Rising S1 ∧ pre.length + S1.length = S.length ∧ Ag base p most no S1 wr ∧ Fr base ts w wr)
    (fun so _ => S.length - lenOf so)
  case atStart => exact ⟨[], S, World.ownsRow_nil _ _ _ _, (show RowKit.Hid _ from fun xs S' h => h), Hr.out, by simp, H.out, Fr.refl _ _ _⟩
  case round =>
    obtain ⟨pre, S1, hown, hd, hr1, hlen, hag, hfr⟩ := hrel
    obtain ⟨A, cap, hso⟩ : ∃ A cap, u5 = .slice A pre.length cap := by
      rcases hown.2 with ⟨h1, h2⟩ | ⟨g, c, cur, h1, _⟩
      · exact ⟨none, 0, by rw [h1, h2]⟩
      · exact ⟨_, c, h1⟩
    subst hso
    have Hown := Lib.hid hown
    have Hr1 := Lib.hid hr1
    have Hag := Lib.hid hag
    have Hfr := Lib.hid hfr
    have hle : S1.length ≤ 65536 := by omega
    clear hown hr1 hag hfr
    rcases Classical.em (S1 = []) with hn | hn
    · subst hn
      go_wp2_with fail
      refine (take_none base p most no now _ Hag.out).mono ?_
      rintro e w' ⟨rfl, rfl⟩
      go_wp2_with fail
      go_ret
      exact ⟨_, pre, [], rfl, Hown.out, by have := hd.out [] [] (Drained.stop _ (fun j u hu => by simp at hu)); rwa [List.append_nil] at this, rising_nil, hlen, Hag.out, Hfr.out⟩
    · obtain ⟨i, t, hf⟩ := exists_first S1 hn
      have Hf := Lib.hid hf
      clear hf hn
      by_cases hnow : now < t.due
      · go_wp2_with fail
        refine (take_late base p most no S1 now _ Hag.out Hr1.out i t Hf.out hle hnow).mono ?_
        rintro e w' ⟨rfl, rfl⟩
        go_wp2_with fail
        go_ret
        exact ⟨_, pre, S1, rfl, Hown.out, by have := hd.out [] S1 (Drained.stop _ (fun j u hu => by have := Hf.out.le j u hu; omega)); rwa [List.append_nil] at this, Hr1.out, hlen, Hag.out, Hfr.out⟩
      · have hnow : t.due ≤ now := by omega
        have hl1 := erase_len Hf.out.get
        go_wp2_with fail
        refine (take_yes base p most no S1 now _ Hag.out Hr1.out i t Hf.out hle hnow).mono ?_
        rintro e w2 ⟨rfl, ag2, fr2⟩
        have own2 := fr2.own Hown.out (by rfl)
        have hz2 : w.heap.size ≤ w2.heap.size := Nat.le_trans Hfr.out.size fr2.size
        have Own2 := Lib.hid own2
        have Ag2 := Lib.hid ag2
        have Fr2 := Lib.hid (Hfr.out.trans fr2)
        clear own2 ag2 fr2
        go_wp2_with (at_builtin; refine wpList_append_own _ rfl _ _ 22 rfl w.heap.size 2 i0 _ 1 8 Try.underlying22 Hz.out Hz0.out Hz1.out Hz2.out rfl (by decide) _ _ _ rfl (Own2.out.alloc _) ⟨w2.heap.size, 0, none⟩ 1 1 [.int .i64 t.x] rfl rfl (cell_one_new _ _ _) (by simp [Value.oneCell']) (by unfold maxLen; omega) (by omega) (by simp; omega) ?_; intro v' w3 hown3 hgrow3 _)
        have hg' : (w2.alloc (.cells #[.int .i64 t.x] 2)).grownBy w3 (Value.slice A pre.length cap).ownBlock := hgrow3
        obtain ⟨g', c', rfl, _⟩ := hown3.form (by omega)
        have F3 : Fr w.heap.size [2] (w2.alloc (.cells #[.int .i64 t.x] 2)) w3 := Fr.grown_own hg' (Own2.out.alloc _) rfl
        have ag3 := (Ag2.out.fr (us := []) (b := 0) ((Fr.refl _ _ _).alloc _) rfl rfl).fr F3 rfl rfl
        have fr3 : Fr base ts w w3 := (Fr2.out.alloc _).grown_new hg' (fun k hk => ((Own2.out.alloc (.cells #[.int .i64 t.x] 2)).lt k hk).1)
        refine ⟨⟨pre ++ [t.x], S1.eraseIdx i, ?_, (show RowKit.Hid _ from fun xs S' h => ?_), Hr1.out.erase i, by simp; omega, ag3, fr3⟩, ?_⟩
        · rw [List.map_append, List.length_append]; exact hown3
        · have := hd.out (t.x :: xs) S' (Drained.take _ i t xs S' Hf.out hnow h)
          rwa [List.append_assoc]
        · simp only [lenOf]; omega
theorem drain_nil (now : Int) (w : World) : Calls Try.prog 22 #[.pointer none, .int .i64 now] w fun e w' => e = .returned (.slice none 0 0) ∧ w = w' := by
  go_enter Try.func22, Try.ntmps22
  go_wp2
  go_loopw [5] (fun so wr => so = .slice none 0 0 ∧ w = wr) (fun _ _ => 0)
  case atStart => exact ⟨rfl, rfl⟩
  case round =>
    obtain ⟨rfl, rfl⟩ := hrel
    go_wp2_with fail
    refine (take_nil now _).mono ?_
    rintro e w' ⟨rfl, rfl⟩
    go_wp2_with fail
    go_ret
    exact ⟨rfl, rfl⟩
end I64

namespace I
theorem infoE : (Try.prog.info? 3).map (fun i => (i.zero, i.size, i.bytes)) = some (some (.int .i64 0), 1, 8) := by kernel_rfl
set_option maxRecDepth 100000 in
set_option maxHeartbeats 4000000 in
theorem drain_any (base p : Nat) (most : Int) (no : Nat) (S : List (Th Int)) (now : Int) (w : World) (h : Ag base p most no S w) (hr : Rising S) (hS : S.length ≤ 65536) :
    Calls Try.prog 17 #[.pointer (some ⟨p, 0, none⟩), .int .i64 now] w fun e w' => ∃ (v : Value) (xs : List Int) (S' : List (Th Int)), e = .returned v ∧
      w'.ownsRow w.heap.size 3 1 v xs.length (xs.map (Value.int .i64)) ∧ Drained now S xs S' ∧ Rising S' ∧ xs.length + S'.length = S.length ∧ Ag base p most no S' w' ∧ Fr base ts w w' := by
  obtain ⟨i0, hi0, hz0, hz1, hz2⟩ := info_parts infoE
  have Hz := Lib.hid hi0
  have Hz0 := Lib.hid hz0
  have Hz1 := Lib.hid hz1
  have Hz2 := Lib.hid hz2
  have H := Lib.hid h
  have Hr := Lib.hid hr
  clear h hr hi0 hz0 hz1 hz2
  go_enter Try.func17, Try.ntmps17
  go_wp2
  go_loopw [5] (fun so wr => ∃ (pre : List Int) (S1 : List (Th Int)), wr.ownsRow w.heap.size 3 1 so pre.length (pre.map (Value.int .i64)) ∧ RowKit.Hid (∀ xs S', Drained now S1 xs S' → Drained now S (pre ++ xs) S') ∧ Rising S1 ∧ pre.length + S1.length = S.length ∧ Ag base p most no S1 wr ∧ Fr base ts w wr)
    (fun so _ => S.length - lenOf so)
  case atStart => exact ⟨[], S, World.ownsRow_nil _ _ _ _, (show RowKit.Hid _ from fun xs S' h => h), Hr.out, by simp, H.out, Fr.refl _ _ _⟩
  case round =>
    obtain ⟨pre, S1, hown, hd, hr1, hlen, hag, hfr⟩ := hrel
    obtain ⟨A, cap, hso⟩ : ∃ A cap, u5 = .slice A pre.length cap := by
      rcases hown.2 with ⟨h1, h2⟩ | ⟨g, c, cur, h1, _⟩
      · exact ⟨none, 0, by rw [h1, h2]⟩
      · exact ⟨_, c, h1⟩
    subst hso
    have Hown := Lib.hid hown
    have Hr1 := Lib.hid hr1
    have Hag := Lib.hid hag
    have Hfr := Lib.hid hfr
    have hle : S1.length ≤ 65536 := by omega
    clear hown hr1 hag hfr
    rcases Classical.em (S1 = []) with hn | hn
    · subst hn
      go_wp2_with fail
      refine (take_none base p most no now _ Hag.out).mono ?_
      rintro e w' ⟨rfl, rfl⟩
      go_wp2_with fail
      go_ret
      exact ⟨_, pre, [], rfl, Hown.out, by have := hd.out [] [] (Drained.stop _ (fun j u hu => by simp at hu)); rwa [List.append_nil] at this, rising_nil, hlen, Hag.out, Hfr.out⟩
    · obtain ⟨i, t, hf⟩ := exists_first S1 hn
      have Hf := Lib.hid hf
      clear hf hn
      by_cases hnow : now < t.due
      · go_wp2_with fail
        refine (take_late base p most no S1 now _ Hag.out Hr1.out i t Hf.out hle hnow).mono ?_
        rintro e w' ⟨rfl, rfl⟩
        go_wp2_with fail
        go_ret
        exact ⟨_, pre, S1, rfl, Hown.out, by have := hd.out [] S1 (Drained.stop _ (fun j u hu => by have := Hf.out.le j u hu; omega)); rwa [List.append_nil] at this, Hr1.out, hlen, Hag.out, Hfr.out⟩
      · have hnow : t.due ≤ now := by omega
        have hl1 := erase_len Hf.out.get
        go_wp2_with fail
        refine (take_yes base p most no S1 now _ Hag.out Hr1.out i t Hf.out hle hnow).mono ?_
        rintro e w2 ⟨rfl, ag2, fr2⟩
        have own2 := fr2.own Hown.out (by rfl)
        have hz2 : w.heap.size ≤ w2.heap.size := Nat.le_trans Hfr.out.size fr2.size
        have Own2 := Lib.hid own2
        have Ag2 := Lib.hid ag2
        have Fr2 := Lib.hid (Hfr.out.trans fr2)
        clear own2 ag2 fr2
        go_wp2_with (at_builtin; refine wpList_append_own _ rfl _ _ 27 rfl w.heap.size 3 i0 _ 1 8 Try.underlying27 Hz.out Hz0.out Hz1.out Hz2.out rfl (by decide) _ _ _ rfl (Own2.out.alloc _) ⟨w2.heap.size, 0, none⟩ 1 1 [.int .i64 t.x] rfl rfl (cell_one_new _ _ _) (by simp [Value.oneCell']) (by unfold maxLen; omega) (by omega) (by simp; omega) ?_; intro v' w3 hown3 hgrow3 _)
        have hg' : (w2.alloc (.cells #[.int .i64 t.x] 3)).grownBy w3 (Value.slice A pre.length cap).ownBlock := hgrow3
        obtain ⟨g', c', rfl, _⟩ := hown3.form (by omega)
        have F3 : Fr w.heap.size [3] (w2.alloc (.cells #[.int .i64 t.x] 3)) w3 := Fr.grown_own hg' (Own2.out.alloc _) rfl
        have ag3 := (Ag2.out.fr (us := []) (b := 0) ((Fr.refl _ _ _).alloc _) rfl rfl).fr F3 rfl rfl
        have fr3 : Fr base ts w w3 := (Fr2.out.alloc _).grown_new hg' (fun k hk => ((Own2.out.alloc (.cells #[.int .i64 t.x] 3)).lt k hk).1)
        refine ⟨⟨pre ++ [t.x], S1.eraseIdx i, ?_, (show RowKit.Hid _ from fun xs S' h => ?_), Hr1.out.erase i, by simp; omega, ag3, fr3⟩, ?_⟩
        · rw [List.map_append, List.length_append]; exact hown3
        · have := hd.out (t.x :: xs) S' (Drained.take _ i t xs S' Hf.out hnow h)
          rwa [List.append_assoc]
        · simp only [lenOf]; omega
theorem drain_nil (now : Int) (w : World) : Calls Try.prog 17 #[.pointer none, .int .i64 now] w fun e w' => e = .returned (.slice none 0 0) ∧ w = w' := by
  go_enter Try.func17, Try.ntmps17
  go_wp2
  go_loopw [5] (fun so wr => so = .slice none 0 0 ∧ w = wr) (fun _ _ => 0)
  case atStart => exact ⟨rfl, rfl⟩
  case round =>
    obtain ⟨rfl, rfl⟩ := hrel
    go_wp2_with fail
    refine (take_nil now _).mono ?_
    rintro e w' ⟨rfl, rfl⟩
    go_wp2_with fail
    go_ret
    exact ⟨rfl, rfl⟩
end I

end Go.Proofs.Ytcicnanchikpjaa.Agenda
