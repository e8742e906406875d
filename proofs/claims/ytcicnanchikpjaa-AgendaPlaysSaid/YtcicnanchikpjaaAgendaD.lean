/- What Add does to an agenda's state, at each type. -/
import Derived.Test.YtcicnanchikpjaaAgendaC
import Derived.Deep.RegionLaw
namespace Go.Proofs.Ytcicnanchikpjaa.Agenda
open Go.RowKit (wrap64 Below intOf)
open Go.Proofs.Ytcicnanchikpjaa.Heap Go.Proofs.Ytcicnanchikpjaa.RF
set_option linter.unusedVariables false
namespace I64
theorem infoT : (Try.prog.info? 101).map (fun i => (i.zero, i.size, i.bytes)) = some (some (.agg #[.int .i64 0, .int .u64 0, .int .i64 0]), 3, 24) := by kernel_rfl
set_option maxRecDepth 100000 in
set_option maxHeartbeats 4000000 in
theorem add_any (base p : Nat) (most : Int) (no : Nat) (S : List (Th Int)) (due x : Int) (w : World) (h : Ag base p most no S w) (hm : (S.length : Int) < most) (hm2 : most ≤ 65536) (hno : no ≤ 1000000000) :
    Calls Try.prog 21 #[.pointer (some ⟨p, 0, none⟩), .int .i64 due, .int .i64 x] w fun e w' => e = .returned (.int .i64 0) ∧ Ag base p most (no + 1) (S ++ [⟨due, no, x⟩]) w' ∧ Fr base ts w w' := by
  obtain ⟨i0, hi0, hz0, hz1, hz2⟩ := info_parts infoT
  obtain ⟨L, sl, hb, ho, hp, hh, h3, h4⟩ := h
  obtain ⟨A, cap, rfl⟩ := sl_form ho
  have hplt := hb.lt
  have c0 : w.cell? ⟨p, 0, none⟩ = some (.slice A L.length cap) := hb.cell 0
  have c1 : w.cell? ⟨p, 1, none⟩ = some (.int .i64 most) := hb.cell 1
  have c2 : w.cell? ⟨p, 2, none⟩ = some (.int .u64 no) := hb.cell 2
  have f0 : w.frozen? ⟨p, 0, none⟩ = false := hb.frozen 0
  have f2 : w.frozen? ⟨p, 2, none⟩ = false := hb.frozen 2
  have hl := hp.length_eq
  have hm' : (L.length : Int) < most := by omega
  have hL : L.length ≤ 65536 := by omega
  have ag : (Value.slice A L.length cap).ownBlock ≠ some p := by
    rcases ho.2 with ⟨h', _⟩ | ⟨g', cap', cur, h', _, hg, _⟩
    · rw [h']; simp [Value.ownBlock]
    · rw [h']
      simp only [Value.ownBlock, ne_eq, Option.some.injEq]
      exact fun c => hb.ne (show Blk w g' 101 cur from hg) (by decide) c.symm
  have Hb := Lib.hid hb
  have Ho := Lib.hid ho
  have Hp := Lib.hid hp
  have Hh := Lib.hid hh
  have Hz := Lib.hid hi0
  have Hz0 := Lib.hid hz0
  have Hz1 := Lib.hid hz1
  have Hz2 := Lib.hid hz2
  clear hb ho hp hh hl hi0 hz0 hz1 hz2
  go_enter Try.func21, Try.ntmps21
  go_wp2_with fail
  go_quiet (fail)
  go_wp2_with fail
  obtain ⟨W, hW⟩ : ∃ W, w.drewN nq = W := ⟨_, rfl⟩
  have d0 : W.cell? ⟨p, 0, none⟩ = some (.slice A L.length cap) := by rw [← hW]; exact c0
  have d2 : W.cell? ⟨p, 2, none⟩ = some (.int .u64 no) := by rw [← hW]; exact c2
  have e0 : W.frozen? ⟨p, 0, none⟩ = false := by rw [← hW]; exact f0
  have e2 : W.frozen? ⟨p, 2, none⟩ = false := by rw [← hW]; exact f2
  have hzW : p < W.heap.size := by rw [← hW]; exact hplt
  have hbW : base ≤ W.heap.size := by rw [← hW]; exact h4
  have HoW : RowKit.Hid (W.ownsRow base 101 3 (.slice A L.length cap) L.length (flat encI L)) := by rw [← hW]; exact Ho
  have HbW : RowKit.Hid (Blk W p 99 #[.slice A L.length cap, .int .i64 most, .int .u64 no]) := by rw [← hW]; exact Hb
  have HFr : RowKit.Hid (Fr base ts w W) := by rw [← hW]; exact (Fr.refl _ _ _).drewN _
  rw [hW]
  clear hW c0 c1 c2 f0 f2 hplt
  go_region_law ((refine step_append_lies _ (by rfl) _ _ _ (by rfl) base 101 i0 _ 3 24 Try.underlying97 Hz.out Hz0.out Hz1.out Hz2.out rfl (by omega) (.slice A L.length cap) L.length (flat encI L) (by rfl) ((HoW.out.alloc _).drew) ⟨W.heap.size, 0, none⟩ 1 1 [.int .i64 due, .int .u64 no, .int .i64 x] (by rfl) (by rfl) (World.news_of_block (cs := #[.int .i64 due, .int .u64 no, .int .i64 x]) (t := 101) (fr := (0, 0)) (heap_alloc_new W _)) (by simp [Value.oneCell']) (by omega) (by unfold maxLen; omega) (by omega) (by simp; omega) (W.heap.size + 1) (by simp) ?_; intro gg cap' w1 hown1 hgrow hat hlt; have B1 := (HbW.out.alloc _).grown (w := (W.alloc _).drew) hgrow (Ne.symm ag); have k0 := B1.cell 0; have k1 := B1.cell 1; have k2 := B1.cell 2; have z0 := B1.frozen 0; have z2 := B1.frozen 2; simp at k0 k1 k2; replace B1 := Lib.hid B1; replace hown1 := Lib.hid hown1; replace hgrow := Lib.hid hgrow; replace hat := Lib.hid hat))
  all_goals
    have hgp : p ≠ gg := by
      rcases hat.out with c | c
      · rintro rfl; exact ag c
      · omega
    go_wp2_with fail
    obtain ⟨X, hX⟩ : ∃ X, (w1.setCell ⟨p, 0, none⟩ (.slice (some ⟨gg, 0, none⟩) (L.length + 1) cap')).setCell ⟨p, 2, none⟩ (.int .u64 ((no : Int) + 1)) = X := ⟨_, rfl⟩
    have B2 : Blk X p 99 #[.slice (some ⟨gg, 0, none⟩) (L.length + 1) cap', .int .i64 most, .int .u64 ((no : Int) + 1)] := by rw [← hX]; exact (B1.out.put 0 _).put 2 _
    have oX : Off (fun k => k = p) w1 X := by rw [← hX]; exact ((Off.refl (fun k => k = p) w1).setCell (p := ⟨p, 0, none⟩) (.inl rfl) _).setCell (p := ⟨p, 2, none⟩) (.inl rfl) _
    have own2 := own_off hown1.out oX (fun g hg => by simp only [Value.ownBlock, Option.some.injEq] at hg; subst hg; exact fun c => hgp c.symm)
    rw [show flat encI L ++ [.int .i64 due, .int .u64 no, .int .i64 x] = flat encI (L ++ [⟨due, no, x⟩]) from (flat_snoc L ⟨due, no, x⟩).symm] at own2
    have F2 : Fr base ts w X := by
      refine ((HFr.out.trans ?_).trans (Fr.grown_own hgrow.out (own_drew (HoW.out.alloc _)) rfl)).trans (Fr.of_off oX fun k _ hk => ?_)
      · exact ((Fr.refl _ _ _).alloc _).drew
      · subst hk; exact ⟨h3, _, B1.out, rfl⟩
    have el : (L ++ [(⟨due, no, x⟩ : Th Int)]).length = L.length + 1 := by simp
    rw [← el] at B2 own2
    first | rw [hX] | skip
    have BB2 := Lib.hid B2
    have Own2 := Lib.hid own2
    have FF2 := Lib.hid F2
    have El := Lib.hid el
    clear hX B2 own2 F2 oX k0 k1 k2 z0 z2 d0 d2 e0 e2 el
    refine (rise_any base p gg cap' most ((no : Int) + 1) (L ++ [⟨due, no, x⟩]) L.length X BB2.out Own2.out (Hh.out.add _) (by rw [El.out]; omega) (by rw [El.out]; omega)).mono ?_
    rintro e w3 ⟨⟨v, rfl⟩, M, ml, mp, mh, own3, o3⟩
    have B3 := BB2.out.off o3 hgp
    rw [← ml] at B3 own3
    have hfin := Lib.hid (show Ag base p most (no + 1) (S ++ [⟨due, no, x⟩]) w3 ∧ Fr base ts w w3 from
      ⟨⟨M, _, B3, own3, mp.trans (Hp.out.append_right _), mh, h3, by have := FF2.out.size; have := HFr.out.size; have := o3.size; omega⟩, FF2.out.trans (Fr.off_own o3 Own2.out rfl)⟩)
    clear ml mp mh own3 o3 B3
    go_wp2_with fail
    go_ret
    exact ⟨rfl, hfin.out⟩
end I64
namespace I
theorem infoT : (Try.prog.info? 95).map (fun i => (i.zero, i.size, i.bytes)) = some (some (.agg #[.int .i64 0, .int .u64 0, .int .i64 0]), 3, 24) := by kernel_rfl
set_option maxRecDepth 100000 in
set_option maxHeartbeats 4000000 in
theorem add_any (base p : Nat) (most : Int) (no : Nat) (S : List (Th Int)) (due x : Int) (w : World) (h : Ag base p most no S w) (hm : (S.length : Int) < most) (hm2 : most ≤ 65536) (hno : no ≤ 1000000000) :
    Calls Try.prog 16 #[.pointer (some ⟨p, 0, none⟩), .int .i64 due, .int .i64 x] w fun e w' => e = .returned (.int .i64 0) ∧ Ag base p most (no + 1) (S ++ [⟨due, no, x⟩]) w' ∧ Fr base ts w w' := by
  obtain ⟨i0, hi0, hz0, hz1, hz2⟩ := info_parts infoT
  obtain ⟨L, sl, hb, ho, hp, hh, h3, h4⟩ := h
  obtain ⟨A, cap, rfl⟩ := sl_form ho
  have hplt := hb.lt
  have c0 : w.cell? ⟨p, 0, none⟩ = some (.slice A L.length cap) := hb.cell 0
  have c1 : w.cell? ⟨p, 1, none⟩ = some (.int .i64 most) := hb.cell 1
  have c2 : w.cell? ⟨p, 2, none⟩ = some (.int .u64 no) := hb.cell 2
  have f0 : w.frozen? ⟨p, 0, none⟩ = false := hb.frozen 0
  have f2 : w.frozen? ⟨p, 2, none⟩ = false := hb.frozen 2
  have hl := hp.length_eq
  have hm' : (L.length : Int) < most := by omega
  have hL : L.length ≤ 65536 := by omega
  have ag : (Value.slice A L.length cap).ownBlock ≠ some p := by
    rcases ho.2 with ⟨h', _⟩ | ⟨g', cap', cur, h', _, hg, _⟩
    · rw [h']; simp [Value.ownBlock]
    · rw [h']
      simp only [Value.ownBlock, ne_eq, Option.some.injEq]
      exact fun c => hb.ne (show Blk w g' 95 cur from hg) (by decide) c.symm
  have Hb := Lib.hid hb
  have Ho := Lib.hid ho
  have Hp := Lib.hid hp
  have Hh := Lib.hid hh
  have Hz := Lib.hid hi0
  have Hz0 := Lib.hid hz0
  have Hz1 := Lib.hid hz1
  have Hz2 := Lib.hid hz2
  clear hb ho hp hh hl hi0 hz0 hz1 hz2
  go_enter Try.func16, Try.ntmps16
  go_wp2_with fail
  go_quiet (fail)
  go_wp2_with fail
  obtain ⟨W, hW⟩ : ∃ W, w.drewN nq = W := ⟨_, rfl⟩
  have d0 : W.cell? ⟨p, 0, none⟩ = some (.slice A L.length cap) := by rw [← hW]; exact c0
  have d2 : W.cell? ⟨p, 2, none⟩ = some (.int .u64 no) := by rw [← hW]; exact c2
  have e0 : W.frozen? ⟨p, 0, none⟩ = false := by rw [← hW]; exact f0
  have e2 : W.frozen? ⟨p, 2, none⟩ = false := by rw [← hW]; exact f2
  have hzW : p < W.heap.size := by rw [← hW]; exact hplt
  have hbW : base ≤ W.heap.size := by rw [← hW]; exact h4
  have HoW : RowKit.Hid (W.ownsRow base 95 3 (.slice A L.length cap) L.length (flat encI L)) := by rw [← hW]; exact Ho
  have HbW : RowKit.Hid (Blk W p 93 #[.slice A L.length cap, .int .i64 most, .int .u64 no]) := by rw [← hW]; exact Hb
  have HFr : RowKit.Hid (Fr base ts w W) := by rw [← hW]; exact (Fr.refl _ _ _).drewN _
  rw [hW]
  clear hW c0 c1 c2 f0 f2 hplt
  go_region_law ((refine step_append_lies _ (by rfl) _ _ _ (by rfl) base 95 i0 _ 3 24 Try.underlying90 Hz.out Hz0.out Hz1.out Hz2.out rfl (by omega) (.slice A L.length cap) L.length (flat encI L) (by rfl) ((HoW.out.alloc _).drew) ⟨W.heap.size, 0, none⟩ 1 1 [.int .i64 due, .int .u64 no, .int .i64 x] (by rfl) (by rfl) (World.news_of_block (cs := #[.int .i64 due, .int .u64 no, .int .i64 x]) (t := 95) (fr := (0, 0)) (heap_alloc_new W _)) (by simp [Value.oneCell']) (by omega) (by unfold maxLen; omega) (by omega) (by simp; omega) (W.heap.size + 1) (by simp) ?_; intro gg cap' w1 hown1 hgrow hat hlt; have B1 := (HbW.out.alloc _).grown (w := (W.alloc _).drew) hgrow (Ne.symm ag); have k0 := B1.cell 0; have k1 := B1.cell 1; have k2 := B1.cell 2; have z0 := B1.frozen 0; have z2 := B1.frozen 2; simp at k0 k1 k2; replace B1 := Lib.hid B1; replace hown1 := Lib.hid hown1; replace hgrow := Lib.hid hgrow; replace hat := Lib.hid hat))
  all_goals
    have hgp : p ≠ gg := by
      rcases hat.out with c | c
      · rintro rfl; exact ag c
      · omega
    go_wp2_with fail
    obtain ⟨X, hX⟩ : ∃ X, (w1.setCell ⟨p, 0, none⟩ (.slice (some ⟨gg, 0, none⟩) (L.length + 1) cap')).setCell ⟨p, 2, none⟩ (.int .u64 ((no : Int) + 1)) = X := ⟨_, rfl⟩
    have B2 : Blk X p 93 #[.slice (some ⟨gg, 0, none⟩) (L.length + 1) cap', .int .i64 most, .int .u64 ((no : Int) + 1)] := by rw [← hX]; exact (B1.out.put 0 _).put 2 _
    have oX : Off (fun k => k = p) w1 X := by rw [← hX]; exact ((Off.refl (fun k => k = p) w1).setCell (p := ⟨p, 0, none⟩) (.inl rfl) _).setCell (p := ⟨p, 2, none⟩) (.inl rfl) _
    have own2 := own_off hown1.out oX (fun g hg => by simp only [Value.ownBlock, Option.some.injEq] at hg; subst hg; exact fun c => hgp c.symm)
    rw [show flat encI L ++ [.int .i64 due, .int .u64 no, .int .i64 x] = flat encI (L ++ [⟨due, no, x⟩]) from (flat_snoc L ⟨due, no, x⟩).symm] at own2
    have F2 : Fr base ts w X := by
      refine ((HFr.out.trans ?_).trans (Fr.grown_own hgrow.out (own_drew (HoW.out.alloc _)) rfl)).trans (Fr.of_off oX fun k _ hk => ?_)
      · exact ((Fr.refl _ _ _).alloc _).drew
      · subst hk; exact ⟨h3, _, B1.out, rfl⟩
    have el : (L ++ [(⟨due, no, x⟩ : Th Int)]).length = L.length + 1 := by simp
    rw [← el] at B2 own2
    first | rw [hX] | skip
    have BB2 := Lib.hid B2
    have Own2 := Lib.hid own2
    have FF2 := Lib.hid F2
    have El := Lib.hid el
    clear hX B2 own2 F2 oX k0 k1 k2 z0 z2 d0 d2 e0 e2 el
    refine (rise_any base p gg cap' most ((no : Int) + 1) (L ++ [⟨due, no, x⟩]) L.length X BB2.out Own2.out (Hh.out.add _) (by rw [El.out]; omega) (by rw [El.out]; omega)).mono ?_
    rintro e w3 ⟨⟨v, rfl⟩, M, ml, mp, mh, own3, o3⟩
    have B3 := BB2.out.off o3 hgp
    rw [← ml] at B3 own3
    have hfin := Lib.hid (show Ag base p most (no + 1) (S ++ [⟨due, no, x⟩]) w3 ∧ Fr base ts w w3 from
      ⟨⟨M, _, B3, own3, mp.trans (Hp.out.append_right _), mh, h3, by have := FF2.out.size; have := HFr.out.size; have := o3.size; omega⟩, FF2.out.trans (Fr.off_own o3 Own2.out rfl)⟩)
    clear ml mp mh own3 o3 B3
    go_wp2_with fail
    go_ret
    exact ⟨rfl, hfin.out⟩
end I

end Go.Proofs.Ytcicnanchikpjaa.Agenda
