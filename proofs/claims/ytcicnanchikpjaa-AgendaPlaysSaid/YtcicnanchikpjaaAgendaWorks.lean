/- The example of layer 8. -/
import Derived.Test.YtcicnanchikpjaaAgendaF
import Derived.Test.YtcicnanchikpjaaDrain
namespace Go.Proofs.Ytcicnanchikpjaa.Agenda
open Go.RowKit (wrap64 Below intOf)
open Go.Proofs.Ytcicnanchikpjaa.Heap Go.Proofs.Ytcicnanchikpjaa.RF
set_option linter.unusedVariables false
namespace Ex
def a : Th Int := ⟨5, 0, 1⟩
def b : Th Int := ⟨3, 1, 2⟩
def c : Th Int := ⟨3, 2, 3⟩
theorem rising : Rising [a, b, c] := by
  have h1 : Rising [a] := rising_nil.add (t := a) (fun j u hu => by simp at hu)
  have h2 : Rising [a, b] := h1.add (t := b) (fun j u hu => by
    rcases j with _ | j
    · simp at hu; subst hu; decide
    · simp at hu)
  exact h2.add (t := c) (fun j u hu => by
    rcases j with _ | _ | j
    · simp at hu; subst hu; decide
    · simp at hu; subst hu; decide
    · simp at hu)
theorem first3 : First [a, b, c] 1 b := ⟨rfl, fun j u hu => by
  rcases j with _ | _ | _ | j <;> simp at hu <;> subst hu <;> decide, fun j u hj hu => by
  obtain rfl : j = 0 := by omega
  simp at hu; subst hu; decide⟩
theorem first2 : First [a, c] 1 c := ⟨rfl, fun j u hu => by
  rcases j with _ | _ | j <;> simp at hu <;> subst hu <;> decide, fun j u hj hu => by
  obtain rfl : j = 0 := by omega
  simp at hu; subst hu; decide⟩
theorem drained : Drained 3 [a, b, c] [2, 3] [a] :=
  Drained.take [a, b, c] 1 b _ _ first3 (by decide) (Drained.take [a, c] 1 c _ _ first2 (by decide) (Drained.stop [a] (fun j u hu => by
    rcases j with _ | j
    · simp at hu; subst hu; decide
    · simp at hu)))
end Ex
set_option maxRecDepth 100000 in
set_option maxHeartbeats 2000000 in
theorem works_any (w : World) : Calls Try.prog 19 #[] w fun e w' => e = .returned (.bool true) ∧ Below w.heap.size w w' := by
  go_enter Try.func19, Try.ntmps19
  go_wp2_with fail
  refine (I.new_any 3 _ (by omega)).mono ?_
  rintro e w1 ⟨rfl, a1, f1⟩
  rw [show min (max (3 : Int) 0) 65536 = 3 from by decide] at a1
  have A1 := Lib.hid a1
  have F1 := Lib.hid f1
  clear a1 f1
  go_wp2_with fail
  refine (I.add_any _ _ 3 0 [] 5 1 _ A1.out (by simp) (by omega) (by omega)).mono ?_
  rintro e w2 ⟨rfl, a2, f2⟩
  have A2 := Lib.hid a2
  have F2 := Lib.hid f2
  clear a2 f2
  go_wp2_with fail
  refine (I.add_any _ _ 3 (0 + 1) _ 3 2 _ A2.out (by simp) (by omega) (by omega)).mono ?_
  rintro e w3 ⟨rfl, a3, f3⟩
  have A3 := Lib.hid a3
  have F3 := Lib.hid f3
  clear a3 f3
  go_wp2_with fail
  refine (I.add_any _ _ 3 (0 + 1 + 1) _ 3 3 _ A3.out (by simp) (by omega) (by omega)).mono ?_
  rintro e w4 ⟨rfl, a4, f4⟩
  have A4 := Lib.hid (show I.Ag w.heap.size w.heap.size 3 3 [Ex.a, Ex.b, Ex.c] w4 from a4)
  have F4 := Lib.hid f4
  clear a4 f4
  go_wp2_with fail
  refine (I.add_full _ _ 3 3 [Ex.a, Ex.b, Ex.c] 1 4 _ A4.out (by simp) (by simp)).mono ?_
  rintro e w5 ⟨rfl, nq, rfl⟩
  have A5 := Lib.hid (A4.out.off ((Off.refl (fun _ => False) _).drewN nq))
  have F5 := Lib.hid ((((F1.out.more (ts' := I.ts) (fun _ h => by cases h)).trans F2.out).trans F3.out).trans F4.out |>.drewN nq)
  go_wp2_with fail
  refine (I.drain_any _ _ 3 3 [Ex.a, Ex.b, Ex.c] 3 _ A5.out Ex.rising (by simp)).mono ?_
  rintro e w6 ⟨v, xs, S', rfl, own6, hd, _, _, a6, f6⟩
  obtain ⟨rfl, rfl⟩ := hd.uniq Ex.drained
  obtain ⟨g, cap, rfl, _⟩ := own6.form (by simp)
  have c0 : w6.cell? ⟨g, 0, none⟩ = some (.int .i64 2) := own6.cellAt 0 (by simp)
  have c1 : w6.cell? ⟨g, 1, none⟩ = some (.int .i64 3) := own6.cellAt 1 (by simp)
  have A6 := Lib.hid a6
  have F6 := Lib.hid (F5.out.trans f6)
  clear own6 a6 f6 hd
  go_wp2_with fail
  refine (I.next_yes _ _ 3 3 [Ex.a] _ A6.out (rising_nil.add (t := Ex.a) (fun j u hu => by simp at hu)) 0 Ex.a (first_one _) (by simp)).mono ?_
  rintro e w7 ⟨rfl, rfl⟩
  have e5 : Ex.a.due = 5 := rfl
  go_wp2_with fail
  go_ret
  exact ⟨rfl, F6.out.toBelow (Nat.le_refl _)⟩
end Go.Proofs.Ytcicnanchikpjaa.Agenda
