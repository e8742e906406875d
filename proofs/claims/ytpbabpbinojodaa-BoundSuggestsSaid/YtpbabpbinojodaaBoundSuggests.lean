/- The statement 'BoundSuggests' is proved: for every input the law returns true, and each argument reads behind the call as it read before. No condition. (The frame is written by a program after the kit's own skeleton; the walk: the texts that are imported.) -/
import Derived.Test.YtpbabpbinojodaaRows
import Derived.Test.YtpbabpbinojodaaRead
import Derived.WalkKit
import Derived.ProofKit
import Derived.OpenShut
import Derived.ShutString
import Derived.ChangeOld
import Derived.Below
import Derived.Test.YtpbabpbinojodaaBoundSuggestsWalk
namespace Go.Proofs.Ytpbabpbinojodaa.boundSuggests
open Go.ChangeShapes Go.WideShapes Go.ChangeAt Go.RowKit
set_option linter.unusedVariables false

theorem own : ownKnob Try.prog.godebug = none := by kernel_rfl
theorem laidOut : laidOutB Try.prog = true := by kernel_rfl

theorem walk (w : World) (cs0 : Array Value) (g0 : Read.Rd Try.prog w 24 cs0.toList) :
    Calls Try.prog 7 #[.agg cs0] w fun e w' => e = .returned (.bool true) ∧ Below w.heap.size w w' := by
  obtain ⟨hl, hf⟩ := Read.Rd.struct Try.underlying24 g0
  obtain ⟨x0, x1, x2, x3, x4, x5, x6, x7, x8, x9, x10, x11, x12, x13, x14, rfl⟩ := Read.cells15 (hl.trans (by kernel_rfl))
  have ci : Try.prog.cellsOf 3 = 1 := by kernel_rfl
  have cj : Try.prog.cellsOf 2 = 1 := by kernel_rfl
  have cl : Try.prog.cellsOf 22 = 1 := by kernel_rfl
  have q0 : Read.Rd Try.prog w 3 [x0] := by simpa [ci] using hf 0 _ rfl
  have q2 : Read.Rd Try.prog w 3 [x2] := by simpa [ci] using hf 2 _ rfl
  have q10 : Read.Rd Try.prog w 3 [x10] := by simpa [ci] using hf 10 _ rfl
  have q11 : Read.Rd Try.prog w 3 [x11] := by simpa [ci] using hf 11 _ rfl
  have q12 : Read.Rd Try.prog w 3 [x12] := by simpa [ci] using hf 12 _ rfl
  have q13 : Read.Rd Try.prog w 3 [x13] := by simpa [ci] using hf 13 _ rfl
  have q14 : Read.Rd Try.prog w 3 [x14] := by simpa [ci] using hf 14 _ rfl
  have q3 : Read.Rd Try.prog w 2 [x3] := by simpa [cj] using hf 3 _ rfl
  have q4 : Read.Rd Try.prog w 2 [x4] := by simpa [cj] using hf 4 _ rfl
  have q5 : Read.Rd Try.prog w 2 [x5] := by simpa [cj] using hf 5 _ rfl
  have q6 : Read.Rd Try.prog w 2 [x6] := by simpa [cj] using hf 6 _ rfl
  have q7 : Read.Rd Try.prog w 2 [x7] := by simpa [cj] using hf 7 _ rfl
  have q8 : Read.Rd Try.prog w 2 [x8] := by simpa [cj] using hf 8 _ rfl
  have q9 : Read.Rd Try.prog w 2 [x9] := by simpa [cj] using hf 9 _ rfl
  have q1 : Read.Rd Try.prog w 22 [x1] := by simpa [cl] using hf 1 _ rfl
  clear hf hl
  obtain ⟨la, ln, lc, rfl⟩ : ∃ a n c, x1 = .slice a n c := by rcases Read.Rd.slice Try.underlying22 q1 with h | ⟨_, _, _, h, _⟩ <;> simp at h <;> exact ⟨_, _, _, h⟩
  obtain ⟨n0, rfl, k0⟩ := Read.Rd.int' Try.underlying3 q0
  obtain ⟨n2, rfl, k2⟩ := Read.Rd.int' Try.underlying3 q2
  obtain ⟨n10, rfl, k10⟩ := Read.Rd.int' Try.underlying3 q10
  obtain ⟨n11, rfl, k11⟩ := Read.Rd.int' Try.underlying3 q11
  obtain ⟨n12, rfl, k12⟩ := Read.Rd.int' Try.underlying3 q12
  obtain ⟨n13, rfl, k13⟩ := Read.Rd.int' Try.underlying3 q13
  obtain ⟨n14, rfl, k14⟩ := Read.Rd.int' Try.underlying3 q14
  obtain ⟨n3, rfl, k3⟩ := Read.Rd.int' Try.underlying2 q3
  obtain ⟨n4, rfl, k4⟩ := Read.Rd.int' Try.underlying2 q4
  obtain ⟨n5, rfl, k5⟩ := Read.Rd.int' Try.underlying2 q5
  obtain ⟨n6, rfl, k6⟩ := Read.Rd.int' Try.underlying2 q6
  obtain ⟨n7, rfl, k7⟩ := Read.Rd.int' Try.underlying2 q7
  obtain ⟨n8, rfl, k8⟩ := Read.Rd.int' Try.underlying2 q8
  obtain ⟨n9, rfl, k9⟩ := Read.Rd.int' Try.underlying2 q9
  exact Bound.suggests_walk la ln lc n0 n2 n3 n4 n5 n6 n7 n8 n9 n10 n11 n12 n13 n14 w

set_option maxRecDepth 100000 in
theorem lifted (os : Os) (started : os.Started) (H : Type) (enc : TypeId × Value → H) :
    ReturnsInHanded {} Try.checked os 7 .any (Rows.boundSuggestsSpec.pre6 enc Try.prog Try.f7 Rows.boundSuggestsRow.domain false) (Rows.boundSuggestsSpec.post enc Try.prog Try.f7 false true false false) := by
  refine returnsInHanded_of_change (C := Try.checked) own started (by kernel_rfl) Try.func7
    (ChangeSpec.witness6 (enc := enc) (C := Try.checked) false ⟨#[], #[.agg #[.int .i64 0, .slice none 0 0, .int .i64 0, .int .i64 0, .int .i64 0, .int .i64 0, .int .i64 0, .int .i64 0, .int .i64 0, .int .i64 0, .int .i64 0, .int .i64 0, .int .i64 0, .int .i64 0, .int .i64 0]], []⟩ 8 (by kernel_rfl) (by kernel_rfl) (by kernel_rfl) (by kernel_rfl)) ?_
  intro W base args ds gs before hval0 hW hcnd _
  have hval : ∀ (j : Nat) t v, Try.f7.params[j]? = some t → args[j]? = some v → Value.okWide Try.prog W .any base t v := hval0
  have hW' := hW
  obtain ⟨p, q, hA0, hV, rfl, hfz, hnd⟩ := hW
  have hA : DataW.TrodAll enc Try.prog W 0 (fun _ => true) true Try.f7.params.toList args.toList ds p := hA0
  rw [Try.params7] at hA hval
  obtain ⟨v0, vs0, d0, ds0, p0, q0, hargs, rfl, rfl, h0, r0⟩ := trodAll_cons hA
  obtain ⟨rfl, rfl, rfl⟩ := trodAll_nil r0
  obtain rfl : args = #[v0] := by cases args; simp_all
  obtain ⟨rfl, rfl⟩ := trodVars_none hV
  obtain ⟨cs0, rfl, _⟩ := okWide_struct Try.underlying24 (hval 0 24 v0 rfl rfl)
  have k0 := h0
  have lt0 : ∀ x ∈ p0, x.block < W.heap.size := by obtain ⟨m, hm⟩ := k0; exact DataW.trod_lt m _ _ _ hm
  have g0 : Read.Rd Try.prog W 24 cs0.toList := by obtain ⟨m, hm⟩ := k0; exact ⟨H, enc, m, _, hm⟩
  clear hA0 hval0
  refine (walk W cs0 g0).mono fun e W' ⟨he, bel⟩ => ?_
  subst he
  exact ⟨_, rfl, _, _, _, [], _, [], hW', trodAll_mk1 (shut_bool Try.underlying4 _), (trodAll_cons_mk (Below.trod laidOut (by kernel_rfl) (of_decide_eq_true (by kernel_rfl)) k0 bel lt0) trodAll_mk0), rfl, bel.frame _, fun h => by cases h⟩

theorem over : Rows.boundSuggestsRow.holds Try.pinned (OpenSpec.ofChange Rows.boundSuggestsSpec) :=
  OpenClaim.holds_of_wide 7 Try.f7 rfl rfl rfl rfl rfl rfl rfl ⟨rfl, rfl, rfl, rfl, rfl⟩ rfl rfl rfl rfl rfl (by kernel_rfl) Try.func7 (by kernel_rfl)
    (of_decide_eq_true (by kernel_rfl)) (by unfold Func.isWrapper; first | (rw [if_pos (by decide +kernel)]; kernel_rfl) | (rw [if_neg (by decide +kernel)]; exact ⟨rfl, rfl⟩))
    (fun os started H enc _ => lifted os started H enc)

/-- The statement. -/
theorem proved : Rows.BoundSuggestsSaid := over
#print axioms proved
end Go.Proofs.Ytpbabpbinojodaa.boundSuggests
