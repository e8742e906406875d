/- The statement 'ReadingTrue' is proved: for every input the law returns true, and each argument reads behind the call as it read before. No condition. (The frame is written by a program after the kit's own skeleton; the walk: the texts that are imported.) -/
import Derived.Test.YtcicnanchikpjaaRows
import Derived.Test.YtcicnanchikpjaaRead
import Derived.WalkKit
import Derived.ProofKit
import Derived.OpenShut
import Derived.ShutString
import Derived.ChangeOld
import Derived.Below
import Derived.Test.YtcicnanchikpjaaReadingTrueWalk
namespace Go.Proofs.Ytcicnanchikpjaa.readingTrue
open Go.ChangeShapes Go.WideShapes Go.ChangeAt Go.RowKit
set_option linter.unusedVariables false

theorem own : ownKnob Try.prog.godebug = none := by kernel_rfl
theorem laidOut : laidOutB Try.prog = true := by kernel_rfl

theorem walk (w : World) (cs0 : Array Value) (g0 : Read.Rd Try.prog w 84 cs0.toList) :
    Calls Try.prog 13 #[.agg cs0] w fun e w' => e = .returned (.bool true) ∧ Below w.heap.size w w' := by
  obtain ⟨hl, hf⟩ := Read.Rd.struct Try.underlying84 g0
  obtain ⟨x0, x1, x2, x3, x4, x5, x6, x7, x8, x9, rfl⟩ := Read.cells10 (hl.trans (by kernel_rfl))
  have u1 : Try.prog.cellsOf 5 = 1 := by kernel_rfl
  have s1 : Try.prog.cellsOf 81 = 1 := by kernel_rfl
  have v1 : Try.prog.cellsOf 82 = 1 := by kernel_rfl
  have q0 : Read.Rd Try.prog w 5 [x0] := by simpa [u1] using hf 0 _ rfl
  have q1 : Read.Rd Try.prog w 5 [x1] := by simpa [u1] using hf 1 _ rfl
  have q2 : Read.Rd Try.prog w 5 [x2] := by simpa [u1] using hf 2 _ rfl
  have q3 : Read.Rd Try.prog w 5 [x3] := by simpa [u1] using hf 3 _ rfl
  have q4 : Read.Rd Try.prog w 5 [x4] := by simpa [u1] using hf 4 _ rfl
  have q5 : Read.Rd Try.prog w 5 [x5] := by simpa [u1] using hf 5 _ rfl
  have q6 : Read.Rd Try.prog w 81 [x6] := by simpa [s1] using hf 6 _ rfl
  have q7 : Read.Rd Try.prog w 81 [x7] := by simpa [s1] using hf 7 _ rfl
  have q8 : Read.Rd Try.prog w 82 [x8] := by simpa [v1] using hf 8 _ rfl
  have q9 : Read.Rd Try.prog w 82 [x9] := by simpa [v1] using hf 9 _ rfl
  clear hf hl
  obtain ⟨d0, rfl, k0⟩ := Read.Rd.int' Try.underlying5 q0
  obtain ⟨d1, rfl, k1⟩ := Read.Rd.int' Try.underlying5 q1
  obtain ⟨r, rfl, k2⟩ := Read.Rd.int' Try.underlying5 q2
  obtain ⟨s, rfl, k3⟩ := Read.Rd.int' Try.underlying5 q3
  obtain ⟨th, rfl, k4⟩ := Read.Rd.int' Try.underlying5 q4
  obtain ⟨ba, rfl, k5⟩ := Read.Rd.int' Try.underlying5 q5
  obtain ⟨b1, n1, c1, z1, rfl, r1⟩ := Read.Rd.ints' Try.underlying81 Try.underlying106 (by kernel_rfl) q6
  obtain ⟨b2, n2, c2, z2, rfl, r2⟩ := Read.Rd.ints' Try.underlying81 Try.underlying106 (by kernel_rfl) q7
  obtain ⟨sent, rfl, k8⟩ := Read.Rd.int' Try.underlying82 q8
  obtain ⟨val, rfl, k9⟩ := Read.Rd.int' Try.underlying82 q9
  exact Trip.true_walk d0 d1 r s th ba b1 b2 n1 c1 n2 c2 z1 z2 sent val w (bounds_u8 k0) (bounds_u8 k1) (bounds_u8 k2) (bounds_u8 k3) (bounds_u8 k4) (bounds_u8 k5) (bounds_u32 k8) (bounds_u32 k9) r1 r2

set_option maxRecDepth 100000 in
theorem lifted (os : Os) (started : os.Started) (H : Type) (enc : TypeId × Value → H) :
    ReturnsInHanded {} Try.checked os 13 .any (Rows.readingTrueSpec.pre6 enc Try.prog Try.f13 Rows.readingTrueRow.domain false) (Rows.readingTrueSpec.post enc Try.prog Try.f13 false true false false) := by
  refine returnsInHanded_of_change (C := Try.checked) own started (by kernel_rfl) Try.func13
    (ChangeSpec.witness6 (enc := enc) (C := Try.checked) false ⟨#[], #[.agg #[.int .u8 0, .int .u8 0, .int .u8 0, .int .u8 0, .int .u8 0, .int .u8 0, .slice none 0 0, .slice none 0 0, .int .u32 0, .int .u32 0]], []⟩ 8 (by kernel_rfl) (by kernel_rfl) (by kernel_rfl) (by kernel_rfl)) ?_
  intro W base args ds gs before hval0 hW hcnd _
  have hval : ∀ (j : Nat) t v, Try.f13.params[j]? = some t → args[j]? = some v → Value.okWide Try.prog W .any base t v := hval0
  have hW' := hW
  obtain ⟨p, q, hA0, hV, rfl, hfz, hnd⟩ := hW
  have hA : DataW.TrodAll enc Try.prog W 0 (fun _ => true) true Try.f13.params.toList args.toList ds p := hA0
  rw [Try.params13] at hA hval
  obtain ⟨v0, vs0, d0, ds0, p0, q0, hargs, rfl, rfl, h0, r0⟩ := trodAll_cons hA
  obtain ⟨rfl, rfl, rfl⟩ := trodAll_nil r0
  obtain rfl : args = #[v0] := by cases args; simp_all
  obtain ⟨rfl, rfl⟩ := trodVars_none hV
  obtain ⟨cs0, rfl, _⟩ := okWide_struct Try.underlying84 (hval 0 84 v0 rfl rfl)
  have k0 := h0
  have lt0 : ∀ x ∈ p0, x.block < W.heap.size := by obtain ⟨m, hm⟩ := k0; exact DataW.trod_lt m _ _ _ hm
  have g0 : Read.Rd Try.prog W 84 cs0.toList := by obtain ⟨m, hm⟩ := k0; exact ⟨H, enc, m, _, hm⟩
  clear hA0 hval0
  refine (walk W cs0 g0).mono fun e W' ⟨he, bel⟩ => ?_
  subst he
  exact ⟨_, rfl, _, _, _, [], _, [], hW', trodAll_mk1 (shut_bool Try.underlying4 _), (trodAll_cons_mk (Below.trod laidOut (by kernel_rfl) (of_decide_eq_true (by kernel_rfl)) k0 bel lt0) trodAll_mk0), rfl, bel.frame _, fun h => by cases h⟩

theorem over : Rows.readingTrueRow.holds Try.pinned (OpenSpec.ofChange Rows.readingTrueSpec) :=
  OpenClaim.holds_of_wide 13 Try.f13 rfl rfl rfl rfl rfl rfl rfl ⟨rfl, rfl, rfl, rfl, rfl⟩ rfl rfl rfl rfl rfl (by kernel_rfl) Try.func13 (by kernel_rfl)
    (of_decide_eq_true (by kernel_rfl)) (by unfold Func.isWrapper; first | (rw [if_pos (by decide +kernel)]; kernel_rfl) | (rw [if_neg (by decide +kernel)]; exact ⟨rfl, rfl⟩))
    (fun os started H enc _ => lifted os started H enc)

/-- The statement. -/
theorem proved : Rows.ReadingTrueSaid := over
#print axioms proved
end Go.Proofs.Ytcicnanchikpjaa.readingTrue
