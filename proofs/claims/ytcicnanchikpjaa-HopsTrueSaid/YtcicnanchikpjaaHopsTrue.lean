/- The statement 'HopsTrue' is proved: for every input the law returns true, and each argument reads behind the call as it read before. No condition. (The frame is written by a program after the kit's own skeleton; the walk: the texts that are imported.) -/
import Derived.Test.YtcicnanchikpjaaRows
import Derived.Test.YtcicnanchikpjaaRead
import Derived.WalkKit
import Derived.ProofKit
import Derived.OpenShut
import Derived.ShutString
import Derived.ChangeOld
import Derived.Below
import Derived.Test.YtcicnanchikpjaaHopsTrueWalk
namespace Go.Proofs.Ytcicnanchikpjaa.hopsTrue
open Go.ChangeShapes Go.WideShapes Go.ChangeAt Go.RowKit
set_option linter.unusedVariables false

theorem own : ownKnob Try.prog.godebug = none := by kernel_rfl
theorem laidOut : laidOutB Try.prog = true := by kernel_rfl

theorem walk (w : World) (cs0 : Array Value) (g0 : Read.Rd Try.prog w 72 cs0.toList) :
    Calls Try.prog 9 #[.agg cs0] w fun e w' => e = .returned (.bool true) ∧ Below w.heap.size w w' := by
  obtain ⟨hl, hf⟩ := Read.Rd.struct Try.underlying72 g0
  obtain ⟨x0, x1, x2, x3, x4, rfl⟩ := Read.cells5 (hl.trans (by kernel_rfl))
  have c2 : Try.prog.cellsOf 68 = 2 := by kernel_rfl
  have u1 : Try.prog.cellsOf 5 = 1 := by kernel_rfl
  have s1 : Try.prog.cellsOf 69 = 1 := by kernel_rfl
  have s2 : Try.prog.cellsOf 70 = 1 := by kernel_rfl
  have q0 : Read.Rd Try.prog w 68 [x0, x1] := by simpa [c2] using hf 0 _ rfl
  have q1 : Read.Rd Try.prog w 5 [x2] := by simpa [u1] using hf 1 _ rfl
  have q2 : Read.Rd Try.prog w 69 [x3] := by simpa [s1] using hf 2 _ rfl
  have q3 : Read.Rd Try.prog w 70 [x4] := by simpa [s2] using hf 3 _ rfl
  obtain ⟨d0, d1, h, w0, w1⟩ := Read.Rd.two Try.underlying68 Try.underlying5 (by kernel_rfl) (by kernel_rfl) q0
  simp at h
  obtain ⟨rfl, rfl⟩ := h
  obtain ⟨r, rfl, w2⟩ := Read.Rd.int' Try.underlying5 q1
  obtain ⟨a1, n1, c1, z1, rfl, r1⟩ := Read.Rd.ints' Try.underlying69 Try.underlying5 (by kernel_rfl) q2
  obtain ⟨a2, n2, c2, z2, rfl, r2⟩ := Read.Rd.ints' Try.underlying70 Try.underlying73 (by kernel_rfl) q3
  exact HopsTrue.true_walk d0 d1 r a1 a2 n1 c1 n2 c2 z1 z2 w (bounds_u8 w0) (bounds_u8 w1) (bounds_u8 w2) r1 r2

set_option maxRecDepth 100000 in
theorem lifted (os : Os) (started : os.Started) (H : Type) (enc : TypeId × Value → H) :
    ReturnsInHanded {} Try.checked os 9 .any (Rows.hopsTrueSpec.pre6 enc Try.prog Try.f9 Rows.hopsTrueRow.domain false) (Rows.hopsTrueSpec.post enc Try.prog Try.f9 false true false false) := by
  refine returnsInHanded_of_change (C := Try.checked) own started (by kernel_rfl) Try.func9
    (ChangeSpec.witness6 (enc := enc) (C := Try.checked) false ⟨#[], #[.agg #[.int .u8 0, .int .u8 0, .int .u8 0, .slice none 0 0, .slice none 0 0]], []⟩ 8 (by kernel_rfl) (by kernel_rfl) (by kernel_rfl) (by kernel_rfl)) ?_
  intro W base args ds gs before hval0 hW hcnd _
  have hval : ∀ (j : Nat) t v, Try.f9.params[j]? = some t → args[j]? = some v → Value.okWide Try.prog W .any base t v := hval0
  have hW' := hW
  obtain ⟨p, q, hA0, hV, rfl, hfz, hnd⟩ := hW
  have hA : DataW.TrodAll enc Try.prog W 0 (fun _ => true) true Try.f9.params.toList args.toList ds p := hA0
  rw [Try.params9] at hA hval
  obtain ⟨v0, vs0, d0, ds0, p0, q0, hargs, rfl, rfl, h0, r0⟩ := trodAll_cons hA
  obtain ⟨rfl, rfl, rfl⟩ := trodAll_nil r0
  obtain rfl : args = #[v0] := by cases args; simp_all
  obtain ⟨rfl, rfl⟩ := trodVars_none hV
  obtain ⟨cs0, rfl, _⟩ := okWide_struct Try.underlying72 (hval 0 72 v0 rfl rfl)
  have k0 := h0
  have lt0 : ∀ x ∈ p0, x.block < W.heap.size := by obtain ⟨m, hm⟩ := k0; exact DataW.trod_lt m _ _ _ hm
  have g0 : Read.Rd Try.prog W 72 cs0.toList := by obtain ⟨m, hm⟩ := k0; exact ⟨H, enc, m, _, hm⟩
  clear hA0 hval0
  refine (walk W cs0 g0).mono fun e W' ⟨he, bel⟩ => ?_
  subst he
  exact ⟨_, rfl, _, _, _, [], _, [], hW', trodAll_mk1 (shut_bool Try.underlying4 _), (trodAll_cons_mk (Below.trod laidOut (by kernel_rfl) (of_decide_eq_true (by kernel_rfl)) k0 bel lt0) trodAll_mk0), rfl, bel.frame _, fun h => by cases h⟩

theorem over : Rows.hopsTrueRow.holds Try.pinned (OpenSpec.ofChange Rows.hopsTrueSpec) :=
  OpenClaim.holds_of_wide 9 Try.f9 rfl rfl rfl rfl rfl rfl rfl ⟨rfl, rfl, rfl, rfl, rfl⟩ rfl rfl rfl rfl rfl (by kernel_rfl) Try.func9 (by kernel_rfl)
    (of_decide_eq_true (by kernel_rfl)) (by unfold Func.isWrapper; first | (rw [if_pos (by decide +kernel)]; kernel_rfl) | (rw [if_neg (by decide +kernel)]; exact ⟨rfl, rfl⟩))
    (fun os started H enc _ => lifted os started H enc)

/-- The statement. -/
theorem proved : Rows.HopsTrueSaid := over
#print axioms proved
end Go.Proofs.Ytcicnanchikpjaa.hopsTrue
