/- The statement 'HopsPaths' is proved: for every input the law returns true, and each argument reads behind the call as it read before. No condition. (The frame is written by a program after the kit's own skeleton; the walk: the texts that are imported.) -/
import Derived.Test.YtcangalpccppbaaRows
import Derived.Test.YtcangalpccppbaaRead
import Derived.WalkKit
import Derived.ProofKit
import Derived.OpenShut
import Derived.ShutString
import Derived.ChangeOld
import Derived.Below
import Derived.Test.YtcangalpccppbaaHopsPathsWalk
namespace Go.Proofs.Ytcangalpccppbaa.hopsPaths
open Go.ChangeShapes Go.WideShapes Go.ChangeAt Go.RowKit
set_option linter.unusedVariables false

theorem own : ownKnob Try.prog.godebug = none := by kernel_rfl
theorem laidOut : laidOutB Try.prog = true := by kernel_rfl

theorem walk (w : World) (cs0 : Array Value) (g0 : Read.Rd Try.prog w 24 cs0.toList) (a1 : Option Addr) (len1 cap1 : Nat) (g1 : Read.Rd Try.prog w 25 [.slice a1 len1 cap1]) :
    Calls Try.prog 3 #[.agg cs0, .slice a1 len1 cap1] w fun e w' => e = .returned (.bool true) ∧ Below w.heap.size w w' := by
  obtain ⟨hl, hf⟩ := Read.Rd.struct Try.underlying24 g0
  obtain ⟨x0, x1, rfl⟩ := Read.cells2 (hl.trans (by kernel_rfl))
  have ci : Try.prog.cellsOf 3 = 1 := by kernel_rfl
  have cl : Try.prog.cellsOf 22 = 1 := by kernel_rfl
  have q0 : Read.Rd Try.prog w 3 [x0] := by simpa [ci] using hf 0 _ rfl
  have q1 : Read.Rd Try.prog w 22 [x1] := by simpa [cl] using hf 1 _ rfl
  clear hf hl
  obtain ⟨la, ln, lc, rfl⟩ : ∃ a n c, x1 = .slice a n c := by rcases Read.Rd.slice Try.underlying22 q1 with h | ⟨_, _, _, h, _⟩ <;> simp at h <;> exact ⟨_, _, _, h⟩
  obtain ⟨n0, rfl, k0⟩ := Read.Rd.int' Try.underlying3 q0
  obtain ⟨ls, hp⟩ := Graph.pairs_in q1
  obtain ⟨zs, hi⟩ := Read.Rd.ints Try.underlying25 Try.underlying3 (by kernel_rfl) g1
  exact Graph.hopspaths_walk w n0 la ln lc ls hp a1 len1 cap1 zs hi

set_option maxRecDepth 100000 in
theorem lifted (os : Os) (started : os.Started) (H : Type) (enc : TypeId × Value → H) :
    ReturnsInHanded {} Try.checked os 3 .any (Rows.hopsPathsSpec.pre6 enc Try.prog Try.f3 Rows.hopsPathsRow.domain false) (Rows.hopsPathsSpec.post enc Try.prog Try.f3 false true false false) := by
  refine returnsInHanded_of_change (C := Try.checked) own started (by kernel_rfl) Try.func3
    (ChangeSpec.witness6 (enc := enc) (C := Try.checked) false ⟨#[], #[.agg #[.int .i64 0, .slice none 0 0], .slice none 0 0], []⟩ 8 (by kernel_rfl) (by kernel_rfl) (by kernel_rfl) (by kernel_rfl)) ?_
  intro W base args ds gs before hval0 hW hcnd _
  have hval : ∀ (j : Nat) t v, Try.f3.params[j]? = some t → args[j]? = some v → Value.okWide Try.prog W .any base t v := hval0
  have hW' := hW
  obtain ⟨p, q, hA0, hV, rfl, hfz, hnd⟩ := hW
  have hA : DataW.TrodAll enc Try.prog W 0 (fun _ => true) true Try.f3.params.toList args.toList ds p := hA0
  rw [Try.params3] at hA hval
  obtain ⟨v0, vs0, d0, ds0, p0, q0, hargs, rfl, rfl, h0, r0⟩ := trodAll_cons hA
  obtain ⟨v1, vs1, d1, ds1, p1, q1, rfl, rfl, rfl, h1, r1⟩ := trodAll_cons r0
  obtain ⟨rfl, rfl, rfl⟩ := trodAll_nil r1
  obtain rfl : args = #[v0, v1] := by cases args; simp_all
  obtain ⟨rfl, rfl⟩ := trodVars_none hV
  obtain ⟨cs0, rfl, _⟩ := okWide_struct Try.underlying24 (hval 0 24 v0 rfl rfl)
  have k0 := h0
  have lt0 : ∀ x ∈ p0, x.block < W.heap.size := by obtain ⟨m, hm⟩ := k0; exact DataW.trod_lt m _ _ _ hm
  have g0 : Read.Rd Try.prog W 24 cs0.toList := by obtain ⟨m, hm⟩ := k0; exact ⟨H, enc, m, _, hm⟩
  obtain ⟨a1, len1, cap1, rfl⟩ := okWide_slice Try.underlying25 (hval 1 25 v1 rfl rfl)
  have k1 := h1
  have lt1 : ∀ x ∈ p1, x.block < W.heap.size := by obtain ⟨m, hm⟩ := k1; exact DataW.trod_lt m _ _ _ hm
  have g1 : Read.Rd Try.prog W 25 [.slice a1 len1 cap1] := by obtain ⟨m, hm⟩ := k1; exact ⟨H, enc, m, _, hm⟩
  clear hA0 hval0
  refine (walk W cs0 g0 a1 len1 cap1 g1).mono fun e W' ⟨he, bel⟩ => ?_
  subst he
  exact ⟨_, rfl, _, _, _, [], _, [], hW', trodAll_mk1 (shut_bool Try.underlying4 _), (trodAll_cons_mk (Below.trod laidOut (by kernel_rfl) (of_decide_eq_true (by kernel_rfl)) k0 bel lt0) (trodAll_cons_mk (Below.trod laidOut (by kernel_rfl) (of_decide_eq_true (by kernel_rfl)) k1 bel lt1) trodAll_mk0)), rfl, bel.frame _, fun h => by cases h⟩

theorem over : Rows.hopsPathsRow.holds Try.pinned (OpenSpec.ofChange Rows.hopsPathsSpec) :=
  OpenClaim.holds_of_wide 3 Try.f3 rfl rfl rfl rfl rfl rfl rfl ⟨rfl, rfl, rfl, rfl, rfl⟩ rfl rfl rfl rfl rfl (by kernel_rfl) Try.func3 (by kernel_rfl)
    (of_decide_eq_true (by kernel_rfl)) (by unfold Func.isWrapper; first | (rw [if_pos (by decide +kernel)]; kernel_rfl) | (rw [if_neg (by decide +kernel)]; exact ⟨rfl, rfl⟩))
    (fun os started H enc _ => lifted os started H enc)

/-- The statement. -/
theorem proved : Rows.HopsPathsSaid := over
#print axioms proved
end Go.Proofs.Ytcangalpccppbaa.hopsPaths
