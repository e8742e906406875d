/- The statement 'ReadingFar' is proved: for every input the law returns true, and each argument reads behind the call as it read before. No condition. (The frame is written by a program after the kit's own skeleton; the walk: the texts that are imported.) -/
import Derived.Test.YtcicnanchikpjaaRows
import Derived.Test.YtcicnanchikpjaaRead
import Derived.WalkKit
import Derived.ProofKit
import Derived.OpenShut
import Derived.ShutString
import Derived.ChangeOld
import Derived.Below
import Derived.Test.YtcicnanchikpjaaReadingFarWalk
namespace Go.Proofs.Ytcicnanchikpjaa.readingFar
open Go.ChangeShapes Go.WideShapes Go.ChangeAt Go.RowKit
set_option linter.unusedVariables false

theorem own : ownKnob Try.prog.godebug = none := by kernel_rfl
theorem laidOut : laidOutB Try.prog = true := by kernel_rfl

theorem walk (w : World) (cs0 : Array Value) (g0 : Read.Rd Try.prog w 84 cs0.toList) (a1 : Option Addr) (len1 cap1 : Nat) (g1 : Read.Rd Try.prog w 69 [.slice a1 len1 cap1]) (a2 : Int) (w2 : (Lit.int .u32 a2).wf = true) :
    Calls Try.prog 14 #[.agg cs0, .slice a1 len1 cap1, .int .u32 a2] w fun e w' => e = .returned (.bool true) ∧ Below w.heap.size w w' := by
  obtain ⟨hl, hf⟩ := Read.Rd.struct Try.underlying84 g0
  obtain ⟨x0, x1, x2, x3, x4, x5, x6, x7, x8, x9, rfl⟩ := Read.cells10 (hl.trans (by kernel_rfl))
  have u1 : Try.prog.cellsOf 5 = 1 := by kernel_rfl
  have s1 : Try.prog.cellsOf 81 = 1 := by kernel_rfl
  have v1 : Try.prog.cellsOf 82 = 1 := by kernel_rfl
  have q0 : Read.Rd Try.prog w 5 [x0] := by simpa [u1] using hf 0 _ rfl
  have q1 : Read.Rd Try.prog w 5 [x1] := by simpa [u1] using hf 1 _ rfl
  have q2 : Read.Rd Try.prog w 5 [x2] := by simpa [u1] using hf 2 _ rfl
  have q3 : Read.Rd Try.prog w 5 [x3] := by simpa [u1] using hf 3 _ rfl
  have q4 : Read.Rd Try.prog w 5 [x4] := by simpa [u1] using hf 4 _ rfl
  have q5 : Read.Rd Try.prog w 5 [x5] := by simpa [u1] using hf 5 _ rfl
  have q6 : Read.Rd Try.prog w 81 [x6] := by simpa [s1] using hf 6 _ rfl
  have q7 : Read.Rd Try.prog w 81 [x7] := by simpa [s1] using hf 7 _ rfl
  have q8 : Read.Rd Try.prog w 82 [x8] := by simpa [v1] using hf 8 _ rfl
  have q9 : Read.Rd Try.prog w 82 [x9] := by simpa [v1] using hf 9 _ rfl
  clear hf hl
  obtain ⟨d0, rfl, k0⟩ := Read.Rd.int' Try.underlying5 q0
  obtain ⟨d1, rfl, k1⟩ := Read.Rd.int' Try.underlying5 q1
  obtain ⟨r, rfl, k2⟩ := Read.Rd.int' Try.underlying5 q2
  obtain ⟨s, rfl, k3⟩ := Read.Rd.int' Try.underlying5 q3
  obtain ⟨th, rfl, k4⟩ := Read.Rd.int' Try.underlying5 q4
  obtain ⟨ba, rfl, k5⟩ := Read.Rd.int' Try.underlying5 q5
  obtain ⟨b1, n1, c1, z1, rfl, r1⟩ := Read.Rd.ints' Try.underlying81 Try.underlying106 (by kernel_rfl) q6
  obtain ⟨b2, n2, c2, z2, rfl, r2⟩ := Read.Rd.ints' Try.underlying81 Try.underlying106 (by kernel_rfl) q7
  obtain ⟨sent, rfl, k8⟩ := Read.Rd.int' Try.underlying82 q8
  obtain ⟨val, rfl, k9⟩ := Read.Rd.int' Try.underlying82 q9
  obtain ⟨z0, r0⟩ := Read.Rd.ints Try.underlying69 Try.underlying5 (by kernel_rfl) g1
  exact Trip.far_walk d0 d1 r s th ba a1 b1 b2 len1 cap1 n1 c1 n2 c2 z0 z2 sent val a2 w (bounds_u8 k0) (bounds_u8 k1) (bounds_u8 k2) (bounds_u8 k3) (bounds_u32 k9) (bounds_u32 w2) r0 r2

set_option maxRecDepth 100000 in
theorem lifted (os : Os) (started : os.Started) (H : Type) (enc : TypeId × Value → H) :
    ReturnsInHanded {} Try.checked os 14 .any (Rows.readingFarSpec.pre6 enc Try.prog Try.f14 Rows.readingFarRow.domain false) (Rows.readingFarSpec.post enc Try.prog Try.f14 false true false false) := by
  refine returnsInHanded_of_change (C := Try.checked) own started (by kernel_rfl) Try.func14
    (ChangeSpec.witness6 (enc := enc) (C := Try.checked) false ⟨#[], #[.agg #[.int .u8 0, .int .u8 0, .int .u8 0, .int .u8 0, .int .u8 0, .int .u8 0, .slice none 0 0, .slice none 0 0, .int .u32 0, .int .u32 0], .slice none 0 0, .int .u32 0], []⟩ 8 (by kernel_rfl) (by kernel_rfl) (by kernel_rfl) (by kernel_rfl)) ?_
  intro W base args ds gs before hval0 hW hcnd _
  have hval : ∀ (j : Nat) t v, Try.f14.params[j]? = some t → args[j]? = some v → Value.okWide Try.prog W .any base t v := hval0
  have hW' := hW
  obtain ⟨p, q, hA0, hV, rfl, hfz, hnd⟩ := hW
  have hA : DataW.TrodAll enc Try.prog W 0 (fun _ => true) true Try.f14.params.toList args.toList ds p := hA0
  rw [Try.params14] at hA hval
  obtain ⟨v0, vs0, d0, ds0, p0, q0, hargs, rfl, rfl, h0, r0⟩ := trodAll_cons hA
  obtain ⟨v1, vs1, d1, ds1, p1, q1, rfl, rfl, rfl, h1, r1⟩ := trodAll_cons r0
  obtain ⟨v2, vs2, d2, ds2, p2, q2, rfl, rfl, rfl, h2, r2⟩ := trodAll_cons r1
  obtain ⟨rfl, rfl, rfl⟩ := trodAll_nil r2
  obtain rfl : args = #[v0, v1, v2] := by cases args; simp_all
  obtain ⟨rfl, rfl⟩ := trodVars_none hV
  obtain ⟨cs0, rfl, _⟩ := okWide_struct Try.underlying84 (hval 0 84 v0 rfl rfl)
  have k0 := h0
  have lt0 : ∀ x ∈ p0, x.block < W.heap.size := by obtain ⟨m, hm⟩ := k0; exact DataW.trod_lt m _ _ _ hm
  have g0 : Read.Rd Try.prog W 84 cs0.toList := by obtain ⟨m, hm⟩ := k0; exact ⟨H, enc, m, _, hm⟩
  obtain ⟨a1, len1, cap1, rfl⟩ := okWide_slice Try.underlying69 (hval 1 69 v1 rfl rfl)
  have k1 := h1
  have lt1 : ∀ x ∈ p1, x.block < W.heap.size := by obtain ⟨m, hm⟩ := k1; exact DataW.trod_lt m _ _ _ hm
  have g1 : Read.Rd Try.prog W 69 [.slice a1 len1 cap1] := by obtain ⟨m, hm⟩ := k1; exact ⟨H, enc, m, _, hm⟩
  obtain ⟨a2, rfl, rfl, rfl, w2⟩ := open_int Try.underlying82 (hval 2 82 v2 rfl rfl) h2
  clear hA0 hval0
  refine (walk W cs0 g0 a1 len1 cap1 g1 a2 w2).mono fun e W' ⟨he, bel⟩ => ?_
  subst he
  exact ⟨_, rfl, _, _, _, [], _, [], hW', trodAll_mk1 (shut_bool Try.underlying4 _), (trodAll_cons_mk (Below.trod laidOut (by kernel_rfl) (of_decide_eq_true (by kernel_rfl)) k0 bel lt0) (trodAll_cons_mk (Below.trod laidOut (by kernel_rfl) (of_decide_eq_true (by kernel_rfl)) k1 bel lt1) (trodAll_cons_mk (shut_int Try.underlying82 w2) trodAll_mk0))), rfl, bel.frame _, fun h => by cases h⟩

theorem over : Rows.readingFarRow.holds Try.pinned (OpenSpec.ofChange Rows.readingFarSpec) :=
  OpenClaim.holds_of_wide 14 Try.f14 rfl rfl rfl rfl rfl rfl rfl ⟨rfl, rfl, rfl, rfl, rfl⟩ rfl rfl rfl rfl rfl (by kernel_rfl) Try.func14 (by kernel_rfl)
    (of_decide_eq_true (by kernel_rfl)) (by unfold Func.isWrapper; first | (rw [if_pos (by decide +kernel)]; kernel_rfl) | (rw [if_neg (by decide +kernel)]; exact ⟨rfl, rfl⟩))
    (fun os started H enc _ => lifted os started H enc)

/-- The statement. -/
theorem proved : Rows.ReadingFarSaid := over
#print axioms proved
end Go.Proofs.Ytcicnanchikpjaa.readingFar
