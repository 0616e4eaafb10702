/-
  CubeNone answers true at every input: of a store that is not there, or is full, no diagram is made, no cube is told. No conditions.
-/
import Derived.Test.YtboekafmplomhaaZCubeNone
import Derived.Test.YtboekafmplomhaaZLift
import Derived.Test.YtboekafmplomhaaZOpenI2
import Derived.Test.YtboekafmplomhaaZOpenC
set_option linter.unusedVariables false
set_option linter.unusedSimpArgs false
namespace Go.Proofs.Ytboekafmplomhaa
open Go.ChangeShapes Go.WideShapes Go.ChangeAt Go.RowKit Go.Joins Go.Deep

theorem Try.own : ownKnob Try.prog.godebug = none := by kernel_rfl
theorem Try.laidOut : laidOutB Try.prog = true := by kernel_rfl

set_option maxRecDepth 100000 in
theorem cubeNone_lifted (os : Os) (started : os.Started) (H : Type) (enc : TypeId × Value → H) :
    ReturnsInHanded {} Try.checked os 9 .any (Rows.cubeNoneSpec.pre6 enc Try.prog Try.f9 Rows.cubeNoneRow.domain false) (Rows.cubeNoneSpec.post enc Try.prog Try.f9 false true false false) := by
  refine returnsInHanded_of_change (C := Try.checked) Try.own started (by kernel_rfl) Try.func9
    (ChangeSpec.witness6 (enc := enc) (C := Try.checked) false ⟨#[], #[.int .i64 0, .int .i64 0, .agg #[.int .u64 0, .int .u64 0]], []⟩ 8 (by kernel_rfl) (by kernel_rfl) (by kernel_rfl) (by kernel_rfl)) ?_
  intro W base args ds gs before hval0 hW hcnd _
  have hval : ∀ (j : Nat) t v, Try.f9.params[j]? = some t → args[j]? = some v → Value.okWide Try.prog W .any base t v := hval0
  have hW' := hW
  obtain ⟨p, q, hA0, hV, rfl, hfz, hnd⟩ := hW
  have hA : DataW.TrodAll enc Try.prog W 0 (fun _ => true) true Try.f9.params.toList args.toList ds p := hA0
  rw [Try.params9] at hA hval
  obtain ⟨v0, vs0, d0, ds0, p0, q0, hargs, rfl, rfl, h0, r0⟩ := trodAll_cons hA
  obtain ⟨v1, vs1, d1, ds1, p1, q1, rfl, rfl, rfl, h1, r1⟩ := trodAll_cons r0
  obtain ⟨v2, vs2, d2, ds2, p2, q2, rfl, rfl, rfl, h2, r2⟩ := trodAll_cons r1
  obtain ⟨rfl, rfl, rfl⟩ := trodAll_nil r2
  obtain rfl : args = #[v0, v1, v2] := by cases args; simp_all
  obtain ⟨rfl, rfl⟩ := trodVars_none hV
  obtain ⟨a, rfl, a1, a2⟩ := arg_i64 Try.underlying3 (hval 0 3 v0 rfl rfl) h0
  obtain ⟨b, rfl, b1, b2⟩ := arg_i64 Try.underlying3 (hval 1 3 v1 rfl rfl) h1
  obtain ⟨c, hc, rfl⟩ := arg_cube (hval 2 85 v2 rfl rfl) h2
  refine (cubeNone_any a b hc).mono fun e W' ⟨he, m, d, hw⟩ => ?_
  subst he
  exact ⟨_, rfl, law_post (tb := 4) Try.laidOut (by rw [Try.params9]; decide +kernel) rfl rfl Try.underlying4 hW' rfl rfl rfl (by subst hw; exact Below.ext_mk (Below.refl _ _) (Nat.le_refl _) _ _)⟩

theorem cubeNone_holds : Rows.CubeNoneSaid :=
  OpenClaim.holds_of_wide 9 Try.f9 rfl rfl rfl rfl rfl rfl rfl ⟨rfl, rfl, rfl, rfl, rfl⟩ rfl rfl rfl rfl rfl (by kernel_rfl) Try.func9 (by kernel_rfl)
    (of_decide_eq_true (by kernel_rfl)) (by unfold Func.isWrapper; first | (rw [if_pos (by decide +kernel)]; kernel_rfl) | (rw [if_neg (by decide +kernel)]; exact ⟨rfl, rfl⟩))
    (fun os started H enc _ => cubeNone_lifted os started H enc)
#print axioms cubeNone_holds

end Go.Proofs.Ytboekafmplomhaa
