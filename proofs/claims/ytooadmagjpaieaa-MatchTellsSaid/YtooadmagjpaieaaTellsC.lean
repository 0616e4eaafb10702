/-
  MatchTells answers true at every input: the program's answers are the document's. No conditions.
-/
import Derived.Test.YtooadmagjpaieaaTells
import Derived.Test.YtooadmagjpaieaaOpenN
set_option linter.unusedVariables false
set_option linter.unusedSimpArgs false
namespace Go.Proofs.Ytooadmagjpaieaa
open Go.ChangeShapes Go.WideShapes Go.ChangeAt Go.RowKit Go.Joins Go.Deep

theorem Try.own : ownKnob Try.prog.godebug = none := by kernel_rfl
theorem Try.laidOut : laidOutB Try.prog = true := by kernel_rfl
theorem cellsNum : Try.prog.cellsOf 24 = 2 := by kernel_rfl
theorem cellsPat : Try.prog.cellsOf 26 = 4 := by kernel_rfl
theorem cellsU64 : Try.prog.cellsOf 22 = 1 := by kernel_rfl

set_option maxRecDepth 100000 in
theorem tells_lifted (os : Os) (started : os.Started) (H : Type) (enc : TypeId × Value → H) :
    ReturnsInHanded {} Try.checked os 5 .any (Rows.matchTellsSpec.pre6 enc Try.prog Try.f5 Rows.matchTellsRow.domain false) (Rows.matchTellsSpec.post enc Try.prog Try.f5 false true false false) := by
  refine returnsInHanded_of_change (C := Try.checked) Try.own started (by kernel_rfl) Try.func5
    (ChangeSpec.witness6 (enc := enc) (C := Try.checked) false ⟨#[], #[.agg #[.int .u64 0, .int .u64 0, .int .u64 0, .int .u64 0], .agg #[.int .u64 0, .int .u64 0, .int .u64 0, .int .u64 0], .agg #[.int .u64 0, .int .u64 0], .agg #[.int .u64 0, .int .u64 0], .int .i64 0, .int .i64 0], []⟩ 8 (by kernel_rfl) (by kernel_rfl) (by kernel_rfl) (by kernel_rfl)) ?_
  intro W base args ds gs before hval0 hW hcnd _
  have hval : ∀ (j : Nat) t v, Try.f5.params[j]? = some t → args[j]? = some v → Value.okWide Try.prog W .any base t v := hval0
  have hW' := hW
  obtain ⟨p, q, hA0, hV, rfl, hfz, hnd⟩ := hW
  have hA : DataW.TrodAll enc Try.prog W 0 (fun _ => true) true Try.f5.params.toList args.toList ds p := hA0
  rw [Try.params5] at hA hval
  obtain ⟨v0, vs0, d0, ds0, p0, q0, hargs, rfl, rfl, h0, r0⟩ := trodAll_cons hA
  obtain ⟨v1, vs1, d1, ds1, p1, q1, rfl, rfl, rfl, h1, r1⟩ := trodAll_cons r0
  obtain ⟨v2, vs2, d2, ds2, p2, q2, rfl, rfl, rfl, h2, r2⟩ := trodAll_cons r1
  obtain ⟨v3, vs3, d3, ds3, p3, q3, rfl, rfl, rfl, h3, r3⟩ := trodAll_cons r2
  obtain ⟨v4, vs4, d4, ds4, p4, q4, rfl, rfl, rfl, h4, r4⟩ := trodAll_cons r3
  obtain ⟨v5, vs5, d5, ds5, p5, q5, rfl, rfl, rfl, h5, r5⟩ := trodAll_cons r4
  obtain ⟨rfl, rfl, rfl⟩ := trodAll_nil r5
  obtain rfl : args = #[v0, v1, v2, v3, v4, v5] := by cases args; simp_all
  obtain ⟨rfl, rfl⟩ := trodVars_none hV
  obtain ⟨av, am, rfl⟩ := arg_pat Try.underlying26 cellsPat rfl rfl rfl rfl Try.underlying24 cellsNum rfl rfl rfl rfl Try.underlying22 cellsU64 (hval 0 26 v0 rfl rfl) h0
  obtain ⟨bv, bm, rfl⟩ := arg_pat Try.underlying26 cellsPat rfl rfl rfl rfl Try.underlying24 cellsNum rfl rfl rfl rfl Try.underlying22 cellsU64 (hval 1 26 v1 rfl rfl) h1
  obtain ⟨n, rfl⟩ := arg_num Try.underlying24 cellsNum rfl rfl rfl rfl Try.underlying22 cellsU64 (hval 2 24 v2 rfl rfl) h2
  obtain ⟨m, rfl⟩ := arg_num Try.underlying24 cellsNum rfl rfl rfl rfl Try.underlying22 cellsU64 (hval 3 24 v3 rfl rfl) h3
  obtain ⟨l, rfl, l1, l2⟩ := arg_i64 Try.underlying3 (hval 4 3 v4 rfl rfl) h4
  obtain ⟨u, rfl, u1, u2⟩ := arg_i64 Try.underlying3 (hval 5 3 v5 rfl rfl) h5
  refine (tells_any av am bv bm n m l u l1 l2 u1 u2 W).mono fun e W' ⟨he, m', d, hw⟩ => ?_
  subst he
  exact ⟨_, rfl, law_post (tb := 4) Try.laidOut (by rw [Try.params5]; decide +kernel) rfl rfl Try.underlying4 hW' rfl rfl rfl (by subst hw; exact Below.ext_mk (Below.refl _ _) (Nat.le_refl _) _ _)⟩

theorem tells_holds : Rows.MatchTellsSaid :=
  OpenClaim.holds_of_wide 5 Try.f5 rfl rfl rfl rfl rfl rfl rfl ⟨rfl, rfl, rfl, rfl, rfl⟩ rfl rfl rfl rfl rfl (by kernel_rfl) Try.func5 (by kernel_rfl)
    (of_decide_eq_true (by kernel_rfl)) (by unfold Func.isWrapper; first | (rw [if_pos (by decide +kernel)]; kernel_rfl) | (rw [if_neg (by decide +kernel)]; exact ⟨rfl, rfl⟩))
    (fun os started H enc _ => tells_lifted os started H enc)
#print axioms tells_holds

end Go.Proofs.Ytooadmagjpaieaa
