/-
  FrozenPlays answers true at every input: whatever diagrams are made, and whatever bytes are read, what package frozen writes and reads is what the document writes and reads. No conditions.
-/
import Derived.Test.YtboekafmplomhaaZFPlaysW
import Derived.Test.YtboekafmplomhaaZOpenI3
set_option linter.unusedVariables false
set_option linter.unusedSimpArgs false
namespace Go.Proofs.Ytboekafmplomhaa
open Go.ChangeShapes Go.WideShapes Go.ChangeAt Go.RowKit Go.Joins Go.Deep

theorem Try.own : ownKnob Try.prog.godebug = none := by kernel_rfl
theorem Try.laidOut : laidOutB Try.prog = true := by kernel_rfl

set_option maxRecDepth 100000 in
theorem frozenPlays_lifted (os : Os) (started : os.Started) (H : Type) (enc : TypeId × Value → H) :
    ReturnsInHanded {} Try.checked os 13 .any (Rows.frozenPlaysSpec.pre6 enc Try.prog Try.f13 Rows.frozenPlaysRow.domain false) (Rows.frozenPlaysSpec.post enc Try.prog Try.f13 false true false false) := by
  refine returnsInHanded_of_change (C := Try.checked) Try.own started (by kernel_rfl) Try.func13
    (ChangeSpec.witness6 (enc := enc) (C := Try.checked) false ⟨#[], #[.int .i64 0, .slice none 0 0, .slice none 0 0, .slice none 0 0], []⟩ 8 (by kernel_rfl) (by kernel_rfl) (by kernel_rfl) (by kernel_rfl)) ?_
  intro W base args ds gs before hval0 hW hcnd _
  have hval : ∀ (j : Nat) t v, Try.f13.params[j]? = some t → args[j]? = some v → Value.okWide Try.prog W .any base t v := hval0
  have hW' := hW
  obtain ⟨p, q, hA0, hV, rfl, hfz, hnd⟩ := hW
  have hA : DataW.TrodAll enc Try.prog W 0 (fun _ => true) true Try.f13.params.toList args.toList ds p := hA0
  rw [Try.params13] at hA hval
  obtain ⟨v0, vs0, d0, ds0, p0, q0, hargs, rfl, rfl, h0, r0⟩ := trodAll_cons hA
  obtain ⟨v1, vs1, d1, ds1, p1, q1, rfl, rfl, rfl, h1, r1⟩ := trodAll_cons r0
  obtain ⟨v2, vs2, d2, ds2, p2, q2, rfl, rfl, rfl, h2, r2⟩ := trodAll_cons r1
  obtain ⟨v3, vs3, d3, ds3, p3, q3, rfl, rfl, rfl, h3, r3⟩ := trodAll_cons r2
  obtain ⟨rfl, rfl, rfl⟩ := trodAll_nil r3
  obtain rfl : args = #[v0, v1, v2, v3] := by cases args; simp_all
  obtain ⟨rfl, rfl⟩ := trodVars_none hV
  obtain ⟨cap, rfl, cap1, cap2⟩ := arg_i64 Try.underlying3 (hval 0 3 v0 rfl rfl) h0
  obtain ⟨l, hl, hI⟩ := arg_intsR (hval 1 28 v1 rfl rfl) h1
  obtain ⟨rs, hr, hJ⟩ := arg_intsR (hval 2 28 v2 rfl rfl) h2
  obtain ⟨bs, hb, hbs⟩ := arg_bytesR (hval 3 100 v3 rfl rfl) h3
  refine (frozenPlays_any hl hI hr hb hbs cap).mono fun e W' ⟨he, m, d, hw⟩ => ?_
  subst he
  exact ⟨_, rfl, law_post (tb := 4) Try.laidOut (by rw [Try.params13]; decide +kernel) rfl rfl Try.underlying4 hW' rfl rfl rfl (by subst hw; exact Below.ext_mk (Below.refl _ _) (Nat.le_refl _) _ _)⟩

theorem frozenPlays_holds : Rows.FrozenPlaysSaid :=
  OpenClaim.holds_of_wide 13 Try.f13 rfl rfl rfl rfl rfl rfl rfl ⟨rfl, rfl, rfl, rfl, rfl⟩ rfl rfl rfl rfl rfl (by kernel_rfl) Try.func13 (by kernel_rfl)
    (of_decide_eq_true (by kernel_rfl)) (by unfold Func.isWrapper; first | (rw [if_pos (by decide +kernel)]; kernel_rfl) | (rw [if_neg (by decide +kernel)]; exact ⟨rfl, rfl⟩))
    (fun os started H enc _ => frozenPlays_lifted os started H enc)
#print axioms frozenPlays_holds

end Go.Proofs.Ytboekafmplomhaa
