/-
  Arguments that are slices of whole numbers.
-/
import Derived.Test.YtboekafmplomhaaOpenS
import Derived.Test.YtboekafmplomhaaDoes
set_option linter.unusedVariables false
set_option linter.unusedSimpArgs false
namespace Go.Proofs.Ytboekafmplomhaa
open Go.ChangeShapes Go.WideShapes Go.ChangeAt Go.RowKit Go.Joins Go.Deep

section
variable {H : Type} {enc : TypeId × Value → H} {W : World} {base b0 : Nat} {sp : Nat → Bool} {hd : Bool}
set_option maxRecDepth 100000 in
theorem arg_ints {v : Value} {d : DataW H} {ps : List MemPlace} (hv : Value.okWide Try.prog W .any b0 28 v) (h : DataW.Trod enc Try.prog W base sp hd 28 v d ps) :
    ∃ (l : List Int), Rd W 1 v (ints l) := by
  obtain ⟨a0, len, cap, rfl⟩ := okWide_slice Try.underlying28 hv
  obtain ⟨fuel, hf⟩ := h
  rcases open_slice Try.underlying28 hf with ⟨hcs, hx⟩ | ⟨a, len', cap', m, n, D, Pl, hcs, _, hl, hm, hmm, hx, hi⟩
  · simp only [Value.cells] at hcs
    obtain ⟨rfl, rfl, rfl⟩ : a0 = none ∧ len = 0 ∧ cap = 0 := by simpa using hcs
    exact ⟨[], none, 0, 0, rfl, Nat.le_refl _, Nat.zero_le _, rfl, fun h => absurd h (by omega)⟩
  · simp only [Value.cells] at hcs
    obtain ⟨rfl, rfl, rfl⟩ : a0 = some a ∧ len = len' ∧ cap = cap' := by simpa using hcs
    have hlm : len ≤ m := by rw [hmm]; split <;> omega
    have hel : ∀ i, i < len → ∃ x : Int, W.cell? ((a.add (i * 1)).add 0) = some (.int .i64 x) := by
      intro i hil
      obtain ⟨cs', hc, ht⟩ := hi i (by omega)
      have hC : Try.prog.cellsOf 3 = 1 := by kernel_rfl
      rw [hC] at hc
      obtain ⟨_, hcl, hat⟩ := World.cells?_some hc
      match cs', hcl with
      | [c0], _ =>
        obtain ⟨n0, q0, _, _⟩ := DataW.trod_int Try.underlying3 ht
        simp at q0
        subst q0
        exact ⟨n0, hat 0 (by omega)⟩
    obtain ⟨f, hf'⟩ := choose_lt hel
    have hmax : len ≤ 9223372036854775807 := by unfold maxLen at hm; omega
    refine ⟨(List.range len).map f, rd_of hl hmax (by omega) (by simp [ints]) (fun i hil j hj => ?_)⟩
    obtain rfl : j = 0 := by omega
    exact ⟨_, by simp [ints, hil], hf' i hil⟩
end
end Go.Proofs.Ytboekafmplomhaa
