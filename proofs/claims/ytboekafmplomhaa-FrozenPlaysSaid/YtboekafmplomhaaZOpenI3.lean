/-
  Arguments that are slices of bytes.
-/
import Derived.Test.YtboekafmplomhaaZOpenI2
import Derived.Test.YtboekafmplomhaaZByt
set_option linter.unusedVariables false
set_option linter.unusedSimpArgs false
namespace Go.Proofs.Ytboekafmplomhaa
open Go.ChangeShapes Go.WideShapes Go.ChangeAt Go.RowKit Go.Joins Go.Deep

section
variable {H : Type} {enc : TypeId × Value → H} {W : World} {base b0 : Nat} {sp : Nat → Bool} {hd : Bool}
set_option maxRecDepth 100000 in
theorem arg_bytesR {v : Value} {d : DataW H} {ps : List MemPlace} (hv : Value.okWide Try.prog W .any b0 100 v) (h : DataW.Trod enc Try.prog W base sp hd 100 v d ps) :
    ∃ (l : List Nat), Rd W 1 v (byts l) ∧ ∀ y ∈ l, y < 256 := by
  obtain ⟨a0, len, cap, rfl⟩ := okWide_slice Try.underlying100 hv
  obtain ⟨fuel, hf⟩ := h
  rcases open_slice Try.underlying100 hf with ⟨hcs, hx⟩ | ⟨a, len', cap', m, n, D, Pl, hcs, _, hl, hm, hmm, hx, hi⟩
  · simp only [Value.cells] at hcs
    obtain ⟨rfl, rfl, rfl⟩ : a0 = none ∧ len = 0 ∧ cap = 0 := by simpa using hcs
    exact ⟨[], ⟨none, 0, 0, rfl, Nat.le_refl _, Nat.zero_le _, rfl, fun h => absurd h (by omega)⟩, fun x hx => by simp at hx⟩
  · simp only [Value.cells] at hcs
    obtain ⟨rfl, rfl, rfl⟩ : a0 = some a ∧ len = len' ∧ cap = cap' := by simpa using hcs
    have hlm : len ≤ m := by rw [hmm]; split <;> omega
    have hel : ∀ i, i < len → ∃ x : Nat, W.cell? ((a.add (i * 1)).add 0) = some (.int .u8 (x : Int)) ∧ x < 256 := by
      intro i hil
      obtain ⟨cs', hc, ht⟩ := hi i (by omega)
      have hC : Try.prog.cellsOf 5 = 1 := by kernel_rfl
      rw [hC] at hc
      obtain ⟨_, hcl, hat⟩ := World.cells?_some hc
      match cs', hcl with
      | [c0], _ =>
        obtain ⟨n0, q0, _, w⟩ := DataW.trod_int Try.underlying5 ht
        simp at q0
        subst q0
        simp only [Lit.wf, Bool.and_eq_true, decide_eq_true_eq] at w
        have h1 : 0 ≤ n0 := w.1
        have h2 : n0 ≤ 255 := w.2
        refine ⟨n0.toNat, ?_, by omega⟩
        have h3 := hat 0 (by omega)
        rw [show ((n0.toNat : Nat) : Int) = n0 by omega]
        exact h3
    obtain ⟨f, hf'⟩ := choose_lt hel
    have hmax : len ≤ 9223372036854775807 := by unfold maxLen at hm; omega
    refine ⟨(List.range len).map f, rd_of hl hmax (by omega) (by simp [byts]) (fun i hil j hj => ?_), fun x hx => ?_⟩
    · obtain rfl : j = 0 := by omega
      exact ⟨_, by simp [byts, hil], (hf' i hil).1⟩
    · obtain ⟨i, hi, rfl⟩ := List.mem_map.1 hx
      exact (hf' i (List.mem_range.1 hi)).2
end
end Go.Proofs.Ytboekafmplomhaa
