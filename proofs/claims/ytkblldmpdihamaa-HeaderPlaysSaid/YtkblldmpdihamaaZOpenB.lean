/-
  Arguments that are slices of bytes.
-/
import Derived.Test.YtkblldmpdihamaaZOpenH
set_option linter.unusedVariables false
set_option linter.unusedSimpArgs false
namespace Go.Proofs.Ytkblldmpdihamaa
open Go.ChangeShapes Go.WideShapes Go.ChangeAt Go.RowKit Go.Joins Go.Deep

section
variable {H : Type} {enc : TypeId × Value → H} {W : World} {base b0 : Nat} {sp : Nat → Bool} {hd : Bool}
set_option maxRecDepth 100000 in
theorem arg_bytes {v : Value} {d : DataW H} {ps : List MemPlace} (hv : Value.okWide Try.prog W .any b0 34 v) (h : DataW.Trod enc Try.prog W base sp hd 34 v d ps) :
    ∃ (s : SL) (l : List Nat), v = s.v ∧ RdS W 1 s (byts l) ∧ ∀ y ∈ l, y < 256 := by
  obtain ⟨a0, len, cap, rfl⟩ := okWide_slice Try.underlying34 hv
  obtain ⟨fuel, hf⟩ := h
  simp only [Value.cells] at hf
  obtain ⟨s, l, e, h1, h2⟩ := trod_bytes hf
  exact ⟨s, l, by simpa using e, h1, h2⟩
end
end Go.Proofs.Ytkblldmpdihamaa
