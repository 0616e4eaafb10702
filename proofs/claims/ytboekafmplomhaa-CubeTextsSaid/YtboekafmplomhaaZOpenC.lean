/-
  A cube as an argument.
-/
import Derived.Test.YtboekafmplomhaaZLift
import Derived.Test.YtboekafmplomhaaZCuP
set_option linter.unusedVariables false
set_option linter.unusedSimpArgs false
namespace Go.Proofs.Ytboekafmplomhaa
open Go.ChangeShapes Go.WideShapes Go.ChangeAt Go.RowKit Go.Joins Go.Deep

theorem cellsCube : Try.prog.cellsOf 85 = 2 := by kernel_rfl
theorem cellsU64c : Try.prog.cellsOf 36 = 1 := by kernel_rfl
theorem trod_cube {H : Type} {enc : TypeId × Value → H} {P : Program} {W : World} {base : Nat} {sp : Nat → Bool} {hd : Bool} {t tu : TypeId} {f0 f1 : Field} {fuel : Nat} {cs : List Value} {x : DataW H × List MemPlace}
    (ht : P.underlying t = some (.struct #[f0, f1])) (hc : P.cellsOf t = 2) (h0 : f0.type = tu) (h1 : f1.type = tu) (o0 : f0.offset = 0) (o1 : f1.offset = 1) (hu : P.underlying tu = some (.int .u64)) (hcu : P.cellsOf tu = 1)
    (h : DataW.trod enc P W base sp hd fuel t cs = some x) : ∃ c : Cu, CuOk c ∧ cs = [.int .u64 c.1, .int .u64 c.2] := by
  obtain ⟨y0, y1, m, _, hl, e0, e1⟩ := trod_struct2 ht h
  rw [hc] at hl
  rw [h0, o0, hcu] at e0
  rw [h1, o1, hcu] at e1
  match cs, hl with
  | [c0, c1], _ =>
    obtain ⟨n0, q0, _, w0⟩ := DataW.trod_int hu e0
    obtain ⟨n1, q1, _, w1⟩ := DataW.trod_int hu e1
    simp at q0 q1
    subst q0; subst q1
    simp only [Lit.wf, Bool.and_eq_true, decide_eq_true_eq] at w0 w1
    have b1 : 0 ≤ n0 := w0.1
    have b2 : n0 ≤ 18446744073709551615 := w0.2
    have b3 : 0 ≤ n1 := w1.1
    have b4 : n1 ≤ 18446744073709551615 := w1.2
    refine ⟨(n0.toNat, n1.toNat), ⟨by show n0.toNat < _; omega, by show n1.toNat < _; omega⟩, ?_⟩
    show [Value.int .u64 n0, .int .u64 n1] = [.int .u64 (n0.toNat : Int), .int .u64 (n1.toNat : Int)]
    rw [Int.toNat_of_nonneg b1, Int.toNat_of_nonneg b3]
theorem arg_cube0 {H : Type} {enc : TypeId × Value → H} {P : Program} {W : World} {base b0 : Nat} {sp : Nat → Bool} {hd : Bool} {t tu : TypeId} {f0 f1 : Field} {v : Value} {d : DataW H} {ps : List MemPlace}
    (ht : P.underlying t = some (.struct #[f0, f1])) (hc : P.cellsOf t = 2) (h0 : f0.type = tu) (h1 : f1.type = tu) (o0 : f0.offset = 0) (o1 : f1.offset = 1) (hu : P.underlying tu = some (.int .u64)) (hcu : P.cellsOf tu = 1)
    (hv : Value.okWide P W .any b0 t v) (h : DataW.Trod enc P W base sp hd t v d ps) : ∃ c : Cu, CuOk c ∧ v = cv c := by
  obtain ⟨cs, rfl, hsz⟩ := okWide_struct ht hv
  obtain ⟨fuel, hf⟩ := h
  obtain ⟨c, hcu, hn⟩ := trod_cube ht hc h0 h1 o0 o1 hu hcu hf
  refine ⟨c, hcu, ?_⟩
  obtain ⟨l⟩ := cs
  simp only [Value.cells] at hn
  rw [hn]
set_option maxRecDepth 100000 in
theorem arg_cube {H : Type} {enc : TypeId × Value → H} {W : World} {base b0 : Nat} {sp : Nat → Bool} {hd : Bool} {v : Value} {d : DataW H} {ps : List MemPlace}
    (hv : Value.okWide Try.prog W .any b0 85 v) (h : DataW.Trod enc Try.prog W base sp hd 85 v d ps) : ∃ c : Cu, CuOk c ∧ v = cv c :=
  arg_cube0 Try.underlying85 cellsCube rfl rfl rfl rfl Try.underlying36 cellsU64c hv h
end Go.Proofs.Ytboekafmplomhaa
