/-
  Arguments that are numbers of 128 bits, or patterns.
-/
import Derived.Test.YtkblldmpdihamaaZLift
import Derived.Test.YtkblldmpdihamaaZNv
set_option linter.unusedVariables false
set_option linter.unusedSimpArgs false
namespace Go
open Go.ChangeShapes Go.WideShapes Go.ChangeAt Go.RowKit Go.Joins Go.Deep

section
variable {H : Type} {enc : TypeId × Value → H} {P : Program} {W : World} {base b0 : Nat} {sp : Nat → Bool} {hd : Bool}

/-- Two cells that read as a number are its halves. -/
theorem trod_num {t tu : TypeId} {f0 f1 : Field} {fuel : Nat} {cs : List Value} {x : DataW H × List MemPlace}
    (ht : P.underlying t = some (.struct #[f0, f1])) (hc : P.cellsOf t = 2) (h0 : f0.type = tu) (h1 : f1.type = tu) (o0 : f0.offset = 0) (o1 : f1.offset = 1) (hu : P.underlying tu = some (.int .u64)) (hcu : P.cellsOf tu = 1)
    (h : DataW.trod enc P W base sp hd fuel t cs = some x) : ∃ n : BitVec 128, cs = [.int .u64 (hi n), .int .u64 (lo n)] := by
  obtain ⟨y0, y1, m, _, hl, e0, e1⟩ := trod_struct2 ht h
  rw [hc] at hl
  rw [h0, o0, hcu] at e0
  rw [h1, o1, hcu] at e1
  match cs, hl with
  | [c0, c1], _ =>
    obtain ⟨n0, q0, _, w0⟩ := DataW.trod_int hu e0
    obtain ⟨n1, q1, _, w1⟩ := DataW.trod_int hu e1
    simp at q0 q1
    subst q0; subst q1
    simp only [Lit.wf, Bool.and_eq_true, decide_eq_true_eq] at w0 w1
    have b1 : 0 ≤ n0 := w0.1
    have b2 : n0 ≤ 18446744073709551615 := w0.2
    have b3 : 0 ≤ n1 := w1.1
    have b4 : n1 ≤ 18446744073709551615 := w1.2
    exact ⟨nmk n0 n1, by rw [hi_nmk b1 b2 b3 b4, lo_nmk b1 b2 b3 b4]⟩
theorem arg_num {t tu : TypeId} {f0 f1 : Field} {v : Value} {d : DataW H} {ps : List MemPlace}
    (ht : P.underlying t = some (.struct #[f0, f1])) (hc : P.cellsOf t = 2) (h0 : f0.type = tu) (h1 : f1.type = tu) (o0 : f0.offset = 0) (o1 : f1.offset = 1) (hu : P.underlying tu = some (.int .u64)) (hcu : P.cellsOf tu = 1)
    (hv : Value.okWide P W .any b0 t v) (h : DataW.Trod enc P W base sp hd t v d ps) : ∃ n : BitVec 128, v = nv n := by
  obtain ⟨cs, rfl, hsz⟩ := okWide_struct ht hv
  obtain ⟨fuel, hf⟩ := h
  obtain ⟨n, hn⟩ := trod_num ht hc h0 h1 o0 o1 hu hcu hf
  refine ⟨n, ?_⟩
  obtain ⟨l⟩ := cs
  simp only [Value.cells] at hn
  rw [hn]
theorem arg_pat {t tn tu : TypeId} {g0 g1 f0 f1 : Field} {v : Value} {d : DataW H} {ps : List MemPlace}
    (hp : P.underlying t = some (.struct #[g0, g1])) (hpc : P.cellsOf t = 4) (k0 : g0.type = tn) (k1 : g1.type = tn) (p0 : g0.offset = 0) (p1 : g1.offset = 2)
    (ht : P.underlying tn = some (.struct #[f0, f1])) (hc : P.cellsOf tn = 2) (h0 : f0.type = tu) (h1 : f1.type = tu) (o0 : f0.offset = 0) (o1 : f1.offset = 1) (hu : P.underlying tu = some (.int .u64)) (hcu : P.cellsOf tu = 1)
    (hv : Value.okWide P W .any b0 t v) (h : DataW.Trod enc P W base sp hd t v d ps) : ∃ n m : BitVec 128, v = .agg #[.int .u64 (hi n), .int .u64 (lo n), .int .u64 (hi m), .int .u64 (lo m)] := by
  obtain ⟨cs, rfl, hsz⟩ := okWide_struct hp hv
  obtain ⟨fuel, hf⟩ := h
  obtain ⟨y0, y1, q, _, hl, e0, e1⟩ := trod_struct2 hp hf
  rw [k0, p0, hc] at e0
  rw [k1, p1, hc] at e1
  obtain ⟨n, hn⟩ := trod_num ht hc h0 h1 o0 o1 hu hcu e0
  obtain ⟨m, hm⟩ := trod_num ht hc h0 h1 o0 o1 hu hcu e1
  refine ⟨n, m, ?_⟩
  obtain ⟨l⟩ := cs
  simp only [Value.cells] at hn hm hl
  rw [hpc] at hl
  match l, hl with
  | [c0, c1, c2, c3], _ =>
    simp at hn hm
    obtain ⟨rfl, rfl⟩ := hn
    obtain ⟨rfl, rfl⟩ := hm
    rfl
end
end Go
