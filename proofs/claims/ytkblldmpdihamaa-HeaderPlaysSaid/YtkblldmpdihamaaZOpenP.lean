/-
  Arguments that are slices of calls of a packet.
-/
import Derived.Test.YtkblldmpdihamaaZOpenB
import Derived.Test.YtkblldmpdihamaaZHPlW
set_option linter.unusedVariables false
set_option linter.unusedSimpArgs false
namespace Go.Proofs.Ytkblldmpdihamaa
open Go.ChangeShapes Go.WideShapes Go.ChangeAt Go.RowKit Go.Joins Go.Deep

section
variable {H : Type} {enc : TypeId × Value → H} {W : World} {base b0 : Nat} {sp : Nat → Bool} {hd : Bool} {fuel : Nat} {cs : List Value} {x : DataW H × List MemPlace}
theorem c_op : Try.prog.cellsOf 58 = 6 := by kernel_rfl
set_option maxRecDepth 100000 in
theorem trod_op (h : DataW.trod enc Try.prog W base sp hd fuel 58 cs = some x) : ∃ o : OpP, cs = o.cs := by
  obtain ⟨xs, n, _, _, hl, hx, hg⟩ := DataW.trod_struct Try.underlying58 h
  rw [c_op] at hl
  have g0 := hg 0 _ rfl
  have g1 := hg 1 _ rfl
  have g2 := hg 2 _ rfl
  have g3 := hg 3 _ rfl
  have g4 := hg 4 _ rfl
  have hx' : xs.length = 5 := hx
  obtain ⟨y0, e0⟩ := some_of (i := 0) hx' (by omega)
  obtain ⟨y1, e1⟩ := some_of (i := 1) hx' (by omega)
  obtain ⟨y2, e2⟩ := some_of (i := 2) hx' (by omega)
  obtain ⟨y3, e3⟩ := some_of (i := 3) hx' (by omega)
  obtain ⟨y4, e4⟩ := some_of (i := 4) hx' (by omega)
  rw [e0] at g0
  rw [e1] at g1
  rw [e2] at g2
  rw [e3] at g3
  rw [e4] at g4
  match cs, hl with
  | [a0, a1, a2, a3, a4, a5], _ =>
    simp [c_int, c_bool, c_num] at g0 g1 g2 g3 g4
    obtain ⟨n0, q0, _, _⟩ := DataW.trod_int Try.underlying3 g0
    obtain ⟨n1, q1, _, _⟩ := DataW.trod_int Try.underlying3 g1
    obtain ⟨n2, q2, _, _⟩ := DataW.trod_int Try.underlying3 g2
    obtain ⟨n3, q3⟩ := trod_num Try.underlying45 c_num rfl rfl rfl rfl Try.underlying43 c_u64 g3
    obtain ⟨n4, q4, _⟩ := DataW.trod_bool Try.underlying4 g4
    simp only [List.cons.injEq, and_true] at q0 q1 q2 q3 q4
    obtain ⟨r0, r1⟩ := q3
    exact ⟨⟨n0, n1, n2, n3, n4⟩, by rw [q0, q1, q2, r0, r1, q4]⟩
set_option maxRecDepth 100000 in
theorem arg_opsP {v : Value} {d : DataW H} {ps : List MemPlace} (hv : Value.okWide Try.prog W .any b0 55 v) (h : DataW.Trod enc Try.prog W base sp hd 55 v d ps) :
    ∃ (s : SL) (l : List OpP), v = s.v ∧ RdS W 6 s (l.flatMap OpP.cs) := by
  obtain ⟨a0, len, cap, rfl⟩ := okWide_slice Try.underlying55 hv
  obtain ⟨fuel, hf⟩ := h
  simp only [Value.cells] at hf
  obtain ⟨s, l, e, h1, _, _⟩ := trod_rows (size := 6) OpP.cs (fun _ => True) (by omega) (fun _ => rfl) Try.underlying55 c_op (fun fuel cs x hx => by
    obtain ⟨o, ho⟩ := trod_op hx
    exact ⟨o, ho, trivial⟩) hf
  exact ⟨s, l, by simpa using e, h1⟩
end
end Go.Proofs.Ytkblldmpdihamaa
