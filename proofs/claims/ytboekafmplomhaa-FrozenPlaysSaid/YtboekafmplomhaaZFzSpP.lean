/-
  Frozen, in plain Lean: bytes that are spoilt are refused.
-/
import Derived.Test.YtboekafmplomhaaZFzRead
set_option linter.unusedVariables false
set_option linter.unusedSimpArgs false
namespace Go.Proofs.Ytboekafmplomhaa

theorem bodyB_byte (ns : List Nd) (rs : List Int) : ∀ y ∈ bodyB ns rs, y < 256 := by
  intro y hy
  simp only [bodyB, List.mem_append, List.mem_flatMap] at hy
  rcases hy with (((hy | hy) | ⟨x, _, hy⟩) | hy) | ⟨x, _, hy⟩
  · simp [headB] at hy; omega
  · exact numB_lt _ y hy
  · simp only [nodeB, List.mem_cons, List.mem_append] at hy
    rcases hy with rfl | hy | hy
    · omega
    · exact numB_lt _ y hy
    · exact numB_lt _ y hy
  · exact numB_lt _ y hy
  · exact numB_lt _ y hy
theorem writeB_byte (ns : List Nd) (rs : List Int) : ∀ y ∈ writeB ns rs, y < 256 := sealB_byte (bodyB_byte ns rs)
theorem bits_xor_u8 (a b : Nat) (ha : a < 256) (hb : b < 256) : bits BinOp.xor .u8 (a : Int) (b : Int) = ((a ^^^ b : Nat) : Int) ∧ a ^^^ b < 256 := by
  have ha' : a % 2 ^ 8 = a := Nat.mod_eq_of_lt ha
  have hb' : b % 2 ^ 8 = b := Nat.mod_eq_of_lt hb
  have hx : a ^^^ b < 2 ^ 8 := Nat.xor_lt_two_pow ha hb
  refine ⟨?_, hx⟩
  simp only [bits, BitVec.ofInt_natCast, BitVec.toNat_xor, BitVec.toNat_ofNat, show IntKind.u8.bits = 8 from rfl, ha', hb']
  rw [IntKind.wrap_u8]
  omega
end Go.Proofs.Ytboekafmplomhaa
