/-
  Frozen, in plain Lean: bytes that are spoilt are refused.
-/
import Derived.Test.YtboekafmplomhaaZFzRead
set_option linter.unusedVariables false
set_option linter.unusedSimpArgs false
namespace Go.Proofs.Ytboekafmplomhaa

theorem bodyB_byte (ns : List Nd) (rs : List Int) : ∀ y ∈ bodyB ns rs, y < 256 := by
  intro y hy
  simp only [bodyB, List.mem_append, List.mem_flatMap] at hy
  rcases hy with (((hy | hy) | ⟨x, _, hy⟩) | hy) | ⟨x, _, hy⟩
  · simp [headB] at hy; omega
  · exact numB_lt _ y hy
  · simp only [nodeB, List.mem_cons, List.mem_append] at hy
    rcases hy with rfl | hy | hy
    · omega
    · exact numB_lt _ y hy
    · exact numB_lt _ y hy
  · exact numB_lt _ y hy
  · exact numB_lt _ y hy
theorem writeB_byte (ns : List Nd) (rs : List Int) : ∀ y ∈ writeB ns rs, y < 256 := sealB_byte (bodyB_byte ns rs)
theorem writeB_len {ns : List Nd} {rs : List Int} (h : Wrt ns rs) : 9 ≤ (writeB ns rs).length ∧ (writeB ns rs).length ≤ ns.length * 7 + rs.length * 3 + 16 := by
  have h1 := nodesB_len h.2.2.1
  have h2 := rootsB_len h.2.2.2
  have h3 := numB_len 3 ns.length (by have := h.1; omega) (by omega)
  have h4 := numB_len 2 rs.length (by have := h.2.1; omega) (by omega)
  have h5 := numB_pos ns.length
  have h6 := numB_pos rs.length
  have h7 : headB.length = 3 := rfl
  unfold writeB
  rw [sealB_length]
  unfold bodyB
  simp only [List.length_append]
  omega
theorem read_spoilt (S : Sto) {l : List Nat} (hl : ∀ y ∈ l, y < 256) {i x : Nat} (hi : i < (sealB l).length) (hx : x < 256) (hne : x ≠ (sealB l)[i]) (h9 : 9 ≤ (sealB l).length) (hm : (sealB l).length ≤ 8388608) :
    ∃ k : Int, (k = 4 ∨ k = 15) ∧ readV S ((sealB l).set i x) = (S, [], k) := by
  have hlen : ((sealB l).set i x).length = (sealB l).length := by simp
  unfold readV
  rw [hlen, if_neg (by omega), if_neg (by omega)]
  by_cases h3 : ((sealB l).set i x).take 3 ≠ [81, 66, 1]
  · exact ⟨4, .inl rfl, by rw [if_pos h3]⟩
  · refine ⟨15, .inr rfl, ?_⟩
    rw [if_neg h3]
    have h4 : (sealB l).length - 4 = l.length := by rw [sealB_length]; omega
    rw [h4, if_pos (sealB_set hl hi hx hne)]
theorem read_short (S : Sto) (l : List Nat) (h : l.length < 9) : readV S l = (S, [], 13) := by
  unfold readV
  rw [if_neg (by omega), if_pos h]
theorem xor_ne (a c : Nat) (hc : c ≠ 0) : a ^^^ c ≠ a := fun h => by
  apply hc
  have := congrArg (a ^^^ ·) h
  simpa [← Nat.xor_assoc] using this
theorem bits_xor_u8 (a b : Nat) (ha : a < 256) (hb : b < 256) : bits BinOp.xor .u8 (a : Int) (b : Int) = ((a ^^^ b : Nat) : Int) ∧ a ^^^ b < 256 := by
  have ha' : a % 2 ^ 8 = a := Nat.mod_eq_of_lt ha
  have hb' : b % 2 ^ 8 = b := Nat.mod_eq_of_lt hb
  have hx : a ^^^ b < 2 ^ 8 := Nat.xor_lt_two_pow ha hb
  refine ⟨?_, hx⟩
  simp only [bits, BitVec.ofInt_natCast, BitVec.toNat_xor, BitVec.toNat_ofNat, show IntKind.u8.bits = 8 from rfl, ha', hb']
  rw [IntKind.wrap_u8]
  omega
theorem Rd.dropI {w : World} {g n c : Nat} {l : List Int} (h : Rd w 1 (.slice (some ⟨g, 0, none⟩) n c) (ints l)) {m : Nat} (hm : m ≤ n) : Rd w 1 (.slice (some ⟨g, m, none⟩) (n - m) (c - m)) (ints (l.drop m)) := by
  obtain ⟨a', n', c', h1, h2, h3, h4, h5⟩ := h
  cases h1
  have hl : l.length = n := by simpa [ints] using h4
  refine ⟨_, _, _, rfl, by omega, by omega, by simp [ints]; omega, fun hn => ?_⟩
  obtain ⟨b', off', e, h6, h7⟩ := h5 (by omega)
  cases e
  refine ⟨g, m, rfl, h6, fun j u hu => ?_⟩
  have := h7 (m + j) u (by rw [← hu]; simp [ints, List.getElem?_drop])
  rw [show m + j = 0 + (m + j) by omega]
  exact this
end Go.Proofs.Ytboekafmplomhaa
