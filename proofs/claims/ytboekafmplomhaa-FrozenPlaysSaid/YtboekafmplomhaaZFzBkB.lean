/-
  Frozen, in plain Lean: what is read into any store means what was written; it is written as the same bytes again.
-/
import Derived.Test.YtboekafmplomhaaZFzBkA
set_option linter.unusedVariables false
set_option linter.unusedSimpArgs false
namespace Go.Proofs.Ytboekafmplomhaa

section
variable {S T : Sto}
theorem atV_node (hS : Wf S) {i : Nat} {n : Nd} (hn : S.nodes[i]? = some n) : atV S ((i : Int) + 2) = (n, true) := by
  have hi := (List.getElem?_eq_some_iff.1 hn).1
  unfold atV
  rw [right_has ⟨by omega, by omega⟩, if_neg (by omega), show ((i : Int) + 2 - 2).toNat = i by omega, hn]
  rfl
/-- Both readings of what a store of few nodes wrote, and the writing of the second one. -/
structure BackOk (S T : Sto) (l : List Int) (S' T' : Sto) (q : List Int) : Prop where
  own : readV S (writeB (ordS S l).1 (ordS S l).2) = (S', l, 0)
  other : readV T (writeB (ordS S l).1 (ordS S l).2) = (T', q, 0)
  again : ordS T' q = ordS S l
  len : q.length = l.length
  wfS : Wf S'
  wfT : Wf T'
  satS : Sated S'
  satT : Sated T'
  cntT : T'.nodes.length ≤ 1000000
  mean : ∀ (i : Nat) (a b : Int), l[i]? = some a → q[i]? = some b → S'.has a ∧ T'.has b ∧ ∀ β, ev S' β a = ev T' β b
end
end Go.Proofs.Ytboekafmplomhaa
