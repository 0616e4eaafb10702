/-
  Stores that are not there, were not made, or are full: all calls that make diagrams tell 0.
-/
import Derived.Test.YtboekafmplomhaaZCallsB
set_option linter.unusedVariables false
set_option linter.unusedSimpArgs false
namespace Go.Proofs.Ytboekafmplomhaa
open Go.RowKit

/-- A pointer to no store: nil, or one that was not made. -/
def NoSto (w : World) (q : Option Addr) : Prop := q = none ∨ ∃ z, q = some ⟨z, 0, none⟩ ∧ z < w.heap.size ∧ w.cell? ⟨z, 0, none⟩ = some (.int .i64 0)
theorem NoSto.below {w w' : World} {q : Option Addr} (h : NoSto w q) (hb : Below w.heap.size w w') : NoSto w' q := by
  rcases h with h | ⟨z, h1, h2, h3⟩
  · exact .inl h
  · exact .inr ⟨z, h1, Nat.lt_of_lt_of_le h2 hb.size, (hb.cell (p := ⟨z, 0, none⟩) h2).trans h3⟩

/-- A store that tells nothing. -/
structure Dead (w : World) (q : Option Addr) : Prop where
  made : ∀ w', Below w.heap.size w w' → ∀ k cap, Calls Try.prog 84 #[.pointer q, .func (.func k) #[] cap] w' (Pure (.int .i64 0) w')
  full : ∀ w', Below w.heap.size w w' → Calls Try.prog 22 #[.pointer q] w' (Pure (.bool true) w')
  at_ : ∀ w', Below w.heap.size w w' → ∀ x, ∃ n1 n2 n3 is, Calls Try.prog 21 #[.pointer q, .int .i64 x] w' (Pure (.tuple #[.agg #[.int .i64 n1, .int .i64 n2, .int .i64 n3], .bool is]) w')
theorem Dead.below {w w' : World} {q : Option Addr} (h : Dead w q) (hb : Below w.heap.size w w') : Dead w' q :=
  ⟨fun w'' h' => h.made w'' (hb.trans (h'.mono hb.size)), fun w'' h' => h.full w'' (hb.trans (h'.mono hb.size)), fun w'' h' => h.at_ w'' (hb.trans (h'.mono hb.size))⟩
section
variable {w : World} {q : Option Addr} (h : Dead w q)
include h
end
end Go.Proofs.Ytboekafmplomhaa
