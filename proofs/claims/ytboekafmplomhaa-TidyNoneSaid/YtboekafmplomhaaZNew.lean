/-
  A new store.
-/
import Derived.Test.YtboekafmplomhaaZCallsB
set_option linter.unusedVariables false
set_option linter.unusedSimpArgs false
namespace Go.Proofs.Ytboekafmplomhaa
open Go.RowKit

/-- A new store, in blocks of its own. -/
def NewAt (w : World) (cap : Int) (e : Ending) (w' : World) : Prop :=
  ∃ p F, e = .returned (.tuple #[.pointer (some ⟨p, 0, none⟩), .int .i64 0]) ∧ StoIs w' p F (newS cap) ∧ Below w.heap.size w w' ∧ ∀ k ∈ F, w.heap.size ≤ k
theorem new_call (cap : Int) (h1 : 2 ≤ cap) (h2 : cap ≤ 1048576) (w : World) :
    Calls Try.prog 15 #[.int .i64 cap] w (NewAt w cap) := by
  have hmm := @run_makeMap Try.prog
  go_enter Try.func15, Try.ntmps15
  go_wp2
  go_returns
  refine ⟨w.heap.size + 1 + 1, [w.heap.size + 1 + 1, w.heap.size, w.heap.size + 1], rfl, ?_, ?_, ?_⟩
  · refine ⟨.slice none 0 0, none, w.heap.size, w.heap.size + 1, ?_, ⟨rfl, .inl ⟨rfl, rfl, rfl⟩⟩, ⟨#[], 0, ?_, rfl⟩, ⟨#[], 0, ?_, rfl⟩, rfl, ?_⟩
    · have e := World.heap_alloc_last ((w.alloc (.map #[] 0)).alloc (.map #[] 0)) (.cells #[.int .i64 cap, .slice none 0 0, .map (some w.heap.size), .map (some (w.heap.size + 1)), .bool false] 47)
      simpa [newS] using e
    · rw [Below.heap_alloc _ _ _ (by simp), Below.heap_alloc _ _ _ (by simp)]
      exact World.heap_alloc_last w _
    · rw [Below.heap_alloc _ _ _ (by simp)]
      have e := World.heap_alloc_last (w.alloc (.map #[] 0)) (.map #[] 0)
      simpa using e
    · simp; omega
  · (repeat' (first | (with_reducible exact Below.refl _ _) | (with_reducible refine Below.ext_mk ?_ ?_ _ _) | (with_reducible refine Below.alloc ?_ ?_ _) | (with_reducible refine Below.drew ?_) | (with_reducible refine Below.setCell ?_ ?_ _) | go_size))
  · intro k hk
    simp at hk
    omega
end Go.Proofs.Ytboekafmplomhaa
