/-
  One call of a store, as the statements of layer 15 make it.
-/
import Derived.Test.YtboekafmplomhaaZMeansP
import Derived.Test.YtboekafmplomhaaZCallsB
import Derived.Test.YtboekafmplomhaaZV
set_option linter.unusedVariables false
set_option linter.unusedSimpArgs false
namespace Go.Proofs.Ytboekafmplomhaa
open Go.RowKit

/-- A slice that reads as cells, 'size' of them an element. -/
def Rd (w : World) (size : Nat) (sv : Value) (xs : List Value) : Prop :=
  ∃ a n cap, sv = .slice a n cap ∧ n ≤ cap ∧ n ≤ 9223372036854775807 ∧ xs.length = n * size ∧ (0 < n → ∃ b off, a = some ⟨b, off, none⟩ ∧ b < w.heap.size ∧ ∀ j u, xs[j]? = some u → w.cell? ⟨b, off + j, none⟩ = some u)
theorem Rd.below {w w' : World} {size : Nat} {sv : Value} {xs : List Value} (h : Rd w size sv xs) (hb : Below w.heap.size w w') : Rd w' size sv xs := by
  obtain ⟨a, n, cap, h1, h2, h3, h4, h5⟩ := h
  refine ⟨a, n, cap, h1, h2, h3, h4, fun hn => ?_⟩
  obtain ⟨b, off, e1, e2, e3⟩ := h5 hn
  exact ⟨b, off, e1, Nat.lt_of_lt_of_le e2 hb.size, fun j u hu => (hb.cell (p := ⟨b, off + j, none⟩) e2).trans (e3 j u hu)⟩
theorem Rd.step {w w' : World} {size : Nat} {sv : Value} {xs : List Value} {F F' : List Nat} (h : Rd w size sv xs) (hs : StoStep w w' F F') (hF : ∀ a n cap b off, sv = .slice a n cap → a = some ⟨b, off, none⟩ → b ∉ F) : Rd w' size sv xs := by
  obtain ⟨a, n, cap, h1, h2, h3, h4, h5⟩ := h
  refine ⟨a, n, cap, h1, h2, h3, h4, fun hn => ?_⟩
  obtain ⟨b, off, e1, e2, e3⟩ := h5 hn
  exact ⟨b, off, e1, Nat.lt_of_lt_of_le e2 hs.size, fun j u hu => by
    have := hs.block b e2 (hF a n cap b off h1 e1)
    simp only [World.cell?] at e3 ⊢
    rw [this]; exact e3 j u hu⟩
/-- Whole numbers as cells. -/
def ints (l : List Int) : List Value := l.map (Value.int .i64)
theorem ints_length (l : List Int) : (ints l).length = l.length := by simp [ints]
theorem Rd.len {w : World} {sv : Value} {l : List Int} (h : Rd w 1 sv (ints l)) : ∃ a cap, sv = .slice a l.length cap ∧ l.length ≤ cap ∧ l.length ≤ 9223372036854775807 := by
  obtain ⟨a, n, cap, h1, h2, h3, h4, _⟩ := h
  rw [ints_length, Nat.mul_one] at h4
  subst h4
  exact ⟨a, cap, h1, h2, h3⟩

/-- A call's outcome, by any name of what it tells. -/
theorem Tells.of {f : FuncId} {args : Array Value} {w : World} {p : Nat} {F : List Nat} {R R' : Sto × Int} (h : Tells f args w p F R) (e : R' = R) : Tells f args w p F R' := by rw [e]; exact h

section
variable {w : World} {p : Nat} {F : List Nat} {S : Sto} {all : List Int} {sa : Option Addr} {cap : Nat}

end
end Go.Proofs.Ytboekafmplomhaa
