/-
  What calls mean, as the statements of layer 15 reckon it.
-/
import Derived.Test.YtboekafmplomhaaZDoes
set_option linter.unusedVariables false
set_option linter.unusedSimpArgs false
namespace Go.Proofs.Ytboekafmplomhaa
open Go.RowKit

/-- Truths as cells. -/
def bools (l : List Bool) : List Value := l.map Value.bool
/-- Calls as cells. -/
def flatO : List OpD → List Value
  | [] => []
  | o :: r => .int .i64 o.k :: .int .i64 o.a :: .int .i64 o.b :: .int .i64 o.c :: .bool o.on :: flatO r
theorem flatO_at : ∀ (l : List OpD) (i : Nat) (o : OpD), l[i]? = some o → (flatO l)[i * 5]? = some (.int .i64 o.k) ∧ (flatO l)[i * 5 + 1]? = some (.int .i64 o.a) ∧ (flatO l)[i * 5 + 2]? = some (.int .i64 o.b) ∧ (flatO l)[i * 5 + 3]? = some (.int .i64 o.c) ∧ (flatO l)[i * 5 + 4]? = some (.bool o.on)
  | [], i, n, h => by simp at h
  | x :: r, 0, n, h => by simp at h; subst h; simp [flatO]
  | x :: r, i + 1, n, h => by
    have := flatO_at r i n (by simpa using h)
    have e : (i + 1) * 5 = i * 5 + 5 := by omega
    rw [e]
    simpa [flatO] using this
/-- One call's cells. -/
theorem Rd.op {w : World} {a : Option Addr} {cap : Nat} {l : List OpD} (h : Rd w 5 (.slice a l.length cap) (flatO l)) {i : Nat} {o : OpD} (hi : l[i]? = some o) :
    ∃ b off, a = some ⟨b, off, none⟩ ∧ b < w.heap.size ∧ w.cell? ⟨b, off + i * 5, none⟩ = some (.int .i64 o.k) ∧ w.cell? ⟨b, off + i * 5 + 1, none⟩ = some (.int .i64 o.a) ∧ w.cell? ⟨b, off + i * 5 + 2, none⟩ = some (.int .i64 o.b) ∧
      w.cell? ⟨b, off + i * 5 + 3, none⟩ = some (.int .i64 o.c) ∧ w.cell? ⟨b, off + i * 5 + 4, none⟩ = some (.bool o.on) := by
  have hlt : i < l.length := (List.getElem?_eq_some_iff.1 hi).1
  obtain ⟨a', n, cap', h1, h2, h3, h4, h5⟩ := h
  simp only [Value.slice.injEq] at h1
  obtain ⟨rfl, rfl, rfl⟩ := h1
  obtain ⟨b, off, e1, e2, e3⟩ := h5 (by omega)
  obtain ⟨q0, q1, q2, q3, q4⟩ := flatO_at l i o hi
  exact ⟨b, off, e1, e2, e3 _ _ q0, by have := e3 _ _ q1; rw [← Nat.add_assoc] at this; exact this, by have := e3 _ _ q2; rw [← Nat.add_assoc] at this; exact this,
    by have := e3 _ _ q3; rw [← Nat.add_assoc] at this; exact this, by have := e3 _ _ q4; rw [← Nat.add_assoc] at this; exact this⟩

/-- A row of our own reads as its cells. -/
theorem RowIs.rd {w : World} {sv : Value} {G : Option Nat} {e : TypeId} {size n : Nat} {xs : List Value} (h : RowIs w sv G e size n xs) : Rd w size sv xs := by
  obtain ⟨h0, ⟨rfl, rfl, _⟩ | ⟨g, cap, cur, rfl, rfl, h3, h4, h5, h6, h7⟩⟩ := h
  · exact ⟨none, 0, 0, rfl, Nat.le_refl _, by omega, h0, fun h => by omega⟩
  · refine ⟨some ⟨g, 0, none⟩, n, cap, rfl, h4, by unfold maxLen at h5; omega, h0, fun hn => ⟨g, 0, rfl, (Array.getElem?_eq_some_iff.1 h3).1, fun j u hu => ?_⟩⟩
    have hj : j < n * size := by rw [← h0]; exact (List.getElem?_eq_some_iff.1 hu).1
    rw [← h7, List.getElem?_take_of_lt hj] at hu
    simp only [World.cell?, h3, Nat.zero_add]
    simpa using hu

end Go.Proofs.Ytboekafmplomhaa
