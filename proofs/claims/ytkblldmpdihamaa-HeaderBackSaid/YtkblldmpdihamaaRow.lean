/-
  A slice that owns its row, with the row's block named: read, appended to.
-/
import Derived.Test.YtkblldmpdihamaaMap
import Derived.ArgAppend
set_option linter.unusedVariables false
set_option linter.unusedSimpArgs false
namespace Go
open Go.RowKit

section
variable {P : Program} {w : World} {sv : Value} {G : Option Nat} {e : TypeId} {size n : Nat} {xs : List Value}

/-- The slice value sv holds n elements of 'size' cells each, xs; its row is block G. -/
def RowIs (w : World) (sv : Value) (G : Option Nat) (e : TypeId) (size n : Nat) (xs : List Value) : Prop :=
  xs.length = n * size ∧
  ((sv = .slice none 0 0 ∧ n = 0 ∧ G = none) ∨
   ∃ g cap cur, sv = .slice (some ⟨g, 0, none⟩) n cap ∧ G = some g ∧ w.heap[g]? = some (.cells cur e (0, 0)) ∧ n ≤ cap ∧ cap ≤ maxLen ∧ cur.size = cap * size ∧ cur.toList.take (n * size) = xs)

theorem RowIs.form (h : RowIs w sv G e size n xs) : ∃ a cap, sv = .slice a n cap ∧ n ≤ maxLen := by
  obtain ⟨_, ⟨h1, rfl, _⟩ | ⟨g, cap, cur, h1, _, _, h2, h3, _⟩⟩ := h
  · exact ⟨_, _, h1, Nat.zero_le _⟩
  · exact ⟨_, _, h1, Nat.le_trans h2 h3⟩
theorem RowIs.lt (h : RowIs w sv G e size n xs) : ∀ g, G = some g → g < w.heap.size := by
  rintro g rfl
  obtain ⟨_, ⟨_, _, h⟩ | ⟨g', cap, cur, _, h1, h2, _⟩⟩ := h
  · cases h
  · cases h1; exact (Array.getElem?_eq_some_iff.1 h2).1
theorem RowIs.keep {w' : World} (h : RowIs w sv G e size n xs) (hk : ∀ g, G = some g → w'.heap[g]? = w.heap[g]?) : RowIs w' sv G e size n xs := by
  obtain ⟨h0, h | ⟨g, cap, cur, h1, h2, h3, h4⟩⟩ := h
  · exact ⟨h0, .inl h⟩
  · exact ⟨h0, .inr ⟨g, cap, cur, h1, h2, by rw [hk g h2]; exact h3, h4⟩⟩
/-- An element's cells. -/
theorem RowIs.at (h : RowIs w sv G e size n xs) {i j : Nat} (hi : i < n) (hj : j < size) :
    ∃ g cap, sv = .slice (some ⟨g, 0, none⟩) n cap ∧ G = some g ∧ w.cell? ⟨g, i * size + j, none⟩ = xs[i * size + j]? ∧ w.frozen? ⟨g, i * size + j, none⟩ = false := by
  obtain ⟨h0, ⟨_, h, _⟩ | ⟨g, cap, cur, h1, h2, h3, h4, _, h5, h6⟩⟩ := h
  · omega
  · refine ⟨g, cap, h1, h2, ?_, by simp [World.frozen?, h3]⟩
    have hlt : i * size + j < n * size := by
      have : (i + 1) * size ≤ n * size := Nat.mul_le_mul_right _ hi
      rw [Nat.add_mul] at this; omega
    simp only [World.cell?, h3]
    rw [← h6, List.getElem?_take_of_lt hlt]
    simp

theorem append_row (t ty : TypeId) (i : TypeInfo) (z : Value) (bytes : Nat) (ht : P.underlying t = some (.slice e)) (hi : P.info? e = some i) (hz : i.zero = some z)
    (hsize : i.size = size) (hby : i.bytes = bytes) (hzs : z.cells.size = size) (hsz : 0 < size) (h : RowIs w sv G e size n xs)
    (a : Addr) (m c : Nat) (news : List Value) (hl : news.length = m * size) (hnews : ∀ j u, news[j]? = some u → w.cell? (a.add j) = some u) (h1 : ∀ u ∈ news, u.oneCell' = true) (hm : 0 < m)
    (h63 : n + m ≤ maxLen) (hbytes : (n + m) * bytes ≤ 140737488355328) :
    ∃ v' w' G', (Builtin.append_ #[t, t] ty #[sv, .slice (some a) m c]).run P w = .ok v' w' ∧ RowIs w' v' (some G') e size (n + m) (xs ++ news) ∧ w.grownBy w' G ∧ (G = some G' ∨ (w.heap.size ≤ G' ∧ G' < w'.heap.size)) := by
  have of_own : ∀ (v' : Value) (w' : World), w'.ownsRow w.heap.size e size v' (n + m) (xs ++ news) → ∃ G', RowIs w' v' (some G') e size (n + m) (xs ++ news) ∧ w.heap.size ≤ G' ∧ G' < w'.heap.size := by
    rintro v' w' ⟨q0, ⟨_, q⟩ | ⟨g, cap, cur, q1, q2, q3, q4, q5, q6, q7⟩⟩
    · omega
    · exact ⟨g, ⟨q0, .inr ⟨g, cap, cur, q1, rfl, q3, q4, q5, q6, q7⟩⟩, q2, (Array.getElem?_eq_some_iff.1 q3).1⟩
  obtain ⟨h0, ⟨rfl, rfl, rfl⟩ | ⟨g, cap, cur, rfl, rfl, h3, h4, h5, h6, h7⟩⟩ := h
  · have hxs : xs = [] := List.length_eq_zero_iff.1 (by rw [h0]; simp)
    subst hxs
    obtain ⟨v', w', r1, r2, r3, _⟩ := run_append_own w w.heap.size t ty e i z size bytes ht hi hz hsize hby hzs hsz (.slice none 0 0) 0 [] (World.ownsRow_nil w _ e size) a m c news hl hnews h1 h63 hbytes (Nat.le_refl _)
    obtain ⟨G', g1, g2⟩ := of_own v' w' r2
    exact ⟨v', w', G', r1, g1, r3, .inr g2⟩
  · by_cases hr : n + m ≤ cap
    · have hfit : n * i.size + news.length ≤ cur.size := by
        rw [hsize, hl, h6, ← Nat.add_mul]; exact Nat.mul_le_mul_right _ hr
      have hrun := run_append_room (P := P) w t ty e i ht hi g n cap cur h3 a m c news (by rw [hsize]; exact hl) hnews h1 hr hfit
      refine ⟨_, _, g, hrun, ⟨by rw [List.length_append, h0, hl, Nat.add_mul], .inr ⟨g, cap, _, rfl, rfl, setRow_heap w g cur _ e _ h3, hr, h5, ?_, ?_⟩⟩, ⟨rfl, rfl, rfl, by simp [World.setRow], fun k hk hne => ?_⟩, .inl rfl⟩
      · rw [hsize] at hfit ⊢
        simp; omega
      · rw [hsize] at hfit ⊢
        simp only [List.append_assoc, List.toList_toArray]
        have e1 : (n + m) * size = (List.take (n * size) cur.toList ++ news).length := by
          rw [h7, List.length_append, h0, hl, Nat.add_mul]
        rw [← List.append_assoc, e1, List.take_left, h7]
      · have : ¬ g = k := fun e => hne (by rw [e])
        simp [World.setRow, Array.getElem?_modify, this]
    · have holds : ∀ j u, xs[j]? = some u → w.cell? ((⟨g, 0, none⟩ : Addr).add j) = some u := fun j u hu => by
        have hj : j < n * size := by
          have := (List.getElem?_eq_some_iff.1 hu).1
          omega
        rw [← h7, List.getElem?_take_of_lt hj] at hu
        have ha : (⟨g, 0, none⟩ : Addr).add j = ⟨g, j, none⟩ := by
          unfold Addr.add; by_cases e : j = 0 <;> simp [e]
        rw [ha]
        simp only [World.cell?, h3]
        simpa using hu
      obtain ⟨v', w', r1, r2, r3⟩ := run_append_arg_grows (P := P) w t ty e i z size bytes ht hi hz hsize hby hzs hsz ⟨g, 0, none⟩ n cap xs h0 holds a m c news hl hnews (by omega) h63 hbytes
      obtain ⟨G', g1, g2⟩ := of_own v' w' r2
      exact ⟨v', w', G', r1, g1, ⟨r3.os, r3.tape, r3.output, r3.size, fun k hk _ => r3.block k hk (by simp)⟩, .inr g2⟩
end
end Go
