/-
  Bytes as strings.
-/
import Derived.Test.YtkblldmpdihamaaZHead
import Derived.Laws.BytesArg
set_option linter.unusedVariables false
set_option linter.unusedSimpArgs false
namespace Go.Proofs.Ytkblldmpdihamaa
open Go.RowKit

/-- The string of some bytes. -/
def strOf (l : List Nat) : ByteArray := strOfNums (l.map fun (x : Nat) => (x : Int))
theorem str_any {w : World} {r : SL} {l : List Nat} (h : RdS w 1 r (byts l)) : (convert 34 9 r.v).run Try.prog w = .ok (.string (strOf l)) w := by
  obtain ⟨h1, h2, h3, h4⟩ := h
  obtain ⟨a, n, c⟩ := r
  have hl : l.length = n := by rw [byts_length] at h3; simp at h3; exact h3
  rcases Nat.eq_zero_or_pos n with h0 | h0
  · have hl0 : l = [] := List.length_eq_zero_iff.1 (by omega)
    subst hl0
    subst h0
    cases a with
    | none => exact run_convert_bytes_nil w _ 5 Try.underlying34 Try.underlying5 0 c _ Try.underlying9
    | some q =>
      show (convert _ _ (.slice (some q) 0 c)).run Try.prog w = _
      rw [run_convert_bytes_string w _ _ 5 _ _ _ Try.underlying34 Try.underlying5 Try.underlying9,
        run_bytesToString w q 0 c [] (run_loadCells_list (P := Try.prog) w q [] (fun j v hv => by simp at hv))]
      rfl
  · obtain ⟨b, off, e1, e2, e3⟩ := h4 h0
    simp only at e1
    subst e1
    refine run_convert_bytes_arg w _ 5 Try.underlying34 Try.underlying5 b off n c (l.map fun (x : Nat) => (x : Int)) (by simpa using hl) ?_ _ Try.underlying9
    intro i hi
    refine e3 i _ ?_
    simp [byts, hl, hi, List.getD_eq_getElem?_getD]
theorem strOf_inj {l m : List Nat} (hl : ∀ x ∈ l, x < 256) (hm : ∀ x ∈ m, x < 256) : strOf l = strOf m ↔ l = m := by
  constructor
  · intro h
    have h1 := congrArg (fun s : ByteArray => s.data.toList) h
    unfold strOf at h1
    simp only [strOfNums_data, List.map_map] at h1
    have h2 := congrArg (List.map UInt8.toNat) h1
    simp only [List.map_map] at h2
    have key : ∀ t : List Nat, (∀ x ∈ t, x < 256) → t.map (UInt8.toNat ∘ ((fun n : Int => UInt8.ofNat n.toNat) ∘ fun (x : Nat) => (x : Int))) = t := by
      intro t ht
      conv => rhs; rw [← List.map_id t]
      apply List.map_congr_left
      intro x hx
      have := ht x hx
      simp
      omega
    rw [key l hl, key m hm] at h2
    exact h2
  · intro h; rw [h]
end Go.Proofs.Ytkblldmpdihamaa
