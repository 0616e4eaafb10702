/-
  A slice copied by append to an empty one.
-/
import Derived.Test.YtkblldmpdihamaaSame
import Derived.Deep.Upon
set_option linter.unusedVariables false
set_option linter.unusedSimpArgs false
namespace Go.Proofs.Ytkblldmpdihamaa
open Go.RowKit

theorem append_copy {w : World} {s : SL} {xs : List Value} {t e : TypeId} {i : TypeInfo} {z : Value} {size bytes : Nat} (ht : Try.prog.underlying t = some (.slice e)) (hi : Try.prog.info? e = some i) (hz : i.zero = some z) (hsize : i.size = size) (hby : i.bytes = bytes)
    (hzs : z.cells.size = size) (hsz : 0 < size) (h : RdS w size s xs) (h1 : ∀ u ∈ xs, u.oneCell' = true) (hn : s.n ≤ 1000000) (hb : bytes ≤ 1000) :
    ∃ (a : Option Addr) (c : Nat) (w1 : World) (G : Nat), (Builtin.append_ #[t, t] t #[.slice (some ⟨w.heap.size, 0, none⟩) 0 0, s.v]).run Try.prog (w.alloc (.cells #[] e)) = .ok (.slice a s.n c) w1 ∧
      RowIs w1 (.slice a s.n c) (some G) e size s.n xs ∧ Below w.heap.size w w1 ∧ w.heap.size ≤ G ∧ G < w1.heap.size := by
  have hrow : RowIs (w.alloc (.cells #[] e)) (.slice (some ⟨w.heap.size, 0, none⟩) 0 0) (some w.heap.size) e size 0 [] :=
    ⟨by simp, .inr ⟨w.heap.size, 0, #[], rfl, rfl, Blk.new w e [], Nat.le_refl _, Nat.zero_le _, by simp, by simp⟩⟩
  have hbl : Below w.heap.size w (w.alloc (.cells #[] e)) := by (repeat' (first | (with_reducible exact Below.refl _ _) | (with_reducible refine Below.ext_mk ?_ ?_ _ _) | (with_reducible refine Below.alloc ?_ ?_ _) | (with_reducible refine Below.drew ?_) | (with_reducible refine Below.setCell ?_ ?_ _) | go_size))
  obtain ⟨sa, sn, sc⟩ := s
  rcases Nat.eq_zero_or_pos sn with h0 | h0
  · subst h0
    have hx : xs = [] := List.length_eq_zero_iff.1 (by have := h.2.2.1; simpa using this)
    subst hx
    refine ⟨_, _, _, w.heap.size, run_append_nothing (P := Try.prog) _ t t t e i ht hi _ 0 0 (Nat.le_refl _) _ ?_, hrow, hbl, Nat.le_refl _, by simp⟩
    cases sa with
    | none => exact Src.ofNil _ ht sc
    | some a => exact Src.ofSlice _ ht a 0 sc [] (by simp) (fun j u hu => by simp at hu) (fun u hu => by simp at hu)
  · obtain ⟨b, off, ea, zb, hc⟩ := h.2.2.2 h0
    simp only at ea
    subst ea
    have hxl := h.2.2.1
    simp only at hxl hn
    have hbb : sn * bytes ≤ 1000000 * 1000 := Nat.mul_le_mul hn hb
    obtain ⟨v', w1, G', r1, r2, r3, r4⟩ := append_row (P := Try.prog) t t i z bytes ht hi hz hsize hby hzs hsz hrow ⟨b, off, none⟩ sn sc xs hxl (fun j u hu => by
      rw [hadd_off]
      exact (hbl.cell (p := ⟨b, off + j, none⟩) zb).trans (hc j u hu)) h1 h0 (by unfold maxLen; omega) (by rw [Nat.zero_add]; omega)
    obtain ⟨sa', sc', rfl, _⟩ := r2.form
    simp only [Nat.zero_add, List.nil_append] at r1 r2
    have hlt := r2.lt G' rfl
    have hB : Below w.heap.size w w1 := hbl.grown r3 (by simp) (fun g hg => by cases hg; exact Nat.le_refl _)
    refine ⟨sa', sc', w1, G', r1, r2, hB, ?_, hlt⟩
    rcases r4 with r4 | ⟨r4, _⟩
    · cases r4; exact Nat.le_refl _
    · simp at r4; omega
/-- A row that is kept when other blocks turn. -/
theorem RowIs.turn {w w' : World} {L : List Nat} {sv : Value} {g : Nat} {e : TypeId} {size n : Nat} {xs : List Value} (h : RowIs w sv (some g) e size n xs) (t : Turn w w' L) (hg : g ∉ L) : RowIs w' sv (some g) e size n xs :=
  RowIs.keep h (fun g' hg' => by cases hg'; exact t.block g (RowIs.lt h g rfl) hg)
end Go.Proofs.Ytkblldmpdihamaa
