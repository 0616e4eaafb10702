/-
  quillonref31: Implies, over the document's store.
-/
import Derived.Test.YtboekafmplomhaaZRef31
set_option linter.unusedVariables false
set_option linter.unusedSimpArgs false
namespace Go.Proofs.Ytboekafmplomhaa
open Go.RowKit

section
variable {w : World} {q : Nat} {F : List Nat} {S : Sto}
set_option maxHeartbeats 4000000 in
theorem rImplies_call (h : RIs w q F (rOf S)) (hW : Wf S) (hs : Sated S) (x y : Int) :
    Calls Try.prog 52 #[.pointer (some ⟨q, 0, none⟩), .int .i64 x, .int .i64 y] w (fun e w' => e = .returned (.bool (impliesV S x y).2) ∧ ∃ F', RIs w' q F' (rOf (impliesV S x y).1) ∧ StoStep w w' F F') := by
  have N := rNot_call h hW y
  have G1 : Wf (notV S y).1 := (iteV_good hW hs _ _ _).1
  have A := fun W F (h : RIs W q F (rOf (notV S y).1)) => rAnd_call h G1 x (notV S y).2
  unfold RSame at N A
  unfold impliesV
  generalize notV S y = R1 at *
  generalize andV R1.1 x R1.2 = R2 at *
  obtain ⟨S2, r2⟩ := R2
  simp only at A ⊢
  clear h hW hs G1
  by_cases h0 : r2 = 0
  · have h0' : (r2 == 0) = true := by simpa using h0
    have eg : (decide (r2 = 0) && !S2.full) = !S2.full := by simp [h0]
    rw [eg]
    clear eg h0
    go_enter Try.func52, Try.ntmps52
    go_upto_region 3 with (first
      | ((with_reducible refine N.mono ?_); rintro e w1 ⟨rfl, F1, hS1, st1⟩)
      | ((with_reducible refine (A _ _ hS1).mono ?_); rintro e w2 ⟨rfl, F2, hS2, st2⟩))
    obtain ⟨a', cap', zq, c0, c1, c2, _⟩ := hS2.cells
    have c2' : w2.cell? ⟨q, 2, none⟩ = some (.bool S2.full) := c2
    clear c0 c1 c2
    obtain ⟨f, hf⟩ : ∃ f, S2.full = f := ⟨_, rfl⟩
    rw [hf] at c2'
    have HFL := hid hf
    clear hf
    refine wp_region_doc (fun F hF => ?_)
    have HF := hid hF
    clear hF
    repeat (first
      | (refine doc_not rfl ?_; simp only [Act.put, List.setIfInBounds_toArray, List.set_cons_zero, List.set_cons_succ])
      | (refine doc_val rfl (by first | (go_simp; done) | (go_simp; exact ⟨rfl, rfl⟩) | (go_simp; with_reducible rfl)) ?_; simp only [Act.put, List.setIfInBounds_toArray, List.set_cons_zero, List.set_cons_succ]))
    refine doc_end (HF.out _ _ ?_)
    clear HF F
    go_wp2_with fail
    go_returns
    rw [HFL.out]
    exact ⟨rfl, F2, hS2, st1.trans st2⟩
  · have h0' : (r2 == 0) = false := by simpa using h0
    have eg : (decide (r2 = 0) && !S2.full) = false := by simp [h0]
    rw [eg]
    clear eg h0
    go_enter Try.func52, Try.ntmps52
    go_upto_region 3 with (first
      | ((with_reducible refine N.mono ?_); rintro e w1 ⟨rfl, F1, hS1, st1⟩)
      | ((with_reducible refine (A _ _ hS1).mono ?_); rintro e w2 ⟨rfl, F2, hS2, st2⟩))
    refine wp_region_doc (fun F hF => ?_)
    have HF := hid hF
    clear hF
    repeat (first
      | (refine doc_not rfl ?_; simp only [Act.put, List.setIfInBounds_toArray, List.set_cons_zero, List.set_cons_succ])
      | (refine doc_val rfl (by first | (go_simp; done) | (go_simp; exact ⟨rfl, rfl⟩) | (go_simp; with_reducible rfl)) ?_; simp only [Act.put, List.setIfInBounds_toArray, List.set_cons_zero, List.set_cons_succ]))
    refine doc_end (HF.out _ _ ?_)
    clear HF F
    go_wp2_with fail
    go_returns
    exact ⟨rfl, F2, hS2, st1.trans st2⟩
end
end Go.Proofs.Ytboekafmplomhaa
