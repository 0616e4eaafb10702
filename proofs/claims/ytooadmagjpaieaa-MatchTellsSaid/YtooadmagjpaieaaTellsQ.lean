/-
  The plain law of MatchTells: Length.
-/
import Derived.Test.YtooadmagjpaieaaTellsP
import Derived.Test.YtooadmagjpaieaaRefM4
set_option linter.unusedVariables false
set_option linter.unusedSimpArgs false
namespace Go.Proofs.Ytooadmagjpaieaa
open Go.RowKit

theorem len_rlen (v m : BitVec 128) (u : Int) : rlen v m u = mlen v m u := by
  unfold rlen mlen
  rw [← mayB_rmay]
  cases hA : rmay v m u
  · rfl
  · simp only [if_true]
    rw [rmay_iff] at hA
    obtain ⟨⟨u1, u2⟩, hA⟩ := hA
    obtain ⟨U, rfl⟩ : ∃ U : Nat, u = (U : Int) := ⟨u.toNat, by omega⟩
    simp only [Int.toNat_natCast]
    refine lenV_congr (fun l hl => ?_)
    rw [Bool.eq_iff_iff, isTop_iff, decide_eq_true_eq, bv_iff]
    constructor
    · intro h i hi
      rw [high_top (by omega) (by omega) u2 hi]
      by_cases hu : i < U
      · have := h (U - 1 - i) (by omega)
        have e : U - 1 - (U - 1 - i) = i := by omega
        rw [e] at this
        rw [this]
        by_cases c : U - 1 - i < l
        · have e1 : (i : Int) < (U : Int) := by omega
          have e2 : (U : Int) - (l : Int) ≤ (i : Int) := by omega
          simp only [c, e1, e2]; simp
        · have e2 : ¬ (U : Int) - (l : Int) ≤ (i : Int) := by omega
          simp only [c, e2]; simp
      · cases e1 : bt m i
        · have e1 : ¬ (i : Int) < (U : Int) := by omega
          simp only [e1]; simp
        · have := (hA i hi).2 e1; omega
    · intro h k hk
      have := h (U - 1 - k) (by omega)
      rw [high_top (by omega) (by omega) u2 (by omega)] at this
      rw [← this]
      have e0 : ((U - 1 - k : Nat) : Int) < (U : Int) := by omega
      by_cases c : k < l
      · have e2 : (U : Int) - (l : Int) ≤ ((U - 1 - k : Nat) : Int) := by omega
        simp only [c, e0, e2]; simp
      · have e2 : ¬ (U : Int) - (l : Int) ≤ ((U - 1 - k : Nat) : Int) := by omega
        simp only [c, e0, e2]; simp
end Go.Proofs.Ytooadmagjpaieaa
