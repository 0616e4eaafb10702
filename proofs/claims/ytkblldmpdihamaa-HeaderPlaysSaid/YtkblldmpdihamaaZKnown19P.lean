/-
  The document's example of layer 19, in plain Lean.
-/
import Derived.Test.YtkblldmpdihamaaZNewI
import Derived.Test.YtkblldmpdihamaaZTake
import Derived.Test.YtkblldmpdihamaaZHFitsB
set_option linter.unusedVariables false
set_option linter.unusedSimpArgs false
namespace Go.Proofs.Ytkblldmpdihamaa
open Go.RowKit

theorem k19_take : takeN [26, 188, 222] 0 [4, 12] = [ofN 1, ofN 2748] := by decide +kernel
theorem k19_emit (s1 s2 : SL) : (layAll ([], 0) (emT [(s1, [4, 12])] [true] [(s2, [ofN 1, ofN 2748])] [0] 1)).1 ++ [222] = [26, 188, 222] := by kernel_rfl
theorem k19_fits (s1 s2 : SL) : hfitsV [(s1, [4, 12])] [] [true] [(s2, [ofN 1, ofN 2748])] [] = true := by kernel_rfl
theorem k19_few : Few [4, 12] := ⟨fun x hx => by simp at hx; omega, by decide⟩
theorem k19_head (s1 : SL) : headAt [(s1, [4, 12])] ((0 : Nat) : Int) = (s1, [4, 12]) := rfl
end Go.Proofs.Ytkblldmpdihamaa
