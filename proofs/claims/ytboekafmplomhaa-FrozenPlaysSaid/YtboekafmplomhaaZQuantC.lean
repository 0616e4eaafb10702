/-
  Package quant over a live store: parts, Compose, Swap.
-/
import Derived.Test.YtboekafmplomhaaZQuantL
set_option linter.unusedVariables false
set_option linter.unusedSimpArgs false
namespace Go.Proofs.Ytboekafmplomhaa
open Go.RowKit

theorem varV_good {S : Sto} (hW : Wf S) (hs : Sated S) (v : Int) : Wf (varV S v).1 ∧ Sated (varV S v).1 := by
  have O := varV_ok (V := 64) hW hs (below64 hW) v (by omega)
  exact ⟨O.wf, O.sated⟩
end Go.Proofs.Ytboekafmplomhaa
