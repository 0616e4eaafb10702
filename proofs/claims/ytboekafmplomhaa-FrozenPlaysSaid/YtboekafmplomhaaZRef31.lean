/-
  quillonref31: there, Exists, Forall, Compose, Swap, Implies, over the document's store.
-/
import Derived.Test.YtboekafmplomhaaZRefOps
set_option linter.unusedVariables false
set_option linter.unusedSimpArgs false
namespace Go.Proofs.Ytboekafmplomhaa
open Go.RowKit

end Go.Proofs.Ytboekafmplomhaa
