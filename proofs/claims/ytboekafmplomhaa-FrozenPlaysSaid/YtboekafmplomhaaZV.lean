/-
  A region that draws its order and ends in a tail of forced order: the head is walked once, in the order of the text, the tail as it stands.
-/
import Derived.Test.YtboekafmplomhaaZR
import Derived.StillTail
set_option linter.unusedVariables false
set_option linter.unusedSimpArgs false
namespace Go
open Go.RowKit

section
variable {P : Program} {ops : Array Oper} {Q : Exit → Act → World → Prop} {md : Region.Mode} {S : Array Bool → World → Prop}

end

section
variable {P : Program} {ops : Array Oper} {Q : Exit → Act → World → Prop} {W W2 : World} {F : Act → Prop} {o : Oper} {r : List Oper} {a : Act} {v : Value}

end
end Go
