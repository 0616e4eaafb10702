/-
  Package tidy: each, over a slice of diagrams.
-/
import Derived.Test.YtboekafmplomhaaZEach
import Derived.Test.YtboekafmplomhaaZSupB
import Derived.Test.YtboekafmplomhaaZDead
set_option linter.unusedVariables false
set_option linter.unusedSimpArgs false
namespace Go.Proofs.Ytboekafmplomhaa
open Go.RowKit

section
variable {q : Option Addr} {F : List Nat} {St : World → Prop} {at_ : Int → Nd × Bool} {rk : Int → Nat} {kf : FuncId} {cap : Array Value} {I : List Nat → List Int → World → Prop}
end
end Go.Proofs.Ytboekafmplomhaa
set_option linter.unusedVariables false
set_option linter.unusedSimpArgs false
namespace Go.Proofs.Ytboekafmplomhaa
open Go.RowKit

theorem src_live {S : Sto} (hW : Wf S) (p : Nat) (F : List Nat) : Src (some ⟨p, 0, none⟩) F (fun w => StoIs w p F S) (atV S) (fun a => (rightOf S a).toNat) where
  keep w w' h hk := h.keep hk
  lt w h := h.lt
  call w h a := at_call h hW a
  lo a ha := by
    obtain ⟨i, nd, rfl, hnd, hat, hr⟩ := atV_yes ha
    have hch := hW.child hnd
    have hok := hW.node i nd hnd
    rw [hat, hr]
    show (rightOf S nd.2.1).toNat < _
    rw [right_has hch.1]
    have := hok.lo
    have := hok.lo0
    omega
  hi a ha := by
    obtain ⟨i, nd, rfl, hnd, hat, hr⟩ := atV_yes ha
    have hch := hW.child hnd
    have hok := hW.node i nd hnd
    rw [hat, hr]
    show (rightOf S nd.2.2).toNat < _
    rw [right_has hch.2]
    have := hok.hi
    have := hok.hi0
    omega
section
variable {q : Option Addr} {F : List Nat} {St : World → Prop} {at_ : Int → Nd × Bool} {rk : Int → Nat}
end
end Go.Proofs.Ytboekafmplomhaa
