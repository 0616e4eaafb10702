/-
  Calls of a store, one by one, and what they mean, in plain Lean.
-/
import Derived.Test.YtboekafmplomhaaZPlay
set_option linter.unusedVariables false
set_option linter.unusedSimpArgs false
namespace Go.Proofs.Ytboekafmplomhaa

structure OpD where
  k : Int
  a : Int
  b : Int
  c : Int
  on : Bool

/-- A store, six variables, that is not full, and diagrams of it. -/
structure Good (S : Sto) (V : Int) (m : Nat) (all : List Int) : Prop where
  wf : Wf S
  cap : S.cap = 1048576
  sated : Sated S
  below : Below' S V
  count : S.nodes.length ≤ m
  has : ∀ x ∈ all, S.has x

theorem Good.free {S : Sto} {V : Int} {m : Nat} {all : List Int} (h : Good S V m all) (hm : m < 1048576) : S.full = false := by
  cases hf : S.full with
  | false => rfl
  | true => have h1 := h.sated hf; have h2 := h.count; have h3 := h.cap; omega
theorem Good.step {S : Sto} {V : Int} {m k : Nat} {all : List Int} {R : Sto × Int} (h : Good S V m all) (hR : VOk S V k R) : Good R.1 V (m + k) (all ++ [R.2]) :=
  ⟨hR.wf, hR.grows.cap.trans h.cap, hR.sated, hR.below, by have := hR.count; have := h.count; omega, fun x hx => by
    rcases List.mem_append.1 hx with hx | hx
    · exact hR.grows.has (h.has x hx)
    · simp at hx; subst hx; exact hR.has⟩
section
variable {S : Sto} (hW : Wf S) (β : Int → Bool)
include hW
end
theorem VOk.same {S : Sto} {V : Int} (hW : Wf S) (hs : Sated S) (hb : Below' S V) : VOk S V 0 (S, 0) := ⟨hW, Grows.refl S, hs, hb, by simp, has_zero S, fun _ => ⟨rfl, rfl⟩⟩

end Go.Proofs.Ytboekafmplomhaa
