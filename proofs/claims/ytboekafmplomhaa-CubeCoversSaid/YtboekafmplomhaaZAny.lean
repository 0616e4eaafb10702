/-
  A region that draws its order, walked operation by operation: where one alone may come up, it is taken; where two may, both are tried.
-/
import Derived.Test.YtboekafmplomhaaZDoC
import Derived.RegionTactic
set_option linter.unusedVariables false
set_option linter.unusedSimpArgs false
namespace Go
open Go.RowKit
section
variable {P : Program} {ops : Array Oper} {Q : Exit → Act → World → Prop} {md : Region.Mode} {listed : Array Bool} {fuel : Nat} {W W1 : World} {o : Oper} {a : Act} {v : Value}

/-- One operation's step, towards a goal K. -/
def StepTo (P : Program) (ops : Array Oper) (o : Oper) (a : Act) (W : World) (K : Act → World → Prop) : Prop :=
  (Region.wanted o (yielded ops a.tmps) = true ∧
    ((∃ v w1, (execOp a.eval o).run P W = .ok (.value v) w1 ∧ K (a.put o.dst v) w1) ∨
     (∃ w1, (execOp a.eval o).run P W = .ok .skip w1 ∧ K (a.put o.dst undef) w1) ∨
     (∃ f args w1, (execOp a.eval o).run P W = .ok (.enter f args) w1 ∧ Calls P f args w1 fun e w2 => ∃ v, e = .returned v ∧ K (a.put o.dst v) w2))) ∨
  (Region.wanted o (yielded ops a.tmps) = false ∧ K (a.put o.dst undef) W)
theorem StepTo.wp {K K' : Act → World → Prop} (h : StepTo P ops o a W K) (hK : ∀ a w, K a w → K' a w) :
    if Region.wanted o (yielded ops a.tmps) = true then Oper.wp P o a W K' Q else K' (a.put o.dst undef) W := by
  rcases h with ⟨hg, h⟩ | ⟨hg, h⟩
  · rw [if_pos hg]
    unfold Oper.wp
    rcases h with ⟨v, w1, h, c⟩ | ⟨w1, h, c⟩ | ⟨f, args, w1, h, c⟩
    · rw [h]; exact hK _ _ c
    · rw [h]; exact hK _ _ c
    · rw [h]
      refine Calls.mono c fun e w2 ⟨v, he, hw⟩ => ?_
      subst he
      exact hK _ _ hw
  · rw [if_neg (by rw [hg]; simp)]
    exact hK _ _ h
theorem st_val {K : Act → World → Prop} (hg : Region.wanted o (yielded ops a.tmps) = true) (h : (execOp a.eval o).run P W = .ok (.value v) W1) (c : K (a.put o.dst v) W1) : StepTo P ops o a W K := .inl ⟨hg, .inl ⟨v, W1, h, c⟩⟩
theorem st_skip {K : Act → World → Prop} (hg : Region.wanted o (yielded ops a.tmps) = true) (h : (execOp a.eval o).run P W = .ok .skip W1) (c : K (a.put o.dst undef) W1) : StepTo P ops o a W K := .inl ⟨hg, .inr (.inl ⟨W1, h, c⟩)⟩
theorem st_call {K : Act → World → Prop} {f : FuncId} {args : Array Value} (hg : Region.wanted o (yielded ops a.tmps) = true) (h : (execOp a.eval o).run P W = .ok (.enter f args) W1)
    (c : Calls P f args W1 fun e w2 => ∃ v, e = .returned v ∧ K (a.put o.dst v) w2) : StepTo P ops o a W K := .inl ⟨hg, .inr (.inr ⟨f, args, W1, h, c⟩)⟩
theorem st_not {K : Act → World → Prop} (hg : Region.wanted o (yielded ops a.tmps) = false) (c : K (a.put o.dst undef) W) : StepTo P ops o a W K := .inr ⟨hg, c⟩

theorem op_at {k : Nat} {r : List Oper} (ho : ops.toList.drop k = o :: r) : ops[k]? = some o := by
  have := congrArg List.head? ho
  rw [List.head?_drop] at this
  simpa using this
theorem any_one (k : Nat) {r : List Oper} (hr : Region.ready md ops listed = [k]) (ho : ops.toList.drop k = o :: r) (h : StepTo P ops o a W (wpAny P md ops Q fuel (listed.setIfInBounds k true))) : wpAny P md ops Q (fuel + 1) listed a W :=
  wpAny_ready hr (by simp) (AllReady.cons (op_at ho) (fun K hK => h.wp hK) AllReady.nil)
theorem any_two (k j : Nat) {o' : Oper} {r r' : List Oper} (hr : Region.ready md ops listed = [k, j]) (ho : ops.toList.drop k = o :: r) (ho' : ops.toList.drop j = o' :: r')
    (h : StepTo P ops o a W (wpAny P md ops Q fuel (listed.setIfInBounds k true))) (h' : StepTo P ops o' a W (wpAny P md ops Q fuel (listed.setIfInBounds j true))) : wpAny P md ops Q (fuel + 1) listed a W :=
  wpAny_ready hr (by simp) (AllReady.cons (op_at ho) (fun K hK => h.wp hK) (AllReady.cons (op_at ho') (fun K hK => h'.wp hK) AllReady.nil))
theorem any_take (k : Nat) {r : List Oper} {fuel : Nat} (ho : ops.toList.drop k = o :: r) (hs : Region.noSelect ops = true) (hf : Region.free md ops listed k = true) (hr : (Region.ready md ops listed).contains k = true)
    (hQ : ∀ c a w, Q (.panic c) (a.put o.dst v) w → Q (.panic c) a w) (hy : Yields P ops o v a)
    (h : wpAny P md ops Q fuel (listed.setIfInBounds k true) (a.put o.dst v) W) : wpAny P md ops Q (fuel + 1) listed a W :=
  wpAny_take (op_at ho) hs hf hr hQ hy h
end
end Go
