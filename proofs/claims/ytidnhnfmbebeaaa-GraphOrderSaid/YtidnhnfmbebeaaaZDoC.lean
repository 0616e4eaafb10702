/-
  A region in the order of the text, operation by operation, with calls.
-/
import Derived.Test.YtidnhnfmbebeaaaZV
set_option linter.unusedVariables false
set_option linter.unusedSimpArgs false
namespace Go
open Go.RowKit
section
variable {P : Program} {ops : Array Oper} {Q : Exit → Act → World → Prop} {W W1 : World} {F : Act → World → Prop} {o : Oper} {r : List Oper} {a : Act} {v : Value}
def DoWalkC (P : Program) (ops : Array Oper) (F : Act → World → Prop) : World → List Oper → Act → Prop
  | w, [], a => F a w
  | w, o :: r, a =>
    (Region.wanted o (yielded ops a.tmps) = true ∧
      ((∃ v w1, (execOp a.eval o).run P w = .ok (.value v) w1 ∧ DoWalkC P ops F w1 r (a.put o.dst v)) ∨
       (∃ w1, (execOp a.eval o).run P w = .ok .skip w1 ∧ DoWalkC P ops F w1 r (a.put o.dst undef)) ∨
       (∃ f args w1, (execOp a.eval o).run P w = .ok (.enter f args) w1 ∧ Calls P f args w1 fun e w2 => ∃ v, e = .returned v ∧ DoWalkC P ops F w2 r (a.put o.dst v)))) ∨
    (Region.wanted o (yielded ops a.tmps) = false ∧ DoWalkC P ops F w r (a.put o.dst undef))
theorem doc_val (hg : Region.wanted o (yielded ops a.tmps) = true) (h : (execOp a.eval o).run P W = .ok (.value v) W1) (c : DoWalkC P ops F W1 r (a.put o.dst v)) : DoWalkC P ops F W (o :: r) a := .inl ⟨hg, .inl ⟨v, W1, h, c⟩⟩
theorem doc_skip (hg : Region.wanted o (yielded ops a.tmps) = true) (h : (execOp a.eval o).run P W = .ok .skip W1) (c : DoWalkC P ops F W1 r (a.put o.dst undef)) : DoWalkC P ops F W (o :: r) a := .inl ⟨hg, .inr (.inl ⟨W1, h, c⟩)⟩
theorem doc_call {f : FuncId} {args : Array Value} (hg : Region.wanted o (yielded ops a.tmps) = true) (h : (execOp a.eval o).run P W = .ok (.enter f args) W1)
    (c : Calls P f args W1 fun e w2 => ∃ v, e = .returned v ∧ DoWalkC P ops F w2 r (a.put o.dst v)) : DoWalkC P ops F W (o :: r) a := .inl ⟨hg, .inr (.inr ⟨f, args, W1, h, c⟩)⟩
theorem doc_not (hg : Region.wanted o (yielded ops a.tmps) = false) (c : DoWalkC P ops F W r (a.put o.dst undef)) : DoWalkC P ops F W (o :: r) a := .inr ⟨hg, c⟩
theorem doc_end (c : F a W) : DoWalkC P ops F W [] a := c
theorem wp_list_doc : ∀ (l : List Oper) (a : Act) (w : World), DoWalkC P ops (fun a' w' => Q .normal a' w') w l a → wpList P ops Q l a w
  | [], a, w, h => h
  | o :: r, a, w, h => by
    unfold wpList
    rcases h with ⟨hg, h⟩ | ⟨hg, h⟩
    · rw [if_pos hg]
      refine .inl ?_
      unfold Oper.wp
      rcases h with ⟨v, w1, h, c⟩ | ⟨w1, h, c⟩ | ⟨f, args, w1, h, c⟩
      · rw [h]; exact wp_list_doc r _ _ c
      · rw [h]; exact wp_list_doc r _ _ c
      · rw [h]
        refine Calls.mono c fun e w2 ⟨v, he, hw⟩ => ?_
        subst he
        exact wp_list_doc r _ _ hw
    · rw [if_neg (by rw [hg]; simp)]
      exact wp_list_doc r _ _ h
theorem wp_region_doc {id : Nat} (h : ∀ F : Act → World → Prop, (∀ a' w', Q .normal a' w' → F a' w') → DoWalkC P ops F W ops.toList a) : (Code.region id ops false).wp P Q a W :=
  wp_region_list (wp_list_doc _ _ _ (h _ (fun _ _ h => h)))
theorem wp_list_docs {l : List Oper} (h : ∀ F : Act → World → Prop, (∀ a' w', Q .normal a' w' → F a' w') → DoWalkC P ops F W l a) : wpList P ops Q l a W :=
  wp_list_doc _ _ _ (h _ (fun _ _ h => h))
end
end Go
