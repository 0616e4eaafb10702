/-
  Package cube: May, held.
-/
import Derived.Test.YtboekafmplomhaaZCuP
import Derived.Laws.Bits64b
import Derived.Laws.BitsAllLaws
set_option linter.unusedVariables false
set_option linter.unusedSimpArgs false
namespace Go.Proofs.Ytboekafmplomhaa
open Go.RowKit

theorem cmay_any {c : Cu} (hc : CuOk c) (w : World) : Calls Try.prog 58 #[cv c] w (Pure (.bool (mayC c)) w) := by
  have e := u64_andNot_nat c.2 c.1 hc.2 hc.1
  go_enter Try.func58, Try.ntmps58
  go_upto_region 1 with (fail)
  refine wp_gen (fun V hV => ?_)
  have hbV : Below w.heap.size w V := by rw [hV]; ((repeat' (first | (with_reducible exact Below.refl _ _) | (with_reducible refine Below.ext_mk ?_ ?_ _ _) | (with_reducible refine Below.alloc ?_ ?_ _) | (with_reducible refine Below.drew ?_) | (with_reducible refine Below.setCell ?_ ?_ _) | go_size)))
  have zV0 : w.heap.size < V.heap.size := by rw [hV]; first | (simp; done) | (simp; omega)
  have cV0_0 : V.cell? ⟨w.heap.size, 0, none⟩ = some (.int .u64 c.1) := by rw [hV]; first | (go_simp; done) | (rw [World.cell?_alloc_past _ _ _ (by first | (simp; done) | (simp; omega))]; go_simp)
  have fV0_0 : V.frozen? ⟨w.heap.size, 0, none⟩ = false := by rw [hV]; go_simp
  have cV0_1 : V.cell? ⟨w.heap.size, 1, none⟩ = some (.int .u64 c.2) := by rw [hV]; first | (go_simp; done) | (rw [World.cell?_alloc_past _ _ _ (by first | (simp; done) | (simp; omega))]; go_simp)
  have fV0_1 : V.frozen? ⟨w.heap.size, 1, none⟩ = false := by rw [hV]; go_simp
  clear hV
  refine wp_region_seq (fun F hF => ?_)
  have HF := hid hF; clear hF
  repeat (first
    | (apply text_skip; (focus rfl); simp only [Act.put, List.setIfInBounds_toArray, List.set_cons_zero, List.set_cons_succ])
    | (apply text_val; (focus rfl); (focus (intro _ _; go_simp; with_reducible rfl)); simp only [Act.put, List.setIfInBounds_toArray, List.set_cons_zero, List.set_cons_succ])
    | (apply text_if; (focus (first | exact wanted_t rfl rfl | exact wanted_f rfl rfl | exact wanted_gt rfl rfl | exact wanted_gf rfl rfl)); (focus (intro hc _ _; (try simp only [Bool.and_eq_true, Bool.not_eq_true', Bool.true_and] at hc); go_simp; with_reducible rfl)); simp only [Act.put, List.setIfInBounds_toArray, List.set_cons_zero, List.set_cons_succ]))
  refine text_nil (HF.out _ (fun mx dx => ?_))
  clear HF F
  go_wp2
  go_returns
  refine Pure.of ?_ (by (repeat' (first | (with_reducible exact Below.refl _ _) | (with_reducible refine Below.ext_mk ?_ ?_ _ _) | (with_reducible refine Below.alloc ?_ ?_ _) | (with_reducible refine Below.drew ?_) | (with_reducible refine Below.setCell ?_ ?_ _) | go_size)))
  show Value.bool (((c.2 &&& (18446744073709551615 - c.1) : Nat) : Int) == 0) = _
  unfold mayC
  generalize c.2 &&& (18446744073709551615 - c.1) = x
  cases x with
  | zero => rfl
  | succ x => simp; omega

theorem held_any (most : Int) (w : World) : Calls Try.prog 116 #[.int .i64 most] w (Pure (.int .i64 (heldV most)) w) := by
  go_enter Try.func116, Try.ntmps116
  go_wp2
  all_goals
    go_returns
    refine Pure.of (congrArg (Value.int IntKind.i64) ?_) (by (repeat' (first | (with_reducible exact Below.refl _ _) | (with_reducible refine Below.ext_mk ?_ ?_ _ _) | (with_reducible refine Below.alloc ?_ ?_ _) | (with_reducible refine Below.drew ?_) | (with_reducible refine Below.setCell ?_ ?_ _) | go_size)))
    unfold heldV
    repeat' split at *
    all_goals omega
end Go.Proofs.Ytboekafmplomhaa
