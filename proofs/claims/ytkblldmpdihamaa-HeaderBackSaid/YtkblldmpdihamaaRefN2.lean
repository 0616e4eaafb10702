/-
  The document's numbers (quillonref01): masks, and, xor, bits.
-/
import Derived.Test.YtkblldmpdihamaaRefN
set_option linter.unusedVariables false
set_option linter.unusedSimpArgs false
namespace Go.Proofs.Ytkblldmpdihamaa
open Go.RowKit

def maskF (k : Int) : Nat → Bool := fun i => decide ((i : Int) < k)
/-- A number cut to a width fits it if it is the same. -/
def rfits (n : BitVec 128) (k : Int) : Bool := decide (nOf (cutF n k) = n)
theorem rfits_gen (n N : BitVec 128) (k : Int) (C : ∀ w, Calls Try.prog 57 #[nv n, .int .i64 k] w (Pure (nv N) w)) (w : World) :
    Calls Try.prog 48 #[nv n, .int .i64 k] w (Pure (.bool (decide (N = n))) w) := by
  go_enter Try.func48, Try.ntmps48
  go_wp2
  refine wp_region_ext (by kernel_rfl) (by kernel_rfl) (fun F hF => ?_)
  have HF := hid hF; clear hF
  repeat (first
    | (apply text_skip; (focus rfl); simp only [Act.put, List.setIfInBounds_toArray, List.set_cons_zero, List.set_cons_succ])
    | (apply text_val; (focus rfl); (focus (intro _ _; go_simp; with_reducible rfl)); simp only [Act.put, List.setIfInBounds_toArray, List.set_cons_zero, List.set_cons_succ])
    | (apply text_call; (focus rfl); (focus (intro _ _; go_simp; exact ⟨rfl, rfl⟩)); (focus (intro _ _; with_reducible (exact C _))); simp only [Act.put, List.setIfInBounds_toArray, List.set_cons_zero, List.set_cons_succ])
    | (apply text_if; (focus (first | exact wanted_t rfl rfl | exact wanted_f rfl rfl | exact wanted_gt rfl rfl | exact wanted_gf rfl rfl)); (focus (intro hc _ _; (try simp only [Bool.and_eq_true, Bool.not_eq_true', Bool.true_and] at hc); go_simp; with_reducible rfl)); simp only [Act.put, List.setIfInBounds_toArray, List.set_cons_zero, List.set_cons_succ])
    | (apply text_if_call; (focus (first | exact wanted_t rfl rfl | exact wanted_f rfl rfl | exact wanted_gt rfl rfl | exact wanted_gf rfl rfl)); (focus (intro hc _ _; (try simp only [Bool.and_eq_true, Bool.not_eq_true', Bool.true_and] at hc); go_simp; exact ⟨rfl, rfl⟩)); (focus (intro hc _ _; with_reducible (exact C _))); simp only [Act.put, List.setIfInBounds_toArray, List.set_cons_zero, List.set_cons_succ]))
  refine text_nil (HF.out _ (fun mx dx => ?_))
  clear HF F
  go_wp2
  go_returns
  exact Pure.of rfl (by (repeat' (first | (with_reducible exact Below.refl _ _) | (with_reducible refine Below.ext_mk ?_ ?_ _ _) | (with_reducible refine Below.alloc ?_ ?_ _) | (with_reducible refine Below.drew ?_) | (with_reducible refine Below.setCell ?_ ?_ _) | go_size)))
theorem rfits_any (n : BitVec 128) (k : Int) (w : World) : Calls Try.prog 48 #[nv n, .int .i64 k] w (Pure (.bool (rfits n k)) w) := by
  unfold rfits
  exact rfits_gen n _ k (rcut_any n k) w
end Go.Proofs.Ytkblldmpdihamaa
