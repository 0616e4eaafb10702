/-
  A new store.
-/
import Derived.Test.YtboekafmplomhaaZCallsB
import Derived.Test.YtboekafmplomhaaZDead
import Derived.Test.YtboekafmplomhaaZMeansP
set_option linter.unusedVariables false
set_option linter.unusedSimpArgs false
namespace Go.Proofs.Ytboekafmplomhaa
open Go.RowKit

/-- A new store, in blocks of its own. -/
def NewAt (w : World) (cap : Int) (e : Ending) (w' : World) : Prop :=
  ∃ p F, e = .returned (.tuple #[.pointer (some ⟨p, 0, none⟩), .int .i64 0]) ∧ StoIs w' p F (newS cap) ∧ Below w.heap.size w w' ∧ ∀ k ∈ F, w.heap.size ≤ k
theorem new_call (cap : Int) (h1 : 2 ≤ cap) (h2 : cap ≤ 1048576) (w : World) :
    Calls Try.prog 15 #[.int .i64 cap] w (NewAt w cap) := by
  have hmm := @run_makeMap Try.prog
  go_enter Try.func15, Try.ntmps15
  go_wp2
  go_returns
  refine ⟨w.heap.size + 1 + 1, [w.heap.size + 1 + 1, w.heap.size, w.heap.size + 1], rfl, ?_, ?_, ?_⟩
  · refine ⟨.slice none 0 0, none, w.heap.size, w.heap.size + 1, ?_, ⟨rfl, .inl ⟨rfl, rfl, rfl⟩⟩, ⟨#[], 0, ?_, rfl⟩, ⟨#[], 0, ?_, rfl⟩, rfl, ?_⟩
    · have e := World.heap_alloc_last ((w.alloc (.map #[] 0)).alloc (.map #[] 0)) (.cells #[.int .i64 cap, .slice none 0 0, .map (some w.heap.size), .map (some (w.heap.size + 1)), .bool false] 47)
      simpa [newS] using e
    · rw [Below.heap_alloc _ _ _ (by simp), Below.heap_alloc _ _ _ (by simp)]
      exact World.heap_alloc_last w _
    · rw [Below.heap_alloc _ _ _ (by simp)]
      have e := World.heap_alloc_last (w.alloc (.map #[] 0)) (.map #[] 0)
      simpa using e
    · simp; omega
  · (repeat' (first | (with_reducible exact Below.refl _ _) | (with_reducible refine Below.ext_mk ?_ ?_ _ _) | (with_reducible refine Below.alloc ?_ ?_ _) | (with_reducible refine Below.drew ?_) | (with_reducible refine Below.setCell ?_ ?_ _) | go_size))
  · intro k hk
    simp at hk
    omega
end Go.Proofs.Ytboekafmplomhaa
set_option linter.unusedVariables false
set_option linter.unusedSimpArgs false
namespace Go.Proofs.Ytboekafmplomhaa
open Go.RowKit

def kA : Sto × Int := varV (newS 3) 0
def kB : Sto × Int := varV kA.1 1
def kC : Sto × Int := andV kB.1 2 3
def kD : Sto × Int := orV kC.1 2 3
theorem kA_ok : VOk (newS 3) 6 1 kA := varV_ok (newS_wf (by omega) (by omega)) (newS_sated 3) (newS_below 3 6) 0 (by omega)
theorem kB_ok : VOk kA.1 6 1 kB := varV_ok kA_ok.wf kA_ok.sated kA_ok.below 1 (by omega)
theorem kC_ok : VOk kB.1 6 64 kC := andV_ok kB_ok.wf kB_ok.sated kB_ok.below (by omega) 2 3
theorem kD_ok : VOk kC.1 6 64 kD := orV_ok kC_ok.wf kC_ok.sated kC_ok.below (by omega) 2 3
theorem kA_is : kA.2 = 2 := by decide +kernel
theorem kB_is : kB.2 = 3 := by decide +kernel
theorem kC_is : kC.2 = 4 := by decide +kernel
theorem kD_is : kD.2 = 0 := by decide +kernel
theorem kD_full : kD.1.full = true := by decide +kernel
theorem kD_len : kD.1.nodes.length = 3 := by decide +kernel

section
variable {w : World} {p : Nat} {F : List Nat}
theorem k_a (h : StoIs w p F (newS 3)) : Calls Try.prog 24 #[.pointer (some ⟨p, 0, none⟩), .int .i64 0] w (fun e w' => e = .returned (.int .i64 2) ∧ Turned w p F kA.1 w') := by
  have M := var_call h (newS_wf (by omega) (by omega)) 0
  unfold Tells at M
  rw [show (varV (newS 3) 0).2 = 2 from kA_is] at M
  exact M
theorem k_b (h : StoIs w p F kA.1) : Calls Try.prog 24 #[.pointer (some ⟨p, 0, none⟩), .int .i64 1] w (fun e w' => e = .returned (.int .i64 3) ∧ Turned w p F kB.1 w') := by
  have M := var_call h kA_ok.wf 1
  unfold Tells at M
  rw [show (varV kA.1 1).2 = 3 from kB_is] at M
  exact M
theorem k_c (h : StoIs w p F kB.1) : Calls Try.prog 27 #[.pointer (some ⟨p, 0, none⟩), .int .i64 2, .int .i64 3] w (fun e w' => e = .returned (.int .i64 4) ∧ Turned w p F kC.1 w') := by
  have M := and_call h kB_ok.wf 2 3
  unfold Tells at M
  rw [show (andV kB.1 2 3).2 = 4 from kC_is] at M
  exact M
theorem k_d (h : StoIs w p F kC.1) : Calls Try.prog 28 #[.pointer (some ⟨p, 0, none⟩), .int .i64 2, .int .i64 3] w (fun e w' => e = .returned (.int .i64 0) ∧ Turned w p F kD.1 w') := by
  have M := or_call h kC_ok.wf 2 3
  unfold Tells at M
  rw [show (orV kC.1 2 3).2 = 0 from kD_is] at M
  exact M
end

theorem StoStep.low {w w' : World} {F F' : List Nat} {B : Nat} (h : StoStep w w' F F') (hF : ∀ k ∈ F, B ≤ k) (hB : B ≤ w.heap.size) : ∀ k ∈ F', B ≤ k := fun k hk => by
  rcases h.fresh k hk with q | q
  · exact hF k q
  · omega

theorem known15 (w : World) : Calls Try.prog 16 #[] w (Pure (.bool true) w) := by
  go_enter Try.func16, Try.ntmps16
  go_upto_region 7 with (first
    | ((with_reducible refine (new_call 3 (by omega) (by omega) _).mono ?_); rintro e w1 ⟨p, F, rfl, hS, hb, hF⟩)
    | ((with_reducible refine (k_a hS).mono ?_); rintro e w2 ⟨rfl, F1, hS1, st1⟩)
    | ((with_reducible refine (k_b hS1).mono ?_); rintro e w3 ⟨rfl, F2, hS2, st2⟩)
    | ((with_reducible refine (k_c hS2).mono ?_); rintro e w4 ⟨rfl, F3, hS3, st3⟩)
    | ((with_reducible refine (k_d hS3).mono ?_); rintro e w5 ⟨rfl, F4, hS4, st4⟩))
  have hB := hb.trans ((((st1.trans st2).trans st3).trans st4).below hF hb.size)
  clear hS hS1 hS2 hS3 st1 st2 st3 st4 hb hF
  have hc : kD.1.cap ≠ 0 := by have := kD_ok.wf.cap2; omega
  have h1 := fun W (hb : Below w5.heap.size w5 W) => full_any (hS4.below hb) hc
  have h2 := fun W (hb : Below w5.heap.size w5 W) => len_any (hS4.below hb) hc
  have h3 := fun W (hb : Below w5.heap.size w5 W) => var_dead ((hS4.dead kD_ok.wf kD_full).below hb) 0
  rw [kD_full] at h1
  rw [kD_len] at h2
  clear hS4 hc
  refine wp_region_seq (fun F hF => ?_)
  have HF := hid hF; clear hF
  repeat (first
    | (apply text_skip; (focus rfl); simp only [Act.put, List.setIfInBounds_toArray, List.set_cons_zero, List.set_cons_succ])
    | (apply text_val; (focus rfl); (focus (intro _ _; go_simp; with_reducible rfl)); simp only [Act.put, List.setIfInBounds_toArray, List.set_cons_zero, List.set_cons_succ])
    | (apply text_call; (focus rfl); (focus (intro _ _; go_simp; exact ⟨rfl, rfl⟩)); (focus (intro _ _; with_reducible (first | exact h1 _ (by (repeat' (first | (with_reducible exact Below.refl _ _) | (with_reducible refine Below.ext_mk ?_ ?_ _ _) | (with_reducible refine Below.alloc ?_ ?_ _) | (with_reducible refine Below.drew ?_) | (with_reducible refine Below.setCell ?_ ?_ _) | go_size))) | exact h2 _ (by (repeat' (first | (with_reducible exact Below.refl _ _) | (with_reducible refine Below.ext_mk ?_ ?_ _ _) | (with_reducible refine Below.alloc ?_ ?_ _) | (with_reducible refine Below.drew ?_) | (with_reducible refine Below.setCell ?_ ?_ _) | go_size))) | exact h3 _ (by (repeat' (first | (with_reducible exact Below.refl _ _) | (with_reducible refine Below.ext_mk ?_ ?_ _ _) | (with_reducible refine Below.alloc ?_ ?_ _) | (with_reducible refine Below.drew ?_) | (with_reducible refine Below.setCell ?_ ?_ _) | go_size)))))); simp only [Act.put, List.setIfInBounds_toArray, List.set_cons_zero, List.set_cons_succ])
    | (apply text_if; (focus (first | exact wanted_t rfl rfl | exact wanted_f rfl rfl | exact wanted_gt rfl rfl | exact wanted_gf rfl rfl)); (focus (intro hc _ _; (try simp only [Bool.and_eq_true, Bool.not_eq_true', Bool.true_and] at hc); go_simp; with_reducible rfl)); simp only [Act.put, List.setIfInBounds_toArray, List.set_cons_zero, List.set_cons_succ])
    | (apply text_if_call; (focus (first | exact wanted_t rfl rfl | exact wanted_f rfl rfl | exact wanted_gt rfl rfl | exact wanted_gf rfl rfl)); (focus (intro hc _ _; (try simp only [Bool.and_eq_true, Bool.not_eq_true', Bool.true_and] at hc); go_simp; exact ⟨rfl, rfl⟩)); (focus (intro hc _ _; with_reducible (first | exact h1 _ (by (repeat' (first | (with_reducible exact Below.refl _ _) | (with_reducible refine Below.ext_mk ?_ ?_ _ _) | (with_reducible refine Below.alloc ?_ ?_ _) | (with_reducible refine Below.drew ?_) | (with_reducible refine Below.setCell ?_ ?_ _) | go_size))) | exact h2 _ (by (repeat' (first | (with_reducible exact Below.refl _ _) | (with_reducible refine Below.ext_mk ?_ ?_ _ _) | (with_reducible refine Below.alloc ?_ ?_ _) | (with_reducible refine Below.drew ?_) | (with_reducible refine Below.setCell ?_ ?_ _) | go_size))) | exact h3 _ (by (repeat' (first | (with_reducible exact Below.refl _ _) | (with_reducible refine Below.ext_mk ?_ ?_ _ _) | (with_reducible refine Below.alloc ?_ ?_ _) | (with_reducible refine Below.drew ?_) | (with_reducible refine Below.setCell ?_ ?_ _) | go_size)))))); simp only [Act.put, List.setIfInBounds_toArray, List.set_cons_zero, List.set_cons_succ]))
  refine text_nil (HF.out _ (fun mx dx => ?_))
  clear HF F
  go_wp2
  go_returns
  exact Pure.of rfl (Below.ext_mk hB hB.size _ _)
end Go.Proofs.Ytboekafmplomhaa
