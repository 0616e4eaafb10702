/-
  The document's answers of layer 11 (quillonref11): May, Agrees.
-/
import Derived.Test.YtooadmagjpaieaaRefN3
import Derived.Test.YtooadmagjpaieaaMatchB
set_option linter.unusedVariables false
set_option linter.unusedSimpArgs false
namespace Go.Proofs.Ytooadmagjpaieaa
open Go.RowKit

/-- All below a bound. -/
def allB (f : Nat → Bool) (n : Nat) : Bool := (List.range n).all f
theorem allB_true {f : Nat → Bool} {n : Nat} (h : ∀ k, k < n → f k = true) : allB f n = true := by
  unfold allB; rw [List.all_eq_true]; intro k hk; exact h k (List.mem_range.1 hk)
theorem allB_false {f : Nat → Bool} {n k : Nat} (hk : k < n) (h : f k = false) : allB f n = false := by
  unfold allB; rw [List.all_eq_false]; exact ⟨k, List.mem_range.2 hk, by rw [h]; simp⟩
theorem allB_iff {f : Nat → Bool} {n : Nat} : allB f n = true ↔ ∀ k, k < n → f k = true := by
  unfold allB; rw [List.all_eq_true]; exact ⟨fun h k hk => h k (List.mem_range.2 hk), fun h k hk => h k (List.mem_range.1 hk)⟩
theorem upto_next {f : Nat → Bool} {j : Nat} (h : ∀ k, k < j → f k = true) (hj : f j = true) : ∀ k, k < j + 1 → f k = true := by
  intro k hk
  by_cases e : k = j
  · exact e ▸ hj
  · exact h k (by omega)

def mayF (v m : BitVec 128) (u : Int) : Nat → Bool := fun i => !(bt v i && !bt m i || decide (u ≤ i) && bt m i)
def rmay (v m : BitVec 128) (u : Int) : Bool := decide (1 ≤ u) && decide (u ≤ 128) && allB (mayF v m u) 128
theorem rmay_any (v m : BitVec 128) (u : Int) (w : World) : Calls Try.prog 12 #[pv v m, .int .i64 u] w (Pure (.bool (rmay v m u)) w) := by
  go_enter Try.func12, Try.ntmps12
  go_upto_region 1 with (fail)
  refine wp_gen (fun V hV => ?_)
  have hbV : Below w.heap.size w V := by rw [hV]; ((repeat' (first | (with_reducible exact Below.refl _ _) | (with_reducible refine Below.ext_mk ?_ ?_ _ _) | (with_reducible refine Below.alloc ?_ ?_ _) | (with_reducible refine Below.drew ?_) | (with_reducible refine Below.setCell ?_ ?_ _) | go_size)))
  have zV0 : w.heap.size < V.heap.size := by rw [hV]; first | (simp; done) | (simp; omega)
  have cV0_0 : V.cell? ⟨w.heap.size, 0, none⟩ = some (.int .u64 (hi v)) := by rw [hV]; first | (go_simp; done) | (rw [World.cell?_alloc_past _ _ _ (by first | (simp; done) | (simp; omega))]; go_simp)
  have cV0_1 : V.cell? ⟨w.heap.size, 1, none⟩ = some (.int .u64 (lo v)) := by rw [hV]; first | (go_simp; done) | (rw [World.cell?_alloc_past _ _ _ (by first | (simp; done) | (simp; omega))]; go_simp)
  have cV0_2 : V.cell? ⟨w.heap.size, 2, none⟩ = some (.int .u64 (hi m)) := by rw [hV]; first | (go_simp; done) | (rw [World.cell?_alloc_past _ _ _ (by first | (simp; done) | (simp; omega))]; go_simp)
  have cV0_3 : V.cell? ⟨w.heap.size, 3, none⟩ = some (.int .u64 (lo m)) := by rw [hV]; first | (go_simp; done) | (rw [World.cell?_alloc_past _ _ _ (by first | (simp; done) | (simp; omega))]; go_simp)
  clear hV
  by_cases hu1 : 1 ≤ u
  · by_cases hu2 : u ≤ 128
    · have HR : Hid (rmay v m u = allB (mayF v m u) 128) := hid (by unfold rmay; simp [hu1, hu2])
      refine wp_region_seq (fun F hF => ?_)
      have HF := hid hF; clear hF
      repeat (first
        | (apply text_skip; (focus rfl); simp only [Act.put, List.setIfInBounds_toArray, List.set_cons_zero, List.set_cons_succ])
        | (apply text_val; (focus rfl); (focus (intro _ _; go_simp; with_reducible rfl)); simp only [Act.put, List.setIfInBounds_toArray, List.set_cons_zero, List.set_cons_succ])
        | (apply text_if; (focus (first | exact wanted_t rfl rfl | exact wanted_f rfl rfl | exact wanted_gt rfl rfl | exact wanted_gf rfl rfl)); (focus (intro hc _ _; (try simp only [Bool.and_eq_true, Bool.not_eq_true', Bool.true_and] at hc); go_simp; with_reducible rfl)); simp only [Act.put, List.setIfInBounds_toArray, List.set_cons_zero, List.set_cons_succ]))
      refine text_nil (HF.out _ (fun mx dx => ?_))
      clear HF F
      go_upto_region 3 with (fail)
      go_wp2
      go_loopw [5] (fun i wr => ∃ j : Nat, j ≤ 128 ∧ i = .int .i64 j ∧ Below V.heap.size V wr ∧ Hid (∀ k, k < j → mayF v m u k = true)) (fun i _ => 128 - (intOf i).toNat)
      case atStart => exact ⟨0, by omega, rfl, by (repeat' (first | (with_reducible exact Below.refl _ _) | (with_reducible refine Below.ext_mk ?_ ?_ _ _) | (with_reducible refine Below.alloc ?_ ?_ _) | (with_reducible refine Below.drew ?_) | (with_reducible refine Below.setCell ?_ ?_ _) | go_size)), hid (fun k hk => absurd hk (by omega))⟩
      case round =>
        obtain ⟨j, hj, rfl, hb, HJ⟩ := hrel
        have q0 := hb.cell (p := ⟨w.heap.size, 0, none⟩) zV0
        have q1 := hb.cell (p := ⟨w.heap.size, 1, none⟩) zV0
        have q2 := hb.cell (p := ⟨w.heap.size, 2, none⟩) zV0
        have q3 := hb.cell (p := ⟨w.heap.size, 3, none⟩) zV0
        rw [cV0_0] at q0
        rw [cV0_1] at q1
        rw [cV0_2] at q2
        rw [cV0_3] at q3
        have hbs := hb.size
        have zr : w.heap.size < wr.heap.size := by omega
        by_cases hlt : j < 128
        · have hj1 : (j : Int) < 128 := by omega
          have ev : rbit v (j : Int) = bt v j := by unfold rbit; simp
          have em : rbit m (j : Int) = bt m j := by unfold rbit; simp
          have gv : ∀ w, Calls Try.prog 33 #[nv v, .int .i64 j] w (Pure (.bool (bt v j)) w) := fun w => ev ▸ rbit_any v j w
          have gm : ∀ w, Calls Try.prog 33 #[nv m, .int .i64 j] w (Pure (.bool (bt m j)) w) := fun w => em ▸ rbit_any m j w
          have HV : Hid (mayF v m u j = !(bt v j && !bt m j || decide (u ≤ j) && bt m j)) := hid rfl
          clear ev em
          cases hx : bt v j <;> cases hy : bt m j <;> cases hz : decide (u ≤ (j : Int))
          all_goals
            rw [hx] at gv HV
            rw [hy] at gm HV
            rw [hz] at HV
            clear hx hy
            first | have hz' : u ≤ (j : Int) := of_decide_eq_true hz | have hz' : ¬ u ≤ (j : Int) := of_decide_eq_false hz
            clear hz
            go_upto_region 6 with (fail)
            refine wp_region_seq (fun F hF => ?_)
            have HF := hid hF; clear hF
            repeat (first
              | (apply text_skip; (focus rfl); simp only [Act.put, List.setIfInBounds_toArray, List.set_cons_zero, List.set_cons_succ])
              | (apply text_val; (focus rfl); (focus (intro _ _; go_simp; with_reducible rfl)); simp only [Act.put, List.setIfInBounds_toArray, List.set_cons_zero, List.set_cons_succ])
              | (apply text_call; (focus rfl); (focus (intro _ _; go_simp; exact ⟨rfl, rfl⟩)); (focus (intro _ _; with_reducible (exact gv _))); simp only [Act.put, List.setIfInBounds_toArray, List.set_cons_zero, List.set_cons_succ])
              | (apply text_call; (focus rfl); (focus (intro _ _; go_simp; exact ⟨rfl, rfl⟩)); (focus (intro _ _; with_reducible (exact gm _))); simp only [Act.put, List.setIfInBounds_toArray, List.set_cons_zero, List.set_cons_succ])
              | (apply text_if; (focus (first | exact wanted_t rfl rfl | exact wanted_f rfl rfl | exact wanted_gt rfl rfl | exact wanted_gf rfl rfl)); (focus (intro hc _ _; (try simp only [Bool.and_eq_true, Bool.not_eq_true', Bool.true_and] at hc); go_simp; with_reducible rfl)); simp only [Act.put, List.setIfInBounds_toArray, List.set_cons_zero, List.set_cons_succ])
              | (apply text_if_call; (focus (first | exact wanted_t rfl rfl | exact wanted_f rfl rfl | exact wanted_gt rfl rfl | exact wanted_gf rfl rfl)); (focus (intro hc _ _; (try simp only [Bool.and_eq_true, Bool.not_eq_true', Bool.true_and] at hc); go_simp; exact ⟨rfl, rfl⟩)); (focus (intro hc _ _; with_reducible (exact gv _))); simp only [Act.put, List.setIfInBounds_toArray, List.set_cons_zero, List.set_cons_succ])
              | (apply text_if_call; (focus (first | exact wanted_t rfl rfl | exact wanted_f rfl rfl | exact wanted_gt rfl rfl | exact wanted_gf rfl rfl)); (focus (intro hc _ _; (try simp only [Bool.and_eq_true, Bool.not_eq_true', Bool.true_and] at hc); go_simp; exact ⟨rfl, rfl⟩)); (focus (intro hc _ _; with_reducible (exact gm _))); simp only [Act.put, List.setIfInBounds_toArray, List.set_cons_zero, List.set_cons_succ]))
            refine text_nil (HF.out _ (fun mx dx => ?_))
            clear HF F
            go_wp2_with fail
            first
            | (go_returns
               exact Pure.of (by rw [HR.out, allB_false hlt HV.out]; rfl) (hbV.trans ((Below.ext_mk hb (by omega) _ _).mono hbV.size)))
            | (go_roundw
               case rel => exact ⟨j + 1, by omega, by go_num, Below.ext_mk hb (by omega) _ _, hid (upto_next HJ.out HV.out)⟩
               case measure => simp [intOf]; omega)
        · have e : j = 128 := by omega
          subst e
          go_wp2
          go_returns
          exact Pure.of (by rw [HR.out, allB_true HJ.out]; rfl) (hbV.trans (hb.mono hbV.size))
    · have HR : Hid (rmay v m u = false) := hid (by unfold rmay; simp [hu2])
      refine wp_region_seq (fun F hF => ?_)
      have HF := hid hF; clear hF
      repeat (first
        | (apply text_skip; (focus rfl); simp only [Act.put, List.setIfInBounds_toArray, List.set_cons_zero, List.set_cons_succ])
        | (apply text_val; (focus rfl); (focus (intro _ _; go_simp; with_reducible rfl)); simp only [Act.put, List.setIfInBounds_toArray, List.set_cons_zero, List.set_cons_succ])
        | (apply text_if; (focus (first | exact wanted_t rfl rfl | exact wanted_f rfl rfl | exact wanted_gt rfl rfl | exact wanted_gf rfl rfl)); (focus (intro hc _ _; (try simp only [Bool.and_eq_true, Bool.not_eq_true', Bool.true_and] at hc); go_simp; with_reducible rfl)); simp only [Act.put, List.setIfInBounds_toArray, List.set_cons_zero, List.set_cons_succ]))
      refine text_nil (HF.out _ (fun mx dx => ?_))
      clear HF F
      go_wp2
      go_returns
      exact Pure.of (by rw [HR.out]; rfl) (by (repeat' (first | (with_reducible exact Below.refl _ _) | (with_reducible refine Below.ext_mk ?_ ?_ _ _) | (with_reducible refine Below.alloc ?_ ?_ _) | (with_reducible refine Below.drew ?_) | (with_reducible refine Below.setCell ?_ ?_ _) | go_size)))
  · have HR : Hid (rmay v m u = false) := hid (by unfold rmay; simp [hu1])
    refine wp_region_seq (fun F hF => ?_)
    have HF := hid hF; clear hF
    repeat (first
      | (apply text_skip; (focus rfl); simp only [Act.put, List.setIfInBounds_toArray, List.set_cons_zero, List.set_cons_succ])
      | (apply text_val; (focus rfl); (focus (intro _ _; go_simp; with_reducible rfl)); simp only [Act.put, List.setIfInBounds_toArray, List.set_cons_zero, List.set_cons_succ])
      | (apply text_if; (focus (first | exact wanted_t rfl rfl | exact wanted_f rfl rfl | exact wanted_gt rfl rfl | exact wanted_gf rfl rfl)); (focus (intro hc _ _; (try simp only [Bool.and_eq_true, Bool.not_eq_true', Bool.true_and] at hc); go_simp; with_reducible rfl)); simp only [Act.put, List.setIfInBounds_toArray, List.set_cons_zero, List.set_cons_succ]))
    refine text_nil (HF.out _ (fun mx dx => ?_))
    clear HF F
    go_wp2
    go_returns
    exact Pure.of (by rw [HR.out]; rfl) (by (repeat' (first | (with_reducible exact Below.refl _ _) | (with_reducible refine Below.ext_mk ?_ ?_ _ _) | (with_reducible refine Below.alloc ?_ ?_ _) | (with_reducible refine Below.drew ?_) | (with_reducible refine Below.setCell ?_ ?_ _) | go_size)))
end Go.Proofs.Ytooadmagjpaieaa
