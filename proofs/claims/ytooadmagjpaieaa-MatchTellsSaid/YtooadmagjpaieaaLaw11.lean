/-
  The law functions of layer 11 (match).
-/
import Derived.Test.YtooadmagjpaieaaMatchB
set_option linter.unusedVariables false
set_option linter.unusedSimpArgs false
namespace Go.Proofs.Ytooadmagjpaieaa
open Go.RowKit

theorem known_prefix (w : World) : Calls Try.prog 18 #[.agg #[.int .u64 0, .int .u64 13], .int .i64 2, .int .i64 4] w
    (Pure (.tuple #[.agg #[.int .u64 0, .int .u64 12, .int .u64 0, .int .u64 12], .int .i64 0]) w) := by
  have h := prefix_any 13#128 2 4 (by decide) (by decide) (by decide) (by decide) w
  have e : prefixV 13#128 2 4 = .tuple #[.agg #[.int .u64 0, .int .u64 12, .int .u64 0, .int .u64 12], .int .i64 0] := by
    have : highOf 2 4 = 12#128 := by decide +kernel
    unfold prefixV madeV
    rw [this, if_neg (by decide +kernel), if_pos (by decide +kernel), if_pos (by decide +kernel)]
    rfl
  rw [e] at h
  exact h
theorem known_masked (w : World) : Calls Try.prog 10 #[.agg #[.int .u64 0, .int .u64 5], .agg #[.int .u64 0, .int .u64 6], .int .i64 4] w
    (Pure (.tuple #[.agg #[.int .u64 0, .int .u64 4, .int .u64 0, .int .u64 6], .int .i64 0]) w) := by
  have h := masked_any 5#128 6#128 4 (by decide) (by decide) w
  have e : madeV 5#128 6#128 4 = .tuple #[.agg #[.int .u64 0, .int .u64 4, .int .u64 0, .int .u64 6], .int .i64 0] := by
    unfold madeV
    rw [if_pos (by decide +kernel), if_pos (by decide +kernel)]
    rfl
  rw [e] at h
  exact h
theorem nv_small (k : Nat) (hk : k < 18446744073709551616) : nv (BitVec.ofNat 128 k) = .agg #[.int .u64 0, .int .u64 (k : Int)] := by
  have h1 : hi (BitVec.ofNat 128 k) = 0 := by unfold hi; simp; omega
  have h2 : lo (BitVec.ofNat 128 k) = k := by unfold lo; simp; omega
  unfold nv; rw [h1, h2]
theorem agr12 : ∀ k : Fin 16, agreesB 12#128 12#128 (BitVec.ofNat 128 k.val) = decide (12 ≤ k.val) := by decide +kernel
theorem agr46 : ∀ k : Fin 16, agreesB 4#128 6#128 (BitVec.ofNat 128 k.val) = (decide (k.val = 4) || decide (k.val = 5) || decide (k.val = 12) || decide (k.val = 13)) := by decide +kernel
theorem known_agrees1 (k : Nat) (hk : k < 16) (w : World) : Calls Try.prog 8 #[.agg #[.int .u64 0, .int .u64 12, .int .u64 0, .int .u64 12], .agg #[.int .u64 0, .int .u64 (k : Int)]] w
    (Pure (.bool (decide ((12 : Int) ≤ (k : Int)))) w) := by
  have h := agrees_any 12#128 12#128 (BitVec.ofNat 128 k) w
  rw [nv_small k (by omega), agr12 ⟨k, hk⟩] at h
  have e : decide (12 ≤ k) = decide ((12 : Int) ≤ (k : Int)) := by rw [Bool.eq_iff_iff]; simp; omega
  rw [← e]; exact h
theorem known_agrees2 (k : Nat) (hk : k < 16) (w : World) : Calls Try.prog 8 #[.agg #[.int .u64 0, .int .u64 4, .int .u64 0, .int .u64 6], .agg #[.int .u64 0, .int .u64 (k : Int)]] w
    (Pure (.bool ((k : Int) == 4 || (k : Int) == 5 || (k : Int) == 12 || (k : Int) == 13)) w) := by
  have h := agrees_any 4#128 6#128 (BitVec.ofNat 128 k) w
  rw [nv_small k (by omega), agr46 ⟨k, hk⟩] at h
  have e : ∀ c : Nat, decide (k = c) = ((k : Int) == (c : Int)) := fun c => by rw [Bool.eq_iff_iff]; simp; omega
  simp only [e] at h
  exact h

set_option maxHeartbeats 1000000 in
theorem known_any (w : World) : Calls Try.prog 11 #[] w (Pure (.bool true) w) := by
  go_enter Try.func11, Try.ntmps11
  go_wp2_with (first
    | ((with_reducible refine (known_prefix _).mono ?_); rintro e w' ⟨rfl, m1, d1, rfl⟩)
    | ((with_reducible refine (known_masked _).mono ?_); rintro e w' ⟨rfl, m2, d2, rfl⟩))
  refine wp_gen (fun W hW => ?_)
  have hb : Below w.heap.size w W := by rw [hW]; (repeat' (first | (with_reducible exact Below.refl _ _) | (with_reducible refine Below.ext_mk ?_ ?_ _ _) | (with_reducible refine Below.alloc ?_ ?_ _) | (with_reducible refine Below.drew ?_) | (with_reducible refine Below.setCell ?_ ?_ _) | go_size))
  have z1 : w.heap.size + m1.size < W.heap.size := by rw [hW]; simp
  have z2 : w.heap.size + m1.size + 1 + m2.size < W.heap.size := by rw [hW]; simp
  have a0 : W.cell? ⟨w.heap.size + m1.size, 0, none⟩ = some (.int .u64 0) := by rw [hW]; go_simp
  have a1 : W.cell? ⟨w.heap.size + m1.size, 1, none⟩ = some (.int .u64 12) := by rw [hW]; go_simp
  have a2 : W.cell? ⟨w.heap.size + m1.size, 2, none⟩ = some (.int .u64 0) := by rw [hW]; go_simp
  have a3 : W.cell? ⟨w.heap.size + m1.size, 3, none⟩ = some (.int .u64 12) := by rw [hW]; go_simp
  have b0 : W.cell? ⟨w.heap.size + m1.size + 1 + m2.size, 0, none⟩ = some (.int .u64 0) := by rw [hW]; go_simp
  have b1 : W.cell? ⟨w.heap.size + m1.size + 1 + m2.size, 1, none⟩ = some (.int .u64 4) := by rw [hW]; go_simp
  have b2 : W.cell? ⟨w.heap.size + m1.size + 1 + m2.size, 2, none⟩ = some (.int .u64 0) := by rw [hW]; go_simp
  have b3 : W.cell? ⟨w.heap.size + m1.size + 1 + m2.size, 3, none⟩ = some (.int .u64 6) := by rw [hW]; go_simp
  clear hW
  go_loopw [17] (fun i wr => ∃ k : Nat, k ≤ 16 ∧ i = .int .u64 k ∧ Ext W wr) (fun i _ => 16 - (intOf i).toNat)
  case atStart => exact ⟨0, by omega, rfl, _, _, World.is_ext W⟩
  case round =>
    obtain ⟨k, hk, rfl, m, d, rfl⟩ := hrel
    by_cases hlt : k < 16
    · go_upto_region 6 with (fail)
      refine wp_region_seq (fun F hF => ?_)
      have HF := hid hF; clear hF
      repeat (first
        | (apply text_skip; (focus rfl); simp only [Act.put, List.setIfInBounds_toArray, List.set_cons_zero, List.set_cons_succ])
        | (apply text_val; (focus rfl); (focus (intro _ _; go_simp; with_reducible rfl)); simp only [Act.put, List.setIfInBounds_toArray, List.set_cons_zero, List.set_cons_succ])
        | (apply text_call; (focus rfl); (focus (intro _ _; go_simp; exact ⟨rfl, rfl⟩)); (focus (intro _ _; with_reducible (exact known_agrees1 _ hlt _))); simp only [Act.put, List.setIfInBounds_toArray, List.set_cons_zero, List.set_cons_succ])
        | (apply text_call; (focus rfl); (focus (intro _ _; go_simp; exact ⟨rfl, rfl⟩)); (focus (intro _ _; with_reducible (exact known_agrees2 _ hlt _))); simp only [Act.put, List.setIfInBounds_toArray, List.set_cons_zero, List.set_cons_succ])
        | (apply text_if; (focus (first | exact wanted_t rfl rfl | exact wanted_f rfl rfl | exact wanted_gt rfl rfl | exact wanted_gf rfl rfl)); (focus (intro hc _ _; (try simp only [Bool.and_eq_true, Bool.not_eq_true', Bool.true_and] at hc); go_simp; with_reducible rfl)); simp only [Act.put, List.setIfInBounds_toArray, List.set_cons_zero, List.set_cons_succ])
        | (apply text_if_call; (focus (first | exact wanted_t rfl rfl | exact wanted_f rfl rfl | exact wanted_gt rfl rfl | exact wanted_gf rfl rfl)); (focus (intro hc _ _; (try simp only [Bool.and_eq_true, Bool.not_eq_true', Bool.true_and] at hc); go_simp; exact ⟨rfl, rfl⟩)); (focus (intro hc _ _; with_reducible (exact known_agrees1 _ hlt _))); simp only [Act.put, List.setIfInBounds_toArray, List.set_cons_zero, List.set_cons_succ])
        | (apply text_if_call; (focus (first | exact wanted_t rfl rfl | exact wanted_f rfl rfl | exact wanted_gt rfl rfl | exact wanted_gf rfl rfl)); (focus (intro hc _ _; (try simp only [Bool.and_eq_true, Bool.not_eq_true', Bool.true_and] at hc); go_simp; exact ⟨rfl, rfl⟩)); (focus (intro hc _ _; with_reducible (exact known_agrees2 _ hlt _))); simp only [Act.put, List.setIfInBounds_toArray, List.set_cons_zero, List.set_cons_succ]))
      refine text_nil (HF.out _ (fun mx dx => ?_))
      clear HF F
      go_wp2_with fail
      go_roundw
      case rel => exact ⟨k + 1, by omega, by go_num, _, _, rfl⟩
      case measure => simp [intOf]; omega
    · go_wp2
      go_returns
      exact Pure.of rfl (Below.ext_mk hb (by omega) _ _)

end Go.Proofs.Ytooadmagjpaieaa
