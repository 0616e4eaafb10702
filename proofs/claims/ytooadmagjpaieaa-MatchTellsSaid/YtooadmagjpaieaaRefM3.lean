/-
  The document's answers of layer 11 (quillonref11): Masked, Exact, Top, Prefix; match.Exact.
-/
import Derived.Test.YtooadmagjpaieaaRefM
set_option linter.unusedVariables false
set_option linter.unusedSimpArgs false
namespace Go.Proofs.Ytooadmagjpaieaa
open Go.RowKit

def rW (u : Int) : Bool := decide (1 ≤ u) && decide (u ≤ 128)
/-- A pattern that is made, or why it is none: the document's. -/
def rmasked (n m : BitVec 128) (u : Int) : Value :=
  if rW u then (if rfits n u && rfits m u then .tuple #[pv (nOf (andF n m)) m, .int .i64 0] else .tuple #[pv 0#128 0#128, .int .i64 5]) else .tuple #[pv 0#128 0#128, .int .i64 2]
theorem rmasked_form (n m : BitVec 128) (u : Int) : ∃ a b c, rmasked n m u = .tuple #[pv a b, .int .i64 c] := by
  unfold rmasked
  split
  · split
    · exact ⟨_, _, _, rfl⟩
    · exact ⟨_, _, _, rfl⟩
  · exact ⟨_, _, _, rfl⟩

set_option maxHeartbeats 2000000 in
theorem rmasked_any (n m : BitVec 128) (u : Int) (w : World) : Calls Try.prog 20 #[nv n, nv m, .int .i64 u] w (Pure (rmasked n m u) w) := by
  by_cases hu1 : 1 ≤ u
  · by_cases hu2 : u ≤ 128
    · have e0 : rW u = true := by unfold rW; simp [hu1, hu2]
      have gn := rfits_any n u
      have gm := rfits_any m u
      obtain ⟨N, hN⟩ : ∃ N, N = nOf (andF n m) := ⟨_, rfl⟩
      have gand := rand_any n m
      rw [← hN] at gand
      have HR : Hid (rmasked n m u = if rfits n u && rfits m u then .tuple #[pv N m, .int .i64 0] else .tuple #[pv 0#128 0#128, .int .i64 5]) := hid (by unfold rmasked; rw [e0, hN, if_pos rfl])
      clear e0 hN
      cases h1 : rfits n u <;> cases h2 : rfits m u
      all_goals
        rw [h1] at gn HR
        rw [h2] at gm HR
        clear h1 h2
        go_enter Try.func20, Try.ntmps20
        go_upto_region 1 with (fail)
        refine wp_region_seq (fun F hF => ?_)
        have HF := hid hF; clear hF
        repeat (first
          | (apply text_skip; (focus rfl); simp only [Act.put, List.setIfInBounds_toArray, List.set_cons_zero, List.set_cons_succ])
          | (apply text_val; (focus rfl); (focus (intro _ _; go_simp; with_reducible rfl)); simp only [Act.put, List.setIfInBounds_toArray, List.set_cons_zero, List.set_cons_succ])
          | (apply text_if; (focus (first | exact wanted_t rfl rfl | exact wanted_f rfl rfl | exact wanted_gt rfl rfl | exact wanted_gf rfl rfl)); (focus (intro hc _ _; (try simp only [Bool.and_eq_true, Bool.not_eq_true', Bool.true_and] at hc); go_simp; with_reducible rfl)); simp only [Act.put, List.setIfInBounds_toArray, List.set_cons_zero, List.set_cons_succ]))
        refine text_nil (HF.out _ (fun mx dx => ?_))
        clear HF F
        go_upto_region 3 with (fail)
        refine wp_region_seq (fun F hF => ?_)
        have HF := hid hF; clear hF
        repeat (first
          | (apply text_skip; (focus rfl); simp only [Act.put, List.setIfInBounds_toArray, List.set_cons_zero, List.set_cons_succ])
          | (apply text_val; (focus rfl); (focus (intro _ _; go_simp; with_reducible rfl)); simp only [Act.put, List.setIfInBounds_toArray, List.set_cons_zero, List.set_cons_succ])
          | (apply text_call; (focus rfl); (focus (intro _ _; go_simp; exact ⟨rfl, rfl⟩)); (focus (intro _ _; with_reducible (exact gn _))); simp only [Act.put, List.setIfInBounds_toArray, List.set_cons_zero, List.set_cons_succ])
          | (apply text_call; (focus rfl); (focus (intro _ _; go_simp; exact ⟨rfl, rfl⟩)); (focus (intro _ _; with_reducible (exact gm _))); simp only [Act.put, List.setIfInBounds_toArray, List.set_cons_zero, List.set_cons_succ])
          | (apply text_if; (focus (first | exact wanted_t rfl rfl | exact wanted_f rfl rfl | exact wanted_gt rfl rfl | exact wanted_gf rfl rfl)); (focus (intro hc _ _; (try simp only [Bool.and_eq_true, Bool.not_eq_true', Bool.true_and] at hc); go_simp; with_reducible rfl)); simp only [Act.put, List.setIfInBounds_toArray, List.set_cons_zero, List.set_cons_succ])
          | (apply text_if_call; (focus (first | exact wanted_t rfl rfl | exact wanted_f rfl rfl | exact wanted_gt rfl rfl | exact wanted_gf rfl rfl)); (focus (intro hc _ _; (try simp only [Bool.and_eq_true, Bool.not_eq_true', Bool.true_and] at hc); go_simp; exact ⟨rfl, rfl⟩)); (focus (intro hc _ _; with_reducible (exact gn _))); simp only [Act.put, List.setIfInBounds_toArray, List.set_cons_zero, List.set_cons_succ])
          | (apply text_if_call; (focus (first | exact wanted_t rfl rfl | exact wanted_f rfl rfl | exact wanted_gt rfl rfl | exact wanted_gf rfl rfl)); (focus (intro hc _ _; (try simp only [Bool.and_eq_true, Bool.not_eq_true', Bool.true_and] at hc); go_simp; exact ⟨rfl, rfl⟩)); (focus (intro hc _ _; with_reducible (exact gm _))); simp only [Act.put, List.setIfInBounds_toArray, List.set_cons_zero, List.set_cons_succ]))
        refine text_nil (HF.out _ (fun mx dx => ?_))
        clear HF F
        first
        | (go_upto_region 5 with (fail)
           refine wp_region_store 5 (by kernel_rfl) (by kernel_rfl) (by kernel_rfl) rfl (fun F hF G hG => ?_)
           simp only [List.take_succ_cons, List.take_zero, List.drop_succ_cons, List.drop_zero] at hG ⊢
           have HF := hid hF; clear hF
           have HG := hid hG; clear hG
           repeat (first
             | (apply text_skip; (focus rfl); simp only [Act.put, List.setIfInBounds_toArray, List.set_cons_zero, List.set_cons_succ])
             | (apply text_val; (focus rfl); (focus (intro _ _; go_simp; with_reducible rfl)); simp only [Act.put, List.setIfInBounds_toArray, List.set_cons_zero, List.set_cons_succ])
             | (apply text_call; (focus rfl); (focus (intro _ _; go_simp; exact ⟨rfl, rfl⟩)); (focus (intro _ _; with_reducible (exact gand _))); simp only [Act.put, List.setIfInBounds_toArray, List.set_cons_zero, List.set_cons_succ])
             | (apply text_if; (focus (first | exact wanted_t rfl rfl | exact wanted_f rfl rfl | exact wanted_gt rfl rfl | exact wanted_gf rfl rfl)); (focus (intro hc _ _; (try simp only [Bool.and_eq_true, Bool.not_eq_true', Bool.true_and] at hc); go_simp; with_reducible rfl)); simp only [Act.put, List.setIfInBounds_toArray, List.set_cons_zero, List.set_cons_succ])
             | (apply text_if_call; (focus (first | exact wanted_t rfl rfl | exact wanted_f rfl rfl | exact wanted_gt rfl rfl | exact wanted_gf rfl rfl)); (focus (intro hc _ _; (try simp only [Bool.and_eq_true, Bool.not_eq_true', Bool.true_and] at hc); go_simp; exact ⟨rfl, rfl⟩)); (focus (intro hc _ _; with_reducible (exact gand _))); simp only [Act.put, List.setIfInBounds_toArray, List.set_cons_zero, List.set_cons_succ]))
           refine text_nil (HG.out _ ?_)
           clear HG G
           apply store_step; (focus rfl); (focus (intro _ _; apply Exists.intro; apply Exists.intro; go_simp; with_reducible rfl))
           try simp only [Act.put, List.setIfInBounds_toArray, List.set_cons_zero, List.set_cons_succ]
           repeat (apply both_val; (focus rfl); (focus (intro _; go_simp; with_reducible rfl)); simp only [Act.put, List.setIfInBounds_toArray, List.set_cons_zero, List.set_cons_succ])
           refine both_nil (HF.out _ _ (fun mx dx => ?_))
           clear HF F
           go_wp2_with fail
           go_returns
           exact Pure.of (by rw [HR.out]; rfl) (by (repeat' (first | (with_reducible exact Below.refl _ _) | (with_reducible refine Below.ext_mk ?_ ?_ _ _) | (with_reducible refine Below.alloc ?_ ?_ _) | (with_reducible refine Below.drew ?_) | (with_reducible refine Below.setCell ?_ ?_ _) | go_size))))
        | (go_wp2_with fail
           go_returns
           exact Pure.of (by rw [HR.out]; rfl) (by (repeat' (first | (with_reducible exact Below.refl _ _) | (with_reducible refine Below.ext_mk ?_ ?_ _ _) | (with_reducible refine Below.alloc ?_ ?_ _) | (with_reducible refine Below.drew ?_) | (with_reducible refine Below.setCell ?_ ?_ _) | go_size))))
    · have HR : Hid (rmasked n m u = .tuple #[pv 0#128 0#128, .int .i64 2]) := hid (by unfold rmasked rW; simp [hu2])
      go_enter Try.func20, Try.ntmps20
      go_upto_region 1 with (fail)
      refine wp_region_seq (fun F hF => ?_)
      have HF := hid hF; clear hF
      repeat (first
        | (apply text_skip; (focus rfl); simp only [Act.put, List.setIfInBounds_toArray, List.set_cons_zero, List.set_cons_succ])
        | (apply text_val; (focus rfl); (focus (intro _ _; go_simp; with_reducible rfl)); simp only [Act.put, List.setIfInBounds_toArray, List.set_cons_zero, List.set_cons_succ])
        | (apply text_if; (focus (first | exact wanted_t rfl rfl | exact wanted_f rfl rfl | exact wanted_gt rfl rfl | exact wanted_gf rfl rfl)); (focus (intro hc _ _; (try simp only [Bool.and_eq_true, Bool.not_eq_true', Bool.true_and] at hc); go_simp; with_reducible rfl)); simp only [Act.put, List.setIfInBounds_toArray, List.set_cons_zero, List.set_cons_succ]))
      refine text_nil (HF.out _ (fun mx dx => ?_))
      clear HF F
      go_wp2_with fail
      go_returns
      exact Pure.of (by rw [HR.out]; rfl) (by (repeat' (first | (with_reducible exact Below.refl _ _) | (with_reducible refine Below.ext_mk ?_ ?_ _ _) | (with_reducible refine Below.alloc ?_ ?_ _) | (with_reducible refine Below.drew ?_) | (with_reducible refine Below.setCell ?_ ?_ _) | go_size)))
  · have HR : Hid (rmasked n m u = .tuple #[pv 0#128 0#128, .int .i64 2]) := hid (by unfold rmasked rW; simp [hu1])
    go_enter Try.func20, Try.ntmps20
    go_upto_region 1 with (fail)
    refine wp_region_seq (fun F hF => ?_)
    have HF := hid hF; clear hF
    repeat (first
      | (apply text_skip; (focus rfl); simp only [Act.put, List.setIfInBounds_toArray, List.set_cons_zero, List.set_cons_succ])
      | (apply text_val; (focus rfl); (focus (intro _ _; go_simp; with_reducible rfl)); simp only [Act.put, List.setIfInBounds_toArray, List.set_cons_zero, List.set_cons_succ])
      | (apply text_if; (focus (first | exact wanted_t rfl rfl | exact wanted_f rfl rfl | exact wanted_gt rfl rfl | exact wanted_gf rfl rfl)); (focus (intro hc _ _; (try simp only [Bool.and_eq_true, Bool.not_eq_true', Bool.true_and] at hc); go_simp; with_reducible rfl)); simp only [Act.put, List.setIfInBounds_toArray, List.set_cons_zero, List.set_cons_succ]))
    refine text_nil (HF.out _ (fun mx dx => ?_))
    clear HF F
    go_wp2_with fail
    go_returns
    exact Pure.of (by rw [HR.out]; rfl) (by (repeat' (first | (with_reducible exact Below.refl _ _) | (with_reducible refine Below.ext_mk ?_ ?_ _ _) | (with_reducible refine Below.alloc ?_ ?_ _) | (with_reducible refine Below.drew ?_) | (with_reducible refine Below.setCell ?_ ?_ _) | go_size)))

def rexact (n : BitVec 128) (u : Int) : Value := rmasked n (nOf (maskF u)) u
theorem rexact_any (n : BitVec 128) (u : Int) (w : World) : Calls Try.prog 17 #[nv n, .int .i64 u] w (Pure (rexact n u) w) := by
  unfold rexact
  have gk := rmask_any u
  generalize nOf (maskF u) = N at *
  obtain ⟨a, b, c, hv⟩ := rmasked_form n N u
  have c1 := rmasked_any n N u
  rw [hv] at c1
  have Hv := hid hv; clear hv
  go_enter Try.func17, Try.ntmps17
  go_upto_region 1 with (fail)
  refine wp_region_store 7 (by kernel_rfl) (by kernel_rfl) (by kernel_rfl) rfl (fun F hF G hG => ?_)
  simp only [List.take_succ_cons, List.take_zero, List.drop_succ_cons, List.drop_zero] at hG ⊢
  have HF := hid hF; clear hF
  have HG := hid hG; clear hG
  repeat (first
    | (apply text_skip; (focus rfl); simp only [Act.put, List.setIfInBounds_toArray, List.set_cons_zero, List.set_cons_succ])
    | (apply text_val; (focus rfl); (focus (intro _ _; go_simp; with_reducible rfl)); simp only [Act.put, List.setIfInBounds_toArray, List.set_cons_zero, List.set_cons_succ])
    | (apply text_call; (focus rfl); (focus (intro _ _; go_simp; exact ⟨rfl, rfl⟩)); (focus (intro _ _; with_reducible (exact gk _))); simp only [Act.put, List.setIfInBounds_toArray, List.set_cons_zero, List.set_cons_succ])
    | (apply text_call; (focus rfl); (focus (intro _ _; go_simp; exact ⟨rfl, rfl⟩)); (focus (intro _ _; with_reducible (exact c1 _))); simp only [Act.put, List.setIfInBounds_toArray, List.set_cons_zero, List.set_cons_succ])
    | (apply text_if; (focus (first | exact wanted_t rfl rfl | exact wanted_f rfl rfl | exact wanted_gt rfl rfl | exact wanted_gf rfl rfl)); (focus (intro hc _ _; (try simp only [Bool.and_eq_true, Bool.not_eq_true', Bool.true_and] at hc); go_simp; with_reducible rfl)); simp only [Act.put, List.setIfInBounds_toArray, List.set_cons_zero, List.set_cons_succ])
    | (apply text_if_call; (focus (first | exact wanted_t rfl rfl | exact wanted_f rfl rfl | exact wanted_gt rfl rfl | exact wanted_gf rfl rfl)); (focus (intro hc _ _; (try simp only [Bool.and_eq_true, Bool.not_eq_true', Bool.true_and] at hc); go_simp; exact ⟨rfl, rfl⟩)); (focus (intro hc _ _; with_reducible (exact gk _))); simp only [Act.put, List.setIfInBounds_toArray, List.set_cons_zero, List.set_cons_succ])
    | (apply text_if_call; (focus (first | exact wanted_t rfl rfl | exact wanted_f rfl rfl | exact wanted_gt rfl rfl | exact wanted_gf rfl rfl)); (focus (intro hc _ _; (try simp only [Bool.and_eq_true, Bool.not_eq_true', Bool.true_and] at hc); go_simp; exact ⟨rfl, rfl⟩)); (focus (intro hc _ _; with_reducible (exact c1 _))); simp only [Act.put, List.setIfInBounds_toArray, List.set_cons_zero, List.set_cons_succ]))
  refine text_nil (HG.out _ ?_)
  clear HG G
  apply store_step; (focus rfl); (focus (intro _ _; apply Exists.intro; apply Exists.intro; go_simp; with_reducible rfl))
  try simp only [Act.put, List.setIfInBounds_toArray, List.set_cons_zero, List.set_cons_succ]
  repeat (apply both_val; (focus rfl); (focus (intro _; go_simp; with_reducible rfl)); simp only [Act.put, List.setIfInBounds_toArray, List.set_cons_zero, List.set_cons_succ])
  refine both_nil (HF.out _ _ (fun mx dx => ?_))
  clear HF F
  go_wp2_with fail
  go_returns
  exact Pure.of Hv.out.symm (by (repeat' (first | (with_reducible exact Below.refl _ _) | (with_reducible refine Below.ext_mk ?_ ?_ _ _) | (with_reducible refine Below.alloc ?_ ?_ _) | (with_reducible refine Below.drew ?_) | (with_reducible refine Below.setCell ?_ ?_ _) | go_size)))

def topN (l u : Int) : BitVec 128 := nOf (xorF (nOf (maskF u)) (nOf (maskF (wrap64 (u - l)))))
theorem rtop_any (l u : Int) (w : World) : Calls Try.prog 37 #[.int .i64 l, .int .i64 u] w (Pure (nv (topN l u)) w) := by
  unfold topN
  have g1 := rmask_any u
  have g2 := rmask_any (wrap64 (u - l))
  generalize nOf (maskF u) = N at *
  generalize nOf (maskF (wrap64 (u - l))) = M at *
  have g3 := rxor_any N M
  generalize nOf (xorF N M) = R at *
  go_enter Try.func37, Try.ntmps37
  go_wp2_with (first
    | ((with_reducible refine (g1 _).mono ?_); rintro e w' ⟨rfl, m1, d1, rfl⟩)
    | ((with_reducible refine (g2 _).mono ?_); rintro e w' ⟨rfl, m1, d1, rfl⟩)
    | ((with_reducible refine (g3 _).mono ?_); rintro e w' ⟨rfl, m1, d1, rfl⟩))
  go_returns
  exact Pure.of rfl (by (repeat' (first | (with_reducible exact Below.refl _ _) | (with_reducible refine Below.ext_mk ?_ ?_ _ _) | (with_reducible refine Below.alloc ?_ ?_ _) | (with_reducible refine Below.drew ?_) | (with_reducible refine Below.setCell ?_ ?_ _) | go_size)))

def rprefix (n : BitVec 128) (l u : Int) : Value :=
  if rW u then (if decide (l < 0) || decide (u < l) then .tuple #[pv 0#128 0#128, .int .i64 5] else rmasked n (topN l u) u) else .tuple #[pv 0#128 0#128, .int .i64 2]
set_option maxHeartbeats 2000000 in
theorem rprefix_any (n : BitVec 128) (l u : Int) (w : World) : Calls Try.prog 19 #[nv n, .int .i64 l, .int .i64 u] w (Pure (rprefix n l u) w) := by
  by_cases hu1 : 1 ≤ u
  · by_cases hu2 : u ≤ 128
    · have e0 : rW u = true := by unfold rW; simp [hu1, hu2]
      by_cases hl1 : 0 ≤ l
      · by_cases hl2 : l ≤ u
        · have gt := rtop_any l u
          have HR : Hid (rprefix n l u = rmasked n (topN l u) u) := hid (by unfold rprefix; rw [e0]; simp; omega)
          generalize topN l u = N at *
          obtain ⟨a, b, c, hv⟩ := rmasked_form n N u
          have c1 := rmasked_any n N u
          rw [hv] at c1 HR
          clear hv e0
          go_enter Try.func19, Try.ntmps19
          go_upto_region 1 with (fail)
          refine wp_region_seq (fun F hF => ?_)
          have HF := hid hF; clear hF
          repeat (first
            | (apply text_skip; (focus rfl); simp only [Act.put, List.setIfInBounds_toArray, List.set_cons_zero, List.set_cons_succ])
            | (apply text_val; (focus rfl); (focus (intro _ _; go_simp; with_reducible rfl)); simp only [Act.put, List.setIfInBounds_toArray, List.set_cons_zero, List.set_cons_succ])
            | (apply text_if; (focus (first | exact wanted_t rfl rfl | exact wanted_f rfl rfl | exact wanted_gt rfl rfl | exact wanted_gf rfl rfl)); (focus (intro hc _ _; (try simp only [Bool.and_eq_true, Bool.not_eq_true', Bool.true_and] at hc); go_simp; with_reducible rfl)); simp only [Act.put, List.setIfInBounds_toArray, List.set_cons_zero, List.set_cons_succ]))
          refine text_nil (HF.out _ (fun mx dx => ?_))
          clear HF F
          go_upto_region 3 with (fail)
          refine wp_region_seq (fun F hF => ?_)
          have HF := hid hF; clear hF
          repeat (first
            | (apply text_skip; (focus rfl); simp only [Act.put, List.setIfInBounds_toArray, List.set_cons_zero, List.set_cons_succ])
            | (apply text_val; (focus rfl); (focus (intro _ _; go_simp; with_reducible rfl)); simp only [Act.put, List.setIfInBounds_toArray, List.set_cons_zero, List.set_cons_succ])
            | (apply text_if; (focus (first | exact wanted_t rfl rfl | exact wanted_f rfl rfl | exact wanted_gt rfl rfl | exact wanted_gf rfl rfl)); (focus (intro hc _ _; (try simp only [Bool.and_eq_true, Bool.not_eq_true', Bool.true_and] at hc); go_simp; with_reducible rfl)); simp only [Act.put, List.setIfInBounds_toArray, List.set_cons_zero, List.set_cons_succ]))
          refine text_nil (HF.out _ (fun mx dx => ?_))
          clear HF F
          go_upto_region 5 with (fail)
          refine wp_region_store 8 (by kernel_rfl) (by kernel_rfl) (by kernel_rfl) rfl (fun F hF G hG => ?_)
          simp only [List.take_succ_cons, List.take_zero, List.drop_succ_cons, List.drop_zero] at hG ⊢
          have HF := hid hF; clear hF
          have HG := hid hG; clear hG
          repeat (first
            | (apply text_skip; (focus rfl); simp only [Act.put, List.setIfInBounds_toArray, List.set_cons_zero, List.set_cons_succ])
            | (apply text_val; (focus rfl); (focus (intro _ _; go_simp; with_reducible rfl)); simp only [Act.put, List.setIfInBounds_toArray, List.set_cons_zero, List.set_cons_succ])
            | (apply text_call; (focus rfl); (focus (intro _ _; go_simp; exact ⟨rfl, rfl⟩)); (focus (intro _ _; with_reducible (exact gt _))); simp only [Act.put, List.setIfInBounds_toArray, List.set_cons_zero, List.set_cons_succ])
            | (apply text_call; (focus rfl); (focus (intro _ _; go_simp; exact ⟨rfl, rfl⟩)); (focus (intro _ _; with_reducible (exact c1 _))); simp only [Act.put, List.setIfInBounds_toArray, List.set_cons_zero, List.set_cons_succ])
            | (apply text_if; (focus (first | exact wanted_t rfl rfl | exact wanted_f rfl rfl | exact wanted_gt rfl rfl | exact wanted_gf rfl rfl)); (focus (intro hc _ _; (try simp only [Bool.and_eq_true, Bool.not_eq_true', Bool.true_and] at hc); go_simp; with_reducible rfl)); simp only [Act.put, List.setIfInBounds_toArray, List.set_cons_zero, List.set_cons_succ])
            | (apply text_if_call; (focus (first | exact wanted_t rfl rfl | exact wanted_f rfl rfl | exact wanted_gt rfl rfl | exact wanted_gf rfl rfl)); (focus (intro hc _ _; (try simp only [Bool.and_eq_true, Bool.not_eq_true', Bool.true_and] at hc); go_simp; exact ⟨rfl, rfl⟩)); (focus (intro hc _ _; with_reducible (exact gt _))); simp only [Act.put, List.setIfInBounds_toArray, List.set_cons_zero, List.set_cons_succ])
            | (apply text_if_call; (focus (first | exact wanted_t rfl rfl | exact wanted_f rfl rfl | exact wanted_gt rfl rfl | exact wanted_gf rfl rfl)); (focus (intro hc _ _; (try simp only [Bool.and_eq_true, Bool.not_eq_true', Bool.true_and] at hc); go_simp; exact ⟨rfl, rfl⟩)); (focus (intro hc _ _; with_reducible (exact c1 _))); simp only [Act.put, List.setIfInBounds_toArray, List.set_cons_zero, List.set_cons_succ]))
          refine text_nil (HG.out _ ?_)
          clear HG G
          apply store_step; (focus rfl); (focus (intro _ _; apply Exists.intro; apply Exists.intro; go_simp; with_reducible rfl))
          try simp only [Act.put, List.setIfInBounds_toArray, List.set_cons_zero, List.set_cons_succ]
          repeat (apply both_val; (focus rfl); (focus (intro _; go_simp; with_reducible rfl)); simp only [Act.put, List.setIfInBounds_toArray, List.set_cons_zero, List.set_cons_succ])
          refine both_nil (HF.out _ _ (fun mx dx => ?_))
          clear HF F
          go_wp2_with fail
          go_returns
          exact Pure.of HR.out.symm (by (repeat' (first | (with_reducible exact Below.refl _ _) | (with_reducible refine Below.ext_mk ?_ ?_ _ _) | (with_reducible refine Below.alloc ?_ ?_ _) | (with_reducible refine Below.drew ?_) | (with_reducible refine Below.setCell ?_ ?_ _) | go_size)))
        · have HR : Hid (rprefix n l u = .tuple #[pv 0#128 0#128, .int .i64 5]) := hid (by unfold rprefix; rw [e0]; simp; omega)
          clear e0
          go_enter Try.func19, Try.ntmps19
          go_upto_region 1 with (fail)
          refine wp_region_seq (fun F hF => ?_)
          have HF := hid hF; clear hF
          repeat (first
            | (apply text_skip; (focus rfl); simp only [Act.put, List.setIfInBounds_toArray, List.set_cons_zero, List.set_cons_succ])
            | (apply text_val; (focus rfl); (focus (intro _ _; go_simp; with_reducible rfl)); simp only [Act.put, List.setIfInBounds_toArray, List.set_cons_zero, List.set_cons_succ])
            | (apply text_if; (focus (first | exact wanted_t rfl rfl | exact wanted_f rfl rfl | exact wanted_gt rfl rfl | exact wanted_gf rfl rfl)); (focus (intro hc _ _; (try simp only [Bool.and_eq_true, Bool.not_eq_true', Bool.true_and] at hc); go_simp; with_reducible rfl)); simp only [Act.put, List.setIfInBounds_toArray, List.set_cons_zero, List.set_cons_succ]))
          refine text_nil (HF.out _ (fun mx dx => ?_))
          clear HF F
          go_upto_region 3 with (fail)
          refine wp_region_seq (fun F hF => ?_)
          have HF := hid hF; clear hF
          repeat (first
            | (apply text_skip; (focus rfl); simp only [Act.put, List.setIfInBounds_toArray, List.set_cons_zero, List.set_cons_succ])
            | (apply text_val; (focus rfl); (focus (intro _ _; go_simp; with_reducible rfl)); simp only [Act.put, List.setIfInBounds_toArray, List.set_cons_zero, List.set_cons_succ])
            | (apply text_if; (focus (first | exact wanted_t rfl rfl | exact wanted_f rfl rfl | exact wanted_gt rfl rfl | exact wanted_gf rfl rfl)); (focus (intro hc _ _; (try simp only [Bool.and_eq_true, Bool.not_eq_true', Bool.true_and] at hc); go_simp; with_reducible rfl)); simp only [Act.put, List.setIfInBounds_toArray, List.set_cons_zero, List.set_cons_succ]))
          refine text_nil (HF.out _ (fun mx dx => ?_))
          clear HF F
          go_wp2_with fail
          go_returns
          exact Pure.of HR.out.symm (by (repeat' (first | (with_reducible exact Below.refl _ _) | (with_reducible refine Below.ext_mk ?_ ?_ _ _) | (with_reducible refine Below.alloc ?_ ?_ _) | (with_reducible refine Below.drew ?_) | (with_reducible refine Below.setCell ?_ ?_ _) | go_size)))
      · have HR : Hid (rprefix n l u = .tuple #[pv 0#128 0#128, .int .i64 5]) := hid (by unfold rprefix; rw [e0]; simp; omega)
        clear e0
        go_enter Try.func19, Try.ntmps19
        go_upto_region 1 with (fail)
        refine wp_region_seq (fun F hF => ?_)
        have HF := hid hF; clear hF
        repeat (first
          | (apply text_skip; (focus rfl); simp only [Act.put, List.setIfInBounds_toArray, List.set_cons_zero, List.set_cons_succ])
          | (apply text_val; (focus rfl); (focus (intro _ _; go_simp; with_reducible rfl)); simp only [Act.put, List.setIfInBounds_toArray, List.set_cons_zero, List.set_cons_succ])
          | (apply text_if; (focus (first | exact wanted_t rfl rfl | exact wanted_f rfl rfl | exact wanted_gt rfl rfl | exact wanted_gf rfl rfl)); (focus (intro hc _ _; (try simp only [Bool.and_eq_true, Bool.not_eq_true', Bool.true_and] at hc); go_simp; with_reducible rfl)); simp only [Act.put, List.setIfInBounds_toArray, List.set_cons_zero, List.set_cons_succ]))
        refine text_nil (HF.out _ (fun mx dx => ?_))
        clear HF F
        go_upto_region 3 with (fail)
        refine wp_region_seq (fun F hF => ?_)
        have HF := hid hF; clear hF
        repeat (first
          | (apply text_skip; (focus rfl); simp only [Act.put, List.setIfInBounds_toArray, List.set_cons_zero, List.set_cons_succ])
          | (apply text_val; (focus rfl); (focus (intro _ _; go_simp; with_reducible rfl)); simp only [Act.put, List.setIfInBounds_toArray, List.set_cons_zero, List.set_cons_succ])
          | (apply text_if; (focus (first | exact wanted_t rfl rfl | exact wanted_f rfl rfl | exact wanted_gt rfl rfl | exact wanted_gf rfl rfl)); (focus (intro hc _ _; (try simp only [Bool.and_eq_true, Bool.not_eq_true', Bool.true_and] at hc); go_simp; with_reducible rfl)); simp only [Act.put, List.setIfInBounds_toArray, List.set_cons_zero, List.set_cons_succ]))
        refine text_nil (HF.out _ (fun mx dx => ?_))
        clear HF F
        go_wp2_with fail
        go_returns
        exact Pure.of HR.out.symm (by (repeat' (first | (with_reducible exact Below.refl _ _) | (with_reducible refine Below.ext_mk ?_ ?_ _ _) | (with_reducible refine Below.alloc ?_ ?_ _) | (with_reducible refine Below.drew ?_) | (with_reducible refine Below.setCell ?_ ?_ _) | go_size)))
    · have HR : Hid (rprefix n l u = .tuple #[pv 0#128 0#128, .int .i64 2]) := hid (by unfold rprefix rW; simp [hu2])
      go_enter Try.func19, Try.ntmps19
      go_upto_region 1 with (fail)
      refine wp_region_seq (fun F hF => ?_)
      have HF := hid hF; clear hF
      repeat (first
        | (apply text_skip; (focus rfl); simp only [Act.put, List.setIfInBounds_toArray, List.set_cons_zero, List.set_cons_succ])
        | (apply text_val; (focus rfl); (focus (intro _ _; go_simp; with_reducible rfl)); simp only [Act.put, List.setIfInBounds_toArray, List.set_cons_zero, List.set_cons_succ])
        | (apply text_if; (focus (first | exact wanted_t rfl rfl | exact wanted_f rfl rfl | exact wanted_gt rfl rfl | exact wanted_gf rfl rfl)); (focus (intro hc _ _; (try simp only [Bool.and_eq_true, Bool.not_eq_true', Bool.true_and] at hc); go_simp; with_reducible rfl)); simp only [Act.put, List.setIfInBounds_toArray, List.set_cons_zero, List.set_cons_succ]))
      refine text_nil (HF.out _ (fun mx dx => ?_))
      clear HF F
      go_wp2_with fail
      go_returns
      exact Pure.of HR.out.symm (by (repeat' (first | (with_reducible exact Below.refl _ _) | (with_reducible refine Below.ext_mk ?_ ?_ _ _) | (with_reducible refine Below.alloc ?_ ?_ _) | (with_reducible refine Below.drew ?_) | (with_reducible refine Below.setCell ?_ ?_ _) | go_size)))
  · have HR : Hid (rprefix n l u = .tuple #[pv 0#128 0#128, .int .i64 2]) := hid (by unfold rprefix rW; simp [hu1])
    go_enter Try.func19, Try.ntmps19
    go_upto_region 1 with (fail)
    refine wp_region_seq (fun F hF => ?_)
    have HF := hid hF; clear hF
    repeat (first
      | (apply text_skip; (focus rfl); simp only [Act.put, List.setIfInBounds_toArray, List.set_cons_zero, List.set_cons_succ])
      | (apply text_val; (focus rfl); (focus (intro _ _; go_simp; with_reducible rfl)); simp only [Act.put, List.setIfInBounds_toArray, List.set_cons_zero, List.set_cons_succ])
      | (apply text_if; (focus (first | exact wanted_t rfl rfl | exact wanted_f rfl rfl | exact wanted_gt rfl rfl | exact wanted_gf rfl rfl)); (focus (intro hc _ _; (try simp only [Bool.and_eq_true, Bool.not_eq_true', Bool.true_and] at hc); go_simp; with_reducible rfl)); simp only [Act.put, List.setIfInBounds_toArray, List.set_cons_zero, List.set_cons_succ]))
    refine text_nil (HF.out _ (fun mx dx => ?_))
    clear HF F
    go_wp2_with fail
    go_returns
    exact Pure.of HR.out.symm (by (repeat' (first | (with_reducible exact Below.refl _ _) | (with_reducible refine Below.ext_mk ?_ ?_ _ _) | (with_reducible refine Below.alloc ?_ ?_ _) | (with_reducible refine Below.drew ?_) | (with_reducible refine Below.setCell ?_ ?_ _) | go_size)))

theorem exact_any (n : BitVec 128) (u : Int) (h1 : -9223372036854775808 ≤ u) (h2 : u ≤ 9223372036854775807) (w : World) : Calls Try.prog 16 #[nv n, .int .i64 u] w (Pure (madeV n (maskOf u) u) w) := by
  have gk := mask_any u h1 h2
  generalize maskOf u = N at *
  obtain ⟨a, b, c, hv⟩ := madeV_form n N u
  have c1 := made_any n N u h1 h2
  rw [hv] at c1
  have Hv := hid hv; clear hv
  go_enter Try.func16, Try.ntmps16
  go_upto_region 1 with (fail)
  refine wp_region_store 7 (by kernel_rfl) (by kernel_rfl) (by kernel_rfl) rfl (fun F hF G hG => ?_)
  simp only [List.take_succ_cons, List.take_zero, List.drop_succ_cons, List.drop_zero] at hG ⊢
  have HF := hid hF; clear hF
  have HG := hid hG; clear hG
  repeat (first
    | (apply text_skip; (focus rfl); simp only [Act.put, List.setIfInBounds_toArray, List.set_cons_zero, List.set_cons_succ])
    | (apply text_val; (focus rfl); (focus (intro _ _; go_simp; with_reducible rfl)); simp only [Act.put, List.setIfInBounds_toArray, List.set_cons_zero, List.set_cons_succ])
    | (apply text_call; (focus rfl); (focus (intro _ _; go_simp; exact ⟨rfl, rfl⟩)); (focus (intro _ _; with_reducible (exact gk _))); simp only [Act.put, List.setIfInBounds_toArray, List.set_cons_zero, List.set_cons_succ])
    | (apply text_call; (focus rfl); (focus (intro _ _; go_simp; exact ⟨rfl, rfl⟩)); (focus (intro _ _; with_reducible (exact c1 _))); simp only [Act.put, List.setIfInBounds_toArray, List.set_cons_zero, List.set_cons_succ])
    | (apply text_if; (focus (first | exact wanted_t rfl rfl | exact wanted_f rfl rfl | exact wanted_gt rfl rfl | exact wanted_gf rfl rfl)); (focus (intro hc _ _; (try simp only [Bool.and_eq_true, Bool.not_eq_true', Bool.true_and] at hc); go_simp; with_reducible rfl)); simp only [Act.put, List.setIfInBounds_toArray, List.set_cons_zero, List.set_cons_succ])
    | (apply text_if_call; (focus (first | exact wanted_t rfl rfl | exact wanted_f rfl rfl | exact wanted_gt rfl rfl | exact wanted_gf rfl rfl)); (focus (intro hc _ _; (try simp only [Bool.and_eq_true, Bool.not_eq_true', Bool.true_and] at hc); go_simp; exact ⟨rfl, rfl⟩)); (focus (intro hc _ _; with_reducible (exact gk _))); simp only [Act.put, List.setIfInBounds_toArray, List.set_cons_zero, List.set_cons_succ])
    | (apply text_if_call; (focus (first | exact wanted_t rfl rfl | exact wanted_f rfl rfl | exact wanted_gt rfl rfl | exact wanted_gf rfl rfl)); (focus (intro hc _ _; (try simp only [Bool.and_eq_true, Bool.not_eq_true', Bool.true_and] at hc); go_simp; exact ⟨rfl, rfl⟩)); (focus (intro hc _ _; with_reducible (exact c1 _))); simp only [Act.put, List.setIfInBounds_toArray, List.set_cons_zero, List.set_cons_succ]))
  refine text_nil (HG.out _ ?_)
  clear HG G
  apply store_step; (focus rfl); (focus (intro _ _; apply Exists.intro; apply Exists.intro; go_simp; with_reducible rfl))
  try simp only [Act.put, List.setIfInBounds_toArray, List.set_cons_zero, List.set_cons_succ]
  repeat (apply both_val; (focus rfl); (focus (intro _; go_simp; with_reducible rfl)); simp only [Act.put, List.setIfInBounds_toArray, List.set_cons_zero, List.set_cons_succ])
  refine both_nil (HF.out _ _ (fun mx dx => ?_))
  clear HF F
  go_wp2_with fail
  go_returns
  exact Pure.of Hv.out.symm (by (repeat' (first | (with_reducible exact Below.refl _ _) | (with_reducible refine Below.ext_mk ?_ ?_ _ _) | (with_reducible refine Below.alloc ?_ ?_ _) | (with_reducible refine Below.drew ?_) | (with_reducible refine Below.setCell ?_ ?_ _) | go_size)))
end Go.Proofs.Ytooadmagjpaieaa
