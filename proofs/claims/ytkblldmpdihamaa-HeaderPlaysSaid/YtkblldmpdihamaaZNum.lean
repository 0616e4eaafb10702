/-
  Contracts of layer 1 functions (num): each gives the number that its words say, and changes nothing that was there.
-/
import Derived.Test.YtkblldmpdihamaaZNv
set_option linter.unusedVariables false
set_option linter.unusedSimpArgs false
namespace Go.Proofs.Ytkblldmpdihamaa
open Go.RowKit

/-- How far a number is shifted. -/
def sh (k : Int) : Int := max 0 (min k 128)
theorem sh_lo (k : Int) : 0 ≤ sh k := by unfold sh; omega
theorem sh_hi (k : Int) : sh k ≤ 128 := by unfold sh; omega

set_option maxHeartbeats 400000 in
theorem shift_any (k : Int) (h1 : -9223372036854775808 ≤ k) (h2 : k ≤ 9223372036854775807) (w : World) :
    Calls Try.prog 51 #[.int .i64 k] w (Pure (.int .u64 (sh k)) w) := by
  go_enter Try.func51, Try.ntmps51
  go_wp2
  all_goals (go_returns; exact Pure.of (by simp [sh]; omega) (Below.refl _ _))

theorem shr_any (n : BitVec 128) (k : Int) (h1 : -9223372036854775808 ≤ k) (h2 : k ≤ 9223372036854775807) (w : World) :
    Calls Try.prog 52 #[nv n, .int .i64 k] w (Pure (nv (n >>> (sh k).toNat)) w) := by
  have b1 := sh_lo k
  have b2 := sh_hi k
  go_enter Try.func52, Try.ntmps52
  go_wp2_with (go_at_call 51; refine (shift_any _ h1 h2 _).mono ?_; rintro e w' ⟨rfl, m, d, rfl⟩)
  all_goals go_returns
  · exact Pure.of (nv_shr_ge _ _ (by assumption)) (by (repeat' (first | (with_reducible exact Below.refl _ _) | (with_reducible refine Below.ext_mk ?_ ?_ _ _) | (with_reducible refine Below.alloc ?_ ?_ _) | (with_reducible refine Below.drew ?_) | (with_reducible refine Below.setCell ?_ ?_ _) | go_size)))
  · exact Pure.of (nv_shr_lt _ _ (by assumption) (by assumption)) (by (repeat' (first | (with_reducible exact Below.refl _ _) | (with_reducible refine Below.ext_mk ?_ ?_ _ _) | (with_reducible refine Below.alloc ?_ ?_ _) | (with_reducible refine Below.drew ?_) | (with_reducible refine Below.setCell ?_ ?_ _) | go_size)))

theorem and1_any (x y : Int) (w : World) :
    Calls Try.prog 58 #[.int .u64 x, .int .u64 y] w (Pure (.int .u64 (bits BinOp.and .u64 x y)) w) := by
  go_enter Try.func58, Try.ntmps58
  go_wp2
  go_ret
  exact Pure.of rfl (by (repeat' (first | (with_reducible exact Below.refl _ _) | (with_reducible refine Below.ext_mk ?_ ?_ _ _) | (with_reducible refine Below.alloc ?_ ?_ _) | (with_reducible refine Below.drew ?_) | (with_reducible refine Below.setCell ?_ ?_ _) | go_size)))

theorem both_any (k : Nat) (hk : ∀ args w, (callFunc k args).run Try.prog w = .ok (.enter k args) w) (f : Int → Int → Int)
    (hf : ∀ x y w, Calls Try.prog k #[.int .u64 x, .int .u64 y] w (Pure (.int .u64 (f x y)) w)) (x y : BitVec 128) (w : World) :
    Calls Try.prog 49 #[nv x, nv y, .func (.func k) #[] #[]] w (Pure (.agg #[.int .u64 (f (hi x) (hi y)), .int .u64 (f (lo x) (lo y))]) w) := by
  go_enter Try.func49, Try.ntmps49
  go_wp2
  refine wp_region_store 13 (by kernel_rfl) (by kernel_rfl) (by kernel_rfl) rfl (fun F hF G hG => ?_)
  simp only [List.take_succ_cons, List.take_zero, List.drop_succ_cons, List.drop_zero] at hG ⊢
  have HF := hid hF; clear hF
  have HG := hid hG; clear hG
  repeat (first
    | (apply text_skip; (focus rfl); simp only [Act.put, List.setIfInBounds_toArray, List.set_cons_zero, List.set_cons_succ])
    | (apply text_val; (focus rfl); (focus (intro _ _; go_simp; with_reducible rfl)); simp only [Act.put, List.setIfInBounds_toArray, List.set_cons_zero, List.set_cons_succ])
    | (apply text_call; (focus rfl); (focus (intro _ _; go_simp; exact ⟨rfl, rfl⟩)); (focus (intro _ _; with_reducible (exact hf _ _ _))); simp only [Act.put, List.setIfInBounds_toArray, List.set_cons_zero, List.set_cons_succ])
    | (apply text_if; (focus (first | exact wanted_t rfl rfl | exact wanted_f rfl rfl | exact wanted_gt rfl rfl | exact wanted_gf rfl rfl)); (focus (intro hc _ _; (try simp only [Bool.and_eq_true, Bool.not_eq_true', Bool.true_and] at hc); go_simp; with_reducible rfl)); simp only [Act.put, List.setIfInBounds_toArray, List.set_cons_zero, List.set_cons_succ])
    | (apply text_if_call; (focus (first | exact wanted_t rfl rfl | exact wanted_f rfl rfl | exact wanted_gt rfl rfl | exact wanted_gf rfl rfl)); (focus (intro hc _ _; (try simp only [Bool.and_eq_true, Bool.not_eq_true', Bool.true_and] at hc); go_simp; exact ⟨rfl, rfl⟩)); (focus (intro hc _ _; with_reducible (exact hf _ _ _))); simp only [Act.put, List.setIfInBounds_toArray, List.set_cons_zero, List.set_cons_succ]))
  refine text_nil (HG.out _ ?_)
  clear HG G
  apply store_step; (focus rfl); (focus (intro _ _; apply Exists.intro; apply Exists.intro; go_simp; with_reducible rfl))
  try simp only [Act.put, List.setIfInBounds_toArray, List.set_cons_zero, List.set_cons_succ]
  repeat (apply both_val; (focus rfl); (focus (intro _; go_simp; with_reducible rfl)); simp only [Act.put, List.setIfInBounds_toArray, List.set_cons_zero, List.set_cons_succ])
  refine both_nil (HF.out _ _ (fun mx dx => ?_))
  clear HF F
  go_wp2
  go_returns
  exact Pure.of rfl (by (repeat' (first | (with_reducible exact Below.refl _ _) | (with_reducible refine Below.ext_mk ?_ ?_ _ _) | (with_reducible refine Below.alloc ?_ ?_ _) | (with_reducible refine Below.drew ?_) | (with_reducible refine Below.setCell ?_ ?_ _) | go_size)))

theorem and_any (x y : BitVec 128) (w : World) :
    Calls Try.prog 53 #[nv x, nv y] w (Pure (nv (x &&& y)) w) := by
  go_enter Try.func53, Try.ntmps53
  go_wp2_with (go_at_call 49; refine (both_any 58 (fun _ _ => by kernel_rfl) _ and1_any _ _ _).mono ?_; rintro e w' ⟨rfl, m1, d1, rfl⟩)
  go_returns
  exact Pure.of (by rw [and_hi, and_lo]) (by (repeat' (first | (with_reducible exact Below.refl _ _) | (with_reducible refine Below.ext_mk ?_ ?_ _ _) | (with_reducible refine Below.alloc ?_ ?_ _) | (with_reducible refine Below.drew ?_) | (with_reducible refine Below.setCell ?_ ?_ _) | go_size)))

/-- The mask of a width. -/
def maskOf (k : Int) : BitVec 128 := if k < 1 then 0#128 else 340282366920938463463374607431768211455#128 >>> (128 - min k 128).toNat
theorem nv_zero : nv 0#128 = .agg #[.int .u64 0, .int .u64 0] := rfl
theorem nv_ones : nv 340282366920938463463374607431768211455#128 = .agg #[.int .u64 18446744073709551615, .int .u64 18446744073709551615] := by unfold nv hi lo; rfl

theorem mask_any (k : Int) (h1 : -9223372036854775808 ≤ k) (h2 : k ≤ 9223372036854775807) (w : World) :
    Calls Try.prog 54 #[.int .i64 k] w (Pure (nv (maskOf k)) w) := by
  by_cases hk : k < 1
  · go_enter Try.func54, Try.ntmps54
    go_wp2
    go_returns
    exact Pure.of (by rw [maskOf, if_pos hk]; rfl) (by (repeat' (first | (with_reducible exact Below.refl _ _) | (with_reducible refine Below.ext_mk ?_ ?_ _ _) | (with_reducible refine Below.alloc ?_ ?_ _) | (with_reducible refine Below.drew ?_) | (with_reducible refine Below.setCell ?_ ?_ _) | go_size)))
  · by_cases hm : 128 < k
    · go_enter Try.func54, Try.ntmps54
      go_wp2_with (rw [← nv_ones]; go_at_call 52; refine (shr_any _ _ (by omega) (by omega) _).mono ?_; rintro e w' ⟨rfl, m1, d1, rfl⟩)
      go_returns
      exact Pure.of (by rw [maskOf, if_neg (by omega), show min k 128 = 128 by omega]; rfl) (by (repeat' (first | (with_reducible exact Below.refl _ _) | (with_reducible refine Below.ext_mk ?_ ?_ _ _) | (with_reducible refine Below.alloc ?_ ?_ _) | (with_reducible refine Below.drew ?_) | (with_reducible refine Below.setCell ?_ ?_ _) | go_size)))
    · go_enter Try.func54, Try.ntmps54
      go_wp2_with (rw [← nv_ones]; go_at_call 52; refine (shr_any _ _ (by omega) (by omega) _).mono ?_; rintro e w' ⟨rfl, m1, d1, rfl⟩)
      go_returns
      exact Pure.of (by rw [maskOf, if_neg (by omega), show min k 128 = k by omega, show sh (128 - k) = 128 - k by unfold sh; omega]) (by (repeat' (first | (with_reducible exact Below.refl _ _) | (with_reducible refine Below.ext_mk ?_ ?_ _ _) | (with_reducible refine Below.alloc ?_ ?_ _) | (with_reducible refine Below.drew ?_) | (with_reducible refine Below.setCell ?_ ?_ _) | go_size)))

theorem cut_any (n : BitVec 128) (k : Int) (h1 : -9223372036854775808 ≤ k) (h2 : k ≤ 9223372036854775807) (w : World) :
    Calls Try.prog 42 #[nv n, .int .i64 k] w (Pure (nv (n &&& maskOf k)) w) := by
  go_enter Try.func42, Try.ntmps42
  go_wp2
  refine wp_region_store 4 (by kernel_rfl) (by kernel_rfl) (by kernel_rfl) rfl (fun F hF G hG => ?_)
  simp only [List.take_succ_cons, List.take_zero, List.drop_succ_cons, List.drop_zero] at hG ⊢
  have HF := hid hF; clear hF
  have HG := hid hG; clear hG
  repeat (first
    | (apply text_skip; (focus rfl); simp only [Act.put, List.setIfInBounds_toArray, List.set_cons_zero, List.set_cons_succ])
    | (apply text_val; (focus rfl); (focus (intro _ _; go_simp; with_reducible rfl)); simp only [Act.put, List.setIfInBounds_toArray, List.set_cons_zero, List.set_cons_succ])
    | (apply text_call; (focus rfl); (focus (intro _ _; go_simp; exact ⟨rfl, rfl⟩)); (focus (intro _ _; with_reducible (exact mask_any _ h1 h2 _))); simp only [Act.put, List.setIfInBounds_toArray, List.set_cons_zero, List.set_cons_succ])
    | (apply text_call; (focus rfl); (focus (intro _ _; go_simp; exact ⟨rfl, rfl⟩)); (focus (intro _ _; with_reducible (exact and_any _ _ _))); simp only [Act.put, List.setIfInBounds_toArray, List.set_cons_zero, List.set_cons_succ])
    | (apply text_if; (focus (first | exact wanted_t rfl rfl | exact wanted_f rfl rfl | exact wanted_gt rfl rfl | exact wanted_gf rfl rfl)); (focus (intro hc _ _; (try simp only [Bool.and_eq_true, Bool.not_eq_true', Bool.true_and] at hc); go_simp; with_reducible rfl)); simp only [Act.put, List.setIfInBounds_toArray, List.set_cons_zero, List.set_cons_succ])
    | (apply text_if_call; (focus (first | exact wanted_t rfl rfl | exact wanted_f rfl rfl | exact wanted_gt rfl rfl | exact wanted_gf rfl rfl)); (focus (intro hc _ _; (try simp only [Bool.and_eq_true, Bool.not_eq_true', Bool.true_and] at hc); go_simp; exact ⟨rfl, rfl⟩)); (focus (intro hc _ _; with_reducible (exact mask_any _ h1 h2 _))); simp only [Act.put, List.setIfInBounds_toArray, List.set_cons_zero, List.set_cons_succ])
    | (apply text_if_call; (focus (first | exact wanted_t rfl rfl | exact wanted_f rfl rfl | exact wanted_gt rfl rfl | exact wanted_gf rfl rfl)); (focus (intro hc _ _; (try simp only [Bool.and_eq_true, Bool.not_eq_true', Bool.true_and] at hc); go_simp; exact ⟨rfl, rfl⟩)); (focus (intro hc _ _; with_reducible (exact and_any _ _ _))); simp only [Act.put, List.setIfInBounds_toArray, List.set_cons_zero, List.set_cons_succ]))
  refine text_nil (HG.out _ ?_)
  clear HG G
  apply store_step; (focus rfl); (focus (intro _ _; apply Exists.intro; apply Exists.intro; go_simp; with_reducible rfl))
  try simp only [Act.put, List.setIfInBounds_toArray, List.set_cons_zero, List.set_cons_succ]
  repeat (apply both_val; (focus rfl); (focus (intro _; go_simp; with_reducible rfl)); simp only [Act.put, List.setIfInBounds_toArray, List.set_cons_zero, List.set_cons_succ])
  refine both_nil (HF.out _ _ (fun mx dx => ?_))
  clear HF F
  go_wp2
  go_returns
  exact Pure.of rfl (by (repeat' (first | (with_reducible exact Below.refl _ _) | (with_reducible refine Below.ext_mk ?_ ?_ _ _) | (with_reducible refine Below.alloc ?_ ?_ _) | (with_reducible refine Below.drew ?_) | (with_reducible refine Below.setCell ?_ ?_ _) | go_size)))

/-- Whether a number fits a width. -/
def fits (n : BitVec 128) (k : Int) : Bool := decide (n &&& maskOf k = n)
theorem fits_any (n : BitVec 128) (k : Int) (h1 : -9223372036854775808 ≤ k) (h2 : k ≤ 9223372036854775807) (w : World) :
    Calls Try.prog 29 #[nv n, .int .i64 k] w (Pure (.bool (fits n k)) w) := by
  go_enter Try.func29, Try.ntmps29
  go_wp2
  refine wp_region_ext (by kernel_rfl) (by kernel_rfl) (fun F hF => ?_)
  have HF := hid hF; clear hF
  repeat (first
    | (apply text_skip; (focus rfl); simp only [Act.put, List.setIfInBounds_toArray, List.set_cons_zero, List.set_cons_succ])
    | (apply text_val; (focus rfl); (focus (intro _ _; go_simp; with_reducible rfl)); simp only [Act.put, List.setIfInBounds_toArray, List.set_cons_zero, List.set_cons_succ])
    | (apply text_call; (focus rfl); (focus (intro _ _; go_simp; exact ⟨rfl, rfl⟩)); (focus (intro _ _; with_reducible (exact cut_any _ _ h1 h2 _))); simp only [Act.put, List.setIfInBounds_toArray, List.set_cons_zero, List.set_cons_succ])
    | (apply text_if; (focus (first | exact wanted_t rfl rfl | exact wanted_f rfl rfl | exact wanted_gt rfl rfl | exact wanted_gf rfl rfl)); (focus (intro hc _ _; (try simp only [Bool.and_eq_true, Bool.not_eq_true', Bool.true_and] at hc); go_simp; with_reducible rfl)); simp only [Act.put, List.setIfInBounds_toArray, List.set_cons_zero, List.set_cons_succ])
    | (apply text_if_call; (focus (first | exact wanted_t rfl rfl | exact wanted_f rfl rfl | exact wanted_gt rfl rfl | exact wanted_gf rfl rfl)); (focus (intro hc _ _; (try simp only [Bool.and_eq_true, Bool.not_eq_true', Bool.true_and] at hc); go_simp; exact ⟨rfl, rfl⟩)); (focus (intro hc _ _; with_reducible (exact cut_any _ _ h1 h2 _))); simp only [Act.put, List.setIfInBounds_toArray, List.set_cons_zero, List.set_cons_succ]))
  refine text_nil (HF.out _ (fun mx dx => ?_))
  clear HF F
  go_wp2
  go_returns
  exact Pure.of rfl (by (repeat' (first | (with_reducible exact Below.refl _ _) | (with_reducible refine Below.ext_mk ?_ ?_ _ _) | (with_reducible refine Below.alloc ?_ ?_ _) | (with_reducible refine Below.drew ?_) | (with_reducible refine Below.setCell ?_ ?_ _) | go_size)))

theorem shl_any (n : BitVec 128) (k u : Int) (h1 : -9223372036854775808 ≤ k) (h2 : k ≤ 9223372036854775807) (h3 : -9223372036854775808 ≤ u) (h4 : u ≤ 9223372036854775807) (w : World) :
    Calls Try.prog 38 #[nv n, .int .i64 k, .int .i64 u] w (Pure (nv ((n <<< (sh k).toNat) &&& maskOf u)) w) := by
  have b1 := sh_lo k
  have b2 := sh_hi k
  by_cases hs : 64 ≤ sh k
  · have e := nv_shl_ge n _ hs
    go_enter Try.func38, Try.ntmps38
    go_wp2_with (first
      | (go_at_call 51; refine (shift_any _ h1 h2 _).mono ?_; rintro e w' ⟨rfl, m, d, rfl⟩)
      | (go_at_call 42; refine (cut_any _ _ h3 h4 _).mono ?_; rintro e w' ⟨rfl, m, d, rfl⟩))
    go_returns
    exact Pure.of rfl (by (repeat' (first | (with_reducible exact Below.refl _ _) | (with_reducible refine Below.ext_mk ?_ ?_ _ _) | (with_reducible refine Below.alloc ?_ ?_ _) | (with_reducible refine Below.drew ?_) | (with_reducible refine Below.setCell ?_ ?_ _) | go_size)))
  · have e := nv_shl_lt n _ b1 (by omega)
    go_enter Try.func38, Try.ntmps38
    go_wp2_with (first
      | (go_at_call 51; refine (shift_any _ h1 h2 _).mono ?_; rintro e w' ⟨rfl, m, d, rfl⟩)
      | (go_at_call 42; refine (cut_any _ _ h3 h4 _).mono ?_; rintro e w' ⟨rfl, m, d, rfl⟩))
    go_returns
    exact Pure.of rfl (by (repeat' (first | (with_reducible exact Below.refl _ _) | (with_reducible refine Below.ext_mk ?_ ?_ _ _) | (with_reducible refine Below.alloc ?_ ?_ _) | (with_reducible refine Below.drew ?_) | (with_reducible refine Below.setCell ?_ ?_ _) | go_size)))

end Go.Proofs.Ytkblldmpdihamaa
