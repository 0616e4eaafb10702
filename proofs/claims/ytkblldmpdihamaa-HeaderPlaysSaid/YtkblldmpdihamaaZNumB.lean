/-
  Or, Of, Bit of package num.
-/
import Derived.Test.YtkblldmpdihamaaZNum
set_option linter.unusedVariables false
set_option linter.unusedSimpArgs false
namespace Go.Proofs.Ytkblldmpdihamaa
open Go.RowKit

theorem or1_any (x y : Int) (w : World) :
    Calls Try.prog 50 #[.int .u64 x, .int .u64 y] w (Pure (.int .u64 (bits BinOp.or .u64 x y)) w) := by
  go_enter Try.func50, Try.ntmps50
  go_wp2
  go_ret
  exact Pure.of rfl (by (repeat' (first | (with_reducible exact Below.refl _ _) | (with_reducible refine Below.ext_mk ?_ ?_ _ _) | (with_reducible refine Below.alloc ?_ ?_ _) | (with_reducible refine Below.drew ?_) | (with_reducible refine Below.setCell ?_ ?_ _) | go_size)))
theorem or_any (x y : BitVec 128) (w : World) :
    Calls Try.prog 37 #[nv x, nv y] w (Pure (nv (x ||| y)) w) := by
  go_enter Try.func37, Try.ntmps37
  go_wp2_with (go_at_call 49; refine (both_any 50 (fun _ _ => by kernel_rfl) _ or1_any _ _ _).mono ?_; rintro e w' ⟨rfl, m1, d1, rfl⟩)
  go_returns
  exact Pure.of (by rw [or_hi, or_lo]) (by (repeat' (first | (with_reducible exact Below.refl _ _) | (with_reducible refine Below.ext_mk ?_ ?_ _ _) | (with_reducible refine Below.alloc ?_ ?_ _) | (with_reducible refine Below.drew ?_) | (with_reducible refine Below.setCell ?_ ?_ _) | go_size)))

/-- A number below 2^64. -/
def ofN (x : Nat) : BitVec 128 := BitVec.ofNat 128 x
theorem nv_of (x : Nat) (h : x < 18446744073709551616) : nv (ofN x) = .agg #[.int .u64 0, .int .u64 (x : Int)] := by
  have e : (ofN x).toNat = x := by unfold ofN; simp; omega
  unfold nv hi lo
  rw [e, Nat.div_eq_of_lt h, Nat.mod_eq_of_lt h]; rfl
theorem of_any (x : Nat) (h : x < 18446744073709551616) (w : World) :
    Calls Try.prog 39 #[.int .u64 (x : Int)] w (Pure (nv (ofN x)) w) := by
  rw [nv_of x h]
  go_enter Try.func39, Try.ntmps39
  go_wp2
  go_returns
  exact Pure.of rfl (by (repeat' (first | (with_reducible exact Below.refl _ _) | (with_reducible refine Below.ext_mk ?_ ?_ _ _) | (with_reducible refine Below.alloc ?_ ?_ _) | (with_reducible refine Below.drew ?_) | (with_reducible refine Below.setCell ?_ ?_ _) | go_size)))
theorem rof_any (x : Nat) (h : x < 18446744073709551616) (w : World) :
    Calls Try.prog 27 #[.int .u64 (x : Int)] w (Pure (nv (ofN x)) w) := by
  rw [nv_of x h]
  go_enter Try.func27, Try.ntmps27
  go_wp2
  go_returns
  exact Pure.of rfl (by (repeat' (first | (with_reducible exact Below.refl _ _) | (with_reducible refine Below.ext_mk ?_ ?_ _ _) | (with_reducible refine Below.alloc ?_ ?_ _) | (with_reducible refine Below.drew ?_) | (with_reducible refine Below.setCell ?_ ?_ _) | go_size)))

/-- A number's bit. -/
def bitV (n : BitVec 128) (i : Int) : Bool := decide (0 ≤ i) && (decide (i < 128) && n.getLsbD i.toNat)
theorem odd_lo (n : BitVec 128) : (bits BinOp.and .u64 (lo n) 1 == 1) = n.getLsbD 0 := by
  unfold lo
  rw [show (1 : Int) = ((1 : Nat) : Int) from rfl, bits_and_u64_nat _ _ (lo_nat n) (by decide)]
  rw [Bool.eq_iff_iff]
  simp [BitVec.getLsbD, Nat.testBit_eq_decide_div_mod_eq]
  omega
theorem lo_field (n : BitVec 128) (w : World) : (Instr.field 45 (nv n) 1).run Try.prog w = .ok (.int .u64 (lo n)) w := by kernel_rfl
set_option maxHeartbeats 1000000 in
theorem bit_any (n : BitVec 128) (i : Int) (h1 : -9223372036854775808 ≤ i) (h2 : i ≤ 9223372036854775807) (w : World) :
    Calls Try.prog 41 #[nv n, .int .i64 i] w (Pure (.bool (bitV n i)) w) := by
  have S := fun W => shr_any n i h1 h2 W
  have hfl := fun W => lo_field (n >>> (sh i).toNat) W
  by_cases hr : 0 ≤ i ∧ i < 128
  · obtain ⟨r1, r2⟩ := hr
    have hb : bitV n i = (bits BinOp.and .u64 (lo (n >>> (sh i).toNat)) 1 == 1) := by
      rw [odd_lo]
      unfold bitV sh
      rw [show max 0 (min i 128) = i by omega]
      simp [r1, r2]
    rw [hb]
    clear hb
    generalize n >>> (sh i).toNat = x at *
    go_enter Try.func41, Try.ntmps41
    go_upto_region 1 with (fail)
    refine wp_region_seq (fun F hF => ?_)
    have HF := hid hF; clear hF
    repeat (first
      | (apply text_skip; (focus rfl); simp only [Act.put, List.setIfInBounds_toArray, List.set_cons_zero, List.set_cons_succ])
      | (apply text_val; (focus rfl); (focus (intro _ _; go_simp; with_reducible rfl)); simp only [Act.put, List.setIfInBounds_toArray, List.set_cons_zero, List.set_cons_succ])
      | (apply text_call; (focus rfl); (focus (intro _ _; go_simp; exact ⟨rfl, rfl⟩)); (focus (intro _ _; with_reducible (exact S _))); simp only [Act.put, List.setIfInBounds_toArray, List.set_cons_zero, List.set_cons_succ])
      | (apply text_if; (focus (first | exact wanted_t rfl rfl | exact wanted_f rfl rfl | exact wanted_gt rfl rfl | exact wanted_gf rfl rfl)); (focus (intro hc _ _; (try simp only [Bool.and_eq_true, Bool.not_eq_true', Bool.true_and] at hc); go_simp; with_reducible rfl)); simp only [Act.put, List.setIfInBounds_toArray, List.set_cons_zero, List.set_cons_succ])
      | (apply text_if_call; (focus (first | exact wanted_t rfl rfl | exact wanted_f rfl rfl | exact wanted_gt rfl rfl | exact wanted_gf rfl rfl)); (focus (intro hc _ _; (try simp only [Bool.and_eq_true, Bool.not_eq_true', Bool.true_and] at hc); go_simp; exact ⟨rfl, rfl⟩)); (focus (intro hc _ _; with_reducible (exact S _))); simp only [Act.put, List.setIfInBounds_toArray, List.set_cons_zero, List.set_cons_succ]))
    refine text_nil (HF.out _ (fun mx dx => ?_))
    clear HF F
    go_wp2_with fail
    go_returns
    exact Pure.of rfl (by (repeat' (first | (with_reducible exact Below.refl _ _) | (with_reducible refine Below.ext_mk ?_ ?_ _ _) | (with_reducible refine Below.alloc ?_ ?_ _) | (with_reducible refine Below.drew ?_) | (with_reducible refine Below.setCell ?_ ?_ _) | go_size)))
  · have hb : bitV n i = false := by
      unfold bitV
      by_cases r1 : 0 ≤ i
      · have : ¬ i < 128 := by omega
        simp [this]
      · simp [r1]
    rw [hb]
    clear hb
    by_cases r1 : 0 ≤ i
    · have r2 : ¬ i < 128 := by omega
      clear hr
      go_enter Try.func41, Try.ntmps41
      go_upto_region 1 with (fail)
      refine wp_region_seq (fun F hF => ?_)
      have HF := hid hF; clear hF
      repeat (first
        | (apply text_skip; (focus rfl); simp only [Act.put, List.setIfInBounds_toArray, List.set_cons_zero, List.set_cons_succ])
        | (apply text_val; (focus rfl); (focus (intro _ _; go_simp; with_reducible rfl)); simp only [Act.put, List.setIfInBounds_toArray, List.set_cons_zero, List.set_cons_succ])
        | (apply text_if; (focus (first | exact wanted_t rfl rfl | exact wanted_f rfl rfl | exact wanted_gt rfl rfl | exact wanted_gf rfl rfl)); (focus (intro hc _ _; (try simp only [Bool.and_eq_true, Bool.not_eq_true', Bool.true_and] at hc); go_simp; with_reducible rfl)); simp only [Act.put, List.setIfInBounds_toArray, List.set_cons_zero, List.set_cons_succ]))
      refine text_nil (HF.out _ (fun mx dx => ?_))
      clear HF F
      go_wp2_with fail
      go_returns
      exact Pure.of rfl (by (repeat' (first | (with_reducible exact Below.refl _ _) | (with_reducible refine Below.ext_mk ?_ ?_ _ _) | (with_reducible refine Below.alloc ?_ ?_ _) | (with_reducible refine Below.drew ?_) | (with_reducible refine Below.setCell ?_ ?_ _) | go_size)))
    · clear hr
      go_enter Try.func41, Try.ntmps41
      go_upto_region 1 with (fail)
      refine wp_region_seq (fun F hF => ?_)
      have HF := hid hF; clear hF
      repeat (first
        | (apply text_skip; (focus rfl); simp only [Act.put, List.setIfInBounds_toArray, List.set_cons_zero, List.set_cons_succ])
        | (apply text_val; (focus rfl); (focus (intro _ _; go_simp; with_reducible rfl)); simp only [Act.put, List.setIfInBounds_toArray, List.set_cons_zero, List.set_cons_succ])
        | (apply text_if; (focus (first | exact wanted_t rfl rfl | exact wanted_f rfl rfl | exact wanted_gt rfl rfl | exact wanted_gf rfl rfl)); (focus (intro hc _ _; (try simp only [Bool.and_eq_true, Bool.not_eq_true', Bool.true_and] at hc); go_simp; with_reducible rfl)); simp only [Act.put, List.setIfInBounds_toArray, List.set_cons_zero, List.set_cons_succ]))
      refine text_nil (HF.out _ (fun mx dx => ?_))
      clear HF F
      go_wp2_with fail
      go_returns
      exact Pure.of rfl (by (repeat' (first | (with_reducible exact Below.refl _ _) | (with_reducible refine Below.ext_mk ?_ ?_ _ _) | (with_reducible refine Below.alloc ?_ ?_ _) | (with_reducible refine Below.drew ?_) | (with_reducible refine Below.setCell ?_ ?_ _) | go_size)))
end Go.Proofs.Ytkblldmpdihamaa
