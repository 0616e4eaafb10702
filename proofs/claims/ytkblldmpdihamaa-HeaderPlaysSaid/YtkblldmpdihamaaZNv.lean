/-
  Numbers of 128 bits as Go's two halves.
-/
import Derived.Test.YtkblldmpdihamaaZT
import Derived.Laws.Bits64
import Derived.Laws.Bits64b
set_option linter.unusedVariables false
set_option linter.unusedSimpArgs false
namespace Go
open Go.RowKit

/-- The halves of a number of 128 bits. -/
def hi (n : BitVec 128) : Int := ((n.toNat / 18446744073709551616 : Nat) : Int)
def lo (n : BitVec 128) : Int := ((n.toNat % 18446744073709551616 : Nat) : Int)
/-- A number as Go holds it. -/
abbrev nv (n : BitVec 128) : Value := .agg #[.int .u64 (hi n), .int .u64 (lo n)]

theorem hi_nat (n : BitVec 128) : n.toNat / 18446744073709551616 < 18446744073709551616 := by have := n.isLt; omega
theorem lo_nat (n : BitVec 128) : n.toNat % 18446744073709551616 < 18446744073709551616 := Nat.mod_lt _ (by omega)
theorem hi_lo (n : BitVec 128) : 0 ≤ hi n ∧ hi n ≤ 18446744073709551615 := by have := hi_nat n; unfold hi; omega
theorem lo_lo (n : BitVec 128) : 0 ≤ lo n ∧ lo n ≤ 18446744073709551615 := by have := lo_nat n; unfold lo; omega
theorem p64 : (18446744073709551616 : Nat) = 2 ^ 64 := by decide

/-- A number by its halves. -/
theorem nv_ext {a b : BitVec 128} (h1 : hi a = hi b) (h2 : lo a = lo b) : a = b := by
  apply BitVec.eq_of_toNat_eq
  unfold hi at h1; unfold lo at h2
  omega
def nmk (x y : Int) : BitVec 128 := BitVec.ofNat 128 (x.toNat * 18446744073709551616 + y.toNat)
theorem hi_nmk {x y : Int} (h1 : 0 ≤ x) (h2 : x ≤ 18446744073709551615) (h3 : 0 ≤ y) (h4 : y ≤ 18446744073709551615) : hi (nmk x y) = x := by
  unfold hi nmk; simp; omega
theorem lo_nmk {x y : Int} (h1 : 0 ≤ x) (h2 : x ≤ 18446744073709551615) (h3 : 0 ≤ y) (h4 : y ≤ 18446744073709551615) : lo (nmk x y) = y := by
  unfold lo nmk; simp; omega
theorem nv_nmk {x y : Int} (h1 : 0 ≤ x) (h2 : x ≤ 18446744073709551615) (h3 : 0 ≤ y) (h4 : y ≤ 18446744073709551615) : nv (nmk x y) = .agg #[.int .u64 x, .int .u64 y] := by
  unfold nv; rw [hi_nmk h1 h2 h3 h4, lo_nmk h1 h2 h3 h4]

theorem and_hi (a b : BitVec 128) : bits .and .u64 (hi a) (hi b) = hi (a &&& b) := by
  unfold hi; rw [bits_and_u64_nat _ _ (hi_nat a) (hi_nat b)]
  simp only [BitVec.toNat_and, p64, ← Nat.shiftRight_eq_div_pow, Nat.shiftRight_and_distrib]
theorem and_lo (a b : BitVec 128) : bits .and .u64 (lo a) (lo b) = lo (a &&& b) := by
  unfold lo; rw [bits_and_u64_nat _ _ (lo_nat a) (lo_nat b)]
  simp only [BitVec.toNat_and, p64, Nat.and_mod_two_pow]
theorem xor_hi (a b : BitVec 128) : bits .xor .u64 (hi a) (hi b) = hi (a ^^^ b) := by
  unfold hi; rw [bits_xor_u64_nat _ _ (hi_nat a) (hi_nat b)]
  simp only [BitVec.toNat_xor, p64, ← Nat.shiftRight_eq_div_pow, Nat.shiftRight_xor_distrib]
theorem xor_lo (a b : BitVec 128) : bits .xor .u64 (lo a) (lo b) = lo (a ^^^ b) := by
  unfold lo; rw [bits_xor_u64_nat _ _ (lo_nat a) (lo_nat b)]
  simp only [BitVec.toNat_xor, p64, Nat.xor_mod_two_pow]
theorem or_hi (a b : BitVec 128) : bits .or .u64 (hi a) (hi b) = hi (a ||| b) := by
  unfold hi; rw [bits_or_u64_nat _ _ (hi_nat a) (hi_nat b)]
  simp only [BitVec.toNat_or, p64, ← Nat.shiftRight_eq_div_pow, Nat.shiftRight_or_distrib]
theorem or_lo (a b : BitVec 128) : bits .or .u64 (lo a) (lo b) = lo (a ||| b) := by
  unfold lo; rw [bits_or_u64_nat _ _ (lo_nat a) (lo_nat b)]
  simp only [BitVec.toNat_or, p64, Nat.or_mod_two_pow]

theorem shr_hi_lt (n : BitVec 128) (s : Nat) (h : s < 64) : (n.toNat / 2 ^ 64) / 2 ^ s = (n >>> s).toNat / 2 ^ 64 := by
  simp only [BitVec.toNat_ushiftRight, Nat.shiftRight_eq_div_pow, Nat.div_div_eq_div_mul, Nat.mul_comm]
theorem shr_lo_lt (n : BitVec 128) (s : Nat) (h : s < 64) : (n.toNat % 2 ^ 64) / 2 ^ s ||| (n.toNat / 2 ^ 64 * 2 ^ (64 - s)) % 2 ^ 64 = (n >>> s).toNat % 2 ^ 64 := by
  apply Nat.eq_of_testBit_eq
  intro i
  simp only [BitVec.toNat_ushiftRight, Nat.testBit_or, Nat.testBit_mod_two_pow, Nat.testBit_div_two_pow, Nat.testBit_shiftRight, Nat.testBit_mul_two_pow]
  by_cases h1 : i < 64
  · by_cases h2 : i + s < 64
    · have h3 : ¬ (64 - s ≤ i) := by omega
      simp [h1, h3, Nat.add_comm]; intro _; omega
    · have h3 : 64 - s ≤ i := by omega
      have h4 : i - (64 - s) + 64 = s + i := by omega
      simp [h1, h2, h3, h4]
  · have h2 : ¬ (i + s < 64) := by omega
    simp [h1, h2]
theorem shr_ge (n : BitVec 128) (s : Nat) (h1 : 64 ≤ s) : (n >>> s).toNat = n.toNat / 2 ^ 64 / 2 ^ (s - 64) := by
  rw [BitVec.toNat_ushiftRight, Nat.shiftRight_eq_div_pow, Nat.div_div_eq_div_mul, ← Nat.pow_add]
  congr 2; omega

theorem wrap_u64_nat (x : Nat) : IntKind.u64.wrap (x : Int) = ((x % 18446744073709551616 : Nat) : Int) := by
  rw [IntKind.wrap_u64]; omega

theorem nv_shr_lt (n : BitVec 128) (s : Int) (h1 : 0 ≤ s) (h2 : s < 64) :
    (.agg #[.int .u64 (hi n / 2 ^ s.toNat), .int .u64 (bits BinOp.or IntKind.u64 (lo n / 2 ^ s.toNat) (IntKind.u64.wrap (hi n * 2 ^ (64 - s).toNat)))] : Value) = nv (n >>> s.toNat) := by
  obtain ⟨k, rfl⟩ := Int.eq_ofNat_of_zero_le h1
  have hk : k < 64 := by omega
  have e1 := shr_hi_lt n k hk
  have e2 := shr_lo_lt n k hk
  have e3 : ((64 : Int) - (k : Int)).toNat = 64 - k := by omega
  have e4 : n.toNat % 2 ^ 64 / 2 ^ k < 18446744073709551616 := Nat.lt_of_le_of_lt (Nat.div_le_self _ _) (lo_nat n)
  simp only [nv, hi, lo, e3, Int.toNat_natCast, p64] at *
  have e5 : (((n.toNat / 2 ^ 64 : Nat) : Int) * 2 ^ (64 - k)) = ((n.toNat / 2 ^ 64 * 2 ^ (64 - k) : Nat) : Int) := by simp
  have e6 : (((n.toNat % 2 ^ 64 : Nat) : Int) / 2 ^ k) = ((n.toNat % 2 ^ 64 / 2 ^ k : Nat) : Int) := by simp
  have e7 : (((n.toNat / 2 ^ 64 : Nat) : Int) / 2 ^ k) = ((n.toNat / 2 ^ 64 / 2 ^ k : Nat) : Int) := by simp
  rw [e5, e6, e7, wrap_u64_nat, p64, bits_or_u64_nat _ _ (by rw [p64]; exact e4) (by rw [p64]; exact Nat.mod_lt _ (by decide)), e1, e2]
theorem nv_shr_ge (n : BitVec 128) (s : Int) (h1 : 64 ≤ s) :
    (.agg #[.int .u64 0, .int .u64 (hi n / 2 ^ (s - 64).toNat)] : Value) = nv (n >>> s.toNat) := by
  obtain ⟨k, rfl⟩ := Int.eq_ofNat_of_zero_le (show 0 ≤ s by omega)
  have e1 := shr_ge n k (by omega)
  have e3 : ((k : Int) - 64).toNat = k - 64 := by omega
  have e4 : n.toNat / 2 ^ 64 / 2 ^ (k - 64) < 2 ^ 64 := Nat.lt_of_le_of_lt (Nat.div_le_self _ _) (by have := hi_nat n; rw [p64] at this; exact this)
  simp only [nv, hi, lo, e3, Int.toNat_natCast, p64, e1] at *
  have e7 : (((n.toNat / 2 ^ 64 : Nat) : Int) / 2 ^ (k - 64)) = ((n.toNat / 2 ^ 64 / 2 ^ (k - 64) : Nat) : Int) := by simp
  rw [e7, Nat.div_eq_of_lt e4, Nat.mod_eq_of_lt e4]
  rfl

theorem shl_hi_lt (n : BitVec 128) (s : Nat) (h : s < 64) : (n.toNat / 2 ^ 64 * 2 ^ s) % 2 ^ 64 ||| (n.toNat % 2 ^ 64) / 2 ^ (64 - s) = (n <<< s).toNat / 2 ^ 64 := by
  apply Nat.eq_of_testBit_eq
  intro i
  simp only [BitVec.toNat_shiftLeft, Nat.testBit_or, Nat.testBit_mod_two_pow, Nat.testBit_div_two_pow, Nat.testBit_shiftLeft, Nat.testBit_mul_two_pow]
  by_cases h1 : i < 64
  · have h5 : i + 64 < 128 := by omega
    have h6 : i + 64 ≥ s := by omega
    by_cases h2 : s ≤ i
    · have h3 : ¬ (i + (64 - s) < 64) := by omega
      have h4 : i - s + 64 = i + 64 - s := by omega
      simp [h1, h2, h3, h4, h5, h6]
    · have h3 : i + (64 - s) < 64 := by omega
      have h4 : i + (64 - s) = i + 64 - s := by omega
      rw [h4] at h3 ⊢
      simp [h1, h2, h3, h5, h6]
  · have h5 : ¬ (i + 64 < 128) := by omega
    have h3 : ¬ (i + (64 - s) < 64) := by omega
    simp [h1, h3, h5]
theorem shl_lo_lt (n : BitVec 128) (s : Nat) (h : s < 64) : (n.toNat % 2 ^ 64 * 2 ^ s) % 2 ^ 64 = (n <<< s).toNat % 2 ^ 64 := by
  rw [BitVec.toNat_shiftLeft, Nat.shiftLeft_eq, Nat.mod_mod_of_dvd _ (by decide : 2 ^ 64 ∣ 2 ^ 128), Nat.mod_mul_mod]
theorem shl_ge (n : BitVec 128) (s : Nat) (h1 : 64 ≤ s) : (n <<< s).toNat = (n.toNat % 2 ^ 64 * 2 ^ (s - 64)) % 2 ^ 64 * 2 ^ 64 := by
  apply Nat.eq_of_testBit_eq
  intro i
  simp only [BitVec.toNat_shiftLeft, Nat.testBit_mod_two_pow, Nat.testBit_shiftLeft, Nat.testBit_mul_two_pow]
  by_cases h2 : i < 128
  · by_cases h3 : s ≤ i
    · have h4 : 64 ≤ i := by omega
      have h5 : i - 64 < 64 := by omega
      have h6 : s - 64 ≤ i - 64 := by omega
      have h7 : i - 64 - (s - 64) = i - s := by omega
      have h8 : i - s < 64 := by omega
      simp [h2, h3, h4, h5, h6, h7, h8]
    · by_cases h4 : 64 ≤ i
      · have h6 : ¬ (s - 64 ≤ i - 64) := by omega
        simp [h3, h6]
      · simp [h3, h4]
  · have h5 : ¬ (i - 64 < 64) := by omega
    simp [h2, h5]

theorem nv_shl_lt (n : BitVec 128) (s : Int) (h1 : 0 ≤ s) (h2 : s < 64) :
    (.agg #[.int .u64 (bits BinOp.or IntKind.u64 (IntKind.u64.wrap (hi n * 2 ^ s.toNat)) (lo n / 2 ^ (64 - s).toNat)), .int .u64 (IntKind.u64.wrap (lo n * 2 ^ s.toNat))] : Value) = nv (n <<< s.toNat) := by
  obtain ⟨k, rfl⟩ := Int.eq_ofNat_of_zero_le h1
  have hk : k < 64 := by omega
  have e1 := shl_hi_lt n k hk
  have e2 := shl_lo_lt n k hk
  have e3 : ((64 : Int) - (k : Int)).toNat = 64 - k := by omega
  have e4 : n.toNat % 2 ^ 64 / 2 ^ (64 - k) < 18446744073709551616 := Nat.lt_of_le_of_lt (Nat.div_le_self _ _) (lo_nat n)
  simp only [nv, hi, lo, e3, Int.toNat_natCast, p64] at *
  have e5 : (((n.toNat / 2 ^ 64 : Nat) : Int) * 2 ^ k) = ((n.toNat / 2 ^ 64 * 2 ^ k : Nat) : Int) := by simp
  have e6 : (((n.toNat % 2 ^ 64 : Nat) : Int) / 2 ^ (64 - k)) = ((n.toNat % 2 ^ 64 / 2 ^ (64 - k) : Nat) : Int) := by simp
  have e7 : (((n.toNat % 2 ^ 64 : Nat) : Int) * 2 ^ k) = ((n.toNat % 2 ^ 64 * 2 ^ k : Nat) : Int) := by simp
  rw [e5, e6, e7, wrap_u64_nat, wrap_u64_nat, p64, bits_or_u64_nat _ _ (by rw [p64]; exact Nat.mod_lt _ (by decide)) (by rw [p64]; exact e4), e1, e2]
theorem nv_shl_ge (n : BitVec 128) (s : Int) (h1 : 64 ≤ s) :
    (.agg #[.int .u64 (IntKind.u64.wrap (lo n * 2 ^ (s - 64).toNat)), .int .u64 0] : Value) = nv (n <<< s.toNat) := by
  obtain ⟨k, rfl⟩ := Int.eq_ofNat_of_zero_le (show 0 ≤ s by omega)
  have e1 := shl_ge n k (by omega)
  have e3 : ((k : Int) - 64).toNat = k - 64 := by omega
  simp only [nv, hi, lo, e3, Int.toNat_natCast, p64, e1] at *
  have e7 : (((n.toNat % 2 ^ 64 : Nat) : Int) * 2 ^ (k - 64)) = ((n.toNat % 2 ^ 64 * 2 ^ (k - 64) : Nat) : Int) := by simp
  rw [e7, wrap_u64_nat, p64, Nat.mul_div_cancel _ (by decide), Nat.mul_mod_left]
  rfl

/-- Two ways that differ in a bool alone are one. -/
@[go_sem] theorem ite_ok_next (c : Prop) [Decidable c] (x y : Bool) (w : World) :
    (if c then Result.ok (Next.value (.bool x)) w else Result.ok (Next.value (.bool y)) w) = Result.ok (Next.value (.bool (if c then x else y))) w := by split <;> rfl
@[go_sem] theorem ite_ok_val (c : Prop) [Decidable c] (x y : Bool) (w : World) :
    (if c then Result.ok (Value.bool x) w else Result.ok (Value.bool y) w) = Result.ok (Value.bool (if c then x else y)) w := by split <;> rfl
theorem nv_inj {a b : BitVec 128} : (hi a = hi b ∧ lo a = lo b) ↔ a = b := ⟨fun h => nv_ext h.1 h.2, fun h => by rw [h]; exact ⟨rfl, rfl⟩⟩
@[go_sem] theorem nv_beq (a b : BitVec 128) : (decide (hi a = hi b) && decide (lo a = lo b)) = decide (a = b) := by
  rw [Bool.eq_iff_iff]; simp [nv_inj]
@[go_sem] theorem nv_beq0 (a : BitVec 128) : (decide (hi a = 0) && decide (lo a = 0)) = decide (a = 0#128) := by
  have := nv_beq a 0#128
  rwa [show hi 0#128 = 0 from rfl, show lo 0#128 = 0 from rfl] at this
end Go
