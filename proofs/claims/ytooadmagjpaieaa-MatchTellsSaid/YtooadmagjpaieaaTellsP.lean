/-
  The plain law of MatchTells: both tellings compute the same.
-/
import Derived.Test.YtooadmagjpaieaaRefM2
import Derived.Test.YtooadmagjpaieaaRefM3
set_option linter.unusedVariables false
set_option linter.unusedSimpArgs false
namespace Go.Proofs.Ytooadmagjpaieaa
open Go.RowKit

theorem bt_and (x y : BitVec 128) (i : Nat) : bt (x &&& y) i = (bt x i && bt y i) := by unfold bt; exact BitVec.getLsbD_and
theorem bt_xor (x y : BitVec 128) (i : Nat) : bt (x ^^^ y) i = (bt x i != bt y i) := by unfold bt; simp
theorem ones_all : (340282366920938463463374607431768211455#128 : BitVec 128) = BitVec.allOnes 128 := by decide
theorem bt_mask (k : Int) {i : Nat} (hi : i < 128) : bt (maskOf k) i = decide ((i : Int) < k) := by
  unfold maskOf bt
  split
  · simp; omega
  · rw [ones_all, BitVec.getLsbD_ushiftRight, BitVec.getLsbD_allOnes]
    by_cases h : (i : Int) < k
    · simp only [h, decide_true, decide_eq_true_eq]; omega
    · simp only [h, decide_false, decide_eq_false_iff_not]; omega
theorem bt_zero (i : Nat) : bt 0#128 i = false := by unfold bt; simp
theorem bv_iff {a b : BitVec 128} : a = b ↔ ∀ i, i < 128 → bt a i = bt b i := ⟨fun h _ _ => h ▸ rfl, bt_ext⟩
theorem nOf_mask (k : Int) : nOf (maskF k) = maskOf k := bt_ext fun i h => by rw [bt_nOf _ h, bt_mask k h]; rfl
theorem nOf_and (x y : BitVec 128) : nOf (andF x y) = x &&& y := bt_ext fun i h => by rw [bt_nOf _ h, bt_and]; rfl
theorem nOf_xor (x y : BitVec 128) : nOf (xorF x y) = x ^^^ y := bt_ext fun i h => by rw [bt_nOf _ h, bt_xor]; rfl
theorem nOf_cut (n : BitVec 128) (k : Int) : nOf (cutF n k) = n &&& maskOf k := bt_ext fun i h => by rw [bt_nOf _ h, bt_and, bt_mask k h]; rfl
theorem rfits_fits (n : BitVec 128) (k : Int) : rfits n k = fits n k := by unfold rfits fits; rw [nOf_cut]
theorem fits_iff {n : BitVec 128} {k : Int} : fits n k = true ↔ ∀ i, i < 128 → bt n i = true → (i : Int) < k := by
  unfold fits
  rw [decide_eq_true_eq, bv_iff]
  constructor
  · intro h i hi hb
    have := h i hi
    rw [bt_and, bt_mask k hi, hb] at this
    simpa using this
  · intro h i hi
    rw [bt_and, bt_mask k hi]
    cases e : bt n i
    · simp
    · simp [h i hi e]
theorem rW_isW (u : Int) : rW u = isW u := rfl
theorem rmasked_made (n m : BitVec 128) (u : Int) : rmasked n m u = madeV n m u := by
  unfold rmasked madeV; rw [rfits_fits, rfits_fits, nOf_and, rW_isW]
theorem rexact_made (n : BitVec 128) (u : Int) : rexact n u = madeV n (maskOf u) u := by
  unfold rexact; rw [rmasked_made, nOf_mask]

theorem high_top {l u : Int} (h1 : 0 ≤ l) (h2 : l ≤ u) (h3 : u ≤ 128) {i : Nat} (hi : i < 128) : bt (highOf l u) i = (decide ((i : Int) < u) && decide (u - l ≤ (i : Int))) := by
  have ew : wrap64 (u - l) = u - l := by unfold wrap64; omega
  have es : (sh (u - l)).toNat = (u - l).toNat := by unfold sh; omega
  unfold highOf
  rw [bt_and, bt_mask u hi, ew, es]
  have e : bt (maskOf l <<< (u - l).toNat) i = (!decide (i < (u - l).toNat) && bt (maskOf l) (i - (u - l).toNat)) := by
    unfold bt; rw [BitVec.getLsbD_shiftLeft]; simp [hi]
  rw [e, bt_mask l (by omega)]
  by_cases a : (i : Int) < u <;> by_cases b : u - l ≤ (i : Int)
  · have e1 : ¬ i < (u - l).toNat := by omega
    have e2 : ((i - (u - l).toNat : Nat) : Int) < l := by omega
    simp only [a, b, e1, e2]; simp
  · have e1 : i < (u - l).toNat := by omega
    simp only [a, b, e1]; simp
  · simp only [a]; simp
  · simp only [a]; simp
theorem top_high {l u : Int} (h1 : 0 ≤ l) (h2 : l ≤ u) (h3 : u ≤ 128) : topN l u = highOf l u := bt_ext fun i hi => by
  have ew : wrap64 (u - l) = u - l := by unfold wrap64; omega
  unfold topN
  rw [nOf_xor, bt_xor, nOf_mask, nOf_mask, bt_mask _ hi, bt_mask _ hi, high_top h1 h2 h3 hi, ew]
  by_cases a : (i : Int) < u <;> by_cases b : u - l ≤ (i : Int)
  · have e1 : ¬ (i : Int) < u - l := by omega
    simp only [a, b, e1]; simp
  · have e1 : (i : Int) < u - l := by omega
    simp only [a, b, e1]; simp
  · have e1 : ¬ (i : Int) < u - l := by omega
    simp only [a, e1]; simp
  · omega
theorem rprefix_prefix (n : BitVec 128) (l u : Int) : rprefix n l u = prefixV n l u := by
  unfold rprefix prefixV
  rw [rW_isW]
  cases hw : isW u
  · simp only [Bool.false_and]
    unfold madeV; rw [hw]; rfl
  · unfold isW at hw
    simp only [Bool.and_eq_true, decide_eq_true_eq] at hw
    simp only [Bool.true_and, if_true]
    split
    · rfl
    · rename_i h
      simp only [Bool.or_eq_true, decide_eq_true_eq, not_or, Int.not_lt] at h
      rw [rmasked_made, top_high h.1 h.2 hw.2]

theorem rmay_iff {v m : BitVec 128} {u : Int} : rmay v m u = true ↔ (1 ≤ u ∧ u ≤ 128) ∧ ∀ i, i < 128 → (bt v i = true → bt m i = true) ∧ (bt m i = true → (i : Int) < u) := by
  unfold rmay
  simp only [Bool.and_eq_true, decide_eq_true_eq, allB_iff]
  constructor
  · rintro ⟨h0, h⟩
    refine ⟨h0, fun i hi => ?_⟩
    have := h i hi
    unfold mayF at this
    cases e1 : bt v i <;> cases e2 : bt m i <;> simp [e1, e2] at this ⊢
    all_goals omega
  · rintro ⟨h0, h⟩
    refine ⟨h0, fun i hi => ?_⟩
    have := h i hi
    unfold mayF
    cases e1 : bt v i <;> cases e2 : bt m i <;> simp [e1, e2] at this ⊢
    all_goals omega
theorem mayB_rmay (v m : BitVec 128) (u : Int) : rmay v m u = mayB v m u := by
  rw [Bool.eq_iff_iff, rmay_iff]
  unfold mayB isW
  simp only [Bool.and_eq_true, decide_eq_true_eq]
  rw [fits_iff, fits_iff, bv_iff]
  constructor
  · rintro ⟨h0, h⟩
    refine ⟨⟨⟨h0, fun i hi e => (h i hi).2 ((h i hi).1 e)⟩, fun i hi e => (h i hi).2 e⟩, fun i hi => ?_⟩
    rw [bt_and]
    cases e1 : bt v i
    · rfl
    · rw [(h i hi).1 e1]; rfl
  · rintro ⟨⟨⟨h0, _⟩, h⟩, h'⟩
    refine ⟨h0, fun i hi => ⟨fun e => ?_, h i hi⟩⟩
    have := h' i hi
    rw [bt_and, e] at this
    simpa using this
theorem agrees_ragrees (v m n : BitVec 128) : ragrees v m n = agreesB v m n := by
  rw [Bool.eq_iff_iff]
  unfold ragrees agreesB
  rw [allB_iff, decide_eq_true_eq, bv_iff]
  constructor
  · intro h i hi
    have := h i hi
    unfold agreesF at this
    rw [bt_and]; simpa using this
  · intro h i hi
    have := h i hi
    rw [bt_and] at this
    unfold agreesF
    simpa using this
theorem within_rwithin (v m a b : BitVec 128) (u : Int) : rwithin v m a b u = (mayB v m u && mayB a b u && withinB v m a b) := by
  unfold rwithin
  rw [← mayB_rmay, ← mayB_rmay]
  cases hA : rmay v m u
  · rfl
  · cases hB : rmay a b u
    · rfl
    · rw [rmay_iff] at hA hB
      obtain ⟨⟨u1, u2⟩, hA⟩ := hA
      obtain ⟨_, hB⟩ := hB
      simp only [Bool.true_and]
      rw [Bool.eq_iff_iff, allB_iff]
      unfold withinB
      simp only [Bool.and_eq_true, decide_eq_true_eq]
      rw [bv_iff, bv_iff]
      constructor
      · intro h
        refine ⟨fun i hi => ?_, fun i hi => ?_⟩
        all_goals
          by_cases hu : i < u.toNat
          · have := h i hu
            have p := hA i hi
            have q := hB i hi
            unfold withinF at this
            simp only [bt_and]
            cases e1 : bt v i <;> cases e2 : bt m i <;> cases e3 : bt a i <;> cases e4 : bt b i <;> simp_all
          · have p := hA i hi
            have q := hB i hi
            simp only [bt_and]
            cases e1 : bt v i <;> cases e2 : bt m i <;> cases e3 : bt a i <;> cases e4 : bt b i <;> simp_all <;> omega
      · rintro ⟨h, h'⟩ i hi
        have x := h i (by omega)
        have y := h' i (by omega)
        have p := hA i (by omega)
        have q := hB i (by omega)
        simp only [bt_and] at x y
        unfold withinF
        cases e1 : bt v i <;> cases e2 : bt m i <;> cases e3 : bt a i <;> cases e4 : bt b i <;> simp_all
theorem meet_rmeet (v m a b : BitVec 128) (u : Int) : rmeet v m a b u = (mayB v m u && mayB a b u && meetB v m a b) := by
  unfold rmeet
  rw [← mayB_rmay, ← mayB_rmay]
  cases hA : rmay v m u
  · rfl
  · cases hB : rmay a b u
    · rfl
    · rw [rmay_iff] at hA hB
      obtain ⟨⟨u1, u2⟩, hA⟩ := hA
      obtain ⟨_, hB⟩ := hB
      simp only [Bool.true_and]
      rw [Bool.eq_iff_iff, allB_iff]
      unfold meetB
      simp only [Bool.and_eq_true, decide_eq_true_eq]
      rw [bv_iff]
      constructor
      · intro h i hi
        by_cases hu : i < u.toNat
        · have := h i hu
          unfold meetF at this
          simp only [bt_and, bt_xor, bt_zero]
          cases e1 : bt v i <;> cases e2 : bt m i <;> cases e3 : bt a i <;> cases e4 : bt b i <;> simp_all
        · have p := hA i hi
          have q := hB i hi
          simp only [bt_and, bt_xor, bt_zero]
          cases e1 : bt v i <;> cases e2 : bt m i <;> cases e3 : bt a i <;> cases e4 : bt b i <;> simp_all <;> omega
      · intro h i hi
        have x := h i (by omega)
        simp only [bt_and, bt_xor, bt_zero] at x
        unfold meetF
        cases e1 : bt v i <;> cases e2 : bt m i <;> cases e3 : bt a i <;> cases e4 : bt b i <;> simp_all
end Go.Proofs.Ytooadmagjpaieaa
