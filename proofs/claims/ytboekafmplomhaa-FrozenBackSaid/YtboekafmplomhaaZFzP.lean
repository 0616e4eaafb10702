/-
  Frozen bytes in plain Lean: the sum, numbers, what is written.
-/
import Derived.Test.YtboekafmplomhaaZSto
set_option linter.unusedVariables false
set_option linter.unusedSimpArgs false
namespace Go.Proofs.Ytboekafmplomhaa

/-- A byte into the sum. -/
def sumC (h x : Nat) : Nat := ((h ^^^ x) * 16777619) % 4294967296
theorem sumC_ex (h x : Nat) : ∃ y, y = sumC h x := ⟨_, rfl⟩
/-- The same, but not to be unfolded by the kernel (whose reckoning of a product by a great number does not end). -/
noncomputable def sumS (h x : Nat) : Nat := Classical.choose (sumC_ex h x)
theorem sumS_eq (h x : Nat) : sumS h x = sumC h x := Classical.choose_spec (sumC_ex h x)
noncomputable def sumV (l : List Nat) : Nat := l.foldl sumS 2166136261
theorem sumV_eq (l : List Nat) : sumV l = l.foldl sumC 2166136261 := by unfold sumV; rw [show sumS = sumC from funext fun h => funext fun x => sumS_eq h x]
theorem sumS_bv (h x : Nat) : sumS h x = (((BitVec.ofNat 32 h ^^^ BitVec.ofNat 32 x) * 16777619#32).toNat) := by
  rw [sumS_eq]
  unfold sumC
  rw [BitVec.toNat_mul, BitVec.toNat_xor, BitVec.toNat_ofNat, BitVec.toNat_ofNat, BitVec.toNat_ofNat]
  rw [show (16777619 % 2 ^ 32 : Nat) = 16777619 from rfl, show (2 ^ 32 : Nat) = 4294967296 from rfl]
  rw [← Nat.mod_mul_mod]
  congr 2
  rw [show (4294967296 : Nat) = 2 ^ 32 from rfl, Nat.xor_mod_two_pow]
theorem sumS_lt (h x : Nat) : sumS h x < 4294967296 := by rw [sumS_eq]; exact Nat.mod_lt _ (by decide)
theorem bv_step_inj {a b x y : BitVec 32} (h : (a ^^^ x) * 16777619#32 = (b ^^^ y) * 16777619#32) : a ^^^ x = b ^^^ y := by
  have e := congrArg (· * 899433627#32) h
  simp only [BitVec.mul_assoc] at e
  rw [show (16777619#32 * 899433627#32) = 1#32 by decide] at e
  simpa using e
theorem ofNat_inj32 {a b : Nat} (ha : a < 4294967296) (hb : b < 4294967296) (h : BitVec.ofNat 32 a = BitVec.ofNat 32 b) : a = b := by
  have := congrArg BitVec.toNat h
  rw [BitVec.toNat_ofNat, BitVec.toNat_ofNat, Nat.mod_eq_of_lt ha, Nat.mod_eq_of_lt hb] at this
  exact this
theorem sumS_inj {h k x : Nat} (hh : h < 4294967296) (hk : k < 4294967296) (e : sumS h x = sumS k x) : h = k := by
  rw [sumS_bv, sumS_bv] at e
  have e1 := bv_step_inj (BitVec.eq_of_toNat_eq e)
  have e2 := congrArg (· ^^^ BitVec.ofNat 32 x) e1
  simp only [BitVec.xor_assoc, BitVec.xor_self, BitVec.xor_zero] at e2
  exact ofNat_inj32 hh hk e2
theorem sumS_inj2 {h x y : Nat} (hx : x < 256) (hy : y < 256) (e : sumS h x = sumS h y) : x = y := by
  rw [sumS_bv, sumS_bv] at e
  have e1 := bv_step_inj (BitVec.eq_of_toNat_eq e)
  have e2 := congrArg (BitVec.ofNat 32 h ^^^ ·) e1
  simp only [← BitVec.xor_assoc, BitVec.xor_self, BitVec.zero_xor] at e2
  exact ofNat_inj32 (by omega) (by omega) e2
theorem foldl_lt (l : List Nat) (h : Nat) (hh : h < 4294967296) : l.foldl sumS h < 4294967296 := by
  induction l generalizing h with
  | nil => exact hh
  | cons a l ih => exact ih _ (sumS_lt _ _)
theorem sumV_lt (l : List Nat) : sumV l < 4294967296 := foldl_lt l _ (by decide)
theorem foldl_inj (l : List Nat) {h k : Nat} (hh : h < 4294967296) (hk : k < 4294967296) (e : l.foldl sumS h = l.foldl sumS k) : h = k := by
  induction l generalizing h k with
  | nil => exact e
  | cons a l ih => exact sumS_inj hh hk (ih (sumS_lt _ _) (sumS_lt _ _) e)
/-- One byte changed: another sum. -/
theorem sumV_set {l : List Nat} {i x : Nat} (hi : i < l.length) (hx : x < 256) (hl : ∀ y ∈ l, y < 256) (hne : x ≠ l[i]) : sumV (l.set i x) ≠ sumV l := by
  intro e
  have h1 : l = l.take i ++ l[i] :: l.drop (i + 1) := by rw [List.getElem_cons_drop]; exact (List.take_append_drop i l).symm
  have h2 : l.set i x = l.take i ++ x :: l.drop (i + 1) := List.set_eq_take_append_cons_drop .. |>.trans (by rw [if_pos hi])
  rw [h2] at e
  conv at e => rhs; rw [h1]
  unfold sumV at e
  rw [List.foldl_append, List.foldl_append, List.foldl_cons, List.foldl_cons] at e
  have e1 := foldl_inj _ (sumS_lt _ _) (sumS_lt _ _) e
  exact hne (sumS_inj2 hx (hl _ (List.getElem_mem _)) e1)
/-- Bytes with their sum behind them. -/
def sum4 (h : Nat) : List Nat := [h / 16777216 % 256, h / 65536 % 256, h / 256 % 256, h % 256]
noncomputable def sealB (l : List Nat) : List Nat := l ++ sum4 (sumV l)
theorem sum4_inj {h k : Nat} (hh : h < 4294967296) (hk : k < 4294967296) (e : sum4 h = sum4 k) : h = k := by
  simp only [sum4, List.cons.injEq, and_true] at e
  omega
theorem sealB_length (l : List Nat) : (sealB l).length = l.length + 4 := by simp [sealB, sum4]
/-- Sealed bytes of which one is changed are not sealed. -/
theorem sealB_set {l : List Nat} {i x : Nat} (hl : ∀ y ∈ l, y < 256) (hi : i < (sealB l).length) (hx : x < 256) (hne : x ≠ (sealB l)[i]) : sealB (((sealB l).set i x).take l.length) ≠ (sealB l).set i x := by
  intro e
  by_cases h : i < l.length
  · have e1 : ((sealB l).set i x) = l.set i x ++ sum4 (sumV l) := by unfold sealB; rw [List.set_append_left _ _ h]
    rw [e1] at e
    have e2 : (l.set i x ++ sum4 (sumV l)).take l.length = l.set i x := by
      rw [List.take_append_of_le_length (by simp)]
      exact List.take_of_length_le (by simp)
    rw [e2] at e
    unfold sealB at e
    have e3 := sum4_inj (sumV_lt _) (sumV_lt _) (List.append_cancel_left e)
    have e4 : (sealB l)[i] = l[i] := by unfold sealB; exact List.getElem_append_left h
    rw [e4] at hne
    exact sumV_set h hx hl hne e3
  · have e1 : ((sealB l).set i x) = l ++ (sum4 (sumV l)).set (i - l.length) x := by unfold sealB; rw [List.set_append_right _ _ (by omega)]
    rw [e1] at e
    have e2 : (l ++ (sum4 (sumV l)).set (i - l.length) x).take l.length = l := by
      rw [List.take_append_of_le_length (Nat.le_refl _)]
      exact List.take_length
    rw [e2] at e
    unfold sealB at e
    have e3 := List.append_cancel_left e
    have e5 : (sealB l)[i] = (sum4 (sumV l))[i - l.length]'(by have := sealB_length l; simp [sum4]; omega) := by unfold sealB; exact List.getElem_append_right (by omega)
    rw [e5] at hne
    have e6 := congrArg (fun t => t[i - l.length]?) e3
    rw [List.getElem?_set_self (by have := sealB_length l; simp [sum4]; omega)] at e6
    have e7 := List.getElem?_eq_some_iff.1 e6
    obtain ⟨_, e8⟩ := e7
    exact hne e8.symm

/-- A number's bytes. -/
def numB (n : Nat) : List Nat := if 127 < n then (n % 128 + 128) :: numB (n / 128) else [n]
termination_by n
decreasing_by omega
theorem numB_small {n : Nat} (h : ¬ 127 < n) : numB n = [n] := by rw [numB, if_neg h]
theorem numB_big {n : Nat} (h : 127 < n) : numB n = (n % 128 + 128) :: numB (n / 128) := by rw [numB, if_pos h]
theorem numB_lt (n : Nat) : ∀ y ∈ numB n, y < 256 := by
  induction n using Nat.strongRecOn with
  | ind n ih =>
    intro y hy
    by_cases h : 127 < n
    · rw [numB_big h] at hy
      rcases List.mem_cons.1 hy with rfl | hy
      · omega
      · exact ih _ (by omega) y hy
    · rw [numB_small h] at hy
      simp at hy; omega
theorem numB_pos (n : Nat) : 1 ≤ (numB n).length := by
  by_cases h : 127 < n
  · rw [numB_big h]; simp
  · rw [numB_small h]; simp
theorem numB_len (k : Nat) : ∀ n, n < 128 ^ k → 1 ≤ k → (numB n).length ≤ k := by
  induction k with
  | zero => intro n _ h; omega
  | succ k ih =>
    intro n hn _
    by_cases h : 127 < n
    · rw [numB_big h]
      simp only [List.length_cons]
      rcases Nat.eq_zero_or_pos k with rfl | hk
      · simp at hn; omega
      · have := ih (n / 128) (by rw [Nat.pow_succ] at hn; omega) hk
        omega
    · rw [numB_small h]; simp
def nodeB (x : Nd) : List Nat := x.1.toNat % 256 :: (numB x.2.1.toNat ++ numB x.2.2.toNat)
def headB : List Nat := [81, 66, 1]
def bodyB (ns : List Nd) (rs : List Int) : List Nat := headB ++ numB ns.length ++ ns.flatMap nodeB ++ numB rs.length ++ rs.flatMap (fun a => numB a.toNat)
noncomputable def writeB (ns : List Nd) (rs : List Int) : List Nat := sealB (bodyB ns rs)
end Go.Proofs.Ytboekafmplomhaa
