/-
  Frozen bytes in plain Lean: the sum, numbers, what is written.
-/
import Derived.Test.YtboekafmplomhaaZSto
set_option linter.unusedVariables false
set_option linter.unusedSimpArgs false
namespace Go.Proofs.Ytboekafmplomhaa

/-- A byte into the sum. -/
def sumC (h x : Nat) : Nat := ((h ^^^ x) * 16777619) % 4294967296
theorem sumC_ex (h x : Nat) : ∃ y, y = sumC h x := ⟨_, rfl⟩
/-- The same, but not to be unfolded by the kernel (whose reckoning of a product by a great number does not end). -/
noncomputable def sumS (h x : Nat) : Nat := Classical.choose (sumC_ex h x)
theorem sumS_eq (h x : Nat) : sumS h x = sumC h x := Classical.choose_spec (sumC_ex h x)
noncomputable def sumV (l : List Nat) : Nat := l.foldl sumS 2166136261
theorem sumS_lt (h x : Nat) : sumS h x < 4294967296 := by rw [sumS_eq]; exact Nat.mod_lt _ (by decide)
theorem foldl_lt (l : List Nat) (h : Nat) (hh : h < 4294967296) : l.foldl sumS h < 4294967296 := by
  induction l generalizing h with
  | nil => exact hh
  | cons a l ih => exact ih _ (sumS_lt _ _)
theorem sumV_lt (l : List Nat) : sumV l < 4294967296 := foldl_lt l _ (by decide)
/-- Bytes with their sum behind them. -/
def sum4 (h : Nat) : List Nat := [h / 16777216 % 256, h / 65536 % 256, h / 256 % 256, h % 256]
noncomputable def sealB (l : List Nat) : List Nat := l ++ sum4 (sumV l)
theorem sealB_length (l : List Nat) : (sealB l).length = l.length + 4 := by simp [sealB, sum4]
/-- A number's bytes. -/
def numB (n : Nat) : List Nat := if 127 < n then (n % 128 + 128) :: numB (n / 128) else [n]
termination_by n
decreasing_by omega
theorem numB_small {n : Nat} (h : ¬ 127 < n) : numB n = [n] := by rw [numB, if_neg h]
theorem numB_big {n : Nat} (h : 127 < n) : numB n = (n % 128 + 128) :: numB (n / 128) := by rw [numB, if_pos h]
theorem numB_lt (n : Nat) : ∀ y ∈ numB n, y < 256 := by
  induction n using Nat.strongRecOn with
  | ind n ih =>
    intro y hy
    by_cases h : 127 < n
    · rw [numB_big h] at hy
      rcases List.mem_cons.1 hy with rfl | hy
      · omega
      · exact ih _ (by omega) y hy
    · rw [numB_small h] at hy
      simp at hy; omega
theorem numB_pos (n : Nat) : 1 ≤ (numB n).length := by
  by_cases h : 127 < n
  · rw [numB_big h]; simp
  · rw [numB_small h]; simp
theorem numB_len (k : Nat) : ∀ n, n < 128 ^ k → 1 ≤ k → (numB n).length ≤ k := by
  induction k with
  | zero => intro n _ h; omega
  | succ k ih =>
    intro n hn _
    by_cases h : 127 < n
    · rw [numB_big h]
      simp only [List.length_cons]
      rcases Nat.eq_zero_or_pos k with rfl | hk
      · simp at hn; omega
      · have := ih (n / 128) (by rw [Nat.pow_succ] at hn; omega) hk
        omega
    · rw [numB_small h]; simp
def nodeB (x : Nd) : List Nat := x.1.toNat % 256 :: (numB x.2.1.toNat ++ numB x.2.2.toNat)
def headB : List Nat := [81, 66, 1]
def bodyB (ns : List Nd) (rs : List Int) : List Nat := headB ++ numB ns.length ++ ns.flatMap nodeB ++ numB rs.length ++ rs.flatMap (fun a => numB a.toNat)
noncomputable def writeB (ns : List Nd) (rs : List Int) : List Nat := sealB (bodyB ns rs)
end Go.Proofs.Ytboekafmplomhaa
