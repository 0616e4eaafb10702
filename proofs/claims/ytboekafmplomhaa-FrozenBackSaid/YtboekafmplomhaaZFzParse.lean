/-
  Frozen bytes in plain Lean: what is read of bytes.
-/
import Derived.Test.YtboekafmplomhaaZFzP
import Derived.Test.YtboekafmplomhaaZFzO2
set_option linter.unusedVariables false
set_option linter.unusedSimpArgs false
namespace Go.Proofs.Ytboekafmplomhaa

/-- A number of at most k bytes, from a shift on. -/
def numG (bel : Nat) : Nat → Nat → Nat → List Nat → Option (Nat × List Nat)
  | 0, _, _, _ => none
  | _ + 1, _, _, [] => none
  | k + 1, sh, n, x :: l => if x < 128 then (if bel ≤ n + x * 2 ^ sh ∨ (x = 0 ∧ 0 < sh) then none else some (n + x * 2 ^ sh, l)) else numG bel k (sh + 7) (n + (x - 128) * 2 ^ sh) l
def numV (bel : Nat) (l : List Nat) : Option (Nat × List Nat) := numG bel 4 0 0 l
def topR (ns : List Nd) (a : Nat) : Int := if a < 2 then 64 else ((ns[a - 2]?).getD (0, 0, 0)).1
def nodesG : Nat → List Nd → List Nat → Option (List Nd × List Nat)
  | 0, ns, l => some (ns, l)
  | _ + 1, _, [] => none
  | m + 1, ns, v :: l1 =>
    match numV (ns.length + 2) l1 with
    | none => none
    | some (lo, l2) =>
      match numV (ns.length + 2) l2 with
      | none => none
      | some (hi, l3) => if lo = hi ∨ min 64 (min (topR ns lo) (topR ns hi)) ≤ (v : Int) then none else nodesG m (ns ++ [((v : Int), (lo : Int), (hi : Int))]) l3
def rootsG (bel : Nat) : Nat → List Int → List Nat → Option (List Int × List Nat)
  | 0, rs, l => some (rs, l)
  | m + 1, rs, l =>
    match numV bel l with
    | none => none
    | some (a, l1) => rootsG bel m (rs ++ [(a : Int)]) l1
def parseV (l : List Nat) : Option (List Nd × List Int) :=
  match numV 8388608 l with
  | none => none
  | some (m, l1) =>
    match nodesG m [] l1 with
    | none => none
    | some (ns, l2) =>
      match numV 65 l2 with
      | none => none
      | some (k, l3) =>
        match rootsG (ns.length + 2) k [] l3 with
        | none => none
        | some (rs, l4) => if l4 = [] then some (ns, rs) else none

theorem numG_numB (bel : Nat) (rest : List Nat) : ∀ (k sh acc n : Nat), 1 ≤ k → n < 128 ^ k → (n = 0 → sh = 0) → acc + n * 2 ^ sh < bel → numG bel k sh acc (numB n ++ rest) = some (acc + n * 2 ^ sh, rest)
  | 0, _, _, _, h, _, _, _ => by omega
  | k + 1, sh, acc, n, _, hn, h0, hb => by
    by_cases h : 127 < n
    · have hk : 1 ≤ k := by
        rcases Nat.eq_zero_or_pos k with rfl | h
        · simp at hn; omega
        · exact h
      have hd : n / 128 < 128 ^ k := by rw [Nat.pow_succ] at hn; omega
      have e : n % 128 * 2 ^ sh + n / 128 * 2 ^ (sh + 7) = n * 2 ^ sh := by
        have h7 : (2 : Nat) ^ (sh + 7) = 128 * 2 ^ sh := by rw [Nat.pow_add]; omega
        rw [h7, ← Nat.mul_assoc, ← Nat.add_mul]
        congr 1
        omega
      rw [numB_big h, List.cons_append, numG, if_neg (by omega), Nat.add_sub_cancel]
      rw [numG_numB bel rest k (sh + 7) _ (n / 128) hk hd (by omega) (by omega)]
      congr 2
      omega
    · rw [numB_small h, List.singleton_append, numG, if_pos (by omega), if_neg (by intro q; rcases q with q | q <;> omega)]
theorem numV_numB {bel n : Nat} (rest : List Nat) (h : n < bel) (hb : n < 268435456) : numV bel (numB n ++ rest) = some (n, rest) := by
  unfold numV
  rw [numG_numB bel rest 4 0 0 n (by omega) (by omega) (fun _ => rfl) (by omega)]
  simp
theorem numG_len (bel : Nat) : ∀ (k sh n : Nat) (l : List Nat) (a : Nat) (r : List Nat), numG bel k sh n l = some (a, r) → r.length < l.length ∧ a < bel
  | 0, _, _, _, _, _, h => by simp [numG] at h
  | _ + 1, _, _, [], _, _, h => by simp [numG] at h
  | k + 1, sh, n, x :: l, a, r, h => by
    rw [numG] at h
    split at h
    · split at h
      · cases h
      · cases h
        simp only [List.length_cons]
        omega
    · have := numG_len bel k _ _ l a r h
      simp only [List.length_cons]
      omega
theorem numV_len {bel : Nat} {l : List Nat} {a : Nat} {r : List Nat} (h : numV bel l = some (a, r)) : r.length < l.length ∧ a < bel := numG_len bel 4 0 0 l a r h
end Go.Proofs.Ytboekafmplomhaa
