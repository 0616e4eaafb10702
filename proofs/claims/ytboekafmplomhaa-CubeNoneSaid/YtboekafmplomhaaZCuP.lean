/-
  Cubes in plain Lean: diagrams of cubes, paths, primes, covers, over the program's store.
-/
import Derived.Test.YtboekafmplomhaaZKnown31
set_option linter.unusedVariables false
set_option linter.unusedSimpArgs false
namespace Go.Proofs.Ytboekafmplomhaa
open Go.RowKit

/-- A cube: which variables it names; their values. -/
abbrev Cu := Nat × Nat
abbrev cv (c : Cu) : Value := .agg #[.int .u64 c.1, .int .u64 c.2]
def CuOk (c : Cu) : Prop := c.1 < 18446744073709551616 ∧ c.2 < 18446744073709551616
theorem cuOk_zero : CuOk (0, 0) := ⟨by omega, by omega⟩

def setB (n v : Nat) : Nat := n ||| 2 ^ v
def clrB (n v : Nat) : Nat := n &&& (18446744073709551615 - 2 ^ v)
def mayC (c : Cu) : Bool := decide (c.2 &&& (18446744073709551615 - c.1) = 0)
theorem pow_lt64 {v : Nat} (hv : v < 64) : 2 ^ v < 18446744073709551616 := by
  have : 2 ^ v < 2 ^ 64 := Nat.pow_lt_pow_right (by omega) hv
  simpa using this
theorem setB_lt {n v : Nat} (hn : n < 18446744073709551616) (hv : v < 64) : setB n v < 18446744073709551616 := by
  have h := pow_lt64 hv
  have : n ||| 2 ^ v < 2 ^ 64 := Nat.or_lt_two_pow (by simpa using hn) (by simpa using h)
  simpa [setB] using this
theorem clrB_lt {n : Nat} (v : Nat) (hn : n < 18446744073709551616) : clrB n v < 18446744073709551616 :=
  Nat.lt_of_le_of_lt Nat.and_le_left hn

/-- The diagram of a cube, its variables from v on upwards done. -/
def ofN (c : Cu) : Nat → Sto → Int → Sto × Int
  | 0, S, a => (S, a)
  | v + 1, S, a =>
    if Nat.testBit c.1 v then
      if Nat.testBit c.2 v then ofN c v (andV (varV S v).1 (varV S v).2 a).1 (andV (varV S v).1 (varV S v).2 a).2
      else ofN c v (andV (notV (varV S v).1 (varV S v).2).1 (notV (varV S v).1 (varV S v).2).2 a).1 (andV (notV (varV S v).1 (varV S v).2).1 (notV (varV S v).1 (varV S v).2).2 a).2
    else ofN c v S a
def ofV (S : Sto) (c : Cu) : Sto × Int :=
  if mayC c = false ∨ S.full = true then (S, 0)
  else if (ofN c 64 S 1).1.full then ((ofN c 64 S 1).1, 0) else ofN c 64 S 1

def Gs (S : Sto) : Prop := Wf S ∧ Sated S
theorem varV_gs {S : Sto} (h : Gs S) (v : Int) : Gs (varV S v).1 := by
  have := varV_ok h.1 h.2 (below64 h.1) v (by omega)
  exact ⟨this.wf, this.sated⟩
theorem notV_gs {S : Sto} (h : Gs S) (x : Int) : Gs (notV S x).1 := iteV_good h.1 h.2 _ _ _
theorem andV_gs {S : Sto} (h : Gs S) (x y : Int) : Gs (andV S x y).1 := iteV_good h.1 h.2 _ _ _
theorem orV_gs {S : Sto} (h : Gs S) (x y : Int) : Gs (orV S x y).1 := iteV_good h.1 h.2 _ _ _
theorem ofN_gs (c : Cu) : ∀ (v : Nat) (S : Sto) (a : Int), Gs S → Gs (ofN c v S a).1
  | 0, S, a, h => h
  | v + 1, S, a, h => by
    unfold ofN
    split
    · split
      · exact ofN_gs c v _ _ (andV_gs (varV_gs h _) _ _)
      · exact ofN_gs c v _ _ (andV_gs (notV_gs (varV_gs h _) _) _ _)
    · exact ofN_gs c v _ _ h
theorem ofV_gs {S : Sto} (h : Gs S) (c : Cu) : Gs (ofV S c).1 := by
  unfold ofV
  split
  · exact h
  · split
    · exact ofN_gs c 64 S 1 h
    · exact ofN_gs c 64 S 1 h

/-- Some cubes' diagram. -/
def allV : Sto → Int → List Cu → Sto × Int
  | S, a, [] => (S, a)
  | S, a, c :: l => allV (orV (ofV S c).1 a (ofV S c).2).1 (orV (ofV S c).1 a (ofV S c).2).2 l

/-- Whether a cube is within a diagram. -/
def withinV (S : Sto) (a : Int) (c : Cu) : Sto × Bool := impliesV (ofV S c).1 (ofV S c).2 a
theorem withinV_gs {S : Sto} (h : Gs S) (a : Int) (c : Cu) : Gs (withinV S a c).1 := impliesV_good (ofV_gs h c).1 (ofV_gs h c).2 _ _
/-- The prime, k variables still to look at. -/
def primeN (a : Int) : Nat → Sto → Cu → Sto × Cu
  | 0, S, out => (S, out)
  | k + 1, S, out =>
    if clrB out.1 (63 - k) ≠ out.1 then
      if (withinV S a (clrB out.1 (63 - k), clrB out.2 (63 - k))).2 then primeN a k (withinV S a (clrB out.1 (63 - k), clrB out.2 (63 - k))).1 (clrB out.1 (63 - k), clrB out.2 (63 - k))
      else primeN a k (withinV S a (clrB out.1 (63 - k), clrB out.2 (63 - k))).1 out
    else primeN a k S out
def primeV (S : Sto) (a : Int) (c : Cu) : Sto × Cu :=
  if mayC c then
    if (withinV S a c).2 then
      if (primeN a 64 (withinV S a c).1 c).1.full then ((primeN a 64 (withinV S a c).1 c).1, c) else primeN a 64 (withinV S a c).1 c
    else ((withinV S a c).1, c)
  else (S, c)
theorem primeN_gs (a : Int) : ∀ (k : Nat) (S : Sto) (out : Cu), Gs S → Gs (primeN a k S out).1
  | 0, S, out, h => h
  | k + 1, S, out, h => by
    unfold primeN
    split
    · split
      · exact primeN_gs a k _ _ (withinV_gs h _ _)
      · exact primeN_gs a k _ _ (withinV_gs h _ _)
    · exact primeN_gs a k _ _ h
theorem primeV_gs {S : Sto} (h : Gs S) (a : Int) (c : Cu) : Gs (primeV S a c).1 := by
  unfold primeV
  split
  · split
    · split
      · exact primeN_gs a 64 _ _ (withinV_gs h _ _)
      · exact primeN_gs a 64 _ _ (withinV_gs h _ _)
    · exact withinV_gs h _ _
  · exact h
theorem primeN_cu (a : Int) : ∀ (k : Nat) (S : Sto) (out : Cu), CuOk out → CuOk (primeN a k S out).2
  | 0, S, out, h => h
  | k + 1, S, out, h => by
    unfold primeN
    split
    · split
      · exact primeN_cu a k _ _ ⟨clrB_lt _ h.1, clrB_lt _ h.2⟩
      · exact primeN_cu a k _ _ h
    · exact primeN_cu a k _ _ h
theorem primeV_cu (S : Sto) (a : Int) {c : Cu} (h : CuOk c) : CuOk (primeV S a c).2 := by
  unfold primeV
  split
  · split
    · split
      · exact h
      · exact primeN_cu a 64 _ _ h
    · exact h
  · exact h

/-- The paths of a diagram, from a cube on. -/
def pathsN (S : Sto) : Nat → Int → Cu → List Cu
  | 0, _, _ => []
  | n + 1, a, c =>
    if (atV S a).2 then
      pathsN S n (atV S a).1.2.1 (setB c.1 (atV S a).1.1.toNat, c.2) ++ pathsN S n (atV S a).1.2.2 (setB c.1 (atV S a).1.1.toNat, setB c.2 (atV S a).1.1.toNat)
    else if a = 1 then [c] else []
def pathsL (S : Sto) (a : Int) : List Cu := pathsN S (S.nodes.length + 2) a (0, 0)
theorem pathsN_cu {S : Sto} (hW : Wf S) : ∀ (n : Nat) (a : Int) (c : Cu), CuOk c → ∀ x ∈ pathsN S n a c, CuOk x
  | 0, _, _, _, x, hx => by simp [pathsN] at hx
  | n + 1, a, c, h, x, hx => by
    unfold pathsN at hx
    have hv : (atV S a).1.1.toNat < 64 := by
      unfold atV
      split
      · simp
      · rename_i h2
        obtain ⟨-, e2, e3⟩ := rightOf_two h2
        have hi : (a - 2).toNat < S.nodes.length := by omega
        rw [List.getElem?_eq_getElem hi]
        have := (hW.node _ _ (List.getElem?_eq_getElem hi)).v64
        simp only [Option.getD_some]
        omega
    split at hx
    · rcases List.mem_append.1 hx with hx | hx
      · exact pathsN_cu hW n _ (setB c.1 (atV S a).1.1.toNat, c.2) ⟨setB_lt h.1 hv, h.2⟩ x hx
      · exact pathsN_cu hW n _ (setB c.1 (atV S a).1.1.toNat, setB c.2 (atV S a).1.1.toNat) ⟨setB_lt h.1 hv, setB_lt h.2 hv⟩ x hx
    · split at hx
      · simp at hx; rw [hx]; exact h
      · simp at hx

/-- How many are told. -/
def heldV (most : Int) : Int := max 0 (min most 4096)
def pathsV (S : Sto) (a most : Int) : List Cu × Bool :=
  if S.full then ([], false) else if ((pathsL S a).length : Int) ≤ heldV most then (pathsL S a, true) else ((pathsL S a).take (heldV most).toNat, false)
/-- The cover, at most k cubes more. -/
def coverN (a : Int) (held : Int) : Nat → Sto → Int → List Cu → Sto × List Cu × Bool
  | 0, S, rest, l => (S, l, decide (rest = 0))
  | k + 1, S, rest, l =>
    if rest = 0 then (S, l, true)
    else if (l.length : Int) = held then (S, l, false)
    else
      coverN a held k
        (andV (notV (ofV (primeV S a ((pathsL S rest).headD (0, 0))).1 (primeV S a ((pathsL S rest).headD (0, 0))).2).1 (ofV (primeV S a ((pathsL S rest).headD (0, 0))).1 (primeV S a ((pathsL S rest).headD (0, 0))).2).2).1 rest
          (notV (ofV (primeV S a ((pathsL S rest).headD (0, 0))).1 (primeV S a ((pathsL S rest).headD (0, 0))).2).1 (ofV (primeV S a ((pathsL S rest).headD (0, 0))).1 (primeV S a ((pathsL S rest).headD (0, 0))).2).2).2).1
        (andV (notV (ofV (primeV S a ((pathsL S rest).headD (0, 0))).1 (primeV S a ((pathsL S rest).headD (0, 0))).2).1 (ofV (primeV S a ((pathsL S rest).headD (0, 0))).1 (primeV S a ((pathsL S rest).headD (0, 0))).2).2).1 rest
          (notV (ofV (primeV S a ((pathsL S rest).headD (0, 0))).1 (primeV S a ((pathsL S rest).headD (0, 0))).2).1 (ofV (primeV S a ((pathsL S rest).headD (0, 0))).1 (primeV S a ((pathsL S rest).headD (0, 0))).2).2).2).2
        (l ++ [(primeV S a ((pathsL S rest).headD (0, 0))).2])
end Go.Proofs.Ytboekafmplomhaa
