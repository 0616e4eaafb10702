/-
  Diagrams that numbers say, call by call, in plain Lean.
-/
import Derived.Test.YtboekafmplomhaaZQuantL
set_option linter.unusedVariables false
set_option linter.unusedSimpArgs false
namespace Go.Proofs.Ytboekafmplomhaa

/-- A number, made one from 0 on, below n. -/
def atN (x n : Int) : Int := (if x < 0 then -(x + 1) else x) % n
theorem atN_range (x : Int) {n : Int} (h : 0 < n) : 0 ≤ atN x n ∧ atN x n < n := ⟨Int.emod_nonneg _ (by omega), Int.emod_lt_of_pos _ h⟩
/-- An earlier diagram, by how far it is back. -/
def backN (all : List Int) (x : Int) : Int := all.getD (all.length - 1 - (atN x all.length).toNat) 0
/-- One call. -/
def stepM (S : Sto) (all : List Int) (k0 k1 k2 k3 : Int) : Sto × Int :=
  if k0.tmod 2 = 0 then varV S (atN k1 8) else iteV S (backN all k1) (backN all k2) (backN all k3)
def madeL : Nat → Sto → List Int → List Int → Sto × List Int
  | k + 1, S, all, k0 :: k1 :: k2 :: k3 :: r => madeL k (stepM S all k0 k1 k2 k3).1 (all ++ [(stepM S all k0 k1 k2 k3).2]) r
  | _, S, all, _ => (S, all)
/-- The store and the diagrams that a cap and numbers say. -/
def madeV (cap : Int) (l : List Int) : Sto × List Int := madeL 20 (newS cap) [0, 1] l
theorem madeL_zero (S : Sto) (all l : List Int) : madeL 0 S all l = (S, all) := by unfold madeL; rfl
theorem madeL_short : ∀ (k : Nat) (S : Sto) (all l : List Int), l.length < 4 → madeL k S all l = (S, all)
  | 0, S, all, l, _ => madeL_zero S all l
  | k + 1, S, all, [], _ => rfl
  | k + 1, S, all, [_], _ => rfl
  | k + 1, S, all, [_, _], _ => rfl
  | k + 1, S, all, [_, _, _], _ => rfl
  | k + 1, S, all, _ :: _ :: _ :: _ :: _, h => by simp at h; omega

/-- A store of diagrams over V variables, and diagrams of it. -/
structure MadeOk (S : Sto) (V : Int) (n : Nat) (all : List Int) : Prop where
  wf : Wf S
  sated : Sated S
  below : Below' S V
  count : S.nodes.length ≤ n
  has : ∀ x ∈ all, S.has x
theorem backN_mem {all : List Int} (h : 0 < all.length) (x : Int) : backN all x ∈ all := by
  have hr := atN_range x (n := all.length) (by omega)
  unfold backN
  rw [List.getD_eq_getElem?_getD, List.getElem?_eq_getElem (by omega)]
  exact List.getElem_mem _
theorem MadeOk.of {S : Sto} {V : Int} {n m : Nat} {all : List Int} {R : Sto × Int} (h : MadeOk S V n all) (v : VOk S V m R) : MadeOk R.1 V (n + m) (all ++ [R.2]) :=
  ⟨v.wf, v.sated, v.below, by have := v.count; have := h.count; omega, fun x hx => by
    rw [List.mem_append] at hx
    rcases hx with hx | hx
    · exact v.grows.has (h.has x hx)
    · simp at hx; subst hx; exact v.has⟩
theorem stepM_ok {S : Sto} {n : Nat} {all : List Int} (h : MadeOk S 8 n all) (k0 k1 k2 k3 : Int) : VOk S 8 256 (stepM S all k0 k1 k2 k3) := by
  unfold stepM
  split
  · exact (varV_ok h.wf h.sated h.below _ (.inl (atN_range k1 (by omega)).2)).weak (by omega)
  · exact (iteV_ok h.wf h.sated h.below (by omega) _ _ _).weak (by decide)
theorem madeL_ok : ∀ (k : Nat) (S : Sto) (n : Nat) (all l : List Int), MadeOk S 8 n all → MadeOk (madeL k S all l).1 8 (n + 256 * k) (madeL k S all l).2 ∧ all.length ≤ (madeL k S all l).2.length
  | 0, S, n, all, l, h => by rw [madeL_zero]; exact ⟨h, Nat.le_refl _⟩
  | k + 1, S, n, all, [], h => ⟨⟨h.wf, h.sated, h.below, by have := h.count; show S.nodes.length ≤ _; omega, h.has⟩, Nat.le_refl _⟩
  | k + 1, S, n, all, [_], h => ⟨⟨h.wf, h.sated, h.below, by have := h.count; show S.nodes.length ≤ _; omega, h.has⟩, Nat.le_refl _⟩
  | k + 1, S, n, all, [_, _], h => ⟨⟨h.wf, h.sated, h.below, by have := h.count; show S.nodes.length ≤ _; omega, h.has⟩, Nat.le_refl _⟩
  | k + 1, S, n, all, [_, _, _], h => ⟨⟨h.wf, h.sated, h.below, by have := h.count; show S.nodes.length ≤ _; omega, h.has⟩, Nat.le_refl _⟩
  | k + 1, S, n, all, k0 :: k1 :: k2 :: k3 :: r, h => by
    have h1 := h.of (stepM_ok h k0 k1 k2 k3)
    obtain ⟨q, q2⟩ := madeL_ok k _ _ _ r h1
    rw [madeL]
    exact ⟨⟨q.wf, q.sated, q.below, by have := q.count; omega, q.has⟩, by simp at q2; omega⟩
theorem made_new {cap : Int} (h1 : 2 ≤ cap) (h2 : cap ≤ 1048576) : MadeOk (newS cap) 8 0 [0, 1] :=
  ⟨newS_wf h1 h2, newS_sated _, newS_below _ _, by simp [newS], fun x hx => by simp at hx; rcases hx with rfl | rfl; exact has_zero _; exact has_one _⟩
theorem madeV_ok {cap : Int} (h1 : 2 ≤ cap) (h2 : cap ≤ 1048576) (l : List Int) : MadeOk (madeV cap l).1 8 5120 (madeV cap l).2 ∧ 2 ≤ (madeV cap l).2.length := by
  have := madeL_ok 20 _ _ _ l (made_new h1 h2)
  unfold madeV
  exact ⟨by simpa using this.1, by simpa using this.2⟩
theorem stepM_cap {S : Sto} {n : Nat} {all : List Int} (h : MadeOk S 8 n all) (k0 k1 k2 k3 : Int) : (stepM S all k0 k1 k2 k3).1.cap = S.cap := (stepM_ok h k0 k1 k2 k3).grows.cap
theorem madeL_cap : ∀ (k : Nat) (S : Sto) (n : Nat) (all l : List Int), MadeOk S 8 n all → (madeL k S all l).1.cap = S.cap
  | 0, S, n, all, l, h => by rw [madeL_zero]
  | k + 1, S, n, all, [], h => rfl
  | k + 1, S, n, all, [_], h => rfl
  | k + 1, S, n, all, [_, _], h => rfl
  | k + 1, S, n, all, [_, _, _], h => rfl
  | k + 1, S, n, all, k0 :: k1 :: k2 :: k3 :: r, h => by
    rw [madeL, madeL_cap k _ _ _ r (h.of (stepM_ok h k0 k1 k2 k3)), stepM_cap h]
theorem madeV_cap' {cap : Int} (h1 : 2 ≤ cap) (h2 : cap ≤ 1048576) (l : List Int) : (madeV cap l).1.cap = cap := madeL_cap 20 _ _ _ l (made_new h1 h2)
theorem madeL_next {k : Nat} {S : Sto} {all l : List Int} {k0 k1 k2 k3 : Int} {j : Nat} (h0 : l[j]? = some k0) (h1 : l[j + 1]? = some k1) (h2 : l[j + 2]? = some k2) (h3 : l[j + 3]? = some k3) :
    madeL (k + 1) S all (l.drop j) = madeL k (stepM S all k0 k1 k2 k3).1 (all ++ [(stepM S all k0 k1 k2 k3).2]) (l.drop (j + 4)) := by
  have e : l.drop j = k0 :: k1 :: k2 :: k3 :: l.drop (j + 4) := by
    obtain ⟨q0, e0⟩ := List.getElem?_eq_some_iff.1 h0
    obtain ⟨q1, e1⟩ := List.getElem?_eq_some_iff.1 h1
    obtain ⟨q2, e2⟩ := List.getElem?_eq_some_iff.1 h2
    obtain ⟨q3, e3⟩ := List.getElem?_eq_some_iff.1 h3
    rw [List.drop_eq_getElem_cons q0, List.drop_eq_getElem_cons q1, List.drop_eq_getElem_cons q2, List.drop_eq_getElem_cons q3, e0, e1, e2, e3]
  rw [e, madeL]
end Go.Proofs.Ytboekafmplomhaa
