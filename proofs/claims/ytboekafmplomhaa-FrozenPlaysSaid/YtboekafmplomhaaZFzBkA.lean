/-
  BddMeans: rows of numbers whose bits say where something holds; worlds in which one block turns.
-/
import Derived.Test.YtboekafmplomhaaZMeansR
import Derived.Test.YtboekafmplomhaaZQuantC
import Derived.Test.YtboekafmplomhaaZMadeP
import Derived.Test.YtboekafmplomhaaZSupB
import Derived.Test.YtboekafmplomhaaZFzSpP
set_option linter.unusedVariables false
set_option linter.unusedSimpArgs false
namespace Go.Proofs.Ytboekafmplomhaa
open Go.RowKit

theorem Held.grown {B : Nat} {w w' : World} {p : Nat} {F : List Nat} {S : Sto} {sv : Value} {G : Option Nat} {all : List Int} (h : Held B w p F S sv G all) {g : Nat} (hg : w.grownBy w' (some g)) (h1 : g ∉ F) (h2 : G ≠ some g) : Held B w' p F S sv G all :=
  h.keep (fun k hk => hg.block k (by rcases hk with hk | hk; exact h.sto.lt k hk; exact RowIs.lt h.row k hk) (fun e => by
    cases e
    rcases hk with hk | hk
    · exact h1 hk
    · exact h2 hk))
theorem Rd.grown {w w' : World} {size : Nat} {sv : Value} {xs : List Value} (h : Rd w size sv xs) {g : Nat} (hg : w.grownBy w' (some g)) (hne : ∀ a n cap b off, sv = .slice a n cap → a = some ⟨b, off, none⟩ → b ≠ g) : Rd w' size sv xs := by
  obtain ⟨a, n, cap, h1, h2, h3, h4, h5⟩ := h
  refine ⟨a, n, cap, h1, h2, h3, h4, fun hn => ?_⟩
  obtain ⟨b, off, e1, e2, e3⟩ := h5 hn
  exact ⟨b, off, e1, Nat.lt_of_lt_of_le e2 hg.size, fun j u hu => by
    have := hg.block b e2 (fun e => hne a n cap b off h1 e1 (by cases e; rfl))
    simp only [World.cell?] at e3 ⊢
    rw [this]; exact e3 j u hu⟩

/-- One element of a row of one-cell elements. -/
theorem RowIs.one {w : World} {sv : Value} {G : Option Nat} {e : TypeId} {n : Nat} {xs : List Value} (h : RowIs w sv G e 1 n xs) {i : Nat} {u : Value} (hu : xs[i]? = some u) :
    ∃ g cap, sv = .slice (some ⟨g, 0, none⟩) n cap ∧ G = some g ∧ g < w.heap.size ∧ w.cell? ⟨g, i, none⟩ = some u := by
  have hi : i < n := by have := (List.getElem?_eq_some_iff.1 hu).1; have := h.1; omega
  obtain ⟨g, cap, h1, h2, h3, _⟩ := RowIs.at h (j := 0) hi (by omega)
  rw [Nat.mul_one, Nat.add_zero] at h3
  exact ⟨g, cap, h1, h2, RowIs.lt h g h2, by rw [h3]; exact hu⟩
theorem Arr.bits {w : World} {g : Nat} {l : List Bool} (h : Arr w g 4 (bools l)) (hl : l.length ≤ 1000000) : BitsAre w (.slice (some ⟨g, 0, none⟩) l.length l.length) l :=
  ⟨g, l.length, rfl, h.lt, hl, fun i b hi => by rw [h.cell]; simp [bools, hi]⟩

end Go.Proofs.Ytboekafmplomhaa
set_option linter.unusedVariables false
set_option linter.unusedSimpArgs false
namespace Go.Proofs.Ytboekafmplomhaa

/-- A store of few nodes over eight variables, which is not full. -/
structure Liv (S : Sto) (n : Nat) : Prop where
  wf : Wf S
  sated : Sated S
  below : Below' S 8
  cap : S.cap = 1048576
  count : S.nodes.length ≤ n
theorem Liv.free {S : Sto} {n : Nat} (h : Liv S n) (hn : n ≤ 1000000) : S.full = false := by
  cases hf : S.full with
  | false => rfl
  | true => have := h.sated hf; have := h.cap; have := h.count; omega
theorem Liv.step {S : Sto} {n m : Nat} {R : Sto × Int} (h : Liv S n) (v : VOk S 8 m R) : Liv R.1 (n + m) :=
  ⟨v.wf, v.sated, v.below, by rw [v.grows.cap]; exact h.cap, by have := v.count; have := h.count; omega⟩
/-- A call's result: a diagram that means f, in a store that has grown. -/
structure Res (S : Sto) (n : Nat) (R : Sto × Int) (f : (Int → Bool) → Bool) : Prop where
  liv : Liv R.1 n
  grows : Grows S R.1
  has : R.1.has R.2
  val : ∀ β, ev R.1 β R.2 = f β
section
variable {S : Sto} {n : Nat} {a b c : Int}
theorem Res.old {R : Sto × Int} {f : (Int → Bool) → Bool} (r : Res S n R f) (hW : Wf S) (ha : S.has a) (β : Int → Bool) : ev R.1 β a = ev S β a := ev_grows hW r.grows β ha
end
end Go.Proofs.Ytboekafmplomhaa
set_option linter.unusedVariables false
set_option linter.unusedSimpArgs false
namespace Go.Proofs.Ytboekafmplomhaa

theorem rootsG_back {bel : Nat} (hb : bel ≤ 2000000) (tail : List Nat) : ∀ (rest pre : List Int), (∀ r ∈ rest, 0 ≤ r ∧ r < bel) → rootsG bel rest.length pre (rest.flatMap (fun a => numB a.toNat) ++ tail) = some (pre ++ rest, tail)
  | [], pre, _ => by simp [rootsG]
  | x :: rest, pre, h => by
    obtain ⟨h1, h2⟩ := h x (by simp)
    have e2 : (x :: rest).flatMap (fun a => numB a.toNat) ++ tail = numB x.toNat ++ (rest.flatMap (fun a => numB a.toNat) ++ tail) := by simp
    rw [e2, List.length_cons, rootsG, numV_numB _ (by omega) (by omega)]
    simp only
    have e3 : ((x.toNat : Nat) : Int) = x := by omega
    rw [e3]
    have := rootsG_back hb tail rest (pre ++ [x]) (fun r hr => h r (by simp [hr]))
    simpa using this
section
variable {S T : Sto}
end
end Go.Proofs.Ytboekafmplomhaa
