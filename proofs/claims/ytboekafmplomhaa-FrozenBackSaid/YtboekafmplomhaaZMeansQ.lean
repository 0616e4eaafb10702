/-
  BddMeans: rows of numbers whose bits say where something holds; worlds in which one block turns.
-/
import Derived.Test.YtboekafmplomhaaZMeansR
set_option linter.unusedVariables false
set_option linter.unusedSimpArgs false
namespace Go.Proofs.Ytboekafmplomhaa
open Go.RowKit

theorem grown_refl (w : World) (g : Nat) : w.grownBy w (some g) := World.grownBy.refl w _
theorem grown_below {a w w' : World} {g : Nat} (h : a.grownBy w (some g)) (hb : Below w.heap.size w w') : a.grownBy w' (some g) :=
  ⟨hb.os.trans h.os, hb.tape.trans h.tape, hb.output.trans h.output, Nat.le_trans h.size hb.size, fun i hi hn => (hb.block i (Nat.lt_of_lt_of_le hi h.size)).trans (h.block i hi hn)⟩
theorem grown_set {a w : World} {g : Nat} (h : a.grownBy w (some g)) (i : Nat) (u : Value) : a.grownBy (w.setCell ⟨g, i, none⟩ u) (some g) :=
  ⟨h.os, h.tape, h.output, by simpa [World.setCell] using h.size, fun k hk hne => (Below.heap_setCell w ⟨g, i, none⟩ u k (fun e => hne (by rw [e]))).trans (h.block k hk hne)⟩
theorem Held.grown {B : Nat} {w w' : World} {p : Nat} {F : List Nat} {S : Sto} {sv : Value} {G : Option Nat} {all : List Int} (h : Held B w p F S sv G all) {g : Nat} (hg : w.grownBy w' (some g)) (h1 : g ∉ F) (h2 : G ≠ some g) : Held B w' p F S sv G all :=
  h.keep (fun k hk => hg.block k (by rcases hk with hk | hk; exact h.sto.lt k hk; exact RowIs.lt h.row k hk) (fun e => by
    cases e
    rcases hk with hk | hk
    · exact h1 hk
    · exact h2 hk))
theorem below_grown {B : Nat} {a w w' : World} {g : Nat} (h : Below B a w) (hB : B ≤ w.heap.size) (hg : w.grownBy w' (some g)) (h1 : B ≤ g) : Below B a w' :=
  h.grown hg hB (fun k hk => by cases hk; exact h1)
theorem Rd.grown {w w' : World} {size : Nat} {sv : Value} {xs : List Value} (h : Rd w size sv xs) {g : Nat} (hg : w.grownBy w' (some g)) (hne : ∀ a n cap b off, sv = .slice a n cap → a = some ⟨b, off, none⟩ → b ≠ g) : Rd w' size sv xs := by
  obtain ⟨a, n, cap, h1, h2, h3, h4, h5⟩ := h
  refine ⟨a, n, cap, h1, h2, h3, h4, fun hn => ?_⟩
  obtain ⟨b, off, e1, e2, e3⟩ := h5 hn
  exact ⟨b, off, e1, Nat.lt_of_lt_of_le e2 hg.size, fun j u hu => by
    have := hg.block b e2 (fun e => hne a n cap b off h1 e1 (by cases e; rfl))
    simp only [World.cell?] at e3 ⊢
    rw [this]; exact e3 j u hu⟩

/-- The number whose bits, below b, are where f holds. -/
def msk (f : Nat → Bool) : Nat → Nat
  | 0 => 0
  | b + 1 => msk f b + if f b then 2 ^ b else 0
theorem msk_lt (f : Nat → Bool) : ∀ b, msk f b < 2 ^ b
  | 0 => by simp [msk]
  | b + 1 => by have := msk_lt f b; rw [msk, Nat.pow_succ]; cases f b <;> simp <;> omega
theorem msk_bit (f : Nat → Bool) : ∀ (b j : Nat), j < b → (msk f b).testBit j = f j
  | 0, j, h => by omega
  | b + 1, j, h => by
    have hl := msk_lt f b
    rw [msk]
    by_cases e : j = b
    · subst e
      cases hb : f j
      · simp [Nat.testBit_lt_two_pow hl]
      · simp only [if_true]
        rw [Nat.add_comm, Nat.testBit_two_pow_add_eq, Nat.testBit_lt_two_pow hl]; rfl
    · cases hb : f b
      · simp; exact msk_bit f b j (by omega)
      · simp only [if_true]
        rw [Nat.add_comm, Nat.testBit_two_pow_add_gt (by omega)]; exact msk_bit f b j (by omega)
theorem msk_eq (f g : Nat → Bool) (b : Nat) : msk f b = msk g b ↔ ∀ j, j < b → f j = g j := by
  constructor
  · intro h j hj
    have := congrArg (fun x => Nat.testBit x j) h
    simp only [msk_bit f b j hj, msk_bit g b j hj] at this
    exact this
  · intro h
    induction b with
    | zero => rfl
    | succ b ih => rw [msk, msk, ih (fun j hj => h j (by omega)), h b (by omega)]
theorem msk_or (f : Nat → Bool) (b : Nat) (hb : b < 64) : bits BinOp.or IntKind.u64 ((msk f b : Nat) : Int) (((2 : Nat) ^ b : Nat) : Int) = ((msk f b + 2 ^ b : Nat) : Int) := by
  have h1 := msk_lt f b
  have h2 : 2 ^ b < 2 ^ 64 := Nat.pow_lt_pow_right (by omega) hb
  rw [bits_or_u64_nat _ _ (by omega) h2]
  have e := Nat.two_pow_add_eq_or_of_lt h1 1
  rw [Nat.mul_one] at e
  rw [Nat.or_comm, ← e, Nat.add_comm]
theorem msk_or' (f : Nat → Bool) (b : Nat) (hb : b < 64) : bits BinOp.or IntKind.u64 ((msk f b : Nat) : Int) (IntKind.u64.wrap ((2 : Int) ^ b)) = ((msk f b + 2 ^ b : Nat) : Int) := by
  rw [← msk_or f b hb]
  congr 1
  have e : ((2 : Int) ^ b) = ((2 ^ b : Nat) : Int) := by simp
  have h2 : 2 ^ b < 2 ^ 64 := Nat.pow_lt_pow_right (by omega) hb
  rw [e]
  have h3 : 2 ^ b < 18446744073709551616 := h2
  generalize 2 ^ b = y at *
  exact IntWalk.u64_in _ (by omega)
/-- Which call holds under which number's bits. -/
def truth (l : List OpD) (i j : Nat) : Bool := (runB (bitsOf j) [] l).getD i false
def mrow (l : List OpD) (b i : Nat) : List Value := (List.range l.length).map fun k => .int .u64 ((msk (truth l k) (if k < i then b + 1 else b) : Nat) : Int)
theorem mrow_length (l : List OpD) (b i : Nat) : (mrow l b i).length = l.length := by simp [mrow]
theorem mrow_start (l : List OpD) : mrow l 0 0 = List.replicate l.length (.int .u64 0) := by
  apply List.ext_getElem
  · simp [mrow]
  · intro i h1 h2; simp [mrow, msk]
theorem mrow_at (l : List OpD) (b i k : Nat) (hk : k < l.length) : (mrow l b i)[k]? = some (.int .u64 ((msk (truth l k) (if k < i then b + 1 else b) : Nat) : Int)) := by
  simp [mrow, hk]
theorem mrow_end (l : List OpD) (b : Nat) : mrow l b l.length = mrow l (b + 1) 0 := by
  apply List.ext_getElem
  · simp [mrow]
  · intro i h1 h2; simp [mrow] at h1 ⊢; simp [h1]
theorem mrow_no (l : List OpD) (b i : Nat) (h : truth l i b = false) : mrow l b (i + 1) = mrow l b i := by
  apply List.ext_getElem
  · simp [mrow]
  · intro k h1 h2
    simp [mrow] at h1 ⊢
    by_cases e : k = i
    · subst e; simp [msk, h]
    · by_cases e2 : k < i
      · simp [e2, show k < i + 1 by omega]
      · simp [e2, show ¬ k < i + 1 by omega]
theorem mrow_yes (l : List OpD) (b i : Nat) (hi : i < l.length) (h : truth l i b = true) : mrow l b (i + 1) = (mrow l b i).set i (.int .u64 ((msk (truth l i) b + 2 ^ b : Nat) : Int)) := by
  apply List.ext_getElem
  · simp [mrow]
  · intro k h1 h2
    simp [mrow] at h1 ⊢
    by_cases e : k = i
    · subst e; simp [msk, h]
    · rw [List.getElem_set_ne (fun q => e q.symm)]
      by_cases e2 : k < i
      · simp [e2, show k < i + 1 by omega]
      · simp [e2, show ¬ k < i + 1 by omega]
/-- The bits of a number, the first v of them laid. -/
def brow (b v : Nat) : List Bool := (List.range 6).map fun j => decide (j < v) && bitsOf b j
theorem brow_start (b : Nat) : bools (brow b 0) = List.replicate 6 (.bool false) := rfl
theorem brow_set (b v : Nat) (hv : v < 6) : (bools (brow b v)).set v (.bool (bitsOf b v)) = bools (brow b (v + 1)) := by
  rcases (show v = 0 ∨ v = 1 ∨ v = 2 ∨ v = 3 ∨ v = 4 ∨ v = 5 by omega) with rfl | rfl | rfl | rfl | rfl | rfl <;> simp [bools, brow, List.range_succ]
theorem brow_bits (b : Nat) (hb : b < 64) : ∀ v : Int, 0 ≤ v → v < 6 → bitsB (brow b 6) v = bitsOf b v := by
  intro v h0 h6
  obtain ⟨k, rfl⟩ : ∃ k : Nat, v = k := ⟨v.toNat, by omega⟩
  have hk : k < 6 := by omega
  unfold bitsB brow
  simp [hk]
/-- One element of a row of one-cell elements. -/
theorem RowIs.one {w : World} {sv : Value} {G : Option Nat} {e : TypeId} {n : Nat} {xs : List Value} (h : RowIs w sv G e 1 n xs) {i : Nat} {u : Value} (hu : xs[i]? = some u) :
    ∃ g cap, sv = .slice (some ⟨g, 0, none⟩) n cap ∧ G = some g ∧ g < w.heap.size ∧ w.cell? ⟨g, i, none⟩ = some u := by
  have hi : i < n := by have := (List.getElem?_eq_some_iff.1 hu).1; have := h.1; omega
  obtain ⟨g, cap, h1, h2, h3, _⟩ := RowIs.at h (j := 0) hi (by omega)
  rw [Nat.mul_one, Nat.add_zero] at h3
  exact ⟨g, cap, h1, h2, RowIs.lt h g h2, by rw [h3]; exact hu⟩
theorem Arr.bits {w : World} {g : Nat} {l : List Bool} (h : Arr w g 4 (bools l)) (hl : l.length ≤ 1000000) : BitsAre w (.slice (some ⟨g, 0, none⟩) l.length l.length) l :=
  ⟨g, l.length, rfl, h.lt, hl, fun i b hi => by rw [h.cell]; simp [bools, hi]⟩

/-- Two told diagrams are the same just if their numbers are. -/
theorem told_pair {S : Sto} {m : Nat} {all : List Int} {l : List OpD} (hG : Good S 6 m all) (hmap : ∀ β, all.map (ev S β) = runB β [] l) {i k : Nat} {x y : Int} (hx : all[i]? = some x) (hy : all[k]? = some y) :
    x = y ↔ msk (truth l i) 64 = msk (truth l k) 64 := by
  have hxm := hG.has x (List.mem_of_getElem? hx)
  have hym := hG.has y (List.mem_of_getElem? hy)
  have ex : ∀ n, ev S (bitsOf n) x = truth l i n := fun n => by unfold truth; rw [← hmap]; simp [hx]
  have ey : ∀ n, ev S (bitsOf n) y = truth l k n := fun n => by unfold truth; rw [← hmap]; simp [hy]
  rw [msk_eq, ← same_upto (V := 6) hG.wf hG.below hxm hym]
  constructor
  · intro h j hj; rw [← ex, ← ey]; exact h j hj
  · intro h j hj; rw [ex, ey]; exact h j hj
/-- A part of a node, as a node: none, or one of a greater variable. -/
theorem at_part {S : Sto} {x v : Int} (hx : S.has x) (ht : v < topOf S x) : atV S x = ((0, 0, 0), false) ∨ ∃ m, atV S x = (m, true) ∧ v < m.1 := by
  unfold atV
  rw [right_has hx]
  by_cases h2 : x < 2
  · rw [if_pos h2]; exact .inl rfl
  · rw [if_neg h2]
    refine .inr ⟨_, rfl, ?_⟩
    obtain ⟨i, n, rfl, hn⟩ := has_node hx h2
    rw [topOf_node hn] at ht
    rw [show ((i : Int) + 2 - 2).toNat = i by omega, hn]
    exact ht
theorem at_node {S : Sto} {j : Nat} {n : Nd} (hn : S.nodes[j]? = some n) : atV S ((j : Int) + 2) = (n, true) := by
  have hj := (List.getElem?_eq_some_iff.1 hn).1
  unfold atV
  rw [right_has ⟨by omega, by omega⟩, if_neg (by omega), show ((j : Int) + 2 - 2).toNat = j by omega, hn]; rfl

/-- What each told diagram is under a number's bits. -/
theorem told_ev {S : Sto} {m : Nat} {all : List Int} {l : List OpD} (hG : Good S 6 m all) (hlen : all.length = l.length) (hmap : ∀ β, all.map (ev S β) = runB β [] l) {b : Nat} (hb : b < 64) {i : Nat} (hi : i < l.length) :
    ∃ x, all[i]? = some x ∧ S.has x ∧ ev S (bitsB (brow b 6)) (rightOf S x) = truth l i b := by
  have hx : all[i]? = some (all[i]'(by omega)) := List.getElem?_eq_getElem (by omega)
  have hh : S.has (all[i]'(by omega)) := hG.has _ (List.getElem_mem _)
  refine ⟨_, hx, hh, ?_⟩
  rw [right_has hh, ev_upto hG.wf hG.below _ _ (brow_bits b hb) _ _ (Nat.le_refl _) hh]
  unfold truth
  rw [← hmap]
  simp [hx]
end Go.Proofs.Ytboekafmplomhaa
