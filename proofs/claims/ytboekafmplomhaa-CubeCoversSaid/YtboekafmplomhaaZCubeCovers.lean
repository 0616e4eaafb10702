/-
  BddMeans: rows of numbers whose bits say where something holds; worlds in which one block turns.
-/
import Derived.Test.YtboekafmplomhaaZMeansR
import Derived.Test.YtboekafmplomhaaZMadeP
import Derived.Test.YtboekafmplomhaaZInv
import Derived.Deep.Upon
import Derived.Test.YtboekafmplomhaaZCuP
import Derived.Test.YtboekafmplomhaaZCuH
import Derived.Test.YtboekafmplomhaaZCuD
import Derived.Test.YtboekafmplomhaaZKn32
set_option linter.unusedVariables false
set_option linter.unusedSimpArgs false
namespace Go.Proofs.Ytboekafmplomhaa
open Go.RowKit

theorem grown_refl (w : World) (g : Nat) : w.grownBy w (some g) := World.grownBy.refl w _
theorem grown_below {a w w' : World} {g : Nat} (h : a.grownBy w (some g)) (hb : Below w.heap.size w w') : a.grownBy w' (some g) :=
  ⟨hb.os.trans h.os, hb.tape.trans h.tape, hb.output.trans h.output, Nat.le_trans h.size hb.size, fun i hi hn => (hb.block i (Nat.lt_of_lt_of_le hi h.size)).trans (h.block i hi hn)⟩
theorem grown_set {a w : World} {g : Nat} (h : a.grownBy w (some g)) (i : Nat) (u : Value) : a.grownBy (w.setCell ⟨g, i, none⟩ u) (some g) :=
  ⟨h.os, h.tape, h.output, by simpa [World.setCell] using h.size, fun k hk hne => (Below.heap_setCell w ⟨g, i, none⟩ u k (fun e => hne (by rw [e]))).trans (h.block k hk hne)⟩
theorem Held.grown {B : Nat} {w w' : World} {p : Nat} {F : List Nat} {S : Sto} {sv : Value} {G : Option Nat} {all : List Int} (h : Held B w p F S sv G all) {g : Nat} (hg : w.grownBy w' (some g)) (h1 : g ∉ F) (h2 : G ≠ some g) : Held B w' p F S sv G all :=
  h.keep (fun k hk => hg.block k (by rcases hk with hk | hk; exact h.sto.lt k hk; exact RowIs.lt h.row k hk) (fun e => by
    cases e
    rcases hk with hk | hk
    · exact h1 hk
    · exact h2 hk))
theorem below_grown {B : Nat} {a w w' : World} {g : Nat} (h : Below B a w) (hB : B ≤ w.heap.size) (hg : w.grownBy w' (some g)) (h1 : B ≤ g) : Below B a w' :=
  h.grown hg hB (fun k hk => by cases hk; exact h1)
theorem Rd.grown {w w' : World} {size : Nat} {sv : Value} {xs : List Value} (h : Rd w size sv xs) {g : Nat} (hg : w.grownBy w' (some g)) (hne : ∀ a n cap b off, sv = .slice a n cap → a = some ⟨b, off, none⟩ → b ≠ g) : Rd w' size sv xs := by
  obtain ⟨a, n, cap, h1, h2, h3, h4, h5⟩ := h
  refine ⟨a, n, cap, h1, h2, h3, h4, fun hn => ?_⟩
  obtain ⟨b, off, e1, e2, e3⟩ := h5 hn
  exact ⟨b, off, e1, Nat.lt_of_lt_of_le e2 hg.size, fun j u hu => by
    have := hg.block b e2 (fun e => hne a n cap b off h1 e1 (by cases e; rfl))
    simp only [World.cell?] at e3 ⊢
    rw [this]; exact e3 j u hu⟩

/-- The number whose bits, below b, are where f holds. -/
def msk (f : Nat → Bool) : Nat → Nat
  | 0 => 0
  | b + 1 => msk f b + if f b then 2 ^ b else 0
theorem msk_lt (f : Nat → Bool) : ∀ b, msk f b < 2 ^ b
  | 0 => by simp [msk]
  | b + 1 => by have := msk_lt f b; rw [msk, Nat.pow_succ]; cases f b <;> simp <;> omega
theorem msk_bit (f : Nat → Bool) : ∀ (b j : Nat), j < b → (msk f b).testBit j = f j
  | 0, j, h => by omega
  | b + 1, j, h => by
    have hl := msk_lt f b
    rw [msk]
    by_cases e : j = b
    · subst e
      cases hb : f j
      · simp [Nat.testBit_lt_two_pow hl]
      · simp only [if_true]
        rw [Nat.add_comm, Nat.testBit_two_pow_add_eq, Nat.testBit_lt_two_pow hl]; rfl
    · cases hb : f b
      · simp; exact msk_bit f b j (by omega)
      · simp only [if_true]
        rw [Nat.add_comm, Nat.testBit_two_pow_add_gt (by omega)]; exact msk_bit f b j (by omega)
theorem msk_eq (f g : Nat → Bool) (b : Nat) : msk f b = msk g b ↔ ∀ j, j < b → f j = g j := by
  constructor
  · intro h j hj
    have := congrArg (fun x => Nat.testBit x j) h
    simp only [msk_bit f b j hj, msk_bit g b j hj] at this
    exact this
  · intro h
    induction b with
    | zero => rfl
    | succ b ih => rw [msk, msk, ih (fun j hj => h j (by omega)), h b (by omega)]
theorem msk_or (f : Nat → Bool) (b : Nat) (hb : b < 64) : bits BinOp.or IntKind.u64 ((msk f b : Nat) : Int) (((2 : Nat) ^ b : Nat) : Int) = ((msk f b + 2 ^ b : Nat) : Int) := by
  have h1 := msk_lt f b
  have h2 : 2 ^ b < 2 ^ 64 := Nat.pow_lt_pow_right (by omega) hb
  rw [bits_or_u64_nat _ _ (by omega) h2]
  have e := Nat.two_pow_add_eq_or_of_lt h1 1
  rw [Nat.mul_one] at e
  rw [Nat.or_comm, ← e, Nat.add_comm]
theorem msk_or' (f : Nat → Bool) (b : Nat) (hb : b < 64) : bits BinOp.or IntKind.u64 ((msk f b : Nat) : Int) (IntKind.u64.wrap ((2 : Int) ^ b)) = ((msk f b + 2 ^ b : Nat) : Int) := by
  rw [← msk_or f b hb]
  congr 1
  have e : ((2 : Int) ^ b) = ((2 ^ b : Nat) : Int) := by simp
  have h2 : 2 ^ b < 2 ^ 64 := Nat.pow_lt_pow_right (by omega) hb
  rw [e]
  have h3 : 2 ^ b < 18446744073709551616 := h2
  generalize 2 ^ b = y at *
  exact IntWalk.u64_in _ (by omega)
/-- Which call holds under which number's bits. -/
def truth (l : List OpD) (i j : Nat) : Bool := (runB (bitsOf j) [] l).getD i false
def mrow (l : List OpD) (b i : Nat) : List Value := (List.range l.length).map fun k => .int .u64 ((msk (truth l k) (if k < i then b + 1 else b) : Nat) : Int)
theorem mrow_length (l : List OpD) (b i : Nat) : (mrow l b i).length = l.length := by simp [mrow]
theorem mrow_start (l : List OpD) : mrow l 0 0 = List.replicate l.length (.int .u64 0) := by
  apply List.ext_getElem
  · simp [mrow]
  · intro i h1 h2; simp [mrow, msk]
theorem mrow_at (l : List OpD) (b i k : Nat) (hk : k < l.length) : (mrow l b i)[k]? = some (.int .u64 ((msk (truth l k) (if k < i then b + 1 else b) : Nat) : Int)) := by
  simp [mrow, hk]
theorem mrow_end (l : List OpD) (b : Nat) : mrow l b l.length = mrow l (b + 1) 0 := by
  apply List.ext_getElem
  · simp [mrow]
  · intro i h1 h2; simp [mrow] at h1 ⊢; simp [h1]
theorem mrow_no (l : List OpD) (b i : Nat) (h : truth l i b = false) : mrow l b (i + 1) = mrow l b i := by
  apply List.ext_getElem
  · simp [mrow]
  · intro k h1 h2
    simp [mrow] at h1 ⊢
    by_cases e : k = i
    · subst e; simp [msk, h]
    · by_cases e2 : k < i
      · simp [e2, show k < i + 1 by omega]
      · simp [e2, show ¬ k < i + 1 by omega]
theorem mrow_yes (l : List OpD) (b i : Nat) (hi : i < l.length) (h : truth l i b = true) : mrow l b (i + 1) = (mrow l b i).set i (.int .u64 ((msk (truth l i) b + 2 ^ b : Nat) : Int)) := by
  apply List.ext_getElem
  · simp [mrow]
  · intro k h1 h2
    simp [mrow] at h1 ⊢
    by_cases e : k = i
    · subst e; simp [msk, h]
    · rw [List.getElem_set_ne (fun q => e q.symm)]
      by_cases e2 : k < i
      · simp [e2, show k < i + 1 by omega]
      · simp [e2, show ¬ k < i + 1 by omega]
/-- The bits of a number, the first v of them laid. -/
def brow (b v : Nat) : List Bool := (List.range 6).map fun j => decide (j < v) && bitsOf b j
theorem brow_start (b : Nat) : bools (brow b 0) = List.replicate 6 (.bool false) := rfl
theorem brow_set (b v : Nat) (hv : v < 6) : (bools (brow b v)).set v (.bool (bitsOf b v)) = bools (brow b (v + 1)) := by
  rcases (show v = 0 ∨ v = 1 ∨ v = 2 ∨ v = 3 ∨ v = 4 ∨ v = 5 by omega) with rfl | rfl | rfl | rfl | rfl | rfl <;> simp [bools, brow, List.range_succ]
theorem brow_bits (b : Nat) (hb : b < 64) : ∀ v : Int, 0 ≤ v → v < 6 → bitsB (brow b 6) v = bitsOf b v := by
  intro v h0 h6
  obtain ⟨k, rfl⟩ : ∃ k : Nat, v = k := ⟨v.toNat, by omega⟩
  have hk : k < 6 := by omega
  unfold bitsB brow
  simp [hk]
/-- One element of a row of one-cell elements. -/
theorem RowIs.one {w : World} {sv : Value} {G : Option Nat} {e : TypeId} {n : Nat} {xs : List Value} (h : RowIs w sv G e 1 n xs) {i : Nat} {u : Value} (hu : xs[i]? = some u) :
    ∃ g cap, sv = .slice (some ⟨g, 0, none⟩) n cap ∧ G = some g ∧ g < w.heap.size ∧ w.cell? ⟨g, i, none⟩ = some u := by
  have hi : i < n := by have := (List.getElem?_eq_some_iff.1 hu).1; have := h.1; omega
  obtain ⟨g, cap, h1, h2, h3, _⟩ := RowIs.at h (j := 0) hi (by omega)
  rw [Nat.mul_one, Nat.add_zero] at h3
  exact ⟨g, cap, h1, h2, RowIs.lt h g h2, by rw [h3]; exact hu⟩
theorem Arr.bits {w : World} {g : Nat} {l : List Bool} (h : Arr w g 4 (bools l)) (hl : l.length ≤ 1000000) : BitsAre w (.slice (some ⟨g, 0, none⟩) l.length l.length) l :=
  ⟨g, l.length, rfl, h.lt, hl, fun i b hi => by rw [h.cell]; simp [bools, hi]⟩

/-- Two told diagrams are the same just if their numbers are. -/
theorem told_pair {S : Sto} {m : Nat} {all : List Int} {l : List OpD} (hG : Good S 6 m all) (hmap : ∀ β, all.map (ev S β) = runB β [] l) {i k : Nat} {x y : Int} (hx : all[i]? = some x) (hy : all[k]? = some y) :
    x = y ↔ msk (truth l i) 64 = msk (truth l k) 64 := by
  have hxm := hG.has x (List.mem_of_getElem? hx)
  have hym := hG.has y (List.mem_of_getElem? hy)
  have ex : ∀ n, ev S (bitsOf n) x = truth l i n := fun n => by unfold truth; rw [← hmap]; simp [hx]
  have ey : ∀ n, ev S (bitsOf n) y = truth l k n := fun n => by unfold truth; rw [← hmap]; simp [hy]
  rw [msk_eq, ← same_upto (V := 6) hG.wf hG.below hxm hym]
  constructor
  · intro h j hj; rw [← ex, ← ey]; exact h j hj
  · intro h j hj; rw [ex, ey]; exact h j hj
/-- A part of a node, as a node: none, or one of a greater variable. -/
theorem at_part {S : Sto} {x v : Int} (hx : S.has x) (ht : v < topOf S x) : atV S x = ((0, 0, 0), false) ∨ ∃ m, atV S x = (m, true) ∧ v < m.1 := by
  unfold atV
  rw [right_has hx]
  by_cases h2 : x < 2
  · rw [if_pos h2]; exact .inl rfl
  · rw [if_neg h2]
    refine .inr ⟨_, rfl, ?_⟩
    obtain ⟨i, n, rfl, hn⟩ := has_node hx h2
    rw [topOf_node hn] at ht
    rw [show ((i : Int) + 2 - 2).toNat = i by omega, hn]
    exact ht
theorem at_node {S : Sto} {j : Nat} {n : Nd} (hn : S.nodes[j]? = some n) : atV S ((j : Int) + 2) = (n, true) := by
  have hj := (List.getElem?_eq_some_iff.1 hn).1
  unfold atV
  rw [right_has ⟨by omega, by omega⟩, if_neg (by omega), show ((j : Int) + 2 - 2).toNat = j by omega, hn]; rfl

/-- What each told diagram is under a number's bits. -/
theorem told_ev {S : Sto} {m : Nat} {all : List Int} {l : List OpD} (hG : Good S 6 m all) (hlen : all.length = l.length) (hmap : ∀ β, all.map (ev S β) = runB β [] l) {b : Nat} (hb : b < 64) {i : Nat} (hi : i < l.length) :
    ∃ x, all[i]? = some x ∧ S.has x ∧ ev S (bitsB (brow b 6)) (rightOf S x) = truth l i b := by
  have hx : all[i]? = some (all[i]'(by omega)) := List.getElem?_eq_getElem (by omega)
  have hh : S.has (all[i]'(by omega)) := hG.has _ (List.getElem_mem _)
  refine ⟨_, hx, hh, ?_⟩
  rw [right_has hh, ev_upto hG.wf hG.below _ _ (brow_bits b hb) _ _ (Nat.le_refl _) hh]
  unfold truth
  rw [← hmap]
  simp [hx]
end Go.Proofs.Ytboekafmplomhaa
set_option linter.unusedVariables false
set_option linter.unusedSimpArgs false
namespace Go.Proofs.Ytboekafmplomhaa
open Go.RowKit

theorem RowIs.addr2 {w : World} {a : Option Addr} {n c g : Nat} {e : TypeId} {s m : Nat} {xs : List Value} (h : RowIs w (.slice a n c) (some g) e s m xs) : a = some ⟨g, 0, none⟩ ∧ n = m := by
  obtain ⟨_, ⟨_, _, h3⟩ | ⟨g', cap, cur, h1, h2, _⟩⟩ := h
  · cases h3
  · cases h2
    injection h1 with e1 e2
    exact ⟨e1, e2⟩
theorem not_up {ops : Array Oper} {L : Array Bool} {i k : Nat} (hd : Down .any ops L) (hk : k ∈ deps .any ops i) (h : L.getD k true = false) : L.getD i false = false := by
  cases hc : L.getD i false with
  | false => rfl
  | true =>
    have := hd i hc k hk
    rw [getD_false_of h] at this; cases this
theorem not_upA {ops : Array Oper} {L : Array Bool} {i k : Nat} (hd : Down .any ops L) (ha : anc ops i k = true) (h : L.getD k true = false) : L.getD i false = false := by
  cases hc : L.getD i false with
  | false => rfl
  | true => have := up_of hd hc ha; rw [getD_false_of h] at this; cases this
theorem up_ne {L : Array Bool} (k j : Nat) (h : k ≠ j) : (L.setIfInBounds k true).getD j false = L.getD j false := getD_set_ne false h
def gx (c : Bool) (v y : Value) : Value := if c then v else y
theorem gx_true (v y : Value) : gx true v y = v := rfl
theorem gx_false (v y : Value) : gx false v y = y := rfl

/-- The worlds of the region: reads first; then Ite, a row of one, append. -/
structure MdI (Z : World) (B p : Nat) (F : List Nat) (S1 : Sto) (r : Int) (all : List Int) (b : Nat → Bool) (w : World) (q : Nat) (v' : Value) : Prop where
  a : b 44 = false → Below Z.heap.size Z w
  i : b 44 = true → b 45 = false → ∃ F1, StoIs w p F1 S1 ∧ StoStep Z w F F1
  c : b 45 = true → b 46 = false → ∃ w1 F1, StoIs w1 p F1 S1 ∧ StoStep Z w1 F F1 ∧ w = w1.alloc (.cells #[.int .i64 r] 3) ∧ q = w1.heap.size
  d : b 46 = true → ∃ F1 G', Held B w p F1 S1 v' (some G') (all ++ [r]) ∧ Below B Z w
section
variable {Z w w' : World} {B p q g n sc : Nat} {F : List Nat} {S S1 : Sto} {r : Int} {all : List Int} {b b' : Nat → Bool} {v' : Value}
theorem MdI.congr (h : MdI Z B p F S1 r all b w q v') (h4 : b' 44 = b 44) (h5 : b' 45 = b 45) (h6 : b' 46 = b 46) : MdI Z B p F S1 r all b' w q v' := by
  obtain ⟨a1, a2, a3, a4⟩ := h
  exact ⟨by rw [h4]; exact a1, by rw [h4, h5]; exact a2, by rw [h5, h6]; exact a3, by rw [h6]; exact a4⟩
theorem MdI.ext (h : MdI Z B p F S1 r all b w q v') (f : b 44 = false) (f' : b' 44 = false) (g5 : b' 45 = false) (g6 : b' 46 = false) (m : Array Obj) (d : Nat) : MdI Z B p F S1 r all b' (w.ext m d) q v' :=
  ⟨fun _ => Below.ext_mk (h.a f) (h.a f).size m d, fun e => by (rw [f'] at e; cases e), fun e => by (rw [g5] at e; cases e), fun e => by (rw [g6] at e; cases e)⟩
theorem MdI.ite (h : MdI Z B p F S1 r all b w q v') (f : b 44 = false) (f' : b' 44 = true) (f5 : b' 45 = false) (f6 : b' 46 = false) {F2 : List Nat} (hS : StoIs w' p F2 S1) (st : StoStep w w' F F2) : MdI Z B p F S1 r all b' w' q v' :=
  ⟨fun e => by (rw [f'] at e; cases e), fun _ _ => ⟨F2, hS, (StoStep.of_below (h.a f)).trans st⟩, fun e => by (rw [f5] at e; cases e), fun e => by (rw [f6] at e; cases e)⟩
theorem MdI.lit (h : MdI Z B p F S1 r all b w q v') (f : b 44 = true) (f5 : b 45 = false) (f' : b' 44 = true) (f5' : b' 45 = true) (f6 : b' 46 = false) : MdI Z B p F S1 r all b' (w.alloc (.cells #[.int .i64 r] 3)) w.heap.size v' := by
  obtain ⟨F2, hS, st⟩ := h.i f f5
  exact ⟨fun e => by (rw [f'] at e; cases e), fun _ e => by (rw [f5'] at e; cases e), fun _ _ => ⟨w, F2, hS, st, rfl, rfl⟩, fun e => by (rw [f6] at e; cases e)⟩
theorem MdI.app (h : MdI Z B p F S1 r all b w q v') {sv : Value} {G : Option Nat} (H : Held B Z p F S sv G all) (hB : B ≤ Z.heap.size) (hk : all.length ≤ 1000) (f5 : b 45 = true) (f6 : b 46 = false) :
    ∃ v2 w3 G2, (Builtin.append_ #[28, 28] 28 #[sv, .slice (some ⟨q, 0, none⟩) 1 1]).run Try.prog w = .ok v2 w3 ∧ (∃ F1, Held B w3 p F1 S1 v2 (some G2) (all ++ [r])) ∧ Below B Z w3 := by
  obtain ⟨w1, F1, hS, st, rfl, rfl⟩ := h.c f5 f6
  obtain ⟨v2, w3, G2, r1, r2, r3⟩ := H.grow hB hS st hk r
  exact ⟨v2, w3, G2, r1, ⟨F1, r2⟩, r3⟩
theorem MdI.fin (h : MdI Z B p F S1 r all b w q v') (f6 : b' 46 = true) (f4 : b' 44 = true) (f5 : b' 45 = true) {v2 : Value} {w3 : World} {G2 : Nat} (H : ∃ F1, Held B w3 p F1 S1 v2 (some G2) (all ++ [r])) (hb : Below B Z w3) : MdI Z B p F S1 r all b' w3 q v2 := by
  obtain ⟨F1, H⟩ := H
  exact ⟨fun e => by (rw [f4] at e; cases e), fun _ e => by (rw [f5] at e; cases e), fun _ e => by (rw [f6] at e; cases e), fun _ => ⟨F1, G2, H, hb⟩⟩
end
-- printed by genmade.py
def mdAct (p g n sc lb lo ll lc i m i1 i2 i3 b1 b2 b3 c1 c2 c3 : Nat) (fv : Value) (k1 k2 k3 x1 x2 x3 r : Int) (y0 y1 y2 y3 y4 y5 y6 y7 y8 y9 y10 y11 y12 y13 y14 y15 y16 y17 y18 y19 y20 y21 y22 y23 y24 y25 y26 y27 y28 y29 y30 y31 y32 y33 y34 y35 y36 y37 y38 y39 y40 y41 y42 y43 y44 y45 y46 y47 y48 y49 y50 y51 y52 y53 y54 y55 y56 y57 y58 y59 y60 y61 y62 y63 y64 y65 y66 y67 y68 y69 y70 y71 y72 y73 y74 y75 y76 y77 y78 y79 y80 y81 y82 y83 y84 y85 y86 y87 y88 y89 y90 y91 y92 y93 y94 y95 y96 y97 y98 y99 y100 y101 y102 y103 : Value) (b : Nat → Bool) (q : Nat) (v' : Value) : Act :=
  ⟨#[y0, y1, y2, y3, y4, y5, y6, y7, gx (b 47) (v') y8, y9, y10, y11, y12, y13, y14, y15, y16, y17, y18, y19, y20, y21, y22, y23, y24, y25, y26, y27, y28, y29, y30, y31, y32, y33, y34, y35, y36, y37, y38, y39, y40, y41, y42, y43, y44, y45, y46, y47, y48, y49, y50, y51, y52, y53, y54, gx (b 0) (.slice (some ⟨g, 0, none⟩) n sc) y55, gx (b 1) (.pointer (some ⟨p, 0, none⟩)) y56, gx (b 2) (.slice (some ⟨g, 0, none⟩) n sc) y57, gx (b 3) (.int .i64 (n : Nat)) y58, gx (b 4) (.int .i64 (m : Nat)) y59, gx (b 5) (fv) y60, gx (b 6) (.slice (some ⟨lb, lo, none⟩) ll lc) y61, gx (b 7) (.int .i64 (i : Nat)) y62, gx (b 8) (.int .i64 (i1 : Nat)) y63, gx (b 9) (.pointer (some ⟨lb, lo + i1, none⟩)) y64, gx (b 10) (.int .i64 k1) y65, gx (b 11) (.int .i64 (n : Nat)) y66, gx (b 12) (.int .i64 (b1 : Nat)) y67, gx (b 13) (.int .i64 (c1 : Nat)) y68, gx (b 14) (.pointer (some ⟨g, c1, none⟩)) y69, gx (b 15) (.int .i64 x1) y70, gx (b 16) (.slice (some ⟨g, 0, none⟩) n sc) y71, gx (b 17) (.int .i64 (n : Nat)) y72, gx (b 18) (.int .i64 (m : Nat)) y73, gx (b 19) (fv) y74, gx (b 20) (.slice (some ⟨lb, lo, none⟩) ll lc) y75, gx (b 21) (.int .i64 (i : Nat)) y76, gx (b 22) (.int .i64 (i2 : Nat)) y77, gx (b 23) (.pointer (some ⟨lb, lo + i2, none⟩)) y78, gx (b 24) (.int .i64 k2) y79, gx (b 25) (.int .i64 (n : Nat)) y80, gx (b 26) (.int .i64 (b2 : Nat)) y81, gx (b 27) (.int .i64 (c2 : Nat)) y82, gx (b 28) (.pointer (some ⟨g, c2, none⟩)) y83, gx (b 29) (.int .i64 x2) y84, gx (b 30) (.slice (some ⟨g, 0, none⟩) n sc) y85, gx (b 31) (.int .i64 (n : Nat)) y86, gx (b 32) (.int .i64 (m : Nat)) y87, gx (b 33) (fv) y88, gx (b 34) (.slice (some ⟨lb, lo, none⟩) ll lc) y89, gx (b 35) (.int .i64 (i : Nat)) y90, gx (b 36) (.int .i64 (i3 : Nat)) y91, gx (b 37) (.pointer (some ⟨lb, lo + i3, none⟩)) y92, gx (b 38) (.int .i64 k3) y93, gx (b 39) (.int .i64 (n : Nat)) y94, gx (b 40) (.int .i64 (b3 : Nat)) y95, gx (b 41) (.int .i64 (c3 : Nat)) y96, gx (b 42) (.pointer (some ⟨g, c3, none⟩)) y97, gx (b 43) (.int .i64 x3) y98, gx (b 44) (.int .i64 r) y99, gx (b 45) (.slice (some ⟨q, 0, none⟩) 1 1) y100, gx (b 46) (v') y101, y102, y103], []⟩
def mdInv (Z : World) (B : Nat) (p g n sc lb lo ll lc i m i1 i2 i3 b1 b2 b3 c1 c2 c3 : Nat) (fv : Value) (k1 k2 k3 x1 x2 x3 r : Int) (F : List Nat) (S1 : Sto) (all : List Int) (y0 y1 y2 y3 y4 y5 y6 y7 y8 y9 y10 y11 y12 y13 y14 y15 y16 y17 y18 y19 y20 y21 y22 y23 y24 y25 y26 y27 y28 y29 y30 y31 y32 y33 y34 y35 y36 y37 y38 y39 y40 y41 y42 y43 y44 y45 y46 y47 y48 y49 y50 y51 y52 y53 y54 y55 y56 y57 y58 y59 y60 y61 y62 y63 y64 y65 y66 y67 y68 y69 y70 y71 y72 y73 y74 y75 y76 y77 y78 y79 y80 y81 y82 y83 y84 y85 y86 y87 y88 y89 y90 y91 y92 y93 y94 y95 y96 y97 y98 y99 y100 y101 y102 y103 : Value) (L : Array Bool) (a : Act) (w : World) : Prop :=
  ∃ q v', a = mdAct p g n sc lb lo ll lc i m i1 i2 i3 b1 b2 b3 c1 c2 c3 fv k1 k2 k3 x1 x2 x3 r y0 y1 y2 y3 y4 y5 y6 y7 y8 y9 y10 y11 y12 y13 y14 y15 y16 y17 y18 y19 y20 y21 y22 y23 y24 y25 y26 y27 y28 y29 y30 y31 y32 y33 y34 y35 y36 y37 y38 y39 y40 y41 y42 y43 y44 y45 y46 y47 y48 y49 y50 y51 y52 y53 y54 y55 y56 y57 y58 y59 y60 y61 y62 y63 y64 y65 y66 y67 y68 y69 y70 y71 y72 y73 y74 y75 y76 y77 y78 y79 y80 y81 y82 y83 y84 y85 y86 y87 y88 y89 y90 y91 y92 y93 y94 y95 y96 y97 y98 y99 y100 y101 y102 y103 (fun k => L.getD k false) q v' ∧ MdI Z B p F S1 r all (fun k => L.getD k false) w q v'
theorem wp_made {ops : Array Oper} {id : Nat} {Q : Exit → Act → World → Prop} {y0 y1 y2 y3 y4 y5 y6 y7 y8 y9 y10 y11 y12 y13 y14 y15 y16 y17 y18 y19 y20 y21 y22 y23 y24 y25 y26 y27 y28 y29 y30 y31 y32 y33 y34 y35 y36 y37 y38 y39 y40 y41 y42 y43 y44 y45 y46 y47 y48 y49 y50 y51 y52 y53 y54 y55 y56 y57 y58 y59 y60 y61 y62 y63 y64 y65 y66 y67 y68 y69 y70 y71 y72 y73 y74 y75 y76 y77 y78 y79 y80 y81 y82 y83 y84 y85 y86 y87 y88 y89 y90 y91 y92 y93 y94 y95 y96 y97 y98 y99 y100 y101 y102 y103 : Value} (Z : World) (B : Nat) (p g n sc lb lo ll lc i m i1 i2 i3 b1 b2 b3 c1 c2 c3 : Nat) (fv : Value) (k1 k2 k3 x1 x2 x3 r : Int) (F : List Nat) (S1 : Sto) (all : List Int)
    (hm : Try.prog.follows .mixedOrders = true) (hlt : (List.range ops.size).all (fun i => (deps .any ops i).all (fun k => decide (k < i))) = true)
    (h0 : mdInv Z B p g n sc lb lo ll lc i m i1 i2 i3 b1 b2 b3 c1 c2 c3 fv k1 k2 k3 x1 x2 x3 r F S1 all y0 y1 y2 y3 y4 y5 y6 y7 y8 y9 y10 y11 y12 y13 y14 y15 y16 y17 y18 y19 y20 y21 y22 y23 y24 y25 y26 y27 y28 y29 y30 y31 y32 y33 y34 y35 y36 y37 y38 y39 y40 y41 y42 y43 y44 y45 y46 y47 y48 y49 y50 y51 y52 y53 y54 y55 y56 y57 y58 y59 y60 y61 y62 y63 y64 y65 y66 y67 y68 y69 y70 y71 y72 y73 y74 y75 y76 y77 y78 y79 y80 y81 y82 y83 y84 y85 y86 y87 y88 y89 y90 y91 y92 y93 y94 y95 y96 y97 y98 y99 y100 y101 y102 y103 (Array.replicate ops.size false) ⟨#[y0, y1, y2, y3, y4, y5, y6, y7, y8, y9, y10, y11, y12, y13, y14, y15, y16, y17, y18, y19, y20, y21, y22, y23, y24, y25, y26, y27, y28, y29, y30, y31, y32, y33, y34, y35, y36, y37, y38, y39, y40, y41, y42, y43, y44, y45, y46, y47, y48, y49, y50, y51, y52, y53, y54, y55, y56, y57, y58, y59, y60, y61, y62, y63, y64, y65, y66, y67, y68, y69, y70, y71, y72, y73, y74, y75, y76, y77, y78, y79, y80, y81, y82, y83, y84, y85, y86, y87, y88, y89, y90, y91, y92, y93, y94, y95, y96, y97, y98, y99, y100, y101, y102, y103], []⟩ Z.drew)
    (hfin : ∀ (L : Array Bool) (a : Act) (w : World), (∀ j, j < ops.size → L.getD j false = true) → mdInv Z B p g n sc lb lo ll lc i m i1 i2 i3 b1 b2 b3 c1 c2 c3 fv k1 k2 k3 x1 x2 x3 r F S1 all y0 y1 y2 y3 y4 y5 y6 y7 y8 y9 y10 y11 y12 y13 y14 y15 y16 y17 y18 y19 y20 y21 y22 y23 y24 y25 y26 y27 y28 y29 y30 y31 y32 y33 y34 y35 y36 y37 y38 y39 y40 y41 y42 y43 y44 y45 y46 y47 y48 y49 y50 y51 y52 y53 y54 y55 y56 y57 y58 y59 y60 y61 y62 y63 y64 y65 y66 y67 y68 y69 y70 y71 y72 y73 y74 y75 y76 y77 y78 y79 y80 y81 y82 y83 y84 y85 y86 y87 y88 y89 y90 y91 y92 y93 y94 y95 y96 y97 y98 y99 y100 y101 y102 y103 L a w → Q .normal a w)
    (hs' : InvSteps Try.prog ops (mdInv Z B p g n sc lb lo ll lc i m i1 i2 i3 b1 b2 b3 c1 c2 c3 fv k1 k2 k3 x1 x2 x3 r F S1 all y0 y1 y2 y3 y4 y5 y6 y7 y8 y9 y10 y11 y12 y13 y14 y15 y16 y17 y18 y19 y20 y21 y22 y23 y24 y25 y26 y27 y28 y29 y30 y31 y32 y33 y34 y35 y36 y37 y38 y39 y40 y41 y42 y43 y44 y45 y46 y47 y48 y49 y50 y51 y52 y53 y54 y55 y56 y57 y58 y59 y60 y61 y62 y63 y64 y65 y66 y67 y68 y69 y70 y71 y72 y73 y74 y75 y76 y77 y78 y79 y80 y81 y82 y83 y84 y85 y86 y87 y88 y89 y90 y91 y92 y93 y94 y95 y96 y97 y98 y99 y100 y101 y102 y103) 0 ops.toList) : (Code.region id ops true).wp Try.prog Q ⟨#[y0, y1, y2, y3, y4, y5, y6, y7, y8, y9, y10, y11, y12, y13, y14, y15, y16, y17, y18, y19, y20, y21, y22, y23, y24, y25, y26, y27, y28, y29, y30, y31, y32, y33, y34, y35, y36, y37, y38, y39, y40, y41, y42, y43, y44, y45, y46, y47, y48, y49, y50, y51, y52, y53, y54, y55, y56, y57, y58, y59, y60, y61, y62, y63, y64, y65, y66, y67, y68, y69, y70, y71, y72, y73, y74, y75, y76, y77, y78, y79, y80, y81, y82, y83, y84, y85, y86, y87, y88, y89, y90, y91, y92, y93, y94, y95, y96, y97, y98, y99, y100, y101, y102, y103], []⟩ Z :=
  wp_region_invs (mdInv Z B p g n sc lb lo ll lc i m i1 i2 i3 b1 b2 b3 c1 c2 c3 fv k1 k2 k3 x1 x2 x3 r F S1 all y0 y1 y2 y3 y4 y5 y6 y7 y8 y9 y10 y11 y12 y13 y14 y15 y16 y17 y18 y19 y20 y21 y22 y23 y24 y25 y26 y27 y28 y29 y30 y31 y32 y33 y34 y35 y36 y37 y38 y39 y40 y41 y42 y43 y44 y45 y46 y47 y48 y49 y50 y51 y52 y53 y54 y55 y56 y57 y58 y59 y60 y61 y62 y63 y64 y65 y66 y67 y68 y69 y70 y71 y72 y73 y74 y75 y76 y77 y78 y79 y80 y81 y82 y83 y84 y85 y86 y87 y88 y89 y90 y91 y92 y93 y94 y95 y96 y97 y98 y99 y100 y101 y102 y103) hm hlt h0 hfin hs'
end Go.Proofs.Ytboekafmplomhaa
set_option linter.unusedVariables false
set_option linter.unusedSimpArgs false
namespace Go.Proofs.Ytboekafmplomhaa
open Go.RowKit

theorem at32_any (x : Int) (n : Nat) (h0 : 0 < n) (hn : n ≤ 1000) (hx : -9223372036854775808 ≤ x ∧ x ≤ 9223372036854775807) (w : World) :
    Calls Try.prog 114 #[.int .i64 x, .int .i64 (n : Int)] w (Pure (.int .i64 (atN x n)) w) := by
  have hz : ((n : Int) == 0) = false := by simp; omega
  have hz1 : ¬ (n : Int) = 0 := by omega
  have hz2 : ¬ n = 0 := by omega
  have hnm : ¬ (n : Int) = -1 := by omega
  by_cases hx0 : x < 0
  · have e1 : IntKind.i64.wrap (x + 1) = x + 1 := IntWalk.i64_in _ (by omega)
    have e2 : IntKind.i64.wrap (-(x + 1)) = -(x + 1) := IntWalk.i64_in _ (by omega)
    have e3 : (-(x + 1)).tmod (n : Int) = atN x n := by unfold atN; rw [if_pos hx0, Int.tmod_eq_emod_of_nonneg (by omega)]
    have hr := atN_range x (n := (n : Int)) (by omega)
    have e4 : IntKind.i64.wrap (atN x n) = atN x n := IntWalk.i64_in _ (by omega)
    clear hr
    go_enter Try.func114, Try.ntmps114
    go_wp2
    go_returns
    exact Pure.of rfl (by (repeat' (first | (with_reducible exact Below.refl _ _) | (with_reducible refine Below.ext_mk ?_ ?_ _ _) | (with_reducible refine Below.alloc ?_ ?_ _) | (with_reducible refine Below.drew ?_) | (with_reducible refine Below.setCell ?_ ?_ _) | go_size)))
  · have e3 : x.tmod (n : Int) = atN x n := by unfold atN; rw [if_neg hx0, Int.tmod_eq_emod_of_nonneg (by omega)]
    have hr := atN_range x (n := (n : Int)) (by omega)
    have e4 : IntKind.i64.wrap (atN x n) = atN x n := IntWalk.i64_in _ (by omega)
    clear hr
    go_enter Try.func114, Try.ntmps114
    go_wp2
    go_returns
    exact Pure.of rfl (by (repeat' (first | (with_reducible exact Below.refl _ _) | (with_reducible refine Below.ext_mk ?_ ?_ _ _) | (with_reducible refine Below.alloc ?_ ?_ _) | (with_reducible refine Below.drew ?_) | (with_reducible refine Below.setCell ?_ ?_ _) | go_size)))

/-- What 'made' tells: a store, and the diagrams, in blocks of their own. -/
def MadeAt32 (w : World) (cap : Int) (l : List Int) (e : Ending) (w' : World) : Prop :=
  ∃ (p : Nat) (F : List Nat) (sv : Value) (G : Option Nat), e = .returned (.tuple #[.pointer (some ⟨p, 0, none⟩), sv]) ∧ Held w.heap.size w' p F (madeV cap l).1 sv G (madeV cap l).2 ∧ Below w.heap.size w w'

set_option maxRecDepth 100000 in
set_option maxHeartbeats 16000000 in
theorem made32_any {w : World} {sv0 : Value} {l : List Int} {cap : Int} (h1 : 2 ≤ cap) (h2 : cap ≤ 1048576) (hl0 : Rd w 1 sv0 (ints l)) (hI : ∀ x ∈ l, -9223372036854775808 ≤ x ∧ x ≤ 9223372036854775807) :
    Calls Try.prog 53 #[.int .i64 cap, sv0] w (MadeAt32 w cap l) := by
  obtain ⟨la, lc, rfl, hlc, hlm⟩ := hl0.len
  have HL := hid hl0
  have HI := hid hI
  have NC := new_call cap h1 h2
  clear hl0 hI
  go_enter Try.func53, Try.ntmps53
  go_upto_region 6 with (go_at_call 15; refine (NC _).mono ?_; rintro e w1 ⟨p, F, rfl, hS, hb, hF⟩)
  refine wp_gen (fun V hV => ?_)
  have hbw : Below w1.heap.size w1 V := by rw [hV]; (repeat' (first | (with_reducible exact Below.refl _ _) | (with_reducible refine Below.ext_mk ?_ ?_ _ _) | (with_reducible refine Below.alloc ?_ ?_ _) | (with_reducible refine Below.drew ?_) | (with_reducible refine Below.setCell ?_ ?_ _) | go_size))
  have bl : RowIs V (.slice (some ⟨w1.heap.size, 0, none⟩) 2 2) (some w1.heap.size) 3 1 2 (ints [0, 1]) := by
    rw [hV]
    exact ⟨rfl, .inr ⟨w1.heap.size, 2, #[.int .i64 0, .int .i64 1], rfl, rfl, World.heap_alloc_last w1 _, Nat.le_refl _, by unfold maxLen; omega, rfl, rfl⟩⟩
  clear hV
  have hws := hb.size
  have H0 : Held w.heap.size V p F (newS cap) (.slice (some ⟨w1.heap.size, 0, none⟩) 2 2) (some w1.heap.size) [0, 1] :=
    ⟨hS.below hbw, bl, hF, fun g hg => by cases hg; exact ⟨by omega, fun hm => by have := hS.lt _ hm; omega⟩⟩
  have hbV : Below w.heap.size w V := hb.trans (hbw.mono hws)
  have H0h := hid H0
  have HF := hid hF
  clear hS hF bl H0 hb hbw
  go_wp2_with fail
  go_loopw [8, 10] (fun v iv wr => ∃ (j : Nat) (S : Sto) (all : List Int) (F : List Nat) (sc g : Nat), j ≤ 20 ∧ 4 * j ≤ l.length ∧ v = .slice (some ⟨g, 0, none⟩) all.length sc ∧ iv = .int .i64 (4 * j : Nat) ∧ Held w.heap.size wr p F S v (some g) all ∧
      MadeOk S 8 (256 * j) all ∧ all.length = j + 2 ∧ madeL (20 - j) S all (l.drop (4 * j)) = madeV cap l ∧ Below w.heap.size w wr) (fun _ iv _ => l.length + 4 - (intOf iv).toNat)
  case atStart => exact ⟨0, _, [0, 1], F, _, _, by omega, by omega, rfl, rfl, H0h.out, made_new h1 h2, rfl, rfl, hbV⟩
  case round =>
    obtain ⟨j, S, all, F1, sc, g, hj, hj4, rfl, rfl, hH, hM, hal, hmd, hbr⟩ := hrel
    have HH := hid hH
    have HM := hid hM
    have HD := hid hmd
    clear hH hM hmd
    obtain ⟨i, hi⟩ : ∃ i, i = 4 * j := ⟨_, rfl⟩
    rw [← hi] at HD hj4 ⊢
    have wi3 : IntKind.i64.wrap ((i : Int) + 3) = (i : Int) + 3 := IntWalk.i64_in _ (by omega)
    have Hi := hid hi
    have hal2 : all.length ≤ 22 := by omega
    have hal0 : 2 ≤ all.length := by omega
    have HAL := hid hal
    clear hal
    by_cases q1 : i + 3 < l.length
    · have q1' : (i : Int) + 3 < (l.length : Int) := by omega
      by_cases q2 : j < 20
      · have q2' : (i : Int) < 80 := by omega
        have L1 := HL.out.below hbr
        obtain ⟨lb, lo, rfl, zl, k0⟩ := Rd.intAt L1 (i := i) (by omega)
        obtain ⟨_, _, e1', _, k1⟩ := Rd.intAt L1 (i := i + 1) (by omega)
        cases e1'
        obtain ⟨_, _, e2', _, k2⟩ := Rd.intAt L1 (i := i + 2) (by omega)
        cases e2'
        obtain ⟨_, _, e3', _, k3⟩ := Rd.intAt L1 (i := i + 3) (by omega)
        cases e3'
        have I1 := HI.out l[i + 1] (List.getElem_mem _)
        have I2 := HI.out l[i + 2] (List.getElem_mem _)
        have I3 := HI.out l[i + 3] (List.getElem_mem _)
        have I0 := HI.out l[i] (List.getElem_mem _)
        have NX := hid (madeL_next (k := 19 - j) (S := S) (all := all) (List.getElem?_eq_getElem (show i < l.length by omega)) (List.getElem?_eq_getElem (show i + 1 < l.length by omega)) (List.getElem?_eq_getElem (show i + 2 < l.length by omega)) (List.getElem?_eq_getElem (show i + 3 < l.length by omega)))
        rw [show 19 - j + 1 = 20 - j by omega] at NX
        have hn0 : 0 < all.length := by omega
        have X1 := backN_mem hn0 l[i + 1]
        have X2 := backN_mem hn0 l[i + 2]
        have X3 := backN_mem hn0 l[i + 3]
        clear X1 X2 X3
        -- the four numbers
        generalize l[i] = u0 at *
        generalize l[i + 1] = u1 at *
        generalize l[i + 2] = u2 at *
        generalize l[i + 3] = u3 at *
        clear L1
        have wi1 : IntKind.i64.wrap ((i : Int) + 1) = ((i + 1 : Nat) : Int) := by rw [IntWalk.i64_in _ (by omega)]; omega
        have wi2 : IntKind.i64.wrap ((i : Int) + 2) = ((i + 2 : Nat) : Int) := by rw [IntWalk.i64_in _ (by omega)]; omega
        have wi3' : IntKind.i64.wrap ((i : Int) + 3) = ((i + 3 : Nat) : Int) := by rw [IntWalk.i64_in _ (by omega)]; omega
        have wi4 : IntKind.i64.wrap ((i : Int) + 4) = ((i + 4 : Nat) : Int) := by rw [IntWalk.i64_in _ (by omega)]; omega
        obtain ⟨i1, hi1⟩ : ∃ i1, i1 = i + 1 := ⟨_, rfl⟩
        obtain ⟨i2, hi2⟩ : ∃ i2, i2 = i + 2 := ⟨_, rfl⟩
        obtain ⟨i3, hi3⟩ : ∃ i3, i3 = i + 3 := ⟨_, rfl⟩
        obtain ⟨i4, hi4⟩ : ∃ i4, i4 = i + 4 := ⟨_, rfl⟩
        rw [← hi1] at wi1 k1
        rw [← hi2] at wi2 k2
        rw [← hi3] at k3
        rw [← hi4] at wi4
        have li1 : (i1 : Int) < (l.length : Int) := by omega
        have li2 : (i2 : Int) < (l.length : Int) := by omega
        have li3 : (i3 : Int) < (l.length : Int) := by omega
        have li0 : (i : Int) < (l.length : Int) := by omega
        have wi3'' : IntKind.i64.wrap ((i : Int) + 3) = (i3 : Int) := by rw [wi3', hi3]
        have HI4 := hid (And.intro hi4 (And.intro hi1 (And.intro hi2 hi3)))
        have tm : IntKind.i64.wrap (u0.tmod 2) = u0.tmod 2 := IntWalk.i64_in _ (by have := Int.tmod_lt_of_pos u0 (b := 2) (by omega); have := Int.lt_tmod_of_pos u0 (b := 2) (by omega); omega)
        by_cases hev : u0.tmod 2 = 0
        · -- a variable
          have hev' : (u0.tmod 2 == 0) = true := by simpa using hev
          have ST : stepM S all u0 u1 u2 u3 = varV S (atN u1 8) := by unfold stepM; rw [if_pos hev]
          rw [ST] at NX
          have VK := stepM_ok HM.out u0 u1 u2 u3
          rw [ST] at VK
          have VC := fun m d => var_call (HH.out.sto.ext m d) HM.out.wf (atN u1 8)
          unfold Tells at VC
          have HVK := hid VK
          have A1 := at32_any u1 8 (by omega) (by omega) I1
          have HE := hid hev
          clear VK hi1 hi2 hi3 hi4 wi2 wi3' k2 k3 ST hi hev
          go_upto_region 11 with (fail)
          refine wp_region_doc (fun F' hF => ?_)
          have HF1 := hid hF
          clear hF
          iterate 8 (refine doc_val rfl (by first | (go_simp; done) | (go_simp; exact ⟨rfl, rfl⟩) | (go_simp; with_reducible rfl)) ?_; simp only [Act.put, List.setIfInBounds_toArray, List.set_cons_zero, List.set_cons_succ])
          refine doc_call rfl (by first | (go_simp; done) | (go_simp; exact ⟨rfl, rfl⟩) | (go_simp; with_reducible rfl)) ((A1 wr).mono ?_)
          rintro _ _ ⟨rfl, m1, d1, rfl⟩
          refine ⟨_, rfl, ?_⟩
          simp only [Act.put, List.setIfInBounds_toArray, List.set_cons_zero, List.set_cons_succ]
          refine doc_call rfl (by first | (go_simp; done) | (go_simp; exact ⟨rfl, rfl⟩) | (go_simp; with_reducible rfl)) ((VC m1 d1).mono ?_)
          rintro _ w2 ⟨rfl, F2, hS2, st2⟩
          refine ⟨_, rfl, ?_⟩
          simp only [Act.put, List.setIfInBounds_toArray, List.set_cons_zero, List.set_cons_succ]
          have st3 : StoStep wr w2 F1 F2 := (StoStep.of_below (Below.ext_mk (Below.refl _ _) (Nat.le_refl _) m1 d1)).trans st2
          obtain ⟨v', w3, G', r1, r2, r3⟩ := HH.out.grow hbr.size hS2 st3 (by omega) (varV S (atN u1 8)).2
          refine doc_val rfl (by first | (go_simp; done) | (go_simp; exact ⟨rfl, rfl⟩) | (go_simp; with_reducible rfl)) ?_
          simp only [Act.put, List.setIfInBounds_toArray, List.set_cons_zero, List.set_cons_succ]
          refine doc_val rfl (run_append_op _ _ _ _ _ _ _ _ _ r1) ?_
          simp only [Act.put, List.setIfInBounds_toArray, List.set_cons_zero, List.set_cons_succ]
          refine doc_val rfl (by first | (go_simp; done) | (go_simp; exact ⟨rfl, rfl⟩) | (go_simp; with_reducible rfl)) ?_
          simp only [Act.put, List.setIfInBounds_toArray, List.set_cons_zero, List.set_cons_succ]
          refine doc_end (HF1.out _ _ ?_)
          clear HF1 F' VC A1
          obtain ⟨a', sc', rfl, hm'⟩ := RowIs.form r2.row
          obtain ⟨rfl, -⟩ := RowIs.addr2 r2.row
          have HH3 := hid r2
          have HB3 := hid r3
          clear r1 r2 r3 st2 st3 hS2
          go_wp2_with fail
          go_roundw
          case rel =>
            refine ⟨j + 1, _, _, F2, _, G', by omega, by have := HI4.out.1; have := Hi.out; omega, by rw [List.length_append], by have := HI4.out.1; have := Hi.out; first | (congr; done) | (congr; omega), HH3.out, ?_, by have := HAL.out; simp; omega, ?_, hbr.trans (HB3.out.mono (Nat.le_refl _))⟩
            · have := HM.out.of HVK.out
              rw [show 256 * (j + 1) = 256 * j + 256 by omega]; exact this
            · rw [show 20 - (j + 1) = 19 - j by omega, show 4 * (j + 1) = i + 4 by have := Hi.out; omega, ← NX.out]; exact HD.out
          case measure => have := HI4.out.1; simp [intOf]; omega
        · -- Ite of three
          have hev' : (u0.tmod 2 == 0) = false := by simpa using hev
          have ST : stepM S all u0 u1 u2 u3 = iteV S (backN all u1) (backN all u2) (backN all u3) := by unfold stepM; rw [if_neg hev]
          rw [ST] at NX
          have VK := stepM_ok HM.out u0 u1 u2 u3
          rw [ST] at VK
          have HVK := hid VK
          have R1 := atN_range u1 (n := all.length) (by omega)
          have R2 := atN_range u2 (n := all.length) (by omega)
          have R3 := atN_range u3 (n := all.length) (by omega)
          obtain ⟨n, hn⟩ : ∃ n, n = all.length := ⟨_, rfl⟩
          obtain ⟨b1, hb1⟩ : ∃ b : Nat, atN u1 all.length = (b : Int) := ⟨(atN u1 all.length).toNat, by omega⟩
          obtain ⟨b2, hb2⟩ : ∃ b : Nat, atN u2 all.length = (b : Int) := ⟨(atN u2 all.length).toNat, by omega⟩
          obtain ⟨b3, hb3⟩ : ∃ b : Nat, atN u3 all.length = (b : Int) := ⟨(atN u3 all.length).toNat, by omega⟩
          have A1 := at32_any u1 all.length (by omega) (by omega) I1
          have A2 := at32_any u2 all.length (by omega) (by omega) I2
          have A3 := at32_any u3 all.length (by omega) (by omega) I3
          rw [hb1] at A1 R1
          rw [hb2] at A2 R2
          rw [hb3] at A3 R3
          have y1 : backN all u1 = all.getD (all.length - 1 - b1) 0 := by unfold backN; rw [hb1]; rfl
          have y2 : backN all u2 = all.getD (all.length - 1 - b2) 0 := by unfold backN; rw [hb2]; rfl
          have y3 : backN all u3 = all.getD (all.length - 1 - b3) 0 := by unfold backN; rw [hb3]; rfl
          have rowc : ∀ c, c < all.length → wr.cell? ⟨g, c, none⟩ = some (.int .i64 (all.getD c 0)) := fun c hc => by
            obtain ⟨g', cap', e1, e2, e3, _⟩ := HH.out.row.at hc (j := 0) (by omega)
            cases e2
            simp only [Nat.mul_one, Nat.add_zero] at e3
            rw [e3]; simp [ints, List.getD_eq_getElem?_getD, hc]
          have zg : g < wr.heap.size := RowIs.lt HH.out.row g rfl
          have z1 := rowc (all.length - 1 - b1) (by omega)
          have z2 := rowc (all.length - 1 - b2) (by omega)
          have z3 := rowc (all.length - 1 - b3) (by omega)
          rw [← y1] at z1
          rw [← y2] at z2
          rw [← y3] at z3
          obtain ⟨m, hm⟩ : ∃ m, m = all.length - 1 := ⟨_, rfl⟩
          have wm : IntKind.i64.wrap ((all.length : Int) - 1) = (m : Int) := by rw [IntWalk.i64_in _ (by omega)]; omega
          rw [← hm] at z1 z2 z3
          obtain ⟨c1, hc1⟩ : ∃ c, c = m - b1 := ⟨_, rfl⟩
          obtain ⟨c2, hc2⟩ : ∃ c, c = m - b2 := ⟨_, rfl⟩
          obtain ⟨c3, hc3⟩ : ∃ c, c = m - b3 := ⟨_, rfl⟩
          rw [← hc1] at z1
          rw [← hc2] at z2
          rw [← hc3] at z3
          have wc1 : IntKind.i64.wrap ((m : Int) - (b1 : Int)) = (c1 : Int) := by rw [IntWalk.i64_in _ (by omega)]; omega
          have wc2 : IntKind.i64.wrap ((m : Int) - (b2 : Int)) = (c2 : Int) := by rw [IntWalk.i64_in _ (by omega)]; omega
          have wc3 : IntKind.i64.wrap ((m : Int) - (b3 : Int)) = (c3 : Int) := by rw [IntWalk.i64_in _ (by omega)]; omega
          have lc1 : (c1 : Int) < (all.length : Int) := by omega
          have lc2 : (c2 : Int) < (all.length : Int) := by omega
          have lc3 : (c3 : Int) < (all.length : Int) := by omega
          have W3 : IntKind.i64.wrap ((i : Int) + 3) = (i3 : Int) := wi3''
          have IC := hid (fun W (hb : Below wr.heap.size wr W) => ite_call (HH.out.sto.below hb) HM.out.wf (backN all u1) (backN all u2) (backN all u3))
          unfold Tells at IC
          have HC1 := hid z1
          have HC2 := hid z2
          have HC3 := hid z3
          have HK1 := hid k1
          have HK2 := hid k2
          have HK3 := hid k3
          have ARITH := hid (And.intro hm (And.intro hc1 (And.intro hc2 hc3)))
          have HE := hid hev
          generalize hR : iteV S (backN all u1) (backN all u2) (backN all u3) = R at *
          generalize backN all u1 = x1 at *
          generalize backN all u2 = x2 at *
          generalize backN all u3 = x3 at *
          have HR := hid hR
          have HRW := hid rowc
          clear VK hi1 hi2 hi3 hi4 hi ST z1 z2 z3 hm hc1 hc2 hc3 y1 y2 y3 hev hR rowc k1 k2 k3 R1 R2 R3 hb1 hb2 hb3 hn wi3 wi3' wi3''
          go_upto_region 12 with (fail)
          refine wp_made wr w.heap.size p g all.length sc lb lo l.length lc i m i1 i2 i3 b1 b2 b3 c1 c2 c3 (.func (.func 114) #[] #[]) u1 u2 u3 x1 x2 x3 R.2 F1 R.1 all (by kernel_rfl) (by kernel_rfl) ?_ ?_ ?_
          · refine ⟨0, undef, ?_, ⟨fun _ => Below.drew (Below.refl _ _), fun h => by simp at h, fun h => by simp at h, fun h => by simp at h⟩⟩
            unfold mdAct
            rfl
          · rintro L a W' hall ⟨q, v', rfl, hQ⟩
            obtain ⟨F2, G', hH2, hb2⟩ := hQ.d (hall 46 (by decide))
            have e0 := hall 0 (by decide)
            have e1 := hall 1 (by decide)
            have e2 := hall 2 (by decide)
            have e3 := hall 3 (by decide)
            have e4 := hall 4 (by decide)
            have e5 := hall 5 (by decide)
            have e6 := hall 6 (by decide)
            have e7 := hall 7 (by decide)
            have e8 := hall 8 (by decide)
            have e9 := hall 9 (by decide)
            have e10 := hall 10 (by decide)
            have e11 := hall 11 (by decide)
            have e12 := hall 12 (by decide)
            have e13 := hall 13 (by decide)
            have e14 := hall 14 (by decide)
            have e15 := hall 15 (by decide)
            have e16 := hall 16 (by decide)
            have e17 := hall 17 (by decide)
            have e18 := hall 18 (by decide)
            have e19 := hall 19 (by decide)
            have e20 := hall 20 (by decide)
            have e21 := hall 21 (by decide)
            have e22 := hall 22 (by decide)
            have e23 := hall 23 (by decide)
            have e24 := hall 24 (by decide)
            have e25 := hall 25 (by decide)
            have e26 := hall 26 (by decide)
            have e27 := hall 27 (by decide)
            have e28 := hall 28 (by decide)
            have e29 := hall 29 (by decide)
            have e30 := hall 30 (by decide)
            have e31 := hall 31 (by decide)
            have e32 := hall 32 (by decide)
            have e33 := hall 33 (by decide)
            have e34 := hall 34 (by decide)
            have e35 := hall 35 (by decide)
            have e36 := hall 36 (by decide)
            have e37 := hall 37 (by decide)
            have e38 := hall 38 (by decide)
            have e39 := hall 39 (by decide)
            have e40 := hall 40 (by decide)
            have e41 := hall 41 (by decide)
            have e42 := hall 42 (by decide)
            have e43 := hall 43 (by decide)
            have e44 := hall 44 (by decide)
            have e45 := hall 45 (by decide)
            have e46 := hall 46 (by decide)
            have e47 := hall 47 (by decide)
            unfold mdAct
            simp only [e0, e1, e2, e3, e4, e5, e6, e7, e8, e9, e10, e11, e12, e13, e14, e15, e16, e17, e18, e19, e20, e21, e22, e23, e24, e25, e26, e27, e28, e29, e30, e31, e32, e33, e34, e35, e36, e37, e38, e39, e40, e41, e42, e43, e44, e45, e46, e47, gx_true]
            clear e0 e1 e2 e3 e4 e5 e6 e7 e8 e9 e10 e11 e12 e13 e14 e15 e16 e17 e18 e19 e20 e21 e22 e23 e24 e25 e26 e27 e28 e29 e30 e31 e32 e33 e34 e35 e36 e37 e38 e39 e40 e41 e42 e43 e44 e45 e46 e47 hall hQ
            obtain ⟨a', sc', rfl, hm'⟩ := RowIs.form hH2.row
            obtain ⟨rfl, -⟩ := RowIs.addr2 hH2.row
            have HH3 := hid hH2
            have HB3 := hid hb2
            clear hH2 hb2
            go_wp2_with fail
            go_roundw
            case rel =>
              refine ⟨j + 1, R.1, _, F2, _, G', by omega, by have := HI4.out.1; have := Hi.out; omega, by rw [List.length_append], by have := HI4.out.1; have := Hi.out; first | (congr; done) | (congr; omega), HH3.out, ?_, by have := HAL.out; simp; omega, ?_, hbr.trans (HB3.out.mono (Nat.le_refl _))⟩
              · have := HM.out.of HVK.out
                rw [show 256 * (j + 1) = 256 * j + 256 by omega]; exact this
              · rw [show 20 - (j + 1) = 19 - j by omega, show 4 * (j + 1) = i + 4 by have := Hi.out; omega, ← NX.out]; exact HD.out
            case measure => have := HI4.out.1; simp [intOf]; omega
          -- GENERATED by genmade.py
          refine ⟨fun L a w2 hn hI => ?_, ?_⟩
          · obtain ⟨q, v', rfl, hI⟩ := hI
            have hup := getD_up hn.2.1
            have f47 := not_upA hn.2.2.2 (i := 47) (k := 0) (by decide +kernel) hn.2.1
            refine st_val (v := .slice (some ⟨g, 0, none⟩) all.length sc) (W1 := w2) rfl (by unfold mdAct; simp only [gx_true, f47, gx_false]; go_simp) ?_
            refine ⟨q, v', ?_, hI.congr (up_ne _ _ (by decide)) (up_ne _ _ (by decide)) (up_ne _ _ (by decide))⟩
            unfold mdAct
            simp only [Act.put, List.setIfInBounds_toArray, List.set_cons_zero, List.set_cons_succ, hup, gx_true, up_ne 0 1 (by decide), up_ne 0 2 (by decide), up_ne 0 3 (by decide), up_ne 0 4 (by decide), up_ne 0 5 (by decide), up_ne 0 6 (by decide), up_ne 0 7 (by decide), up_ne 0 8 (by decide), up_ne 0 9 (by decide), up_ne 0 10 (by decide), up_ne 0 11 (by decide), up_ne 0 12 (by decide), up_ne 0 13 (by decide), up_ne 0 14 (by decide), up_ne 0 15 (by decide), up_ne 0 16 (by decide), up_ne 0 17 (by decide), up_ne 0 18 (by decide), up_ne 0 19 (by decide), up_ne 0 20 (by decide), up_ne 0 21 (by decide), up_ne 0 22 (by decide), up_ne 0 23 (by decide), up_ne 0 24 (by decide), up_ne 0 25 (by decide), up_ne 0 26 (by decide), up_ne 0 27 (by decide), up_ne 0 28 (by decide), up_ne 0 29 (by decide), up_ne 0 30 (by decide), up_ne 0 31 (by decide), up_ne 0 32 (by decide), up_ne 0 33 (by decide), up_ne 0 34 (by decide), up_ne 0 35 (by decide), up_ne 0 36 (by decide), up_ne 0 37 (by decide), up_ne 0 38 (by decide), up_ne 0 39 (by decide), up_ne 0 40 (by decide), up_ne 0 41 (by decide), up_ne 0 42 (by decide), up_ne 0 43 (by decide), up_ne 0 44 (by decide), up_ne 0 45 (by decide), up_ne 0 46 (by decide), up_ne 0 47 (by decide)]
          refine ⟨fun L a w2 hn hI => ?_, ?_⟩
          · obtain ⟨q, v', rfl, hI⟩ := hI
            have hup := getD_up hn.2.1
            refine st_val (v := .pointer (some ⟨p, 0, none⟩)) (W1 := w2) rfl (by unfold mdAct; simp only [gx_true]; go_simp) ?_
            refine ⟨q, v', ?_, hI.congr (up_ne _ _ (by decide)) (up_ne _ _ (by decide)) (up_ne _ _ (by decide))⟩
            unfold mdAct
            simp only [Act.put, List.setIfInBounds_toArray, List.set_cons_zero, List.set_cons_succ, hup, gx_true, up_ne 1 0 (by decide), up_ne 1 2 (by decide), up_ne 1 3 (by decide), up_ne 1 4 (by decide), up_ne 1 5 (by decide), up_ne 1 6 (by decide), up_ne 1 7 (by decide), up_ne 1 8 (by decide), up_ne 1 9 (by decide), up_ne 1 10 (by decide), up_ne 1 11 (by decide), up_ne 1 12 (by decide), up_ne 1 13 (by decide), up_ne 1 14 (by decide), up_ne 1 15 (by decide), up_ne 1 16 (by decide), up_ne 1 17 (by decide), up_ne 1 18 (by decide), up_ne 1 19 (by decide), up_ne 1 20 (by decide), up_ne 1 21 (by decide), up_ne 1 22 (by decide), up_ne 1 23 (by decide), up_ne 1 24 (by decide), up_ne 1 25 (by decide), up_ne 1 26 (by decide), up_ne 1 27 (by decide), up_ne 1 28 (by decide), up_ne 1 29 (by decide), up_ne 1 30 (by decide), up_ne 1 31 (by decide), up_ne 1 32 (by decide), up_ne 1 33 (by decide), up_ne 1 34 (by decide), up_ne 1 35 (by decide), up_ne 1 36 (by decide), up_ne 1 37 (by decide), up_ne 1 38 (by decide), up_ne 1 39 (by decide), up_ne 1 40 (by decide), up_ne 1 41 (by decide), up_ne 1 42 (by decide), up_ne 1 43 (by decide), up_ne 1 44 (by decide), up_ne 1 45 (by decide), up_ne 1 46 (by decide), up_ne 1 47 (by decide)]
          refine ⟨fun L a w2 hn hI => ?_, ?_⟩
          · obtain ⟨q, v', rfl, hI⟩ := hI
            have hup := getD_up hn.2.1
            have f47 := not_upA hn.2.2.2 (i := 47) (k := 2) (by decide +kernel) hn.2.1
            refine st_val (v := .slice (some ⟨g, 0, none⟩) all.length sc) (W1 := w2) rfl (by unfold mdAct; simp only [gx_true, f47, gx_false]; go_simp) ?_
            refine ⟨q, v', ?_, hI.congr (up_ne _ _ (by decide)) (up_ne _ _ (by decide)) (up_ne _ _ (by decide))⟩
            unfold mdAct
            simp only [Act.put, List.setIfInBounds_toArray, List.set_cons_zero, List.set_cons_succ, hup, gx_true, up_ne 2 0 (by decide), up_ne 2 1 (by decide), up_ne 2 3 (by decide), up_ne 2 4 (by decide), up_ne 2 5 (by decide), up_ne 2 6 (by decide), up_ne 2 7 (by decide), up_ne 2 8 (by decide), up_ne 2 9 (by decide), up_ne 2 10 (by decide), up_ne 2 11 (by decide), up_ne 2 12 (by decide), up_ne 2 13 (by decide), up_ne 2 14 (by decide), up_ne 2 15 (by decide), up_ne 2 16 (by decide), up_ne 2 17 (by decide), up_ne 2 18 (by decide), up_ne 2 19 (by decide), up_ne 2 20 (by decide), up_ne 2 21 (by decide), up_ne 2 22 (by decide), up_ne 2 23 (by decide), up_ne 2 24 (by decide), up_ne 2 25 (by decide), up_ne 2 26 (by decide), up_ne 2 27 (by decide), up_ne 2 28 (by decide), up_ne 2 29 (by decide), up_ne 2 30 (by decide), up_ne 2 31 (by decide), up_ne 2 32 (by decide), up_ne 2 33 (by decide), up_ne 2 34 (by decide), up_ne 2 35 (by decide), up_ne 2 36 (by decide), up_ne 2 37 (by decide), up_ne 2 38 (by decide), up_ne 2 39 (by decide), up_ne 2 40 (by decide), up_ne 2 41 (by decide), up_ne 2 42 (by decide), up_ne 2 43 (by decide), up_ne 2 44 (by decide), up_ne 2 45 (by decide), up_ne 2 46 (by decide), up_ne 2 47 (by decide)]
          refine ⟨fun L a w2 hn hI => ?_, ?_⟩
          · obtain ⟨q, v', rfl, hI⟩ := hI
            have hup := getD_up hn.2.1
            refine st_val (v := .int .i64 (all.length : Nat)) (W1 := w2) rfl (by unfold mdAct; simp only [gx_true]; go_simp) ?_
            refine ⟨q, v', ?_, hI.congr (up_ne _ _ (by decide)) (up_ne _ _ (by decide)) (up_ne _ _ (by decide))⟩
            unfold mdAct
            simp only [Act.put, List.setIfInBounds_toArray, List.set_cons_zero, List.set_cons_succ, hup, gx_true, up_ne 3 0 (by decide), up_ne 3 1 (by decide), up_ne 3 2 (by decide), up_ne 3 4 (by decide), up_ne 3 5 (by decide), up_ne 3 6 (by decide), up_ne 3 7 (by decide), up_ne 3 8 (by decide), up_ne 3 9 (by decide), up_ne 3 10 (by decide), up_ne 3 11 (by decide), up_ne 3 12 (by decide), up_ne 3 13 (by decide), up_ne 3 14 (by decide), up_ne 3 15 (by decide), up_ne 3 16 (by decide), up_ne 3 17 (by decide), up_ne 3 18 (by decide), up_ne 3 19 (by decide), up_ne 3 20 (by decide), up_ne 3 21 (by decide), up_ne 3 22 (by decide), up_ne 3 23 (by decide), up_ne 3 24 (by decide), up_ne 3 25 (by decide), up_ne 3 26 (by decide), up_ne 3 27 (by decide), up_ne 3 28 (by decide), up_ne 3 29 (by decide), up_ne 3 30 (by decide), up_ne 3 31 (by decide), up_ne 3 32 (by decide), up_ne 3 33 (by decide), up_ne 3 34 (by decide), up_ne 3 35 (by decide), up_ne 3 36 (by decide), up_ne 3 37 (by decide), up_ne 3 38 (by decide), up_ne 3 39 (by decide), up_ne 3 40 (by decide), up_ne 3 41 (by decide), up_ne 3 42 (by decide), up_ne 3 43 (by decide), up_ne 3 44 (by decide), up_ne 3 45 (by decide), up_ne 3 46 (by decide), up_ne 3 47 (by decide)]
          refine ⟨fun L a w2 hn hI => ?_, ?_⟩
          · obtain ⟨q, v', rfl, hI⟩ := hI
            have hup := getD_up hn.2.1
            have d3 : L.getD 3 false = true := hn.2.2.1 3 (by decide +kernel)
            refine st_val (v := .int .i64 (m : Nat)) (W1 := w2) rfl (by unfold mdAct; simp only [gx_true, d3]; go_simp) ?_
            refine ⟨q, v', ?_, hI.congr (up_ne _ _ (by decide)) (up_ne _ _ (by decide)) (up_ne _ _ (by decide))⟩
            unfold mdAct
            simp only [Act.put, List.setIfInBounds_toArray, List.set_cons_zero, List.set_cons_succ, hup, gx_true, up_ne 4 0 (by decide), up_ne 4 1 (by decide), up_ne 4 2 (by decide), up_ne 4 3 (by decide), up_ne 4 5 (by decide), up_ne 4 6 (by decide), up_ne 4 7 (by decide), up_ne 4 8 (by decide), up_ne 4 9 (by decide), up_ne 4 10 (by decide), up_ne 4 11 (by decide), up_ne 4 12 (by decide), up_ne 4 13 (by decide), up_ne 4 14 (by decide), up_ne 4 15 (by decide), up_ne 4 16 (by decide), up_ne 4 17 (by decide), up_ne 4 18 (by decide), up_ne 4 19 (by decide), up_ne 4 20 (by decide), up_ne 4 21 (by decide), up_ne 4 22 (by decide), up_ne 4 23 (by decide), up_ne 4 24 (by decide), up_ne 4 25 (by decide), up_ne 4 26 (by decide), up_ne 4 27 (by decide), up_ne 4 28 (by decide), up_ne 4 29 (by decide), up_ne 4 30 (by decide), up_ne 4 31 (by decide), up_ne 4 32 (by decide), up_ne 4 33 (by decide), up_ne 4 34 (by decide), up_ne 4 35 (by decide), up_ne 4 36 (by decide), up_ne 4 37 (by decide), up_ne 4 38 (by decide), up_ne 4 39 (by decide), up_ne 4 40 (by decide), up_ne 4 41 (by decide), up_ne 4 42 (by decide), up_ne 4 43 (by decide), up_ne 4 44 (by decide), up_ne 4 45 (by decide), up_ne 4 46 (by decide), up_ne 4 47 (by decide)]
          refine ⟨fun L a w2 hn hI => ?_, ?_⟩
          · obtain ⟨q, v', rfl, hI⟩ := hI
            have hup := getD_up hn.2.1
            refine st_val (v := .func (.func 114) #[] #[]) (W1 := w2) rfl (by unfold mdAct; simp only [gx_true]; go_simp) ?_
            refine ⟨q, v', ?_, hI.congr (up_ne _ _ (by decide)) (up_ne _ _ (by decide)) (up_ne _ _ (by decide))⟩
            unfold mdAct
            simp only [Act.put, List.setIfInBounds_toArray, List.set_cons_zero, List.set_cons_succ, hup, gx_true, up_ne 5 0 (by decide), up_ne 5 1 (by decide), up_ne 5 2 (by decide), up_ne 5 3 (by decide), up_ne 5 4 (by decide), up_ne 5 6 (by decide), up_ne 5 7 (by decide), up_ne 5 8 (by decide), up_ne 5 9 (by decide), up_ne 5 10 (by decide), up_ne 5 11 (by decide), up_ne 5 12 (by decide), up_ne 5 13 (by decide), up_ne 5 14 (by decide), up_ne 5 15 (by decide), up_ne 5 16 (by decide), up_ne 5 17 (by decide), up_ne 5 18 (by decide), up_ne 5 19 (by decide), up_ne 5 20 (by decide), up_ne 5 21 (by decide), up_ne 5 22 (by decide), up_ne 5 23 (by decide), up_ne 5 24 (by decide), up_ne 5 25 (by decide), up_ne 5 26 (by decide), up_ne 5 27 (by decide), up_ne 5 28 (by decide), up_ne 5 29 (by decide), up_ne 5 30 (by decide), up_ne 5 31 (by decide), up_ne 5 32 (by decide), up_ne 5 33 (by decide), up_ne 5 34 (by decide), up_ne 5 35 (by decide), up_ne 5 36 (by decide), up_ne 5 37 (by decide), up_ne 5 38 (by decide), up_ne 5 39 (by decide), up_ne 5 40 (by decide), up_ne 5 41 (by decide), up_ne 5 42 (by decide), up_ne 5 43 (by decide), up_ne 5 44 (by decide), up_ne 5 45 (by decide), up_ne 5 46 (by decide), up_ne 5 47 (by decide)]
          refine ⟨fun L a w2 hn hI => ?_, ?_⟩
          · obtain ⟨q, v', rfl, hI⟩ := hI
            have hup := getD_up hn.2.1
            refine st_val (v := .slice (some ⟨lb, lo, none⟩) l.length lc) (W1 := w2) rfl (by unfold mdAct; simp only [gx_true]; go_simp) ?_
            refine ⟨q, v', ?_, hI.congr (up_ne _ _ (by decide)) (up_ne _ _ (by decide)) (up_ne _ _ (by decide))⟩
            unfold mdAct
            simp only [Act.put, List.setIfInBounds_toArray, List.set_cons_zero, List.set_cons_succ, hup, gx_true, up_ne 6 0 (by decide), up_ne 6 1 (by decide), up_ne 6 2 (by decide), up_ne 6 3 (by decide), up_ne 6 4 (by decide), up_ne 6 5 (by decide), up_ne 6 7 (by decide), up_ne 6 8 (by decide), up_ne 6 9 (by decide), up_ne 6 10 (by decide), up_ne 6 11 (by decide), up_ne 6 12 (by decide), up_ne 6 13 (by decide), up_ne 6 14 (by decide), up_ne 6 15 (by decide), up_ne 6 16 (by decide), up_ne 6 17 (by decide), up_ne 6 18 (by decide), up_ne 6 19 (by decide), up_ne 6 20 (by decide), up_ne 6 21 (by decide), up_ne 6 22 (by decide), up_ne 6 23 (by decide), up_ne 6 24 (by decide), up_ne 6 25 (by decide), up_ne 6 26 (by decide), up_ne 6 27 (by decide), up_ne 6 28 (by decide), up_ne 6 29 (by decide), up_ne 6 30 (by decide), up_ne 6 31 (by decide), up_ne 6 32 (by decide), up_ne 6 33 (by decide), up_ne 6 34 (by decide), up_ne 6 35 (by decide), up_ne 6 36 (by decide), up_ne 6 37 (by decide), up_ne 6 38 (by decide), up_ne 6 39 (by decide), up_ne 6 40 (by decide), up_ne 6 41 (by decide), up_ne 6 42 (by decide), up_ne 6 43 (by decide), up_ne 6 44 (by decide), up_ne 6 45 (by decide), up_ne 6 46 (by decide), up_ne 6 47 (by decide)]
          refine ⟨fun L a w2 hn hI => ?_, ?_⟩
          · obtain ⟨q, v', rfl, hI⟩ := hI
            have hup := getD_up hn.2.1
            refine st_val (v := .int .i64 (i : Nat)) (W1 := w2) rfl (by unfold mdAct; simp only [gx_true]; go_simp) ?_
            refine ⟨q, v', ?_, hI.congr (up_ne _ _ (by decide)) (up_ne _ _ (by decide)) (up_ne _ _ (by decide))⟩
            unfold mdAct
            simp only [Act.put, List.setIfInBounds_toArray, List.set_cons_zero, List.set_cons_succ, hup, gx_true, up_ne 7 0 (by decide), up_ne 7 1 (by decide), up_ne 7 2 (by decide), up_ne 7 3 (by decide), up_ne 7 4 (by decide), up_ne 7 5 (by decide), up_ne 7 6 (by decide), up_ne 7 8 (by decide), up_ne 7 9 (by decide), up_ne 7 10 (by decide), up_ne 7 11 (by decide), up_ne 7 12 (by decide), up_ne 7 13 (by decide), up_ne 7 14 (by decide), up_ne 7 15 (by decide), up_ne 7 16 (by decide), up_ne 7 17 (by decide), up_ne 7 18 (by decide), up_ne 7 19 (by decide), up_ne 7 20 (by decide), up_ne 7 21 (by decide), up_ne 7 22 (by decide), up_ne 7 23 (by decide), up_ne 7 24 (by decide), up_ne 7 25 (by decide), up_ne 7 26 (by decide), up_ne 7 27 (by decide), up_ne 7 28 (by decide), up_ne 7 29 (by decide), up_ne 7 30 (by decide), up_ne 7 31 (by decide), up_ne 7 32 (by decide), up_ne 7 33 (by decide), up_ne 7 34 (by decide), up_ne 7 35 (by decide), up_ne 7 36 (by decide), up_ne 7 37 (by decide), up_ne 7 38 (by decide), up_ne 7 39 (by decide), up_ne 7 40 (by decide), up_ne 7 41 (by decide), up_ne 7 42 (by decide), up_ne 7 43 (by decide), up_ne 7 44 (by decide), up_ne 7 45 (by decide), up_ne 7 46 (by decide), up_ne 7 47 (by decide)]
          refine ⟨fun L a w2 hn hI => ?_, ?_⟩
          · obtain ⟨q, v', rfl, hI⟩ := hI
            have hup := getD_up hn.2.1
            have d7 : L.getD 7 false = true := hn.2.2.1 7 (by decide +kernel)
            refine st_val (v := .int .i64 (i1 : Nat)) (W1 := w2) rfl (by unfold mdAct; simp only [gx_true, d7]; go_simp) ?_
            refine ⟨q, v', ?_, hI.congr (up_ne _ _ (by decide)) (up_ne _ _ (by decide)) (up_ne _ _ (by decide))⟩
            unfold mdAct
            simp only [Act.put, List.setIfInBounds_toArray, List.set_cons_zero, List.set_cons_succ, hup, gx_true, up_ne 8 0 (by decide), up_ne 8 1 (by decide), up_ne 8 2 (by decide), up_ne 8 3 (by decide), up_ne 8 4 (by decide), up_ne 8 5 (by decide), up_ne 8 6 (by decide), up_ne 8 7 (by decide), up_ne 8 9 (by decide), up_ne 8 10 (by decide), up_ne 8 11 (by decide), up_ne 8 12 (by decide), up_ne 8 13 (by decide), up_ne 8 14 (by decide), up_ne 8 15 (by decide), up_ne 8 16 (by decide), up_ne 8 17 (by decide), up_ne 8 18 (by decide), up_ne 8 19 (by decide), up_ne 8 20 (by decide), up_ne 8 21 (by decide), up_ne 8 22 (by decide), up_ne 8 23 (by decide), up_ne 8 24 (by decide), up_ne 8 25 (by decide), up_ne 8 26 (by decide), up_ne 8 27 (by decide), up_ne 8 28 (by decide), up_ne 8 29 (by decide), up_ne 8 30 (by decide), up_ne 8 31 (by decide), up_ne 8 32 (by decide), up_ne 8 33 (by decide), up_ne 8 34 (by decide), up_ne 8 35 (by decide), up_ne 8 36 (by decide), up_ne 8 37 (by decide), up_ne 8 38 (by decide), up_ne 8 39 (by decide), up_ne 8 40 (by decide), up_ne 8 41 (by decide), up_ne 8 42 (by decide), up_ne 8 43 (by decide), up_ne 8 44 (by decide), up_ne 8 45 (by decide), up_ne 8 46 (by decide), up_ne 8 47 (by decide)]
          refine ⟨fun L a w2 hn hI => ?_, ?_⟩
          · obtain ⟨q, v', rfl, hI⟩ := hI
            have hup := getD_up hn.2.1
            have d6 : L.getD 6 false = true := hn.2.2.1 6 (by decide +kernel)
            have d8 : L.getD 8 false = true := hn.2.2.1 8 (by decide +kernel)
            refine st_val (v := .pointer (some ⟨lb, lo + i1, none⟩)) (W1 := w2) rfl (by unfold mdAct; simp only [gx_true, d6, d8]; go_simp) ?_
            refine ⟨q, v', ?_, hI.congr (up_ne _ _ (by decide)) (up_ne _ _ (by decide)) (up_ne _ _ (by decide))⟩
            unfold mdAct
            simp only [Act.put, List.setIfInBounds_toArray, List.set_cons_zero, List.set_cons_succ, hup, gx_true, up_ne 9 0 (by decide), up_ne 9 1 (by decide), up_ne 9 2 (by decide), up_ne 9 3 (by decide), up_ne 9 4 (by decide), up_ne 9 5 (by decide), up_ne 9 6 (by decide), up_ne 9 7 (by decide), up_ne 9 8 (by decide), up_ne 9 10 (by decide), up_ne 9 11 (by decide), up_ne 9 12 (by decide), up_ne 9 13 (by decide), up_ne 9 14 (by decide), up_ne 9 15 (by decide), up_ne 9 16 (by decide), up_ne 9 17 (by decide), up_ne 9 18 (by decide), up_ne 9 19 (by decide), up_ne 9 20 (by decide), up_ne 9 21 (by decide), up_ne 9 22 (by decide), up_ne 9 23 (by decide), up_ne 9 24 (by decide), up_ne 9 25 (by decide), up_ne 9 26 (by decide), up_ne 9 27 (by decide), up_ne 9 28 (by decide), up_ne 9 29 (by decide), up_ne 9 30 (by decide), up_ne 9 31 (by decide), up_ne 9 32 (by decide), up_ne 9 33 (by decide), up_ne 9 34 (by decide), up_ne 9 35 (by decide), up_ne 9 36 (by decide), up_ne 9 37 (by decide), up_ne 9 38 (by decide), up_ne 9 39 (by decide), up_ne 9 40 (by decide), up_ne 9 41 (by decide), up_ne 9 42 (by decide), up_ne 9 43 (by decide), up_ne 9 44 (by decide), up_ne 9 45 (by decide), up_ne 9 46 (by decide), up_ne 9 47 (by decide)]
          refine ⟨fun L a w2 hn hI => ?_, ?_⟩
          · obtain ⟨q, v', rfl, hI⟩ := hI
            have hup := getD_up hn.2.1
            have d9 : L.getD 9 false = true := hn.2.2.1 9 (by decide +kernel)
            have f44 := not_upA hn.2.2.2 (i := 44) (k := 10) (by decide +kernel) hn.2.1
            have hB := hI.a f44
            have zlw : lb < w2.heap.size := Nat.lt_of_lt_of_le zl hB.size
            have kc := (hB.cell (p := ⟨lb, lo + i1, none⟩) zl).trans HK1.out
            refine st_val (v := .int .i64 u1) (W1 := w2) rfl (by unfold mdAct; simp only [gx_true, d9]; go_simp) ?_
            refine ⟨q, v', ?_, hI.congr (up_ne _ _ (by decide)) (up_ne _ _ (by decide)) (up_ne _ _ (by decide))⟩
            unfold mdAct
            simp only [Act.put, List.setIfInBounds_toArray, List.set_cons_zero, List.set_cons_succ, hup, gx_true, up_ne 10 0 (by decide), up_ne 10 1 (by decide), up_ne 10 2 (by decide), up_ne 10 3 (by decide), up_ne 10 4 (by decide), up_ne 10 5 (by decide), up_ne 10 6 (by decide), up_ne 10 7 (by decide), up_ne 10 8 (by decide), up_ne 10 9 (by decide), up_ne 10 11 (by decide), up_ne 10 12 (by decide), up_ne 10 13 (by decide), up_ne 10 14 (by decide), up_ne 10 15 (by decide), up_ne 10 16 (by decide), up_ne 10 17 (by decide), up_ne 10 18 (by decide), up_ne 10 19 (by decide), up_ne 10 20 (by decide), up_ne 10 21 (by decide), up_ne 10 22 (by decide), up_ne 10 23 (by decide), up_ne 10 24 (by decide), up_ne 10 25 (by decide), up_ne 10 26 (by decide), up_ne 10 27 (by decide), up_ne 10 28 (by decide), up_ne 10 29 (by decide), up_ne 10 30 (by decide), up_ne 10 31 (by decide), up_ne 10 32 (by decide), up_ne 10 33 (by decide), up_ne 10 34 (by decide), up_ne 10 35 (by decide), up_ne 10 36 (by decide), up_ne 10 37 (by decide), up_ne 10 38 (by decide), up_ne 10 39 (by decide), up_ne 10 40 (by decide), up_ne 10 41 (by decide), up_ne 10 42 (by decide), up_ne 10 43 (by decide), up_ne 10 44 (by decide), up_ne 10 45 (by decide), up_ne 10 46 (by decide), up_ne 10 47 (by decide)]
          refine ⟨fun L a w2 hn hI => ?_, ?_⟩
          · obtain ⟨q, v', rfl, hI⟩ := hI
            have hup := getD_up hn.2.1
            refine st_val (v := .int .i64 (all.length : Nat)) (W1 := w2) rfl (by unfold mdAct; simp only [gx_true]; go_simp) ?_
            refine ⟨q, v', ?_, hI.congr (up_ne _ _ (by decide)) (up_ne _ _ (by decide)) (up_ne _ _ (by decide))⟩
            unfold mdAct
            simp only [Act.put, List.setIfInBounds_toArray, List.set_cons_zero, List.set_cons_succ, hup, gx_true, up_ne 11 0 (by decide), up_ne 11 1 (by decide), up_ne 11 2 (by decide), up_ne 11 3 (by decide), up_ne 11 4 (by decide), up_ne 11 5 (by decide), up_ne 11 6 (by decide), up_ne 11 7 (by decide), up_ne 11 8 (by decide), up_ne 11 9 (by decide), up_ne 11 10 (by decide), up_ne 11 12 (by decide), up_ne 11 13 (by decide), up_ne 11 14 (by decide), up_ne 11 15 (by decide), up_ne 11 16 (by decide), up_ne 11 17 (by decide), up_ne 11 18 (by decide), up_ne 11 19 (by decide), up_ne 11 20 (by decide), up_ne 11 21 (by decide), up_ne 11 22 (by decide), up_ne 11 23 (by decide), up_ne 11 24 (by decide), up_ne 11 25 (by decide), up_ne 11 26 (by decide), up_ne 11 27 (by decide), up_ne 11 28 (by decide), up_ne 11 29 (by decide), up_ne 11 30 (by decide), up_ne 11 31 (by decide), up_ne 11 32 (by decide), up_ne 11 33 (by decide), up_ne 11 34 (by decide), up_ne 11 35 (by decide), up_ne 11 36 (by decide), up_ne 11 37 (by decide), up_ne 11 38 (by decide), up_ne 11 39 (by decide), up_ne 11 40 (by decide), up_ne 11 41 (by decide), up_ne 11 42 (by decide), up_ne 11 43 (by decide), up_ne 11 44 (by decide), up_ne 11 45 (by decide), up_ne 11 46 (by decide), up_ne 11 47 (by decide)]
          refine ⟨fun L a w2 hn hI => ?_, ?_⟩
          · obtain ⟨q, v', rfl, hI⟩ := hI
            have hup := getD_up hn.2.1
            have d5 : L.getD 5 false = true := hn.2.2.1 5 (by decide +kernel)
            have d10 : L.getD 10 false = true := hn.2.2.1 10 (by decide +kernel)
            have d11 : L.getD 11 false = true := hn.2.2.1 11 (by decide +kernel)
            have f44 := not_upA hn.2.2.2 (i := 44) (k := 12) (by decide +kernel) hn.2.1
            have f45 := not_upA hn.2.2.2 (i := 45) (k := 12) (by decide +kernel) hn.2.1
            have f46 := not_upA hn.2.2.2 (i := 46) (k := 12) (by decide +kernel) hn.2.1
            refine st_call (f := 114) (args := #[.int .i64 u1, .int .i64 (all.length : Nat)]) (W1 := w2) rfl (by unfold mdAct; simp only [gx_true, d5, d10, d11]; first | (go_simp; done) | (go_simp; exact ⟨rfl, rfl⟩) | (go_simp; with_reducible rfl)) ((A1 w2).mono ?_)
            rintro e' w3 ⟨rfl, m3, d3, rfl⟩
            refine ⟨_, rfl, q, v', ?_, hI.ext f44 ((up_ne _ _ (by decide)).trans f44) ((up_ne _ _ (by decide)).trans f45) ((up_ne _ _ (by decide)).trans f46) m3 d3⟩
            unfold mdAct
            simp only [Act.put, List.setIfInBounds_toArray, List.set_cons_zero, List.set_cons_succ, hup, gx_true, up_ne 12 0 (by decide), up_ne 12 1 (by decide), up_ne 12 2 (by decide), up_ne 12 3 (by decide), up_ne 12 4 (by decide), up_ne 12 5 (by decide), up_ne 12 6 (by decide), up_ne 12 7 (by decide), up_ne 12 8 (by decide), up_ne 12 9 (by decide), up_ne 12 10 (by decide), up_ne 12 11 (by decide), up_ne 12 13 (by decide), up_ne 12 14 (by decide), up_ne 12 15 (by decide), up_ne 12 16 (by decide), up_ne 12 17 (by decide), up_ne 12 18 (by decide), up_ne 12 19 (by decide), up_ne 12 20 (by decide), up_ne 12 21 (by decide), up_ne 12 22 (by decide), up_ne 12 23 (by decide), up_ne 12 24 (by decide), up_ne 12 25 (by decide), up_ne 12 26 (by decide), up_ne 12 27 (by decide), up_ne 12 28 (by decide), up_ne 12 29 (by decide), up_ne 12 30 (by decide), up_ne 12 31 (by decide), up_ne 12 32 (by decide), up_ne 12 33 (by decide), up_ne 12 34 (by decide), up_ne 12 35 (by decide), up_ne 12 36 (by decide), up_ne 12 37 (by decide), up_ne 12 38 (by decide), up_ne 12 39 (by decide), up_ne 12 40 (by decide), up_ne 12 41 (by decide), up_ne 12 42 (by decide), up_ne 12 43 (by decide), up_ne 12 44 (by decide), up_ne 12 45 (by decide), up_ne 12 46 (by decide), up_ne 12 47 (by decide)]
          refine ⟨fun L a w2 hn hI => ?_, ?_⟩
          · obtain ⟨q, v', rfl, hI⟩ := hI
            have hup := getD_up hn.2.1
            have d4 : L.getD 4 false = true := hn.2.2.1 4 (by decide +kernel)
            have d12 : L.getD 12 false = true := hn.2.2.1 12 (by decide +kernel)
            refine st_val (v := .int .i64 (c1 : Nat)) (W1 := w2) rfl (by unfold mdAct; simp only [gx_true, d4, d12]; go_simp) ?_
            refine ⟨q, v', ?_, hI.congr (up_ne _ _ (by decide)) (up_ne _ _ (by decide)) (up_ne _ _ (by decide))⟩
            unfold mdAct
            simp only [Act.put, List.setIfInBounds_toArray, List.set_cons_zero, List.set_cons_succ, hup, gx_true, up_ne 13 0 (by decide), up_ne 13 1 (by decide), up_ne 13 2 (by decide), up_ne 13 3 (by decide), up_ne 13 4 (by decide), up_ne 13 5 (by decide), up_ne 13 6 (by decide), up_ne 13 7 (by decide), up_ne 13 8 (by decide), up_ne 13 9 (by decide), up_ne 13 10 (by decide), up_ne 13 11 (by decide), up_ne 13 12 (by decide), up_ne 13 14 (by decide), up_ne 13 15 (by decide), up_ne 13 16 (by decide), up_ne 13 17 (by decide), up_ne 13 18 (by decide), up_ne 13 19 (by decide), up_ne 13 20 (by decide), up_ne 13 21 (by decide), up_ne 13 22 (by decide), up_ne 13 23 (by decide), up_ne 13 24 (by decide), up_ne 13 25 (by decide), up_ne 13 26 (by decide), up_ne 13 27 (by decide), up_ne 13 28 (by decide), up_ne 13 29 (by decide), up_ne 13 30 (by decide), up_ne 13 31 (by decide), up_ne 13 32 (by decide), up_ne 13 33 (by decide), up_ne 13 34 (by decide), up_ne 13 35 (by decide), up_ne 13 36 (by decide), up_ne 13 37 (by decide), up_ne 13 38 (by decide), up_ne 13 39 (by decide), up_ne 13 40 (by decide), up_ne 13 41 (by decide), up_ne 13 42 (by decide), up_ne 13 43 (by decide), up_ne 13 44 (by decide), up_ne 13 45 (by decide), up_ne 13 46 (by decide), up_ne 13 47 (by decide)]
          refine ⟨fun L a w2 hn hI => ?_, ?_⟩
          · obtain ⟨q, v', rfl, hI⟩ := hI
            have hup := getD_up hn.2.1
            have d2 : L.getD 2 false = true := hn.2.2.1 2 (by decide +kernel)
            have d13 : L.getD 13 false = true := hn.2.2.1 13 (by decide +kernel)
            refine st_val (v := .pointer (some ⟨g, c1, none⟩)) (W1 := w2) rfl (by unfold mdAct; simp only [gx_true, d2, d13]; go_simp) ?_
            refine ⟨q, v', ?_, hI.congr (up_ne _ _ (by decide)) (up_ne _ _ (by decide)) (up_ne _ _ (by decide))⟩
            unfold mdAct
            simp only [Act.put, List.setIfInBounds_toArray, List.set_cons_zero, List.set_cons_succ, hup, gx_true, up_ne 14 0 (by decide), up_ne 14 1 (by decide), up_ne 14 2 (by decide), up_ne 14 3 (by decide), up_ne 14 4 (by decide), up_ne 14 5 (by decide), up_ne 14 6 (by decide), up_ne 14 7 (by decide), up_ne 14 8 (by decide), up_ne 14 9 (by decide), up_ne 14 10 (by decide), up_ne 14 11 (by decide), up_ne 14 12 (by decide), up_ne 14 13 (by decide), up_ne 14 15 (by decide), up_ne 14 16 (by decide), up_ne 14 17 (by decide), up_ne 14 18 (by decide), up_ne 14 19 (by decide), up_ne 14 20 (by decide), up_ne 14 21 (by decide), up_ne 14 22 (by decide), up_ne 14 23 (by decide), up_ne 14 24 (by decide), up_ne 14 25 (by decide), up_ne 14 26 (by decide), up_ne 14 27 (by decide), up_ne 14 28 (by decide), up_ne 14 29 (by decide), up_ne 14 30 (by decide), up_ne 14 31 (by decide), up_ne 14 32 (by decide), up_ne 14 33 (by decide), up_ne 14 34 (by decide), up_ne 14 35 (by decide), up_ne 14 36 (by decide), up_ne 14 37 (by decide), up_ne 14 38 (by decide), up_ne 14 39 (by decide), up_ne 14 40 (by decide), up_ne 14 41 (by decide), up_ne 14 42 (by decide), up_ne 14 43 (by decide), up_ne 14 44 (by decide), up_ne 14 45 (by decide), up_ne 14 46 (by decide), up_ne 14 47 (by decide)]
          refine ⟨fun L a w2 hn hI => ?_, ?_⟩
          · obtain ⟨q, v', rfl, hI⟩ := hI
            have hup := getD_up hn.2.1
            have d14 : L.getD 14 false = true := hn.2.2.1 14 (by decide +kernel)
            have f44 := not_upA hn.2.2.2 (i := 44) (k := 15) (by decide +kernel) hn.2.1
            have hB := hI.a f44
            have zgw : g < w2.heap.size := Nat.lt_of_lt_of_le zg hB.size
            have kc := (hB.cell (p := ⟨g, c1, none⟩) zg).trans HC1.out
            refine st_val (v := .int .i64 x1) (W1 := w2) rfl (by unfold mdAct; simp only [gx_true, d14]; go_simp) ?_
            refine ⟨q, v', ?_, hI.congr (up_ne _ _ (by decide)) (up_ne _ _ (by decide)) (up_ne _ _ (by decide))⟩
            unfold mdAct
            simp only [Act.put, List.setIfInBounds_toArray, List.set_cons_zero, List.set_cons_succ, hup, gx_true, up_ne 15 0 (by decide), up_ne 15 1 (by decide), up_ne 15 2 (by decide), up_ne 15 3 (by decide), up_ne 15 4 (by decide), up_ne 15 5 (by decide), up_ne 15 6 (by decide), up_ne 15 7 (by decide), up_ne 15 8 (by decide), up_ne 15 9 (by decide), up_ne 15 10 (by decide), up_ne 15 11 (by decide), up_ne 15 12 (by decide), up_ne 15 13 (by decide), up_ne 15 14 (by decide), up_ne 15 16 (by decide), up_ne 15 17 (by decide), up_ne 15 18 (by decide), up_ne 15 19 (by decide), up_ne 15 20 (by decide), up_ne 15 21 (by decide), up_ne 15 22 (by decide), up_ne 15 23 (by decide), up_ne 15 24 (by decide), up_ne 15 25 (by decide), up_ne 15 26 (by decide), up_ne 15 27 (by decide), up_ne 15 28 (by decide), up_ne 15 29 (by decide), up_ne 15 30 (by decide), up_ne 15 31 (by decide), up_ne 15 32 (by decide), up_ne 15 33 (by decide), up_ne 15 34 (by decide), up_ne 15 35 (by decide), up_ne 15 36 (by decide), up_ne 15 37 (by decide), up_ne 15 38 (by decide), up_ne 15 39 (by decide), up_ne 15 40 (by decide), up_ne 15 41 (by decide), up_ne 15 42 (by decide), up_ne 15 43 (by decide), up_ne 15 44 (by decide), up_ne 15 45 (by decide), up_ne 15 46 (by decide), up_ne 15 47 (by decide)]
          refine ⟨fun L a w2 hn hI => ?_, ?_⟩
          · obtain ⟨q, v', rfl, hI⟩ := hI
            have hup := getD_up hn.2.1
            have f47 := not_upA hn.2.2.2 (i := 47) (k := 16) (by decide +kernel) hn.2.1
            refine st_val (v := .slice (some ⟨g, 0, none⟩) all.length sc) (W1 := w2) rfl (by unfold mdAct; simp only [gx_true, f47, gx_false]; go_simp) ?_
            refine ⟨q, v', ?_, hI.congr (up_ne _ _ (by decide)) (up_ne _ _ (by decide)) (up_ne _ _ (by decide))⟩
            unfold mdAct
            simp only [Act.put, List.setIfInBounds_toArray, List.set_cons_zero, List.set_cons_succ, hup, gx_true, up_ne 16 0 (by decide), up_ne 16 1 (by decide), up_ne 16 2 (by decide), up_ne 16 3 (by decide), up_ne 16 4 (by decide), up_ne 16 5 (by decide), up_ne 16 6 (by decide), up_ne 16 7 (by decide), up_ne 16 8 (by decide), up_ne 16 9 (by decide), up_ne 16 10 (by decide), up_ne 16 11 (by decide), up_ne 16 12 (by decide), up_ne 16 13 (by decide), up_ne 16 14 (by decide), up_ne 16 15 (by decide), up_ne 16 17 (by decide), up_ne 16 18 (by decide), up_ne 16 19 (by decide), up_ne 16 20 (by decide), up_ne 16 21 (by decide), up_ne 16 22 (by decide), up_ne 16 23 (by decide), up_ne 16 24 (by decide), up_ne 16 25 (by decide), up_ne 16 26 (by decide), up_ne 16 27 (by decide), up_ne 16 28 (by decide), up_ne 16 29 (by decide), up_ne 16 30 (by decide), up_ne 16 31 (by decide), up_ne 16 32 (by decide), up_ne 16 33 (by decide), up_ne 16 34 (by decide), up_ne 16 35 (by decide), up_ne 16 36 (by decide), up_ne 16 37 (by decide), up_ne 16 38 (by decide), up_ne 16 39 (by decide), up_ne 16 40 (by decide), up_ne 16 41 (by decide), up_ne 16 42 (by decide), up_ne 16 43 (by decide), up_ne 16 44 (by decide), up_ne 16 45 (by decide), up_ne 16 46 (by decide), up_ne 16 47 (by decide)]
          refine ⟨fun L a w2 hn hI => ?_, ?_⟩
          · obtain ⟨q, v', rfl, hI⟩ := hI
            have hup := getD_up hn.2.1
            refine st_val (v := .int .i64 (all.length : Nat)) (W1 := w2) rfl (by unfold mdAct; simp only [gx_true]; go_simp) ?_
            refine ⟨q, v', ?_, hI.congr (up_ne _ _ (by decide)) (up_ne _ _ (by decide)) (up_ne _ _ (by decide))⟩
            unfold mdAct
            simp only [Act.put, List.setIfInBounds_toArray, List.set_cons_zero, List.set_cons_succ, hup, gx_true, up_ne 17 0 (by decide), up_ne 17 1 (by decide), up_ne 17 2 (by decide), up_ne 17 3 (by decide), up_ne 17 4 (by decide), up_ne 17 5 (by decide), up_ne 17 6 (by decide), up_ne 17 7 (by decide), up_ne 17 8 (by decide), up_ne 17 9 (by decide), up_ne 17 10 (by decide), up_ne 17 11 (by decide), up_ne 17 12 (by decide), up_ne 17 13 (by decide), up_ne 17 14 (by decide), up_ne 17 15 (by decide), up_ne 17 16 (by decide), up_ne 17 18 (by decide), up_ne 17 19 (by decide), up_ne 17 20 (by decide), up_ne 17 21 (by decide), up_ne 17 22 (by decide), up_ne 17 23 (by decide), up_ne 17 24 (by decide), up_ne 17 25 (by decide), up_ne 17 26 (by decide), up_ne 17 27 (by decide), up_ne 17 28 (by decide), up_ne 17 29 (by decide), up_ne 17 30 (by decide), up_ne 17 31 (by decide), up_ne 17 32 (by decide), up_ne 17 33 (by decide), up_ne 17 34 (by decide), up_ne 17 35 (by decide), up_ne 17 36 (by decide), up_ne 17 37 (by decide), up_ne 17 38 (by decide), up_ne 17 39 (by decide), up_ne 17 40 (by decide), up_ne 17 41 (by decide), up_ne 17 42 (by decide), up_ne 17 43 (by decide), up_ne 17 44 (by decide), up_ne 17 45 (by decide), up_ne 17 46 (by decide), up_ne 17 47 (by decide)]
          refine ⟨fun L a w2 hn hI => ?_, ?_⟩
          · obtain ⟨q, v', rfl, hI⟩ := hI
            have hup := getD_up hn.2.1
            have d17 : L.getD 17 false = true := hn.2.2.1 17 (by decide +kernel)
            refine st_val (v := .int .i64 (m : Nat)) (W1 := w2) rfl (by unfold mdAct; simp only [gx_true, d17]; go_simp) ?_
            refine ⟨q, v', ?_, hI.congr (up_ne _ _ (by decide)) (up_ne _ _ (by decide)) (up_ne _ _ (by decide))⟩
            unfold mdAct
            simp only [Act.put, List.setIfInBounds_toArray, List.set_cons_zero, List.set_cons_succ, hup, gx_true, up_ne 18 0 (by decide), up_ne 18 1 (by decide), up_ne 18 2 (by decide), up_ne 18 3 (by decide), up_ne 18 4 (by decide), up_ne 18 5 (by decide), up_ne 18 6 (by decide), up_ne 18 7 (by decide), up_ne 18 8 (by decide), up_ne 18 9 (by decide), up_ne 18 10 (by decide), up_ne 18 11 (by decide), up_ne 18 12 (by decide), up_ne 18 13 (by decide), up_ne 18 14 (by decide), up_ne 18 15 (by decide), up_ne 18 16 (by decide), up_ne 18 17 (by decide), up_ne 18 19 (by decide), up_ne 18 20 (by decide), up_ne 18 21 (by decide), up_ne 18 22 (by decide), up_ne 18 23 (by decide), up_ne 18 24 (by decide), up_ne 18 25 (by decide), up_ne 18 26 (by decide), up_ne 18 27 (by decide), up_ne 18 28 (by decide), up_ne 18 29 (by decide), up_ne 18 30 (by decide), up_ne 18 31 (by decide), up_ne 18 32 (by decide), up_ne 18 33 (by decide), up_ne 18 34 (by decide), up_ne 18 35 (by decide), up_ne 18 36 (by decide), up_ne 18 37 (by decide), up_ne 18 38 (by decide), up_ne 18 39 (by decide), up_ne 18 40 (by decide), up_ne 18 41 (by decide), up_ne 18 42 (by decide), up_ne 18 43 (by decide), up_ne 18 44 (by decide), up_ne 18 45 (by decide), up_ne 18 46 (by decide), up_ne 18 47 (by decide)]
          refine ⟨fun L a w2 hn hI => ?_, ?_⟩
          · obtain ⟨q, v', rfl, hI⟩ := hI
            have hup := getD_up hn.2.1
            refine st_val (v := .func (.func 114) #[] #[]) (W1 := w2) rfl (by unfold mdAct; simp only [gx_true]; go_simp) ?_
            refine ⟨q, v', ?_, hI.congr (up_ne _ _ (by decide)) (up_ne _ _ (by decide)) (up_ne _ _ (by decide))⟩
            unfold mdAct
            simp only [Act.put, List.setIfInBounds_toArray, List.set_cons_zero, List.set_cons_succ, hup, gx_true, up_ne 19 0 (by decide), up_ne 19 1 (by decide), up_ne 19 2 (by decide), up_ne 19 3 (by decide), up_ne 19 4 (by decide), up_ne 19 5 (by decide), up_ne 19 6 (by decide), up_ne 19 7 (by decide), up_ne 19 8 (by decide), up_ne 19 9 (by decide), up_ne 19 10 (by decide), up_ne 19 11 (by decide), up_ne 19 12 (by decide), up_ne 19 13 (by decide), up_ne 19 14 (by decide), up_ne 19 15 (by decide), up_ne 19 16 (by decide), up_ne 19 17 (by decide), up_ne 19 18 (by decide), up_ne 19 20 (by decide), up_ne 19 21 (by decide), up_ne 19 22 (by decide), up_ne 19 23 (by decide), up_ne 19 24 (by decide), up_ne 19 25 (by decide), up_ne 19 26 (by decide), up_ne 19 27 (by decide), up_ne 19 28 (by decide), up_ne 19 29 (by decide), up_ne 19 30 (by decide), up_ne 19 31 (by decide), up_ne 19 32 (by decide), up_ne 19 33 (by decide), up_ne 19 34 (by decide), up_ne 19 35 (by decide), up_ne 19 36 (by decide), up_ne 19 37 (by decide), up_ne 19 38 (by decide), up_ne 19 39 (by decide), up_ne 19 40 (by decide), up_ne 19 41 (by decide), up_ne 19 42 (by decide), up_ne 19 43 (by decide), up_ne 19 44 (by decide), up_ne 19 45 (by decide), up_ne 19 46 (by decide), up_ne 19 47 (by decide)]
          refine ⟨fun L a w2 hn hI => ?_, ?_⟩
          · obtain ⟨q, v', rfl, hI⟩ := hI
            have hup := getD_up hn.2.1
            refine st_val (v := .slice (some ⟨lb, lo, none⟩) l.length lc) (W1 := w2) rfl (by unfold mdAct; simp only [gx_true]; go_simp) ?_
            refine ⟨q, v', ?_, hI.congr (up_ne _ _ (by decide)) (up_ne _ _ (by decide)) (up_ne _ _ (by decide))⟩
            unfold mdAct
            simp only [Act.put, List.setIfInBounds_toArray, List.set_cons_zero, List.set_cons_succ, hup, gx_true, up_ne 20 0 (by decide), up_ne 20 1 (by decide), up_ne 20 2 (by decide), up_ne 20 3 (by decide), up_ne 20 4 (by decide), up_ne 20 5 (by decide), up_ne 20 6 (by decide), up_ne 20 7 (by decide), up_ne 20 8 (by decide), up_ne 20 9 (by decide), up_ne 20 10 (by decide), up_ne 20 11 (by decide), up_ne 20 12 (by decide), up_ne 20 13 (by decide), up_ne 20 14 (by decide), up_ne 20 15 (by decide), up_ne 20 16 (by decide), up_ne 20 17 (by decide), up_ne 20 18 (by decide), up_ne 20 19 (by decide), up_ne 20 21 (by decide), up_ne 20 22 (by decide), up_ne 20 23 (by decide), up_ne 20 24 (by decide), up_ne 20 25 (by decide), up_ne 20 26 (by decide), up_ne 20 27 (by decide), up_ne 20 28 (by decide), up_ne 20 29 (by decide), up_ne 20 30 (by decide), up_ne 20 31 (by decide), up_ne 20 32 (by decide), up_ne 20 33 (by decide), up_ne 20 34 (by decide), up_ne 20 35 (by decide), up_ne 20 36 (by decide), up_ne 20 37 (by decide), up_ne 20 38 (by decide), up_ne 20 39 (by decide), up_ne 20 40 (by decide), up_ne 20 41 (by decide), up_ne 20 42 (by decide), up_ne 20 43 (by decide), up_ne 20 44 (by decide), up_ne 20 45 (by decide), up_ne 20 46 (by decide), up_ne 20 47 (by decide)]
          refine ⟨fun L a w2 hn hI => ?_, ?_⟩
          · obtain ⟨q, v', rfl, hI⟩ := hI
            have hup := getD_up hn.2.1
            refine st_val (v := .int .i64 (i : Nat)) (W1 := w2) rfl (by unfold mdAct; simp only [gx_true]; go_simp) ?_
            refine ⟨q, v', ?_, hI.congr (up_ne _ _ (by decide)) (up_ne _ _ (by decide)) (up_ne _ _ (by decide))⟩
            unfold mdAct
            simp only [Act.put, List.setIfInBounds_toArray, List.set_cons_zero, List.set_cons_succ, hup, gx_true, up_ne 21 0 (by decide), up_ne 21 1 (by decide), up_ne 21 2 (by decide), up_ne 21 3 (by decide), up_ne 21 4 (by decide), up_ne 21 5 (by decide), up_ne 21 6 (by decide), up_ne 21 7 (by decide), up_ne 21 8 (by decide), up_ne 21 9 (by decide), up_ne 21 10 (by decide), up_ne 21 11 (by decide), up_ne 21 12 (by decide), up_ne 21 13 (by decide), up_ne 21 14 (by decide), up_ne 21 15 (by decide), up_ne 21 16 (by decide), up_ne 21 17 (by decide), up_ne 21 18 (by decide), up_ne 21 19 (by decide), up_ne 21 20 (by decide), up_ne 21 22 (by decide), up_ne 21 23 (by decide), up_ne 21 24 (by decide), up_ne 21 25 (by decide), up_ne 21 26 (by decide), up_ne 21 27 (by decide), up_ne 21 28 (by decide), up_ne 21 29 (by decide), up_ne 21 30 (by decide), up_ne 21 31 (by decide), up_ne 21 32 (by decide), up_ne 21 33 (by decide), up_ne 21 34 (by decide), up_ne 21 35 (by decide), up_ne 21 36 (by decide), up_ne 21 37 (by decide), up_ne 21 38 (by decide), up_ne 21 39 (by decide), up_ne 21 40 (by decide), up_ne 21 41 (by decide), up_ne 21 42 (by decide), up_ne 21 43 (by decide), up_ne 21 44 (by decide), up_ne 21 45 (by decide), up_ne 21 46 (by decide), up_ne 21 47 (by decide)]
          refine ⟨fun L a w2 hn hI => ?_, ?_⟩
          · obtain ⟨q, v', rfl, hI⟩ := hI
            have hup := getD_up hn.2.1
            have d21 : L.getD 21 false = true := hn.2.2.1 21 (by decide +kernel)
            refine st_val (v := .int .i64 (i2 : Nat)) (W1 := w2) rfl (by unfold mdAct; simp only [gx_true, d21]; go_simp) ?_
            refine ⟨q, v', ?_, hI.congr (up_ne _ _ (by decide)) (up_ne _ _ (by decide)) (up_ne _ _ (by decide))⟩
            unfold mdAct
            simp only [Act.put, List.setIfInBounds_toArray, List.set_cons_zero, List.set_cons_succ, hup, gx_true, up_ne 22 0 (by decide), up_ne 22 1 (by decide), up_ne 22 2 (by decide), up_ne 22 3 (by decide), up_ne 22 4 (by decide), up_ne 22 5 (by decide), up_ne 22 6 (by decide), up_ne 22 7 (by decide), up_ne 22 8 (by decide), up_ne 22 9 (by decide), up_ne 22 10 (by decide), up_ne 22 11 (by decide), up_ne 22 12 (by decide), up_ne 22 13 (by decide), up_ne 22 14 (by decide), up_ne 22 15 (by decide), up_ne 22 16 (by decide), up_ne 22 17 (by decide), up_ne 22 18 (by decide), up_ne 22 19 (by decide), up_ne 22 20 (by decide), up_ne 22 21 (by decide), up_ne 22 23 (by decide), up_ne 22 24 (by decide), up_ne 22 25 (by decide), up_ne 22 26 (by decide), up_ne 22 27 (by decide), up_ne 22 28 (by decide), up_ne 22 29 (by decide), up_ne 22 30 (by decide), up_ne 22 31 (by decide), up_ne 22 32 (by decide), up_ne 22 33 (by decide), up_ne 22 34 (by decide), up_ne 22 35 (by decide), up_ne 22 36 (by decide), up_ne 22 37 (by decide), up_ne 22 38 (by decide), up_ne 22 39 (by decide), up_ne 22 40 (by decide), up_ne 22 41 (by decide), up_ne 22 42 (by decide), up_ne 22 43 (by decide), up_ne 22 44 (by decide), up_ne 22 45 (by decide), up_ne 22 46 (by decide), up_ne 22 47 (by decide)]
          refine ⟨fun L a w2 hn hI => ?_, ?_⟩
          · obtain ⟨q, v', rfl, hI⟩ := hI
            have hup := getD_up hn.2.1
            have d20 : L.getD 20 false = true := hn.2.2.1 20 (by decide +kernel)
            have d22 : L.getD 22 false = true := hn.2.2.1 22 (by decide +kernel)
            refine st_val (v := .pointer (some ⟨lb, lo + i2, none⟩)) (W1 := w2) rfl (by unfold mdAct; simp only [gx_true, d20, d22]; go_simp) ?_
            refine ⟨q, v', ?_, hI.congr (up_ne _ _ (by decide)) (up_ne _ _ (by decide)) (up_ne _ _ (by decide))⟩
            unfold mdAct
            simp only [Act.put, List.setIfInBounds_toArray, List.set_cons_zero, List.set_cons_succ, hup, gx_true, up_ne 23 0 (by decide), up_ne 23 1 (by decide), up_ne 23 2 (by decide), up_ne 23 3 (by decide), up_ne 23 4 (by decide), up_ne 23 5 (by decide), up_ne 23 6 (by decide), up_ne 23 7 (by decide), up_ne 23 8 (by decide), up_ne 23 9 (by decide), up_ne 23 10 (by decide), up_ne 23 11 (by decide), up_ne 23 12 (by decide), up_ne 23 13 (by decide), up_ne 23 14 (by decide), up_ne 23 15 (by decide), up_ne 23 16 (by decide), up_ne 23 17 (by decide), up_ne 23 18 (by decide), up_ne 23 19 (by decide), up_ne 23 20 (by decide), up_ne 23 21 (by decide), up_ne 23 22 (by decide), up_ne 23 24 (by decide), up_ne 23 25 (by decide), up_ne 23 26 (by decide), up_ne 23 27 (by decide), up_ne 23 28 (by decide), up_ne 23 29 (by decide), up_ne 23 30 (by decide), up_ne 23 31 (by decide), up_ne 23 32 (by decide), up_ne 23 33 (by decide), up_ne 23 34 (by decide), up_ne 23 35 (by decide), up_ne 23 36 (by decide), up_ne 23 37 (by decide), up_ne 23 38 (by decide), up_ne 23 39 (by decide), up_ne 23 40 (by decide), up_ne 23 41 (by decide), up_ne 23 42 (by decide), up_ne 23 43 (by decide), up_ne 23 44 (by decide), up_ne 23 45 (by decide), up_ne 23 46 (by decide), up_ne 23 47 (by decide)]
          refine ⟨fun L a w2 hn hI => ?_, ?_⟩
          · obtain ⟨q, v', rfl, hI⟩ := hI
            have hup := getD_up hn.2.1
            have d23 : L.getD 23 false = true := hn.2.2.1 23 (by decide +kernel)
            have f44 := not_upA hn.2.2.2 (i := 44) (k := 24) (by decide +kernel) hn.2.1
            have hB := hI.a f44
            have zlw : lb < w2.heap.size := Nat.lt_of_lt_of_le zl hB.size
            have kc := (hB.cell (p := ⟨lb, lo + i2, none⟩) zl).trans HK2.out
            refine st_val (v := .int .i64 u2) (W1 := w2) rfl (by unfold mdAct; simp only [gx_true, d23]; go_simp) ?_
            refine ⟨q, v', ?_, hI.congr (up_ne _ _ (by decide)) (up_ne _ _ (by decide)) (up_ne _ _ (by decide))⟩
            unfold mdAct
            simp only [Act.put, List.setIfInBounds_toArray, List.set_cons_zero, List.set_cons_succ, hup, gx_true, up_ne 24 0 (by decide), up_ne 24 1 (by decide), up_ne 24 2 (by decide), up_ne 24 3 (by decide), up_ne 24 4 (by decide), up_ne 24 5 (by decide), up_ne 24 6 (by decide), up_ne 24 7 (by decide), up_ne 24 8 (by decide), up_ne 24 9 (by decide), up_ne 24 10 (by decide), up_ne 24 11 (by decide), up_ne 24 12 (by decide), up_ne 24 13 (by decide), up_ne 24 14 (by decide), up_ne 24 15 (by decide), up_ne 24 16 (by decide), up_ne 24 17 (by decide), up_ne 24 18 (by decide), up_ne 24 19 (by decide), up_ne 24 20 (by decide), up_ne 24 21 (by decide), up_ne 24 22 (by decide), up_ne 24 23 (by decide), up_ne 24 25 (by decide), up_ne 24 26 (by decide), up_ne 24 27 (by decide), up_ne 24 28 (by decide), up_ne 24 29 (by decide), up_ne 24 30 (by decide), up_ne 24 31 (by decide), up_ne 24 32 (by decide), up_ne 24 33 (by decide), up_ne 24 34 (by decide), up_ne 24 35 (by decide), up_ne 24 36 (by decide), up_ne 24 37 (by decide), up_ne 24 38 (by decide), up_ne 24 39 (by decide), up_ne 24 40 (by decide), up_ne 24 41 (by decide), up_ne 24 42 (by decide), up_ne 24 43 (by decide), up_ne 24 44 (by decide), up_ne 24 45 (by decide), up_ne 24 46 (by decide), up_ne 24 47 (by decide)]
          refine ⟨fun L a w2 hn hI => ?_, ?_⟩
          · obtain ⟨q, v', rfl, hI⟩ := hI
            have hup := getD_up hn.2.1
            refine st_val (v := .int .i64 (all.length : Nat)) (W1 := w2) rfl (by unfold mdAct; simp only [gx_true]; go_simp) ?_
            refine ⟨q, v', ?_, hI.congr (up_ne _ _ (by decide)) (up_ne _ _ (by decide)) (up_ne _ _ (by decide))⟩
            unfold mdAct
            simp only [Act.put, List.setIfInBounds_toArray, List.set_cons_zero, List.set_cons_succ, hup, gx_true, up_ne 25 0 (by decide), up_ne 25 1 (by decide), up_ne 25 2 (by decide), up_ne 25 3 (by decide), up_ne 25 4 (by decide), up_ne 25 5 (by decide), up_ne 25 6 (by decide), up_ne 25 7 (by decide), up_ne 25 8 (by decide), up_ne 25 9 (by decide), up_ne 25 10 (by decide), up_ne 25 11 (by decide), up_ne 25 12 (by decide), up_ne 25 13 (by decide), up_ne 25 14 (by decide), up_ne 25 15 (by decide), up_ne 25 16 (by decide), up_ne 25 17 (by decide), up_ne 25 18 (by decide), up_ne 25 19 (by decide), up_ne 25 20 (by decide), up_ne 25 21 (by decide), up_ne 25 22 (by decide), up_ne 25 23 (by decide), up_ne 25 24 (by decide), up_ne 25 26 (by decide), up_ne 25 27 (by decide), up_ne 25 28 (by decide), up_ne 25 29 (by decide), up_ne 25 30 (by decide), up_ne 25 31 (by decide), up_ne 25 32 (by decide), up_ne 25 33 (by decide), up_ne 25 34 (by decide), up_ne 25 35 (by decide), up_ne 25 36 (by decide), up_ne 25 37 (by decide), up_ne 25 38 (by decide), up_ne 25 39 (by decide), up_ne 25 40 (by decide), up_ne 25 41 (by decide), up_ne 25 42 (by decide), up_ne 25 43 (by decide), up_ne 25 44 (by decide), up_ne 25 45 (by decide), up_ne 25 46 (by decide), up_ne 25 47 (by decide)]
          refine ⟨fun L a w2 hn hI => ?_, ?_⟩
          · obtain ⟨q, v', rfl, hI⟩ := hI
            have hup := getD_up hn.2.1
            have d19 : L.getD 19 false = true := hn.2.2.1 19 (by decide +kernel)
            have d24 : L.getD 24 false = true := hn.2.2.1 24 (by decide +kernel)
            have d25 : L.getD 25 false = true := hn.2.2.1 25 (by decide +kernel)
            have f44 := not_upA hn.2.2.2 (i := 44) (k := 26) (by decide +kernel) hn.2.1
            have f45 := not_upA hn.2.2.2 (i := 45) (k := 26) (by decide +kernel) hn.2.1
            have f46 := not_upA hn.2.2.2 (i := 46) (k := 26) (by decide +kernel) hn.2.1
            refine st_call (f := 114) (args := #[.int .i64 u2, .int .i64 (all.length : Nat)]) (W1 := w2) rfl (by unfold mdAct; simp only [gx_true, d19, d24, d25]; first | (go_simp; done) | (go_simp; exact ⟨rfl, rfl⟩) | (go_simp; with_reducible rfl)) ((A2 w2).mono ?_)
            rintro e' w3 ⟨rfl, m3, d3, rfl⟩
            refine ⟨_, rfl, q, v', ?_, hI.ext f44 ((up_ne _ _ (by decide)).trans f44) ((up_ne _ _ (by decide)).trans f45) ((up_ne _ _ (by decide)).trans f46) m3 d3⟩
            unfold mdAct
            simp only [Act.put, List.setIfInBounds_toArray, List.set_cons_zero, List.set_cons_succ, hup, gx_true, up_ne 26 0 (by decide), up_ne 26 1 (by decide), up_ne 26 2 (by decide), up_ne 26 3 (by decide), up_ne 26 4 (by decide), up_ne 26 5 (by decide), up_ne 26 6 (by decide), up_ne 26 7 (by decide), up_ne 26 8 (by decide), up_ne 26 9 (by decide), up_ne 26 10 (by decide), up_ne 26 11 (by decide), up_ne 26 12 (by decide), up_ne 26 13 (by decide), up_ne 26 14 (by decide), up_ne 26 15 (by decide), up_ne 26 16 (by decide), up_ne 26 17 (by decide), up_ne 26 18 (by decide), up_ne 26 19 (by decide), up_ne 26 20 (by decide), up_ne 26 21 (by decide), up_ne 26 22 (by decide), up_ne 26 23 (by decide), up_ne 26 24 (by decide), up_ne 26 25 (by decide), up_ne 26 27 (by decide), up_ne 26 28 (by decide), up_ne 26 29 (by decide), up_ne 26 30 (by decide), up_ne 26 31 (by decide), up_ne 26 32 (by decide), up_ne 26 33 (by decide), up_ne 26 34 (by decide), up_ne 26 35 (by decide), up_ne 26 36 (by decide), up_ne 26 37 (by decide), up_ne 26 38 (by decide), up_ne 26 39 (by decide), up_ne 26 40 (by decide), up_ne 26 41 (by decide), up_ne 26 42 (by decide), up_ne 26 43 (by decide), up_ne 26 44 (by decide), up_ne 26 45 (by decide), up_ne 26 46 (by decide), up_ne 26 47 (by decide)]
          refine ⟨fun L a w2 hn hI => ?_, ?_⟩
          · obtain ⟨q, v', rfl, hI⟩ := hI
            have hup := getD_up hn.2.1
            have d18 : L.getD 18 false = true := hn.2.2.1 18 (by decide +kernel)
            have d26 : L.getD 26 false = true := hn.2.2.1 26 (by decide +kernel)
            refine st_val (v := .int .i64 (c2 : Nat)) (W1 := w2) rfl (by unfold mdAct; simp only [gx_true, d18, d26]; go_simp) ?_
            refine ⟨q, v', ?_, hI.congr (up_ne _ _ (by decide)) (up_ne _ _ (by decide)) (up_ne _ _ (by decide))⟩
            unfold mdAct
            simp only [Act.put, List.setIfInBounds_toArray, List.set_cons_zero, List.set_cons_succ, hup, gx_true, up_ne 27 0 (by decide), up_ne 27 1 (by decide), up_ne 27 2 (by decide), up_ne 27 3 (by decide), up_ne 27 4 (by decide), up_ne 27 5 (by decide), up_ne 27 6 (by decide), up_ne 27 7 (by decide), up_ne 27 8 (by decide), up_ne 27 9 (by decide), up_ne 27 10 (by decide), up_ne 27 11 (by decide), up_ne 27 12 (by decide), up_ne 27 13 (by decide), up_ne 27 14 (by decide), up_ne 27 15 (by decide), up_ne 27 16 (by decide), up_ne 27 17 (by decide), up_ne 27 18 (by decide), up_ne 27 19 (by decide), up_ne 27 20 (by decide), up_ne 27 21 (by decide), up_ne 27 22 (by decide), up_ne 27 23 (by decide), up_ne 27 24 (by decide), up_ne 27 25 (by decide), up_ne 27 26 (by decide), up_ne 27 28 (by decide), up_ne 27 29 (by decide), up_ne 27 30 (by decide), up_ne 27 31 (by decide), up_ne 27 32 (by decide), up_ne 27 33 (by decide), up_ne 27 34 (by decide), up_ne 27 35 (by decide), up_ne 27 36 (by decide), up_ne 27 37 (by decide), up_ne 27 38 (by decide), up_ne 27 39 (by decide), up_ne 27 40 (by decide), up_ne 27 41 (by decide), up_ne 27 42 (by decide), up_ne 27 43 (by decide), up_ne 27 44 (by decide), up_ne 27 45 (by decide), up_ne 27 46 (by decide), up_ne 27 47 (by decide)]
          refine ⟨fun L a w2 hn hI => ?_, ?_⟩
          · obtain ⟨q, v', rfl, hI⟩ := hI
            have hup := getD_up hn.2.1
            have d16 : L.getD 16 false = true := hn.2.2.1 16 (by decide +kernel)
            have d27 : L.getD 27 false = true := hn.2.2.1 27 (by decide +kernel)
            refine st_val (v := .pointer (some ⟨g, c2, none⟩)) (W1 := w2) rfl (by unfold mdAct; simp only [gx_true, d16, d27]; go_simp) ?_
            refine ⟨q, v', ?_, hI.congr (up_ne _ _ (by decide)) (up_ne _ _ (by decide)) (up_ne _ _ (by decide))⟩
            unfold mdAct
            simp only [Act.put, List.setIfInBounds_toArray, List.set_cons_zero, List.set_cons_succ, hup, gx_true, up_ne 28 0 (by decide), up_ne 28 1 (by decide), up_ne 28 2 (by decide), up_ne 28 3 (by decide), up_ne 28 4 (by decide), up_ne 28 5 (by decide), up_ne 28 6 (by decide), up_ne 28 7 (by decide), up_ne 28 8 (by decide), up_ne 28 9 (by decide), up_ne 28 10 (by decide), up_ne 28 11 (by decide), up_ne 28 12 (by decide), up_ne 28 13 (by decide), up_ne 28 14 (by decide), up_ne 28 15 (by decide), up_ne 28 16 (by decide), up_ne 28 17 (by decide), up_ne 28 18 (by decide), up_ne 28 19 (by decide), up_ne 28 20 (by decide), up_ne 28 21 (by decide), up_ne 28 22 (by decide), up_ne 28 23 (by decide), up_ne 28 24 (by decide), up_ne 28 25 (by decide), up_ne 28 26 (by decide), up_ne 28 27 (by decide), up_ne 28 29 (by decide), up_ne 28 30 (by decide), up_ne 28 31 (by decide), up_ne 28 32 (by decide), up_ne 28 33 (by decide), up_ne 28 34 (by decide), up_ne 28 35 (by decide), up_ne 28 36 (by decide), up_ne 28 37 (by decide), up_ne 28 38 (by decide), up_ne 28 39 (by decide), up_ne 28 40 (by decide), up_ne 28 41 (by decide), up_ne 28 42 (by decide), up_ne 28 43 (by decide), up_ne 28 44 (by decide), up_ne 28 45 (by decide), up_ne 28 46 (by decide), up_ne 28 47 (by decide)]
          refine ⟨fun L a w2 hn hI => ?_, ?_⟩
          · obtain ⟨q, v', rfl, hI⟩ := hI
            have hup := getD_up hn.2.1
            have d28 : L.getD 28 false = true := hn.2.2.1 28 (by decide +kernel)
            have f44 := not_upA hn.2.2.2 (i := 44) (k := 29) (by decide +kernel) hn.2.1
            have hB := hI.a f44
            have zgw : g < w2.heap.size := Nat.lt_of_lt_of_le zg hB.size
            have kc := (hB.cell (p := ⟨g, c2, none⟩) zg).trans HC2.out
            refine st_val (v := .int .i64 x2) (W1 := w2) rfl (by unfold mdAct; simp only [gx_true, d28]; go_simp) ?_
            refine ⟨q, v', ?_, hI.congr (up_ne _ _ (by decide)) (up_ne _ _ (by decide)) (up_ne _ _ (by decide))⟩
            unfold mdAct
            simp only [Act.put, List.setIfInBounds_toArray, List.set_cons_zero, List.set_cons_succ, hup, gx_true, up_ne 29 0 (by decide), up_ne 29 1 (by decide), up_ne 29 2 (by decide), up_ne 29 3 (by decide), up_ne 29 4 (by decide), up_ne 29 5 (by decide), up_ne 29 6 (by decide), up_ne 29 7 (by decide), up_ne 29 8 (by decide), up_ne 29 9 (by decide), up_ne 29 10 (by decide), up_ne 29 11 (by decide), up_ne 29 12 (by decide), up_ne 29 13 (by decide), up_ne 29 14 (by decide), up_ne 29 15 (by decide), up_ne 29 16 (by decide), up_ne 29 17 (by decide), up_ne 29 18 (by decide), up_ne 29 19 (by decide), up_ne 29 20 (by decide), up_ne 29 21 (by decide), up_ne 29 22 (by decide), up_ne 29 23 (by decide), up_ne 29 24 (by decide), up_ne 29 25 (by decide), up_ne 29 26 (by decide), up_ne 29 27 (by decide), up_ne 29 28 (by decide), up_ne 29 30 (by decide), up_ne 29 31 (by decide), up_ne 29 32 (by decide), up_ne 29 33 (by decide), up_ne 29 34 (by decide), up_ne 29 35 (by decide), up_ne 29 36 (by decide), up_ne 29 37 (by decide), up_ne 29 38 (by decide), up_ne 29 39 (by decide), up_ne 29 40 (by decide), up_ne 29 41 (by decide), up_ne 29 42 (by decide), up_ne 29 43 (by decide), up_ne 29 44 (by decide), up_ne 29 45 (by decide), up_ne 29 46 (by decide), up_ne 29 47 (by decide)]
          refine ⟨fun L a w2 hn hI => ?_, ?_⟩
          · obtain ⟨q, v', rfl, hI⟩ := hI
            have hup := getD_up hn.2.1
            have f47 := not_upA hn.2.2.2 (i := 47) (k := 30) (by decide +kernel) hn.2.1
            refine st_val (v := .slice (some ⟨g, 0, none⟩) all.length sc) (W1 := w2) rfl (by unfold mdAct; simp only [gx_true, f47, gx_false]; go_simp) ?_
            refine ⟨q, v', ?_, hI.congr (up_ne _ _ (by decide)) (up_ne _ _ (by decide)) (up_ne _ _ (by decide))⟩
            unfold mdAct
            simp only [Act.put, List.setIfInBounds_toArray, List.set_cons_zero, List.set_cons_succ, hup, gx_true, up_ne 30 0 (by decide), up_ne 30 1 (by decide), up_ne 30 2 (by decide), up_ne 30 3 (by decide), up_ne 30 4 (by decide), up_ne 30 5 (by decide), up_ne 30 6 (by decide), up_ne 30 7 (by decide), up_ne 30 8 (by decide), up_ne 30 9 (by decide), up_ne 30 10 (by decide), up_ne 30 11 (by decide), up_ne 30 12 (by decide), up_ne 30 13 (by decide), up_ne 30 14 (by decide), up_ne 30 15 (by decide), up_ne 30 16 (by decide), up_ne 30 17 (by decide), up_ne 30 18 (by decide), up_ne 30 19 (by decide), up_ne 30 20 (by decide), up_ne 30 21 (by decide), up_ne 30 22 (by decide), up_ne 30 23 (by decide), up_ne 30 24 (by decide), up_ne 30 25 (by decide), up_ne 30 26 (by decide), up_ne 30 27 (by decide), up_ne 30 28 (by decide), up_ne 30 29 (by decide), up_ne 30 31 (by decide), up_ne 30 32 (by decide), up_ne 30 33 (by decide), up_ne 30 34 (by decide), up_ne 30 35 (by decide), up_ne 30 36 (by decide), up_ne 30 37 (by decide), up_ne 30 38 (by decide), up_ne 30 39 (by decide), up_ne 30 40 (by decide), up_ne 30 41 (by decide), up_ne 30 42 (by decide), up_ne 30 43 (by decide), up_ne 30 44 (by decide), up_ne 30 45 (by decide), up_ne 30 46 (by decide), up_ne 30 47 (by decide)]
          refine ⟨fun L a w2 hn hI => ?_, ?_⟩
          · obtain ⟨q, v', rfl, hI⟩ := hI
            have hup := getD_up hn.2.1
            refine st_val (v := .int .i64 (all.length : Nat)) (W1 := w2) rfl (by unfold mdAct; simp only [gx_true]; go_simp) ?_
            refine ⟨q, v', ?_, hI.congr (up_ne _ _ (by decide)) (up_ne _ _ (by decide)) (up_ne _ _ (by decide))⟩
            unfold mdAct
            simp only [Act.put, List.setIfInBounds_toArray, List.set_cons_zero, List.set_cons_succ, hup, gx_true, up_ne 31 0 (by decide), up_ne 31 1 (by decide), up_ne 31 2 (by decide), up_ne 31 3 (by decide), up_ne 31 4 (by decide), up_ne 31 5 (by decide), up_ne 31 6 (by decide), up_ne 31 7 (by decide), up_ne 31 8 (by decide), up_ne 31 9 (by decide), up_ne 31 10 (by decide), up_ne 31 11 (by decide), up_ne 31 12 (by decide), up_ne 31 13 (by decide), up_ne 31 14 (by decide), up_ne 31 15 (by decide), up_ne 31 16 (by decide), up_ne 31 17 (by decide), up_ne 31 18 (by decide), up_ne 31 19 (by decide), up_ne 31 20 (by decide), up_ne 31 21 (by decide), up_ne 31 22 (by decide), up_ne 31 23 (by decide), up_ne 31 24 (by decide), up_ne 31 25 (by decide), up_ne 31 26 (by decide), up_ne 31 27 (by decide), up_ne 31 28 (by decide), up_ne 31 29 (by decide), up_ne 31 30 (by decide), up_ne 31 32 (by decide), up_ne 31 33 (by decide), up_ne 31 34 (by decide), up_ne 31 35 (by decide), up_ne 31 36 (by decide), up_ne 31 37 (by decide), up_ne 31 38 (by decide), up_ne 31 39 (by decide), up_ne 31 40 (by decide), up_ne 31 41 (by decide), up_ne 31 42 (by decide), up_ne 31 43 (by decide), up_ne 31 44 (by decide), up_ne 31 45 (by decide), up_ne 31 46 (by decide), up_ne 31 47 (by decide)]
          refine ⟨fun L a w2 hn hI => ?_, ?_⟩
          · obtain ⟨q, v', rfl, hI⟩ := hI
            have hup := getD_up hn.2.1
            have d31 : L.getD 31 false = true := hn.2.2.1 31 (by decide +kernel)
            refine st_val (v := .int .i64 (m : Nat)) (W1 := w2) rfl (by unfold mdAct; simp only [gx_true, d31]; go_simp) ?_
            refine ⟨q, v', ?_, hI.congr (up_ne _ _ (by decide)) (up_ne _ _ (by decide)) (up_ne _ _ (by decide))⟩
            unfold mdAct
            simp only [Act.put, List.setIfInBounds_toArray, List.set_cons_zero, List.set_cons_succ, hup, gx_true, up_ne 32 0 (by decide), up_ne 32 1 (by decide), up_ne 32 2 (by decide), up_ne 32 3 (by decide), up_ne 32 4 (by decide), up_ne 32 5 (by decide), up_ne 32 6 (by decide), up_ne 32 7 (by decide), up_ne 32 8 (by decide), up_ne 32 9 (by decide), up_ne 32 10 (by decide), up_ne 32 11 (by decide), up_ne 32 12 (by decide), up_ne 32 13 (by decide), up_ne 32 14 (by decide), up_ne 32 15 (by decide), up_ne 32 16 (by decide), up_ne 32 17 (by decide), up_ne 32 18 (by decide), up_ne 32 19 (by decide), up_ne 32 20 (by decide), up_ne 32 21 (by decide), up_ne 32 22 (by decide), up_ne 32 23 (by decide), up_ne 32 24 (by decide), up_ne 32 25 (by decide), up_ne 32 26 (by decide), up_ne 32 27 (by decide), up_ne 32 28 (by decide), up_ne 32 29 (by decide), up_ne 32 30 (by decide), up_ne 32 31 (by decide), up_ne 32 33 (by decide), up_ne 32 34 (by decide), up_ne 32 35 (by decide), up_ne 32 36 (by decide), up_ne 32 37 (by decide), up_ne 32 38 (by decide), up_ne 32 39 (by decide), up_ne 32 40 (by decide), up_ne 32 41 (by decide), up_ne 32 42 (by decide), up_ne 32 43 (by decide), up_ne 32 44 (by decide), up_ne 32 45 (by decide), up_ne 32 46 (by decide), up_ne 32 47 (by decide)]
          refine ⟨fun L a w2 hn hI => ?_, ?_⟩
          · obtain ⟨q, v', rfl, hI⟩ := hI
            have hup := getD_up hn.2.1
            refine st_val (v := .func (.func 114) #[] #[]) (W1 := w2) rfl (by unfold mdAct; simp only [gx_true]; go_simp) ?_
            refine ⟨q, v', ?_, hI.congr (up_ne _ _ (by decide)) (up_ne _ _ (by decide)) (up_ne _ _ (by decide))⟩
            unfold mdAct
            simp only [Act.put, List.setIfInBounds_toArray, List.set_cons_zero, List.set_cons_succ, hup, gx_true, up_ne 33 0 (by decide), up_ne 33 1 (by decide), up_ne 33 2 (by decide), up_ne 33 3 (by decide), up_ne 33 4 (by decide), up_ne 33 5 (by decide), up_ne 33 6 (by decide), up_ne 33 7 (by decide), up_ne 33 8 (by decide), up_ne 33 9 (by decide), up_ne 33 10 (by decide), up_ne 33 11 (by decide), up_ne 33 12 (by decide), up_ne 33 13 (by decide), up_ne 33 14 (by decide), up_ne 33 15 (by decide), up_ne 33 16 (by decide), up_ne 33 17 (by decide), up_ne 33 18 (by decide), up_ne 33 19 (by decide), up_ne 33 20 (by decide), up_ne 33 21 (by decide), up_ne 33 22 (by decide), up_ne 33 23 (by decide), up_ne 33 24 (by decide), up_ne 33 25 (by decide), up_ne 33 26 (by decide), up_ne 33 27 (by decide), up_ne 33 28 (by decide), up_ne 33 29 (by decide), up_ne 33 30 (by decide), up_ne 33 31 (by decide), up_ne 33 32 (by decide), up_ne 33 34 (by decide), up_ne 33 35 (by decide), up_ne 33 36 (by decide), up_ne 33 37 (by decide), up_ne 33 38 (by decide), up_ne 33 39 (by decide), up_ne 33 40 (by decide), up_ne 33 41 (by decide), up_ne 33 42 (by decide), up_ne 33 43 (by decide), up_ne 33 44 (by decide), up_ne 33 45 (by decide), up_ne 33 46 (by decide), up_ne 33 47 (by decide)]
          refine ⟨fun L a w2 hn hI => ?_, ?_⟩
          · obtain ⟨q, v', rfl, hI⟩ := hI
            have hup := getD_up hn.2.1
            refine st_val (v := .slice (some ⟨lb, lo, none⟩) l.length lc) (W1 := w2) rfl (by unfold mdAct; simp only [gx_true]; go_simp) ?_
            refine ⟨q, v', ?_, hI.congr (up_ne _ _ (by decide)) (up_ne _ _ (by decide)) (up_ne _ _ (by decide))⟩
            unfold mdAct
            simp only [Act.put, List.setIfInBounds_toArray, List.set_cons_zero, List.set_cons_succ, hup, gx_true, up_ne 34 0 (by decide), up_ne 34 1 (by decide), up_ne 34 2 (by decide), up_ne 34 3 (by decide), up_ne 34 4 (by decide), up_ne 34 5 (by decide), up_ne 34 6 (by decide), up_ne 34 7 (by decide), up_ne 34 8 (by decide), up_ne 34 9 (by decide), up_ne 34 10 (by decide), up_ne 34 11 (by decide), up_ne 34 12 (by decide), up_ne 34 13 (by decide), up_ne 34 14 (by decide), up_ne 34 15 (by decide), up_ne 34 16 (by decide), up_ne 34 17 (by decide), up_ne 34 18 (by decide), up_ne 34 19 (by decide), up_ne 34 20 (by decide), up_ne 34 21 (by decide), up_ne 34 22 (by decide), up_ne 34 23 (by decide), up_ne 34 24 (by decide), up_ne 34 25 (by decide), up_ne 34 26 (by decide), up_ne 34 27 (by decide), up_ne 34 28 (by decide), up_ne 34 29 (by decide), up_ne 34 30 (by decide), up_ne 34 31 (by decide), up_ne 34 32 (by decide), up_ne 34 33 (by decide), up_ne 34 35 (by decide), up_ne 34 36 (by decide), up_ne 34 37 (by decide), up_ne 34 38 (by decide), up_ne 34 39 (by decide), up_ne 34 40 (by decide), up_ne 34 41 (by decide), up_ne 34 42 (by decide), up_ne 34 43 (by decide), up_ne 34 44 (by decide), up_ne 34 45 (by decide), up_ne 34 46 (by decide), up_ne 34 47 (by decide)]
          refine ⟨fun L a w2 hn hI => ?_, ?_⟩
          · obtain ⟨q, v', rfl, hI⟩ := hI
            have hup := getD_up hn.2.1
            refine st_val (v := .int .i64 (i : Nat)) (W1 := w2) rfl (by unfold mdAct; simp only [gx_true]; go_simp) ?_
            refine ⟨q, v', ?_, hI.congr (up_ne _ _ (by decide)) (up_ne _ _ (by decide)) (up_ne _ _ (by decide))⟩
            unfold mdAct
            simp only [Act.put, List.setIfInBounds_toArray, List.set_cons_zero, List.set_cons_succ, hup, gx_true, up_ne 35 0 (by decide), up_ne 35 1 (by decide), up_ne 35 2 (by decide), up_ne 35 3 (by decide), up_ne 35 4 (by decide), up_ne 35 5 (by decide), up_ne 35 6 (by decide), up_ne 35 7 (by decide), up_ne 35 8 (by decide), up_ne 35 9 (by decide), up_ne 35 10 (by decide), up_ne 35 11 (by decide), up_ne 35 12 (by decide), up_ne 35 13 (by decide), up_ne 35 14 (by decide), up_ne 35 15 (by decide), up_ne 35 16 (by decide), up_ne 35 17 (by decide), up_ne 35 18 (by decide), up_ne 35 19 (by decide), up_ne 35 20 (by decide), up_ne 35 21 (by decide), up_ne 35 22 (by decide), up_ne 35 23 (by decide), up_ne 35 24 (by decide), up_ne 35 25 (by decide), up_ne 35 26 (by decide), up_ne 35 27 (by decide), up_ne 35 28 (by decide), up_ne 35 29 (by decide), up_ne 35 30 (by decide), up_ne 35 31 (by decide), up_ne 35 32 (by decide), up_ne 35 33 (by decide), up_ne 35 34 (by decide), up_ne 35 36 (by decide), up_ne 35 37 (by decide), up_ne 35 38 (by decide), up_ne 35 39 (by decide), up_ne 35 40 (by decide), up_ne 35 41 (by decide), up_ne 35 42 (by decide), up_ne 35 43 (by decide), up_ne 35 44 (by decide), up_ne 35 45 (by decide), up_ne 35 46 (by decide), up_ne 35 47 (by decide)]
          refine ⟨fun L a w2 hn hI => ?_, ?_⟩
          · obtain ⟨q, v', rfl, hI⟩ := hI
            have hup := getD_up hn.2.1
            have d35 : L.getD 35 false = true := hn.2.2.1 35 (by decide +kernel)
            refine st_val (v := .int .i64 (i3 : Nat)) (W1 := w2) rfl (by unfold mdAct; simp only [gx_true, d35]; go_simp) ?_
            refine ⟨q, v', ?_, hI.congr (up_ne _ _ (by decide)) (up_ne _ _ (by decide)) (up_ne _ _ (by decide))⟩
            unfold mdAct
            simp only [Act.put, List.setIfInBounds_toArray, List.set_cons_zero, List.set_cons_succ, hup, gx_true, up_ne 36 0 (by decide), up_ne 36 1 (by decide), up_ne 36 2 (by decide), up_ne 36 3 (by decide), up_ne 36 4 (by decide), up_ne 36 5 (by decide), up_ne 36 6 (by decide), up_ne 36 7 (by decide), up_ne 36 8 (by decide), up_ne 36 9 (by decide), up_ne 36 10 (by decide), up_ne 36 11 (by decide), up_ne 36 12 (by decide), up_ne 36 13 (by decide), up_ne 36 14 (by decide), up_ne 36 15 (by decide), up_ne 36 16 (by decide), up_ne 36 17 (by decide), up_ne 36 18 (by decide), up_ne 36 19 (by decide), up_ne 36 20 (by decide), up_ne 36 21 (by decide), up_ne 36 22 (by decide), up_ne 36 23 (by decide), up_ne 36 24 (by decide), up_ne 36 25 (by decide), up_ne 36 26 (by decide), up_ne 36 27 (by decide), up_ne 36 28 (by decide), up_ne 36 29 (by decide), up_ne 36 30 (by decide), up_ne 36 31 (by decide), up_ne 36 32 (by decide), up_ne 36 33 (by decide), up_ne 36 34 (by decide), up_ne 36 35 (by decide), up_ne 36 37 (by decide), up_ne 36 38 (by decide), up_ne 36 39 (by decide), up_ne 36 40 (by decide), up_ne 36 41 (by decide), up_ne 36 42 (by decide), up_ne 36 43 (by decide), up_ne 36 44 (by decide), up_ne 36 45 (by decide), up_ne 36 46 (by decide), up_ne 36 47 (by decide)]
          refine ⟨fun L a w2 hn hI => ?_, ?_⟩
          · obtain ⟨q, v', rfl, hI⟩ := hI
            have hup := getD_up hn.2.1
            have d34 : L.getD 34 false = true := hn.2.2.1 34 (by decide +kernel)
            have d36 : L.getD 36 false = true := hn.2.2.1 36 (by decide +kernel)
            refine st_val (v := .pointer (some ⟨lb, lo + i3, none⟩)) (W1 := w2) rfl (by unfold mdAct; simp only [gx_true, d34, d36]; go_simp) ?_
            refine ⟨q, v', ?_, hI.congr (up_ne _ _ (by decide)) (up_ne _ _ (by decide)) (up_ne _ _ (by decide))⟩
            unfold mdAct
            simp only [Act.put, List.setIfInBounds_toArray, List.set_cons_zero, List.set_cons_succ, hup, gx_true, up_ne 37 0 (by decide), up_ne 37 1 (by decide), up_ne 37 2 (by decide), up_ne 37 3 (by decide), up_ne 37 4 (by decide), up_ne 37 5 (by decide), up_ne 37 6 (by decide), up_ne 37 7 (by decide), up_ne 37 8 (by decide), up_ne 37 9 (by decide), up_ne 37 10 (by decide), up_ne 37 11 (by decide), up_ne 37 12 (by decide), up_ne 37 13 (by decide), up_ne 37 14 (by decide), up_ne 37 15 (by decide), up_ne 37 16 (by decide), up_ne 37 17 (by decide), up_ne 37 18 (by decide), up_ne 37 19 (by decide), up_ne 37 20 (by decide), up_ne 37 21 (by decide), up_ne 37 22 (by decide), up_ne 37 23 (by decide), up_ne 37 24 (by decide), up_ne 37 25 (by decide), up_ne 37 26 (by decide), up_ne 37 27 (by decide), up_ne 37 28 (by decide), up_ne 37 29 (by decide), up_ne 37 30 (by decide), up_ne 37 31 (by decide), up_ne 37 32 (by decide), up_ne 37 33 (by decide), up_ne 37 34 (by decide), up_ne 37 35 (by decide), up_ne 37 36 (by decide), up_ne 37 38 (by decide), up_ne 37 39 (by decide), up_ne 37 40 (by decide), up_ne 37 41 (by decide), up_ne 37 42 (by decide), up_ne 37 43 (by decide), up_ne 37 44 (by decide), up_ne 37 45 (by decide), up_ne 37 46 (by decide), up_ne 37 47 (by decide)]
          refine ⟨fun L a w2 hn hI => ?_, ?_⟩
          · obtain ⟨q, v', rfl, hI⟩ := hI
            have hup := getD_up hn.2.1
            have d37 : L.getD 37 false = true := hn.2.2.1 37 (by decide +kernel)
            have f44 := not_upA hn.2.2.2 (i := 44) (k := 38) (by decide +kernel) hn.2.1
            have hB := hI.a f44
            have zlw : lb < w2.heap.size := Nat.lt_of_lt_of_le zl hB.size
            have kc := (hB.cell (p := ⟨lb, lo + i3, none⟩) zl).trans HK3.out
            refine st_val (v := .int .i64 u3) (W1 := w2) rfl (by unfold mdAct; simp only [gx_true, d37]; go_simp) ?_
            refine ⟨q, v', ?_, hI.congr (up_ne _ _ (by decide)) (up_ne _ _ (by decide)) (up_ne _ _ (by decide))⟩
            unfold mdAct
            simp only [Act.put, List.setIfInBounds_toArray, List.set_cons_zero, List.set_cons_succ, hup, gx_true, up_ne 38 0 (by decide), up_ne 38 1 (by decide), up_ne 38 2 (by decide), up_ne 38 3 (by decide), up_ne 38 4 (by decide), up_ne 38 5 (by decide), up_ne 38 6 (by decide), up_ne 38 7 (by decide), up_ne 38 8 (by decide), up_ne 38 9 (by decide), up_ne 38 10 (by decide), up_ne 38 11 (by decide), up_ne 38 12 (by decide), up_ne 38 13 (by decide), up_ne 38 14 (by decide), up_ne 38 15 (by decide), up_ne 38 16 (by decide), up_ne 38 17 (by decide), up_ne 38 18 (by decide), up_ne 38 19 (by decide), up_ne 38 20 (by decide), up_ne 38 21 (by decide), up_ne 38 22 (by decide), up_ne 38 23 (by decide), up_ne 38 24 (by decide), up_ne 38 25 (by decide), up_ne 38 26 (by decide), up_ne 38 27 (by decide), up_ne 38 28 (by decide), up_ne 38 29 (by decide), up_ne 38 30 (by decide), up_ne 38 31 (by decide), up_ne 38 32 (by decide), up_ne 38 33 (by decide), up_ne 38 34 (by decide), up_ne 38 35 (by decide), up_ne 38 36 (by decide), up_ne 38 37 (by decide), up_ne 38 39 (by decide), up_ne 38 40 (by decide), up_ne 38 41 (by decide), up_ne 38 42 (by decide), up_ne 38 43 (by decide), up_ne 38 44 (by decide), up_ne 38 45 (by decide), up_ne 38 46 (by decide), up_ne 38 47 (by decide)]
          refine ⟨fun L a w2 hn hI => ?_, ?_⟩
          · obtain ⟨q, v', rfl, hI⟩ := hI
            have hup := getD_up hn.2.1
            refine st_val (v := .int .i64 (all.length : Nat)) (W1 := w2) rfl (by unfold mdAct; simp only [gx_true]; go_simp) ?_
            refine ⟨q, v', ?_, hI.congr (up_ne _ _ (by decide)) (up_ne _ _ (by decide)) (up_ne _ _ (by decide))⟩
            unfold mdAct
            simp only [Act.put, List.setIfInBounds_toArray, List.set_cons_zero, List.set_cons_succ, hup, gx_true, up_ne 39 0 (by decide), up_ne 39 1 (by decide), up_ne 39 2 (by decide), up_ne 39 3 (by decide), up_ne 39 4 (by decide), up_ne 39 5 (by decide), up_ne 39 6 (by decide), up_ne 39 7 (by decide), up_ne 39 8 (by decide), up_ne 39 9 (by decide), up_ne 39 10 (by decide), up_ne 39 11 (by decide), up_ne 39 12 (by decide), up_ne 39 13 (by decide), up_ne 39 14 (by decide), up_ne 39 15 (by decide), up_ne 39 16 (by decide), up_ne 39 17 (by decide), up_ne 39 18 (by decide), up_ne 39 19 (by decide), up_ne 39 20 (by decide), up_ne 39 21 (by decide), up_ne 39 22 (by decide), up_ne 39 23 (by decide), up_ne 39 24 (by decide), up_ne 39 25 (by decide), up_ne 39 26 (by decide), up_ne 39 27 (by decide), up_ne 39 28 (by decide), up_ne 39 29 (by decide), up_ne 39 30 (by decide), up_ne 39 31 (by decide), up_ne 39 32 (by decide), up_ne 39 33 (by decide), up_ne 39 34 (by decide), up_ne 39 35 (by decide), up_ne 39 36 (by decide), up_ne 39 37 (by decide), up_ne 39 38 (by decide), up_ne 39 40 (by decide), up_ne 39 41 (by decide), up_ne 39 42 (by decide), up_ne 39 43 (by decide), up_ne 39 44 (by decide), up_ne 39 45 (by decide), up_ne 39 46 (by decide), up_ne 39 47 (by decide)]
          refine ⟨fun L a w2 hn hI => ?_, ?_⟩
          · obtain ⟨q, v', rfl, hI⟩ := hI
            have hup := getD_up hn.2.1
            have d33 : L.getD 33 false = true := hn.2.2.1 33 (by decide +kernel)
            have d38 : L.getD 38 false = true := hn.2.2.1 38 (by decide +kernel)
            have d39 : L.getD 39 false = true := hn.2.2.1 39 (by decide +kernel)
            have f44 := not_upA hn.2.2.2 (i := 44) (k := 40) (by decide +kernel) hn.2.1
            have f45 := not_upA hn.2.2.2 (i := 45) (k := 40) (by decide +kernel) hn.2.1
            have f46 := not_upA hn.2.2.2 (i := 46) (k := 40) (by decide +kernel) hn.2.1
            refine st_call (f := 114) (args := #[.int .i64 u3, .int .i64 (all.length : Nat)]) (W1 := w2) rfl (by unfold mdAct; simp only [gx_true, d33, d38, d39]; first | (go_simp; done) | (go_simp; exact ⟨rfl, rfl⟩) | (go_simp; with_reducible rfl)) ((A3 w2).mono ?_)
            rintro e' w3 ⟨rfl, m3, d3, rfl⟩
            refine ⟨_, rfl, q, v', ?_, hI.ext f44 ((up_ne _ _ (by decide)).trans f44) ((up_ne _ _ (by decide)).trans f45) ((up_ne _ _ (by decide)).trans f46) m3 d3⟩
            unfold mdAct
            simp only [Act.put, List.setIfInBounds_toArray, List.set_cons_zero, List.set_cons_succ, hup, gx_true, up_ne 40 0 (by decide), up_ne 40 1 (by decide), up_ne 40 2 (by decide), up_ne 40 3 (by decide), up_ne 40 4 (by decide), up_ne 40 5 (by decide), up_ne 40 6 (by decide), up_ne 40 7 (by decide), up_ne 40 8 (by decide), up_ne 40 9 (by decide), up_ne 40 10 (by decide), up_ne 40 11 (by decide), up_ne 40 12 (by decide), up_ne 40 13 (by decide), up_ne 40 14 (by decide), up_ne 40 15 (by decide), up_ne 40 16 (by decide), up_ne 40 17 (by decide), up_ne 40 18 (by decide), up_ne 40 19 (by decide), up_ne 40 20 (by decide), up_ne 40 21 (by decide), up_ne 40 22 (by decide), up_ne 40 23 (by decide), up_ne 40 24 (by decide), up_ne 40 25 (by decide), up_ne 40 26 (by decide), up_ne 40 27 (by decide), up_ne 40 28 (by decide), up_ne 40 29 (by decide), up_ne 40 30 (by decide), up_ne 40 31 (by decide), up_ne 40 32 (by decide), up_ne 40 33 (by decide), up_ne 40 34 (by decide), up_ne 40 35 (by decide), up_ne 40 36 (by decide), up_ne 40 37 (by decide), up_ne 40 38 (by decide), up_ne 40 39 (by decide), up_ne 40 41 (by decide), up_ne 40 42 (by decide), up_ne 40 43 (by decide), up_ne 40 44 (by decide), up_ne 40 45 (by decide), up_ne 40 46 (by decide), up_ne 40 47 (by decide)]
          refine ⟨fun L a w2 hn hI => ?_, ?_⟩
          · obtain ⟨q, v', rfl, hI⟩ := hI
            have hup := getD_up hn.2.1
            have d32 : L.getD 32 false = true := hn.2.2.1 32 (by decide +kernel)
            have d40 : L.getD 40 false = true := hn.2.2.1 40 (by decide +kernel)
            refine st_val (v := .int .i64 (c3 : Nat)) (W1 := w2) rfl (by unfold mdAct; simp only [gx_true, d32, d40]; go_simp) ?_
            refine ⟨q, v', ?_, hI.congr (up_ne _ _ (by decide)) (up_ne _ _ (by decide)) (up_ne _ _ (by decide))⟩
            unfold mdAct
            simp only [Act.put, List.setIfInBounds_toArray, List.set_cons_zero, List.set_cons_succ, hup, gx_true, up_ne 41 0 (by decide), up_ne 41 1 (by decide), up_ne 41 2 (by decide), up_ne 41 3 (by decide), up_ne 41 4 (by decide), up_ne 41 5 (by decide), up_ne 41 6 (by decide), up_ne 41 7 (by decide), up_ne 41 8 (by decide), up_ne 41 9 (by decide), up_ne 41 10 (by decide), up_ne 41 11 (by decide), up_ne 41 12 (by decide), up_ne 41 13 (by decide), up_ne 41 14 (by decide), up_ne 41 15 (by decide), up_ne 41 16 (by decide), up_ne 41 17 (by decide), up_ne 41 18 (by decide), up_ne 41 19 (by decide), up_ne 41 20 (by decide), up_ne 41 21 (by decide), up_ne 41 22 (by decide), up_ne 41 23 (by decide), up_ne 41 24 (by decide), up_ne 41 25 (by decide), up_ne 41 26 (by decide), up_ne 41 27 (by decide), up_ne 41 28 (by decide), up_ne 41 29 (by decide), up_ne 41 30 (by decide), up_ne 41 31 (by decide), up_ne 41 32 (by decide), up_ne 41 33 (by decide), up_ne 41 34 (by decide), up_ne 41 35 (by decide), up_ne 41 36 (by decide), up_ne 41 37 (by decide), up_ne 41 38 (by decide), up_ne 41 39 (by decide), up_ne 41 40 (by decide), up_ne 41 42 (by decide), up_ne 41 43 (by decide), up_ne 41 44 (by decide), up_ne 41 45 (by decide), up_ne 41 46 (by decide), up_ne 41 47 (by decide)]
          refine ⟨fun L a w2 hn hI => ?_, ?_⟩
          · obtain ⟨q, v', rfl, hI⟩ := hI
            have hup := getD_up hn.2.1
            have d30 : L.getD 30 false = true := hn.2.2.1 30 (by decide +kernel)
            have d41 : L.getD 41 false = true := hn.2.2.1 41 (by decide +kernel)
            refine st_val (v := .pointer (some ⟨g, c3, none⟩)) (W1 := w2) rfl (by unfold mdAct; simp only [gx_true, d30, d41]; go_simp) ?_
            refine ⟨q, v', ?_, hI.congr (up_ne _ _ (by decide)) (up_ne _ _ (by decide)) (up_ne _ _ (by decide))⟩
            unfold mdAct
            simp only [Act.put, List.setIfInBounds_toArray, List.set_cons_zero, List.set_cons_succ, hup, gx_true, up_ne 42 0 (by decide), up_ne 42 1 (by decide), up_ne 42 2 (by decide), up_ne 42 3 (by decide), up_ne 42 4 (by decide), up_ne 42 5 (by decide), up_ne 42 6 (by decide), up_ne 42 7 (by decide), up_ne 42 8 (by decide), up_ne 42 9 (by decide), up_ne 42 10 (by decide), up_ne 42 11 (by decide), up_ne 42 12 (by decide), up_ne 42 13 (by decide), up_ne 42 14 (by decide), up_ne 42 15 (by decide), up_ne 42 16 (by decide), up_ne 42 17 (by decide), up_ne 42 18 (by decide), up_ne 42 19 (by decide), up_ne 42 20 (by decide), up_ne 42 21 (by decide), up_ne 42 22 (by decide), up_ne 42 23 (by decide), up_ne 42 24 (by decide), up_ne 42 25 (by decide), up_ne 42 26 (by decide), up_ne 42 27 (by decide), up_ne 42 28 (by decide), up_ne 42 29 (by decide), up_ne 42 30 (by decide), up_ne 42 31 (by decide), up_ne 42 32 (by decide), up_ne 42 33 (by decide), up_ne 42 34 (by decide), up_ne 42 35 (by decide), up_ne 42 36 (by decide), up_ne 42 37 (by decide), up_ne 42 38 (by decide), up_ne 42 39 (by decide), up_ne 42 40 (by decide), up_ne 42 41 (by decide), up_ne 42 43 (by decide), up_ne 42 44 (by decide), up_ne 42 45 (by decide), up_ne 42 46 (by decide), up_ne 42 47 (by decide)]
          refine ⟨fun L a w2 hn hI => ?_, ?_⟩
          · obtain ⟨q, v', rfl, hI⟩ := hI
            have hup := getD_up hn.2.1
            have d42 : L.getD 42 false = true := hn.2.2.1 42 (by decide +kernel)
            have f44 := not_upA hn.2.2.2 (i := 44) (k := 43) (by decide +kernel) hn.2.1
            have hB := hI.a f44
            have zgw : g < w2.heap.size := Nat.lt_of_lt_of_le zg hB.size
            have kc := (hB.cell (p := ⟨g, c3, none⟩) zg).trans HC3.out
            refine st_val (v := .int .i64 x3) (W1 := w2) rfl (by unfold mdAct; simp only [gx_true, d42]; go_simp) ?_
            refine ⟨q, v', ?_, hI.congr (up_ne _ _ (by decide)) (up_ne _ _ (by decide)) (up_ne _ _ (by decide))⟩
            unfold mdAct
            simp only [Act.put, List.setIfInBounds_toArray, List.set_cons_zero, List.set_cons_succ, hup, gx_true, up_ne 43 0 (by decide), up_ne 43 1 (by decide), up_ne 43 2 (by decide), up_ne 43 3 (by decide), up_ne 43 4 (by decide), up_ne 43 5 (by decide), up_ne 43 6 (by decide), up_ne 43 7 (by decide), up_ne 43 8 (by decide), up_ne 43 9 (by decide), up_ne 43 10 (by decide), up_ne 43 11 (by decide), up_ne 43 12 (by decide), up_ne 43 13 (by decide), up_ne 43 14 (by decide), up_ne 43 15 (by decide), up_ne 43 16 (by decide), up_ne 43 17 (by decide), up_ne 43 18 (by decide), up_ne 43 19 (by decide), up_ne 43 20 (by decide), up_ne 43 21 (by decide), up_ne 43 22 (by decide), up_ne 43 23 (by decide), up_ne 43 24 (by decide), up_ne 43 25 (by decide), up_ne 43 26 (by decide), up_ne 43 27 (by decide), up_ne 43 28 (by decide), up_ne 43 29 (by decide), up_ne 43 30 (by decide), up_ne 43 31 (by decide), up_ne 43 32 (by decide), up_ne 43 33 (by decide), up_ne 43 34 (by decide), up_ne 43 35 (by decide), up_ne 43 36 (by decide), up_ne 43 37 (by decide), up_ne 43 38 (by decide), up_ne 43 39 (by decide), up_ne 43 40 (by decide), up_ne 43 41 (by decide), up_ne 43 42 (by decide), up_ne 43 44 (by decide), up_ne 43 45 (by decide), up_ne 43 46 (by decide), up_ne 43 47 (by decide)]
          refine ⟨fun L a w2 hn hI => ?_, ?_⟩
          · obtain ⟨q, v', rfl, hI⟩ := hI
            have hup := getD_up hn.2.1
            have d1 : L.getD 1 false = true := hn.2.2.1 1 (by decide +kernel)
            have d15 : L.getD 15 false = true := hn.2.2.1 15 (by decide +kernel)
            have d29 : L.getD 29 false = true := hn.2.2.1 29 (by decide +kernel)
            have d43 : L.getD 43 false = true := hn.2.2.1 43 (by decide +kernel)
            have f44 := getD_false_of hn.2.1
            have f45 := not_upA hn.2.2.2 (i := 45) (k := 44) (by decide +kernel) hn.2.1
            have f46 := not_upA hn.2.2.2 (i := 46) (k := 44) (by decide +kernel) hn.2.1
            refine st_call (f := 25) (args := #[.pointer (some ⟨p, 0, none⟩), .int .i64 x1, .int .i64 x2, .int .i64 x3]) (W1 := w2) rfl (by unfold mdAct; simp only [gx_true, d1, d15, d29, d43]; first | (go_simp; done) | (go_simp; exact ⟨rfl, rfl⟩) | (go_simp; with_reducible rfl)) ((IC.out w2 (hI.a f44)).mono ?_)
            rintro e' w3 ⟨rfl, F2, hS2, st2⟩
            refine ⟨_, rfl, q, v', ?_, hI.ite f44 hup ((up_ne _ _ (by decide)).trans f45) ((up_ne _ _ (by decide)).trans f46) hS2 st2⟩
            unfold mdAct
            simp only [Act.put, List.setIfInBounds_toArray, List.set_cons_zero, List.set_cons_succ, hup, gx_true, up_ne 44 0 (by decide), up_ne 44 1 (by decide), up_ne 44 2 (by decide), up_ne 44 3 (by decide), up_ne 44 4 (by decide), up_ne 44 5 (by decide), up_ne 44 6 (by decide), up_ne 44 7 (by decide), up_ne 44 8 (by decide), up_ne 44 9 (by decide), up_ne 44 10 (by decide), up_ne 44 11 (by decide), up_ne 44 12 (by decide), up_ne 44 13 (by decide), up_ne 44 14 (by decide), up_ne 44 15 (by decide), up_ne 44 16 (by decide), up_ne 44 17 (by decide), up_ne 44 18 (by decide), up_ne 44 19 (by decide), up_ne 44 20 (by decide), up_ne 44 21 (by decide), up_ne 44 22 (by decide), up_ne 44 23 (by decide), up_ne 44 24 (by decide), up_ne 44 25 (by decide), up_ne 44 26 (by decide), up_ne 44 27 (by decide), up_ne 44 28 (by decide), up_ne 44 29 (by decide), up_ne 44 30 (by decide), up_ne 44 31 (by decide), up_ne 44 32 (by decide), up_ne 44 33 (by decide), up_ne 44 34 (by decide), up_ne 44 35 (by decide), up_ne 44 36 (by decide), up_ne 44 37 (by decide), up_ne 44 38 (by decide), up_ne 44 39 (by decide), up_ne 44 40 (by decide), up_ne 44 41 (by decide), up_ne 44 42 (by decide), up_ne 44 43 (by decide), up_ne 44 45 (by decide), up_ne 44 46 (by decide), up_ne 44 47 (by decide)]
          refine ⟨fun L a w2 hn hI => ?_, ?_⟩
          · obtain ⟨q, v', rfl, hI⟩ := hI
            have hup := getD_up hn.2.1
            have d44 : L.getD 44 false = true := hn.2.2.1 44 (by decide +kernel)
            have f45 := getD_false_of hn.2.1
            have f46 := not_upA hn.2.2.2 (i := 46) (k := 45) (by decide +kernel) hn.2.1
            have f47 := not_upA hn.2.2.2 (i := 47) (k := 45) (by decide +kernel) hn.2.1
            refine st_val (v := .slice (some ⟨w2.heap.size, 0, none⟩) 1 1) (W1 := w2.alloc (.cells #[.int .i64 R.2] 3)) rfl (by unfold mdAct; simp only [gx_true, d44]; go_simp) ?_
            refine ⟨w2.heap.size, v', ?_, hI.lit d44 f45 ((up_ne _ _ (by decide)).trans d44) hup ((up_ne _ _ (by decide)).trans f46)⟩
            unfold mdAct
            simp only [Act.put, List.setIfInBounds_toArray, List.set_cons_zero, List.set_cons_succ, hup, gx_true, f46, f47, gx_false, up_ne 45 0 (by decide), up_ne 45 1 (by decide), up_ne 45 2 (by decide), up_ne 45 3 (by decide), up_ne 45 4 (by decide), up_ne 45 5 (by decide), up_ne 45 6 (by decide), up_ne 45 7 (by decide), up_ne 45 8 (by decide), up_ne 45 9 (by decide), up_ne 45 10 (by decide), up_ne 45 11 (by decide), up_ne 45 12 (by decide), up_ne 45 13 (by decide), up_ne 45 14 (by decide), up_ne 45 15 (by decide), up_ne 45 16 (by decide), up_ne 45 17 (by decide), up_ne 45 18 (by decide), up_ne 45 19 (by decide), up_ne 45 20 (by decide), up_ne 45 21 (by decide), up_ne 45 22 (by decide), up_ne 45 23 (by decide), up_ne 45 24 (by decide), up_ne 45 25 (by decide), up_ne 45 26 (by decide), up_ne 45 27 (by decide), up_ne 45 28 (by decide), up_ne 45 29 (by decide), up_ne 45 30 (by decide), up_ne 45 31 (by decide), up_ne 45 32 (by decide), up_ne 45 33 (by decide), up_ne 45 34 (by decide), up_ne 45 35 (by decide), up_ne 45 36 (by decide), up_ne 45 37 (by decide), up_ne 45 38 (by decide), up_ne 45 39 (by decide), up_ne 45 40 (by decide), up_ne 45 41 (by decide), up_ne 45 42 (by decide), up_ne 45 43 (by decide), up_ne 45 44 (by decide), up_ne 45 46 (by decide), up_ne 45 47 (by decide)]
          refine ⟨fun L a w2 hn hI => ?_, ?_⟩
          · obtain ⟨q, v', rfl, hI⟩ := hI
            have hup := getD_up hn.2.1
            have d0 : L.getD 0 false = true := hn.2.2.1 0 (by decide +kernel)
            have d45 : L.getD 45 false = true := hn.2.2.1 45 (by decide +kernel)
            have f46 := getD_false_of hn.2.1
            have f47 := not_upA hn.2.2.2 (i := 47) (k := 46) (by decide +kernel) hn.2.1
            obtain ⟨v2, w3, G2, r1, r2, r3⟩ := hI.app HH.out hbr.size (by omega) d45 f46
            refine st_val (v := v2) (W1 := w3) rfl (by unfold mdAct; simp only [gx_true, d0, d45]; exact run_append_op _ _ _ _ _ _ _ _ _ r1) ?_
            refine ⟨q, v2, ?_, hI.fin hup ((up_ne _ _ (by decide)).trans (hn.2.2.1 44 (by decide +kernel))) ((up_ne _ _ (by decide)).trans d45) r2 r3⟩
            unfold mdAct
            simp only [Act.put, List.setIfInBounds_toArray, List.set_cons_zero, List.set_cons_succ, hup, gx_true, f47, gx_false, up_ne 46 0 (by decide), up_ne 46 1 (by decide), up_ne 46 2 (by decide), up_ne 46 3 (by decide), up_ne 46 4 (by decide), up_ne 46 5 (by decide), up_ne 46 6 (by decide), up_ne 46 7 (by decide), up_ne 46 8 (by decide), up_ne 46 9 (by decide), up_ne 46 10 (by decide), up_ne 46 11 (by decide), up_ne 46 12 (by decide), up_ne 46 13 (by decide), up_ne 46 14 (by decide), up_ne 46 15 (by decide), up_ne 46 16 (by decide), up_ne 46 17 (by decide), up_ne 46 18 (by decide), up_ne 46 19 (by decide), up_ne 46 20 (by decide), up_ne 46 21 (by decide), up_ne 46 22 (by decide), up_ne 46 23 (by decide), up_ne 46 24 (by decide), up_ne 46 25 (by decide), up_ne 46 26 (by decide), up_ne 46 27 (by decide), up_ne 46 28 (by decide), up_ne 46 29 (by decide), up_ne 46 30 (by decide), up_ne 46 31 (by decide), up_ne 46 32 (by decide), up_ne 46 33 (by decide), up_ne 46 34 (by decide), up_ne 46 35 (by decide), up_ne 46 36 (by decide), up_ne 46 37 (by decide), up_ne 46 38 (by decide), up_ne 46 39 (by decide), up_ne 46 40 (by decide), up_ne 46 41 (by decide), up_ne 46 42 (by decide), up_ne 46 43 (by decide), up_ne 46 44 (by decide), up_ne 46 45 (by decide), up_ne 46 47 (by decide)]
          refine ⟨fun L a w2 hn hI => ?_, ?_⟩
          · obtain ⟨q, v', rfl, hI⟩ := hI
            have hup := getD_up hn.2.1
            have d46 : L.getD 46 false = true := hn.2.2.1 46 (by decide +kernel)
            refine st_val (v := v') (W1 := w2) rfl (by unfold mdAct; simp only [gx_true, d46]; go_simp) ?_
            refine ⟨q, v', ?_, hI.congr (up_ne _ _ (by decide)) (up_ne _ _ (by decide)) (up_ne _ _ (by decide))⟩
            unfold mdAct
            simp only [Act.put, List.setIfInBounds_toArray, List.set_cons_zero, List.set_cons_succ, hup, gx_true, up_ne 47 0 (by decide), up_ne 47 1 (by decide), up_ne 47 2 (by decide), up_ne 47 3 (by decide), up_ne 47 4 (by decide), up_ne 47 5 (by decide), up_ne 47 6 (by decide), up_ne 47 7 (by decide), up_ne 47 8 (by decide), up_ne 47 9 (by decide), up_ne 47 10 (by decide), up_ne 47 11 (by decide), up_ne 47 12 (by decide), up_ne 47 13 (by decide), up_ne 47 14 (by decide), up_ne 47 15 (by decide), up_ne 47 16 (by decide), up_ne 47 17 (by decide), up_ne 47 18 (by decide), up_ne 47 19 (by decide), up_ne 47 20 (by decide), up_ne 47 21 (by decide), up_ne 47 22 (by decide), up_ne 47 23 (by decide), up_ne 47 24 (by decide), up_ne 47 25 (by decide), up_ne 47 26 (by decide), up_ne 47 27 (by decide), up_ne 47 28 (by decide), up_ne 47 29 (by decide), up_ne 47 30 (by decide), up_ne 47 31 (by decide), up_ne 47 32 (by decide), up_ne 47 33 (by decide), up_ne 47 34 (by decide), up_ne 47 35 (by decide), up_ne 47 36 (by decide), up_ne 47 37 (by decide), up_ne 47 38 (by decide), up_ne 47 39 (by decide), up_ne 47 40 (by decide), up_ne 47 41 (by decide), up_ne 47 42 (by decide), up_ne 47 43 (by decide), up_ne 47 44 (by decide), up_ne 47 45 (by decide), up_ne 47 46 (by decide)]
          trivial
          -- END GENERATED
      · have q2' : ¬ (i : Int) < 80 := by omega
        have HX := hid (show (S, all) = madeV cap l by rw [← HD.out, show 20 - j = 0 by omega, madeL_zero])
        clear Hi hi
        go_wp2_with fail
        go_returns
        refine ⟨p, F1, _, some g, rfl, ?_, hbr⟩
        rw [← HX.out]; exact HH.out
    · have q1' : ¬ (i : Int) + 3 < (l.length : Int) := by omega
      have HX := hid (show (S, all) = madeV cap l by rw [← HD.out, madeL_short _ _ _ _ (by rw [List.length_drop]; omega)])
      clear Hi hi
      go_wp2_with fail
      go_returns
      refine ⟨p, F1, _, some g, rfl, ?_, hbr⟩
      rw [← HX.out]; exact HH.out
end Go.Proofs.Ytboekafmplomhaa
set_option linter.unusedVariables false
set_option linter.unusedSimpArgs false
namespace Go.Proofs.Ytboekafmplomhaa

/-- A diagram that hangs on nothing ahead of t. -/
theorem top_from {S : Sto} {r : Int} (hW : Wf S) (hr : S.has r) {t : Int} (ht : t ≤ 64) (h : ∀ β γ : Int → Bool, (∀ u, t ≤ u → u < 64 → β u = γ u) → ev S β r = ev S γ r) : t ≤ topOf S r := by
  by_cases h2 : r < 2
  · rw [topOf_low h2]; exact ht
  · obtain ⟨i, m, rfl, hm⟩ := has_node hr h2
    rw [topOf_node hm]
    rcases Int.lt_or_le m.1 t with hlt | hge
    · exfalso
      have hc := hW.child hm
      have hok := hW.node i m hm
      refine hok.ne ((ev_eq hW hc.1 hc.2).1 (fun β => ?_))
      have e1 := h (setb β m.1 false) (setb β m.1 true) (fun u hu _ => by unfold setb; rw [if_neg (by omega), if_neg (by omega)])
      rw [ev_node hW _ hm, ev_node hW _ hm] at e1
      rw [if_neg (by simp [setb]), if_pos (by simp [setb])] at e1
      have s1 : ev S (setb β m.1 false) m.2.1 = ev S β m.2.1 := ev_same hW _ _ (Nat.le_refl _) hc.1 _ _ (fun u hu _ => by have := hok.tlo; unfold setb; rw [if_neg (by omega)])
      have s2 : ev S (setb β m.1 true) m.2.2 = ev S β m.2.2 := ev_same hW _ _ (Nat.le_refl _) hc.2 _ _ (fun u hu _ => by have := hok.thi; unfold setb; rw [if_neg (by omega)])
      rw [s1, s2] at e1
      exact e1
    · exact hge

theorem mkN_there {S : Sto} (h : Wf S) {v r : Int} (hr : S.has r) (hv : v < 64) : mkN S v (splitOf S r v).1 (splitOf S r v).2 = (S, some r) := by
  unfold splitOf
  by_cases e : topOf S r = v
  · have h2 : ¬ r < 2 := fun h2 => by rw [topOf_low h2] at e; omega
    obtain ⟨i, n, rfl, hn⟩ := has_node hr h2
    have hi2 : ((i : Int) + 2 - 2).toNat = i := by omega
    rw [topOf_node hn] at e
    subst e
    simp only [topOf_node hn, if_true, hi2, hn, Option.getD_some]
    unfold mkN
    rw [if_neg (h.node i n hn).ne, show aget S.byn (n.1, n.2.1, n.2.2) = some ((i : Int) + 2) from (h.byn n _).2 ⟨i, rfl, hn⟩]
  · rw [if_neg e]
    unfold mkN
    rw [if_pos rfl]

/-- What is there already is told, and no node is made. -/
theorem iteN_there : ∀ (n : Nat) (S : Sto) (c a b r : Int), Wf S → S.has c → S.has a → S.has b → S.has r → (∀ β, ev S β r = if ev S β c then ev S β a else ev S β b) → 64 - low S c a b < n →
    (iteN n S c a b).1.nodes = S.nodes ∧ (iteN n S c a b).2 = some r := by
  intro n
  induction n with
  | zero => intro S c a b r h hc _ _ _ _ hn; have := (low_le S c a b).1; have := topOf_le h hc; omega
  | succ n ih =>
    intro S c a b r h hc ha hb hr he hn
    unfold iteN
    by_cases e1 : c = 1 ∨ a = b
    · rw [if_pos e1]
      have : a = r := (ev_eq h ha hr).1 (fun β => by
        rw [he β]
        rcases e1 with e1 | e1
        · rw [e1, ev_low _ (show (1 : Int) < 2 by omega)]; rfl
        · rw [e1]; split <;> rfl)
      rw [this]; exact ⟨rfl, rfl⟩
    · rw [if_neg e1]
      by_cases e2 : c = 0
      · rw [if_pos e2]
        have : b = r := (ev_eq h hb hr).1 (fun β => by rw [he β, e2, ev_low _ (show (0 : Int) < 2 by omega)]; rfl)
        rw [this]; exact ⟨rfl, rfl⟩
      · rw [if_neg e2]
        by_cases e3 : a = 1 ∧ b = 0
        · rw [if_pos e3]
          have : c = r := (ev_eq h hc hr).1 (fun β => by rw [he β, e3.1, e3.2, ev_low _ (show (1 : Int) < 2 by omega), ev_low _ (show (0 : Int) < 2 by omega)]; cases ev S β c <;> rfl)
          rw [this]; exact ⟨rfl, rfl⟩
        · rw [if_neg e3]
          cases ht : aget S.told (c, a, b) with
          | some r' =>
            obtain ⟨_, _, _, t4, _, t6⟩ := h.told c a b r' ht
            have : r' = r := (ev_eq h t4 hr).1 (fun β => by rw [t6, he])
            rw [this]; exact ⟨rfl, rfl⟩
          | none =>
            obtain ⟨l1, l2, l3⟩ := low_le S c a b
            have hc2 : ¬ c < 2 := fun h2 => by have := hc.1; simp at e1; omega
            have hl64 : low S c a b < 64 := by
              obtain ⟨i, m, rfl, hm⟩ := has_node hc hc2
              rw [topOf_node hm] at l1
              have := (h.node i m hm).v64; omega
            generalize hv : low S c a b = v at *
            obtain ⟨c1, c2, c3, c4, c5⟩ := split_ok h hc l1 hl64
            obtain ⟨a1, a2, a3, a4, a5⟩ := split_ok h ha l2 hl64
            obtain ⟨b1, b2, b3, b4, b5⟩ := split_ok h hb l3 hl64
            have hrt : v ≤ topOf S r := top_from h hr (by omega) (fun β γ hbg => by
              rw [he, he]
              have s : ∀ d, S.has d → v ≤ topOf S d → ev S β d = ev S γ d := fun d hd ht => ev_same h _ _ (Nat.le_refl _) hd _ _ (fun u hu hu2 => hbg u (by omega) hu2)
              rw [s c hc l1, s a ha l2, s b hb l3])
            obtain ⟨r1, r2, r3, r4, r5⟩ := split_ok h hr hrt hl64
            have hlow1 := lt_low c3 a3 b3
            have hlow2 := lt_low c4 a4 b4
            have fix : ∀ (t : Bool) (β : Int → Bool) (d : Int), S.has d → v < topOf S d → ev S (setb β v t) d = ev S β d := fun t β d hd ht => ev_same h _ _ (Nat.le_refl _) hd _ _ (fun u hu _ => by unfold setb; rw [if_neg (by omega)])
            have he1 : ∀ β, ev S β (splitOf S r v).1 = if ev S β (splitOf S c v).1 then ev S β (splitOf S a v).1 else ev S β (splitOf S b v).1 := fun β => by
              have := he (setb β v false)
              rw [r5, c5, a5, b5] at this
              simp only [show setb β v false v = false by simp [setb], Bool.false_eq_true, if_false] at this
              rw [fix _ _ _ r1 r3, fix _ _ _ c1 c3, fix _ _ _ a1 a3, fix _ _ _ b1 b3] at this
              exact this
            have he2 : ∀ β, ev S β (splitOf S r v).2 = if ev S β (splitOf S c v).2 then ev S β (splitOf S a v).2 else ev S β (splitOf S b v).2 := fun β => by
              have := he (setb β v true)
              rw [r5, c5, a5, b5] at this
              simp only [show setb β v true v = true by simp [setb], if_true] at this
              rw [fix _ _ _ r2 r4, fix _ _ _ c2 c4, fix _ _ _ a2 a4, fix _ _ _ b2 b4] at this
              exact this
            have I1 := ih S _ _ _ (splitOf S r v).1 h c1 a1 b1 r1 he1 (by omega)
            have O1 := iteN_ok n S _ _ _ h c1 a1 b1 (by omega)
            generalize hR1 : iteN n S (splitOf S c v).1 (splitOf S a v).1 (splitOf S b v).1 = R1 at I1 O1
            obtain ⟨S1, o1⟩ := R1
            obtain ⟨i1, i2⟩ := I1
            simp only at i1 i2
            subst i2
            have g1 := O1.grows
            have wf1 := O1.wf
            simp only at g1 wf1
            have e2' := g1.low c2 a2 b2
            have I2 := ih S1 _ _ _ (splitOf S r v).2 wf1 (g1.has c2) (g1.has a2) (g1.has b2) (g1.has r2) (fun β => by
              rw [ev_grows h g1 β r2, ev_grows h g1 β c2, ev_grows h g1 β a2, ev_grows h g1 β b2]; exact he2 β) (by rw [e2']; omega)
            have O2 := iteN_ok n S1 _ _ _ wf1 (g1.has c2) (g1.has a2) (g1.has b2) (by rw [e2']; omega)
            simp only
            generalize hR2 : iteN n S1 (splitOf S c v).2 (splitOf S a v).2 (splitOf S b v).2 = R2 at I2 O2
            obtain ⟨S2, o2⟩ := R2
            obtain ⟨j1, j2⟩ := I2
            simp only at j1 j2
            subst j2
            have g2 := g1.trans O2.grows
            have wf2 := O2.wf
            simp only at g2 wf2
            have M := mkN_there wf2 (g2.has hr) hl64
            rw [g2.split hr hl64] at M
            simp only
            rw [M]
            exact ⟨j1.trans i1, rfl⟩

theorem iteN_const (n : Nat) (S : Sto) {c : Int} (a b : Int) (hc : c = 0 ∨ c = 1) : (iteN n S c a b).1 = S := by
  cases n with
  | zero => rfl
  | succ n =>
    unfold iteN
    by_cases e1 : c = 1 ∨ a = b
    · rw [if_pos e1]
    · rw [if_neg e1, if_pos (by simp at e1; omega)]

theorem mkN_count (S : Sto) (v lo hi : Int) : (mkN S v lo hi).1.nodes.length ≤ S.nodes.length + 1 := by
  unfold mkN
  by_cases e : lo = hi
  · rw [if_pos e]; simp
  · rw [if_neg e]
    cases hr : aget S.byn (v, lo, hi) with
    | some r => simp
    | none =>
      simp only
      by_cases hl : (S.nodes.length : Int) = S.cap
      · rw [if_pos hl]; simp
      · rw [if_neg hl]; simp

/-- A variable, or its Not, ahead of two diagrams: one node. -/
theorem lit_count (n : Nat) (S : Sto) {c a b : Int} (h1 : low S c a b = topOf S c) (h2 : (splitOf S c (topOf S c)).1 = 0 ∨ (splitOf S c (topOf S c)).1 = 1) (h3 : (splitOf S c (topOf S c)).2 = 0 ∨ (splitOf S c (topOf S c)).2 = 1) :
    (iteN n S c a b).1.nodes.length ≤ S.nodes.length + 1 := by
  cases n with
  | zero => show S.nodes.length ≤ _; omega
  | succ n =>
    unfold iteN
    by_cases e1 : c = 1 ∨ a = b
    · rw [if_pos e1]; simp
    · rw [if_neg e1]
      by_cases e2 : c = 0
      · rw [if_pos e2]; simp
      · rw [if_neg e2]
        by_cases e3 : a = 1 ∧ b = 0
        · rw [if_pos e3]; simp
        · rw [if_neg e3]
          cases ht : aget S.told (c, a, b) with
          | some r => simp
          | none =>
            rw [h1]
            have K1 := iteN_const n S (splitOf S a (topOf S c)).1 (splitOf S b (topOf S c)).1 h2
            simp only
            generalize iteN n S (splitOf S c (topOf S c)).1 (splitOf S a (topOf S c)).1 (splitOf S b (topOf S c)).1 = R1 at K1
            obtain ⟨S1, o1⟩ := R1
            simp only at K1
            subst K1
            cases o1 with
            | none => simp
            | some lo =>
              have K2 := iteN_const n S1 (splitOf S1 a (topOf S1 c)).2 (splitOf S1 b (topOf S1 c)).2 h3
              simp only
              generalize iteN n S1 (splitOf S1 c (topOf S1 c)).2 (splitOf S1 a (topOf S1 c)).2 (splitOf S1 b (topOf S1 c)).2 = R2 at K2
              obtain ⟨S2, o2⟩ := R2
              simp only at K2
              subst K2
              cases o2 with
              | none => simp
              | some hi =>
                have M := mkN_count S2 (topOf S2 c) lo hi
                simp only
                generalize mkN S2 (topOf S2 c) lo hi = R3 at M
                obtain ⟨S3, o3⟩ := R3
                simp only at M
                cases o3 with
                | none => exact M
                | some r => exact M

/-- How many nodes a cube and a diagram need, k variables from the last one on: M says which ones the cube names. -/
def costN (M : Nat) : Nat → Nat
  | 0 => 0
  | k + 1 => if Nat.testBit M (7 - k) then costN M k + 1 else costN M k + costN M k + 1
theorem costN_mono (M : Nat) {j k : Nat} (h : j ≤ k) : costN M j ≤ costN M k := by
  induction k with
  | zero => obtain rfl : j = 0 := by omega
            exact Nat.le_refl _
  | succ k ih =>
    by_cases e : j = k + 1
    · rw [e]; exact Nat.le_refl _
    · have := ih (by omega)
      rw [costN]; split <;> omega

theorem and_count : ∀ (n : Nat) (S : Sto) (c x : Int) (M : Nat) (val : Nat → Bool) (k : Nat), Wf S → S.has c → S.has x → 64 - low S c x 0 < n → Below' S 8 → (8 : Int) - k ≤ low S c x 0 → k ≤ 8 →
    (∀ β, ev S β c = true ↔ ∀ v : Nat, 8 - k ≤ v → v < 8 → Nat.testBit M v = true → β v = val v) → (iteN n S c x 0).1.nodes.length ≤ S.nodes.length + costN M k := by
  intro n
  induction n with
  | zero => intro S c x M val k h hc _ hn; have := (low_le S c x 0).1; have := topOf_le h hc; omega
  | succ n ih =>
    intro S c x M val k h hc hx hn hV hk hk8 hcu
    have hb : S.has 0 := has_zero S
    have CNT := (iteN_count (n + 1) S c x 0 8 h hc hx hb hn hV).1
    clear CNT
    unfold iteN
    by_cases e1 : c = 1 ∨ x = 0
    · rw [if_pos e1]; simp
    · rw [if_neg e1]
      by_cases e2 : c = 0
      · rw [if_pos e2]; simp
      · rw [if_neg e2]
        by_cases e3 : x = 1 ∧ (0 : Int) = 0
        · rw [if_pos e3]; simp
        · rw [if_neg e3]
          cases ht : aget S.told (c, x, 0) with
          | some r => simp
          | none =>
            obtain ⟨l1, l2, l3⟩ := low_le S c x 0
            have hl0 : 0 ≤ low S c x 0 := by
              have := topOf_ge h hc; have := topOf_ge h hx; have := topOf_ge h hb
              unfold low; omega
            have hc2 : ¬ c < 2 := fun h2 => by have := hc.1; simp at e1; omega
            have hl8 : low S c x 0 < 8 := by have := topOf_below hV hc hc2; omega
            have hl64 : low S c x 0 < 64 := by omega
            obtain ⟨j, hj⟩ : ∃ j : Nat, low S c x 0 = 7 - (j : Int) := ⟨(7 - low S c x 0).toNat, by omega⟩
            have hjk : j + 1 ≤ k := by omega
            have hmono := costN_mono M hjk
            generalize hv : low S c x 0 = v at *
            have hvn : v = ((7 - j : Nat) : Int) := by omega
            obtain ⟨c1, c2, c3, c4, c5⟩ := split_ok h hc l1 hl64
            obtain ⟨a1, a2, a3, a4, a5⟩ := split_ok h hx l2 hl64
            have e0 : splitOf S 0 v = (0, 0) := by unfold splitOf; rw [topOf_low (by omega), if_neg (by omega)]
            have t0 : topOf S 0 = 64 := topOf_low (by omega)
            have b3 : v < topOf S 0 := by omega
            have hlow1 := lt_low c3 a3 b3
            have hlow2 := lt_low c4 a4 b3
            -- what the halves mean
            have half : ∀ (t : Bool) (d : Int), S.has d → v < topOf S d → (∀ β, β v = t → ev S β c = ev S β d) → ∀ β, ev S β d = true ↔ (Nat.testBit M (7 - j) = true → val (7 - j) = t) ∧ ∀ u : Nat, 8 - j ≤ u → u < 8 → Nat.testBit M u = true → β u = val u := fun t d hd td hcd β => by
              have w1 : ev S β d = ev S (fun u => if u < v then val u.toNat else if u = v then t else β u) d := ev_same h _ _ (Nat.le_refl _) hd _ _ (fun u hu _ => by
                rw [if_neg (by omega), if_neg (by omega)])
              rw [w1, ← hcd _ (by simp), hcu]
              constructor
              · intro H
                refine ⟨fun hm => ?_, fun u hu hu8 hm => ?_⟩
                · have := H (7 - j) (by omega) (by omega) hm
                  rw [if_neg (by omega), if_pos (by omega)] at this
                  exact this.symm
                · have := H u (by omega) hu8 hm
                  rw [if_neg (by omega), if_neg (by omega)] at this
                  exact this
              · rintro ⟨H1, H2⟩ u hu hu8 hm
                rcases Nat.lt_trichotomy u (7 - j) with hlt | heq | hgt
                · rw [if_pos (by omega)]; congr 1
                · subst heq
                  rw [if_neg (by omega), if_pos (by omega)]; exact (H1 hm).symm
                · rw [if_neg (by omega), if_neg (by omega)]; exact H2 u (by omega) hu8 hm
            have hlo := half false _ c1 c3 (fun β hβ => by rw [c5, hβ]; rfl)
            have hhi := half true _ c2 c4 (fun β hβ => by rw [c5, hβ]; rfl)
            -- how many nodes a half adds
            have cnt : ∀ (T : Sto) (t : Bool) (d y : Int), Wf T → Below' T 8 → T.has d → T.has y → (∀ β, ev T β d = true ↔ (Nat.testBit M (7 - j) = true → val (7 - j) = t) ∧ ∀ u : Nat, 8 - j ≤ u → u < 8 → Nat.testBit M u = true → β u = val u) →
                v < low T d y 0 → 64 - low T d y 0 < n → (iteN n T d y 0).1.nodes.length ≤ T.nodes.length + if Nat.testBit M (7 - j) = true ∧ val (7 - j) ≠ t then 0 else costN M j := fun T t d y hT hB hd hy he hl hn' => by
              by_cases hz : Nat.testBit M (7 - j) = true ∧ val (7 - j) ≠ t
              · rw [if_pos hz]
                have : d = 0 := (ev_eq hT hd (has_zero T)).1 (fun β => by
                  rw [ev_low (a := 0) β (by omega)]
                  cases hd' : ev T β d with
                  | false => rfl
                  | true => exact absurd (((he β).1 hd').1 hz.1) hz.2)
                rw [iteN_const n T y 0 (.inl this)]; omega
              · rw [if_neg hz]
                refine ih T d y M val j hT hd hy hn' hB (by omega) (by omega) (fun β => ?_)
                rw [he β]
                constructor
                · intro H; exact H.2
                · intro H
                  refine ⟨fun hm => ?_, H⟩
                  by_cases e : val (7 - j) = t
                  · exact e
                  · exact absurd ⟨hm, e⟩ hz
            have two : (if Nat.testBit M (7 - j) = true ∧ val (7 - j) ≠ false then 0 else costN M j) + (if Nat.testBit M (7 - j) = true ∧ val (7 - j) ≠ true then 0 else costN M j) + 1 ≤ costN M k := by
              refine Nat.le_trans ?_ hmono
              rw [costN]
              cases hm : Nat.testBit M (7 - j) <;> cases hva : val (7 - j) <;> simp
            simp only [e0]
            have I1 := cnt S false _ _ h hV c1 a1 hlo hlow1 (by omega)
            have O1 := iteN_ok n S _ _ _ h c1 a1 hb (by omega)
            have B1 := (iteN_count n S _ _ _ 8 h c1 a1 hb (by omega) hV).1
            generalize hR1 : iteN n S (splitOf S c v).1 (splitOf S x v).1 0 = R1 at I1 O1 B1
            obtain ⟨S1, o1⟩ := R1
            simp only at I1 B1
            generalize (if Nat.testBit M (7 - j) = true ∧ val (7 - j) ≠ false then 0 else costN M j) = q1 at *
            cases o1 with
            | none => simp only; omega
            | some lo =>
              have g1 := O1.grows
              have wf1 := O1.wf
              simp only at g1 wf1
              have e2' := g1.low c2 a2 hb
              have I2 := cnt S1 true _ _ wf1 B1 (g1.has c2) (g1.has a2) (fun β => by rw [ev_grows h g1 β c2]; exact hhi β) (by rw [e2']; exact hlow2) (by rw [e2']; omega)
              simp only
              generalize hR2 : iteN n S1 (splitOf S c v).2 (splitOf S x v).2 0 = R2 at I2
              obtain ⟨S2, o2⟩ := R2
              simp only at I2
              generalize (if Nat.testBit M (7 - j) = true ∧ val (7 - j) ≠ true then 0 else costN M j) = q2 at *
              cases o2 with
              | none => simp only; omega
              | some hi =>
                have MK := mkN_count S2 v lo hi
                simp only
                generalize mkN S2 v lo hi = R3 at MK
                obtain ⟨S3, o3⟩ := R3
                simp only at MK
                cases o3 with
                | none => simp only; omega
                | some r => simp only; omega
end Go.Proofs.Ytboekafmplomhaa
set_option linter.unusedVariables false
set_option linter.unusedSimpArgs false
namespace Go.Proofs.Ytboekafmplomhaa
open Classical

/-- A cube holds of a setting. -/
def InC (c : Cu) (β : Int → Bool) : Prop := ∀ v : Nat, v < 64 → Nat.testBit c.1 v = true → β v = Nat.testBit c.2 v
/-- A cube over eight variables. -/
structure C8 (c : Cu) : Prop where
  lt : c.1 < 256
  sub : ∀ v, Nat.testBit c.2 v = true → Nat.testBit c.1 v = true
theorem bit_high {n v : Nat} (h : n < 256) (hv : 8 ≤ v) : Nat.testBit n v = false :=
  Nat.testBit_lt_two_pow (Nat.lt_of_lt_of_le h (show 2 ^ 8 ≤ 2 ^ v from Nat.pow_le_pow_right (by omega) hv))
theorem C8.lt2 {c : Cu} (h : C8 c) : c.2 < 256 := by
  show c.2 < 2 ^ 8
  refine Nat.lt_pow_two_of_testBit c.2 (fun i hi => ?_)
  cases hb : Nat.testBit c.2 i with
  | false => rfl
  | true => have := h.sub i hb; rw [bit_high h.lt hi] at this; cases this
theorem C8.cu {c : Cu} (h : C8 c) : CuOk c := ⟨by have := h.lt; omega, by have := h.lt2; omega⟩
theorem C8.may {c : Cu} (h : C8 c) : mayC c = true := by
  unfold mayC
  rw [decide_eq_true_iff]
  apply Nat.eq_of_testBit_eq
  intro v
  rw [Nat.testBit_and]
  have := Nat.testBit_two_pow_sub_succ (x := c.1) (n := 64) (by have := h.lt; omega) v
  rw [show 2 ^ 64 - (c.1 + 1) = 18446744073709551615 - c.1 by omega] at this
  rw [this, Nat.zero_testBit]
  cases h2 : Nat.testBit c.2 v with
  | false => rfl
  | true => rw [h.sub v h2]; simp

/-- A store over eight variables with room for m nodes more. -/
structure Rm (S : Sto) (m : Nat) : Prop where
  wf : Wf S
  sated : Sated S
  below : Below' S 8
  cap : S.cap = 1048576
  room : S.nodes.length + m ≤ 1000000
theorem Rm.free {S : Sto} {m : Nat} (h : Rm S m) : S.full = false := by
  cases hf : S.full with
  | false => rfl
  | true => have := h.sated hf; have := h.cap; have := h.room; omega
theorem Rm.after {S : Sto} {m k : Nat} {R : Sto × Int} (h : Rm S (m + k)) (v : VOk S 8 m R) : Rm R.1 k :=
  ⟨v.wf, v.sated, v.below, by rw [v.grows.cap]; exact h.cap, by have := v.count; have := h.room; omega⟩
theorem Rm.weak {S : Sto} {m k : Nat} (h : Rm S m) (hk : k ≤ m) : Rm S k := ⟨h.wf, h.sated, h.below, h.cap, by have := h.room; omega⟩
/-- What a call tells, what it means, how many nodes it adds. -/
structure Rz (S : Sto) (m : Nat) (R : Sto × Int) (g : (Int → Bool) → Prop) : Prop where
  ok : VOk S 8 m R
  val : ∀ β, ev R.1 β R.2 = true ↔ g β
section
variable {S : Sto} {m : Nat}
theorem Rz.old {R : Sto × Int} {g : (Int → Bool) → Prop} (r : Rz S m R g) (hW : Wf S) {a : Int} (ha : S.has a) (β : Int → Bool) : ev R.1 β a = ev S β a := ev_grows hW r.ok.grows β ha
/-- Ite, its nodes counted. -/
theorem ite_rz (h : Rm S m) {x y z : Int} (hx : S.has x) (hy : S.has y) (hz : S.has z) (hc : (iteN 65 S x y z).1.nodes.length ≤ S.nodes.length + m) :
    Rz S m (iteV S x y z) (fun β => (if ev S β x then ev S β y else ev S β z) = true) := by
  have O := iteV_ok h.wf h.sated h.below (by omega) x y z
  have e : iteV S x y z = ((iteN 65 S x y z).1, (iteN 65 S x y z).2.getD 0) := by
    unfold iteV madeR iteR
    rw [h.free, right_has hx, right_has hy, right_has hz]; rfl
  have C : (iteV S x y z).1.nodes.length ≤ S.nodes.length + m := by rw [e]; exact hc
  have O' : VOk S 8 m (iteV S x y z) := { O with count := C }
  have hf : (iteV S x y z).1.full = false := by
    have := Rm.after (m := m) (k := 0) h O'
    exact this.free
  refine ⟨O', fun β => ?_⟩
  rw [iteV_ev h.wf x y z hf, right_has hx, right_has hy, right_has hz]
theorem ite_rz8 (h : Rm S 256) {x y z : Int} (hx : S.has x) (hy : S.has y) (hz : S.has z) : Rz S 256 (iteV S x y z) (fun β => (if ev S β x then ev S β y else ev S β z) = true) := by
  refine ite_rz h hx hy hz ?_
  have C := iteN_count 65 S x y z 8 h.wf hx hy hz (by
    have g1 := topOf_ge h.wf hx; have g2 := topOf_ge h.wf hy; have g3 := topOf_ge h.wf hz
    unfold low; omega) h.below
  have hl0 : 0 ≤ low S x y z := by
    have g1 := topOf_ge h.wf hx; have g2 := topOf_ge h.wf hy; have g3 := topOf_ge h.wf hz
    unfold low; omega
  have : 2 ^ (8 - low S x y z).toNat ≤ 2 ^ 8 := Nat.pow_le_pow_right (by omega) (by omega)
  omega
theorem low_fuel (hW : Wf S) {x y z : Int} (hx : S.has x) (hy : S.has y) (hz : S.has z) : 64 - low S x y z < 65 := by
  have g1 := topOf_ge hW hx; have g2 := topOf_ge hW hy; have g3 := topOf_ge hW hz
  unfold low; omega
/-- What is there already is told. -/
theorem ite_there (h : Rm S m) {x y z r : Int} (hx : S.has x) (hy : S.has y) (hz : S.has z) (hr : S.has r) (he : ∀ β, ev S β r = if ev S β x then ev S β y else ev S β z) :
    (iteN 65 S x y z).1.nodes.length ≤ S.nodes.length := by
  rw [(iteN_there 65 S x y z r h.wf hx hy hz hr he (low_fuel h.wf hx hy hz)).1]; omega
theorem var_rz (h : Rm S 1) {v : Nat} (hv : v < 8) : Rz S 1 (varV S v) (fun β => β v = true) := by
  have O := varV_ok h.wf h.sated h.below (v : Int) (.inl (by omega))
  have hf : (varV S v).1.full = false := (Rm.after (m := 1) (k := 0) h O).free
  exact ⟨O, fun β => by rw [varV_ev h.wf _ hf, if_neg (by omega)]⟩
/-- A variable's diagram, or its Not's: its top, its halves. -/
theorem lit_split (hW : Wf S) {x : Int} (hx : S.has x) {v : Nat} (hv : v < 8) (s : Bool) (he : ∀ β, ev S β x = true ↔ β v = s) :
    topOf S x = v ∧ ((splitOf S x v).1 = 0 ∨ (splitOf S x v).1 = 1) ∧ ((splitOf S x v).2 = 0 ∨ (splitOf S x v).2 = 1) := by
  have g1 : (v : Int) ≤ topOf S x := top_from hW hx (by omega) (fun β γ hg => by
    rw [Bool.eq_iff_iff, he, he, hg v (by omega) (by omega)])
  have g2 : topOf S x ≤ v := by
    rcases Int.lt_or_le (v : Int) (topOf S x) with hlt | hge
    · exfalso
      have e1 := ev_same hW _ _ (Nat.le_refl _) hx (setb (fun _ => false) v s) (setb (fun _ => false) v (!s)) (fun u hu _ => by unfold setb; rw [if_neg (by omega), if_neg (by omega)])
      have q1 := (he (setb (fun _ => false) v s)).2 (by simp [setb])
      rw [e1] at q1
      have q2 := (he _).1 q1
      simp [setb] at q2
    · exact hge
  have ht : topOf S x = v := by omega
  obtain ⟨c1, c2, c3, c4, c5⟩ := split_ok hW hx (show (v : Int) ≤ topOf S x by omega) (by omega)
  have fix : ∀ (t : Bool) (β : Int → Bool) (d : Int), S.has d → (v : Int) < topOf S d → ev S (setb β v t) d = ev S β d := fun t β d hd ht => ev_same hW _ _ (Nat.le_refl _) hd _ _ (fun u hu _ => by unfold setb; rw [if_neg (by omega)])
  refine ⟨ht, ?_, ?_⟩
  · have hb : ∀ β, ev S β (splitOf S x v).1 = decide (s = false) := fun β => by
      have := he (setb β v false)
      rw [c5] at this
      simp only [show setb β v false v = false by simp [setb], Bool.false_eq_true, if_false] at this
      rw [fix _ _ _ c1 c3] at this
      rw [Bool.eq_iff_iff, this, decide_eq_true_iff]
      exact ⟨fun h => h.symm, fun h => h.symm⟩
    cases s with
    | true => exact .inl ((ev_eq hW c1 (has_zero S)).1 (fun β => by rw [hb, ev_low (a := 0) β (by omega)]; rfl))
    | false => exact .inr ((ev_eq hW c1 (has_one S)).1 (fun β => by rw [hb, ev_low (a := 1) β (by omega)]; rfl))
  · have hb : ∀ β, ev S β (splitOf S x v).2 = decide (s = true) := fun β => by
      have := he (setb β v true)
      rw [c5] at this
      simp only [show setb β v true v = true by simp [setb], if_true] at this
      rw [fix _ _ _ c2 c4] at this
      rw [Bool.eq_iff_iff, this, decide_eq_true_iff]
      exact ⟨fun h => h.symm, fun h => h.symm⟩
    cases s with
    | true => exact .inr ((ev_eq hW c2 (has_one S)).1 (fun β => by rw [hb, ev_low (a := 1) β (by omega)]; rfl))
    | false => exact .inl ((ev_eq hW c2 (has_zero S)).1 (fun β => by rw [hb, ev_low (a := 0) β (by omega)]; rfl))
theorem ev_zero0 (S : Sto) (β : Int → Bool) : ev S β 0 = false := by rw [ev_low _ (by omega)]; rfl
theorem ev_one1 (S : Sto) (β : Int → Bool) : ev S β 1 = true := by rw [ev_low _ (by omega)]; rfl
theorem notl_rz (h : Rm S 1) {x : Int} (hx : S.has x) {v : Nat} (hv : v < 8) (he : ∀ β, ev S β x = true ↔ β v = true) : Rz S 1 (notV S x) (fun β => β v = false) := by
  obtain ⟨t, s1, s2⟩ := lit_split h.wf hx hv true he
  have R := ite_rz h hx (has_zero S) (has_one S) (lit_count 65 S (by unfold low; rw [topOf_low (a := 0) (by omega), topOf_low (a := 1) (by omega)]; omega) (by rw [t]; exact s1) (by rw [t]; exact s2))
  refine ⟨R.ok, fun β => (R.val β).trans ?_⟩
  rw [ev_zero0, ev_one1]
  cases hb : ev S β x with
  | true => simp [(he β).1 hb]
  | false =>
    have : β v = false := by
      cases hβ : β v with
      | false => rfl
      | true => rw [(he β).2 hβ] at hb; cases hb
    simp [this]
theorem andl_rz (h : Rm S 1) {x a : Int} (hx : S.has x) (ha : S.has a) {v : Nat} (hv : v < 8) {s : Bool} (he : ∀ β, ev S β x = true ↔ β v = s) (ht : (v : Int) < topOf S a) :
    Rz S 1 (andV S x a) (fun β => β v = s ∧ ev S β a = true) := by
  obtain ⟨t, s1, s2⟩ := lit_split h.wf hx hv s he
  have R := ite_rz h hx ha (has_zero S) (lit_count 65 S (by unfold low; rw [topOf_low (a := 0) (by omega)]; omega) (by rw [t]; exact s1) (by rw [t]; exact s2))
  refine ⟨R.ok, fun β => (R.val β).trans ?_⟩
  rw [ev_zero0]
  cases hb : ev S β x with
  | true => simp [(he β).1 hb]
  | false =>
    have : ¬ β v = s := fun e => by rw [(he β).2 e] at hb; cases hb
    simp [this]

theorem Rz.trans {k : Nat} {R R' : Sto × Int} {g g' : (Int → Bool) → Prop} (r : Rz S m R g) (q : Rz R.1 k R' g') : Rz S (m + k) R' g' := ⟨r.ok.trans q.ok, q.val⟩
theorem Rz.weak {k : Nat} {R : Sto × Int} {g : (Int → Bool) → Prop} (r : Rz S m R g) (hk : m ≤ k) : Rz S k R g := ⟨r.ok.weak hk, r.val⟩
theorem Rz.congr {R : Sto × Int} {g g' : (Int → Bool) → Prop} (r : Rz S m R g) (hg : ∀ β, g β ↔ g' β) : Rz S m R g' := ⟨r.ok, fun β => (r.val β).trans (hg β)⟩
end

theorem ofN_skip {c : Cu} (hc : c.1 < 256) (S : Sto) (a : Int) : ∀ v, 8 ≤ v → ofN c v S a = ofN c 8 S a
  | v + 1, h => by
    by_cases e : v + 1 = 8
    · rw [e]
    · rw [ofN, if_neg (by rw [bit_high hc (by omega)]; simp)]
      exact ofN_skip hc S a v (by omega)
/-- A cube's diagram, variables from v on done. -/
theorem ofN_rz {c : Cu} (hc : C8 c) : ∀ (v : Nat) (S : Sto) (a : Int), v ≤ 8 → Rm S (3 * v) → S.has a → (v : Int) ≤ topOf S a →
    Rz S (3 * v) (ofN c v S a) (fun β => (∀ u : Nat, u < v → Nat.testBit c.1 u = true → β u = Nat.testBit c.2 u) ∧ ev S β a = true)
  | 0, S, a, _, h, ha, _ => ⟨⟨h.wf, Grows.refl S, h.sated, h.below, by simp [ofN], ha, fun hf => by rw [h.free] at hf; cases hf⟩, fun β => by
      show ev S β a = true ↔ _
      exact ⟨fun h => ⟨fun u hu => by omega, h⟩, fun h => h.2⟩⟩
  | v + 1, S, a, hv, h, ha, ht => by
    rw [ofN]
    by_cases hm : Nat.testBit c.1 v = true
    · rw [if_pos hm]
      have hv8 : v < 8 := by omega
      have R1 := var_rz (h.weak (show 1 ≤ 3 * (v + 1) by omega)) hv8
      have h1 : Rm (varV S v).1 (3 * v + 2) := Rm.after (m := 1) (h.weak (by omega)) R1.ok
      by_cases hb : Nat.testBit c.2 v = true
      · rw [if_pos hb]
        generalize varV S v = X1 at *
        have ha1 := R1.ok.grows.has ha
        have R2 := andl_rz (h1.weak (by omega)) R1.ok.has ha1 hv8 R1.val (by rw [R1.ok.grows.top ha]; omega)
        have h2 : Rm (andV X1.1 X1.2 a).1 (3 * v) := (Rm.after (m := 1) (k := 3 * v + 1) (h1.weak (by omega)) R2.ok).weak (by omega)
        have ht2 : (v : Int) ≤ topOf (andV X1.1 X1.2 a).1 (andV X1.1 X1.2 a).2 := top_from h2.wf R2.ok.has (by omega) (fun β γ hg => by
          rw [Bool.eq_iff_iff, R2.val, R2.val, hg v (by omega) (by omega), R1.old h.wf ha, R1.old h.wf ha, ev_same h.wf _ _ (Nat.le_refl _) ha β γ (fun u hu hu2 => hg u (by omega) hu2)])
        generalize andV X1.1 X1.2 a = X2 at *
        have R3 := ofN_rz hc v X2.1 X2.2 (by omega) h2 R2.ok.has ht2
        refine (((R1.trans R2).trans R3).weak (by omega)).congr (fun β => ?_)
        rw [R2.val, R1.old h.wf ha]
        constructor
        · rintro ⟨q1, q2, q3⟩
          refine ⟨fun u hu hmu => ?_, q3⟩
          by_cases e : u = v
          · subst e; rw [q2, hb]
          · exact q1 u (by omega) hmu
        · rintro ⟨q1, q2⟩
          exact ⟨fun u hu hmu => q1 u (by omega) hmu, by rw [q1 v (by omega) hm, hb], q2⟩
      · rw [if_neg hb]
        have hb' : Nat.testBit c.2 v = false := by simpa using hb
        generalize varV S v = X1 at *
        have RN := notl_rz (h1.weak (by omega)) R1.ok.has hv8 R1.val
        have hN : Rm (notV X1.1 X1.2).1 (3 * v + 1) := Rm.after (m := 1) (h1.weak (by omega)) RN.ok
        generalize notV X1.1 X1.2 = XN at *
        have gN := R1.ok.grows.trans RN.ok.grows
        have ha1 := gN.has ha
        have R2 := andl_rz (hN.weak (by omega)) RN.ok.has ha1 hv8 RN.val (by rw [gN.top ha]; omega)
        have h2 : Rm (andV XN.1 XN.2 a).1 (3 * v) := Rm.after (m := 1) (hN.weak (by omega)) R2.ok
        have ht2 : (v : Int) ≤ topOf (andV XN.1 XN.2 a).1 (andV XN.1 XN.2 a).2 := top_from h2.wf R2.ok.has (by omega) (fun β γ hg => by
          rw [Bool.eq_iff_iff, R2.val, R2.val, hg v (by omega) (by omega), ev_grows h.wf gN _ ha, ev_grows h.wf gN _ ha, ev_same h.wf _ _ (Nat.le_refl _) ha β γ (fun u hu hu2 => hg u (by omega) hu2)])
        generalize andV XN.1 XN.2 a = X2 at *
        have R3 := ofN_rz hc v X2.1 X2.2 (by omega) h2 R2.ok.has ht2
        refine ((((R1.trans RN).trans R2).trans R3).weak (by omega)).congr (fun β => ?_)
        rw [R2.val, ev_grows h.wf gN _ ha]
        constructor
        · rintro ⟨q1, q2, q3⟩
          refine ⟨fun u hu hmu => ?_, q3⟩
          by_cases e : u = v
          · subst e; rw [q2, hb']
          · exact q1 u (by omega) hmu
        · rintro ⟨q1, q2⟩
          exact ⟨fun u hu hmu => q1 u (by omega) hmu, by rw [q1 v (by omega) hm, hb'], q2⟩
    · rw [if_neg hm]
      have R3 := ofN_rz hc v S a (by omega) (h.weak (by omega)) ha (by omega)
      refine (R3.weak (by omega)).congr (fun β => ?_)
      constructor
      · rintro ⟨q1, q2⟩
        refine ⟨fun u hu hmu => ?_, q2⟩
        by_cases e : u = v
        · subst e; exact absurd hmu hm
        · exact q1 u (by omega) hmu
      · rintro ⟨q1, q2⟩
        exact ⟨fun u hu hmu => q1 u (by omega) hmu, q2⟩
theorem of_rz {S : Sto} {c : Cu} (hc : C8 c) (h : Rm S 24) : Rz S 24 (ofV S c) (InC c) := by
  unfold ofV
  rw [if_neg (by rw [hc.may, h.free]; simp), ofN_skip hc.lt S 1 64 (by omega)]
  have R := ofN_rz hc 8 S 1 (Nat.le_refl _) h (has_one S) (by rw [topOf_low (by omega)]; omega)
  rw [if_neg (by rw [(Rm.after (m := 3 * 8) (k := 0) h R.ok).free]; simp)]
  refine R.congr (fun β => ?_)
  rw [ev_one1]
  constructor
  · rintro ⟨q, -⟩ u hu hm
    by_cases hu8 : u < 8
    · exact q u hu8 hm
    · rw [bit_high hc.lt (by omega)] at hm; cases hm
  · intro q
    exact ⟨fun u hu hm => q u (by omega) hm, rfl⟩
end Go.Proofs.Ytboekafmplomhaa
set_option linter.unusedVariables false
set_option linter.unusedSimpArgs false
namespace Go.Proofs.Ytboekafmplomhaa
open Classical

/-- What the diagram's Not may still need. -/
noncomputable def pot (f : (Int → Bool) → Bool) (S : Sto) : Nat := if ∃ na, S.has na ∧ ∀ β, ev S β na = !f β then 0 else 256
theorem pot_grows {f : (Int → Bool) → Bool} {S S' : Sto} (hW : Wf S) (g : Grows S S') : pot f S' ≤ pot f S := by
  unfold pot
  by_cases h : ∃ na, S.has na ∧ ∀ β, ev S β na = !f β
  · obtain ⟨na, h1, h2⟩ := h
    have e1 : ∃ na, S'.has na ∧ ∀ β, ev S' β na = !f β := ⟨na, g.has h1, fun β => by rw [ev_grows hW g β h1]; exact h2 β⟩
    rw [if_pos e1]
    omega
  · rw [if_neg h]; split <;> omega
theorem pot_le (f : (Int → Bool) → Bool) (S : Sto) : pot f S ≤ 256 := by unfold pot; split <;> omega
/-- A store with a diagram that means f; n nodes, with what its Not may need. -/
structure LA (f : (Int → Bool) → Bool) (S : Sto) (a : Int) (n : Nat) : Prop where
  wf : Wf S
  sated : Sated S
  below : Below' S 8
  cap : S.cap = 1048576
  has : S.has a
  val : ∀ β, ev S β a = f β
  count : S.nodes.length + pot f S ≤ n
section
variable {f : (Int → Bool) → Bool} {S : Sto} {a : Int} {n : Nat}
theorem LA.rm (L : LA f S a n) {m : Nat} (hn : n + m ≤ 1000000) : Rm S m := ⟨L.wf, L.sated, L.below, L.cap, by have := L.count; omega⟩
theorem LA.step (L : LA f S a n) {m : Nat} {R : Sto × Int} (v : VOk S 8 m R) : LA f R.1 a (n + m) :=
  ⟨v.wf, v.sated, v.below, by rw [v.grows.cap]; exact L.cap, v.grows.has L.has, fun β => (ev_grows L.wf v.grows β L.has).trans (L.val β), by
    have := pot_grows (f := f) L.wf v.grows; have := v.count; have := L.count; omega⟩
theorem LA.weak (L : LA f S a n) {m : Nat} (h : n ≤ m) : LA f S a m := ⟨L.wf, L.sated, L.below, L.cap, L.has, L.val, by have := L.count; omega⟩
theorem LA.gs (L : LA f S a n) : Gs S := ⟨L.wf, L.sated⟩
/-- Not: its nodes are those that were kept for it. -/
theorem not_la (L : LA f S a n) (hn : n ≤ 1000000) : LA f (notV S a).1 a n ∧ Grows S (notV S a).1 ∧ (notV S a).1.has (notV S a).2 ∧ (∀ β, ev (notV S a).1 β (notV S a).2 = !f β) := by
  have sem : ∀ β, ((if ev S β a then ev S β 0 else ev S β 1) = true) ↔ (!f β) = true := fun β => by
    rw [L.val, ev_zero0, ev_one1]; cases f β <;> simp
  have fin : ∀ (m : Nat) (R : Rz S m (iteV S a 0 1) (fun β => (if ev S β a then ev S β 0 else ev S β 1) = true)) (hm : S.nodes.length + m ≤ n),
      LA f (iteV S a 0 1).1 a n ∧ Grows S (iteV S a 0 1).1 ∧ (iteV S a 0 1).1.has (iteV S a 0 1).2 ∧ (∀ β, ev (iteV S a 0 1).1 β (iteV S a 0 1).2 = !f β) := fun m R hm => by
    have hv : ∀ β, ev (iteV S a 0 1).1 β (iteV S a 0 1).2 = !f β := fun β => by
      rw [Bool.eq_iff_iff]; exact (R.val β).trans (sem β)
    have P := (L.step R.ok)
    refine ⟨⟨P.wf, P.sated, P.below, P.cap, P.has, P.val, ?_⟩, R.ok.grows, R.ok.has, hv⟩
    unfold pot
    rw [if_pos ⟨_, R.ok.has, hv⟩]
    have := R.ok.count
    omega
  unfold notV
  by_cases h : ∃ na, S.has na ∧ ∀ β, ev S β na = !f β
  · have hr : Rm S 0 := L.rm (by omega)
    refine fin 0 (ite_rz hr L.has (has_zero S) (has_one S) ?_) (by have := L.count; omega)
    obtain ⟨na, h1, h2⟩ := h
    exact ite_there hr L.has (has_zero S) (has_one S) h1 (fun β => by rw [h2 β, L.val, ev_zero0, ev_one1]; cases f β <;> simp)
  · have hp : pot f S = 256 := by unfold pot; rw [if_neg h]
    have hc := L.count
    have hr : Rm S 256 := ⟨L.wf, L.sated, L.below, L.cap, by omega⟩
    exact fin 256 (ite_rz8 hr L.has (has_zero S) (has_one S)) (by omega)
theorem costN_le (M : Nat) : ∀ k, costN M k + 1 ≤ 2 ^ k
  | 0 => by simp [costN]
  | k + 1 => by
    have := costN_le M k
    rw [costN, Nat.pow_succ]
    split <;> omega

/-- The diagram of a cube without another one. -/
def chkV (S : Sto) (a : Int) (c : Cu) : Sto × Int := andV (notV (ofV S c).1 a).1 (ofV S c).2 (notV (ofV S c).1 a).2
theorem chk_la (L : LA f S a n) (hn : n + 280 ≤ 1000000) {c : Cu} (hc : C8 c) :
    LA f (chkV S a c).1 a (n + 24 + if (chkV S a c).2 = 0 then 0 else costN c.1 8) ∧ Grows S (chkV S a c).1 ∧ ((chkV S a c).2 = 0 ↔ ∀ β, InC c β → f β = true) := by
  unfold chkV
  have R1 := of_rz hc (L.rm (m := 24) (by omega))
  have L1 := L.step R1.ok
  generalize ofV S c = X1 at *
  obtain ⟨L2, g2, N1, N2⟩ := not_la L1 (by omega)
  generalize notV X1.1 a = X2 at *
  have hr : X2.1.has X1.2 := g2.has R1.ok.has
  have vr : ∀ β, ev X2.1 β X1.2 = true ↔ InC c β := fun β => by rw [ev_grows L1.wf g2 β R1.ok.has]; exact R1.val β
  have sem : ∀ β, (if ev X2.1 β X1.2 then ev X2.1 β X2.2 else ev X2.1 β 0) = true ↔ (InC c β ∧ f β = false) := fun β => by
    rw [N2, ev_zero0]
    cases hb : ev X2.1 β X1.2 with
    | true => simp [(vr β).1 hb]
    | false =>
      have : ¬ InC c β := fun h => by rw [(vr β).2 h] at hb; cases hb
      simp [this]
  by_cases hP : ∀ β, InC c β → f β = true
  · have hm : Rm X2.1 0 := L2.rm (by omega)
    have R3 := ite_rz hm hr N1 (has_zero _) (ite_there hm hr N1 (has_zero _) (has_zero _) (fun β => by
      rw [show ev X2.1 β 0 = false from ev_zero0 _ _]
      have sem := sem β
      rw [show ev X2.1 β 0 = false from ev_zero0 _ _] at sem
      cases hb : (if ev X2.1 β X1.2 then ev X2.1 β X2.2 else false) with
      | false => rfl
      | true =>
        have := sem.1 hb
        rw [hP β this.1] at this; cases this.2))
    have L3 := L2.step R3.ok
    have hz : (iteV X2.1 X1.2 X2.2 0).2 = 0 := (ev_eq L3.wf R3.ok.has (has_zero _)).1 (fun β => by
      rw [ev_zero0]
      cases hb : ev (iteV X2.1 X1.2 X2.2 0).1 β (iteV X2.1 X1.2 X2.2 0).2 with
      | false => rfl
      | true =>
        have := (sem β).1 ((R3.val β).1 hb)
        rw [hP β this.1] at this; cases this.2)
    unfold andV
    exact ⟨by rw [if_pos hz]; exact L3, R1.ok.grows.trans (g2.trans R3.ok.grows), fun _ => hP, fun _ => hz⟩
  · have hle := costN_le c.1 8
    have hm : Rm X2.1 (costN c.1 8) := L2.rm (by omega)
    have R3 := ite_rz hm hr N1 (has_zero _) (and_count 65 X2.1 X1.2 X2.2 c.1 (Nat.testBit c.2) 8 hm.wf hr N1 (low_fuel hm.wf hr N1 (has_zero _)) hm.below (by
        have g1 := topOf_ge hm.wf hr; have g2 := topOf_ge hm.wf N1; have g3 := topOf_ge hm.wf (has_zero X2.1)
        unfold low; omega) (by omega) (fun β => by
          rw [vr]
          constructor
          · intro h v _ hv hmv; exact h v (by omega) hmv
          · intro h v hv hmv
            by_cases h8 : v < 8
            · exact h v (by omega) h8 hmv
            · rw [bit_high hc.lt (by omega)] at hmv; cases hmv))
    have L3 := L2.step R3.ok
    have hz : ¬ (iteV X2.1 X1.2 X2.2 0).2 = 0 := fun hz => hP (fun β hβ => by
      cases hf : f β with
      | true => rfl
      | false =>
        have := (R3.val β).2 ((sem β).2 ⟨hβ, hf⟩)
        rw [hz, ev_zero0] at this; cases this)
    unfold andV
    exact ⟨by rw [if_neg hz]; exact L3, R1.ok.grows.trans (g2.trans R3.ok.grows), fun h => absurd h hz, fun h => absurd h hP⟩
theorem within_chk (S : Sto) (a : Int) (c : Cu) : withinV S a c = ((chkV S a c).1, decide ((chkV S a c).2 = 0) && !(chkV S a c).1.full) := rfl
theorem within_la (L : LA f S a n) (hn : n + 280 ≤ 1000000) {c : Cu} (hc : C8 c) :
    LA f (withinV S a c).1 a (n + 24 + if (withinV S a c).2 = true then 0 else costN c.1 8) ∧ Grows S (withinV S a c).1 ∧ ((withinV S a c).2 = true ↔ ∀ β, InC c β → f β = true) := by
  obtain ⟨h1, h2, h3⟩ := chk_la L hn hc
  have hle := costN_le c.1 8
  have hf : (chkV S a c).1.full = false := (h1.rm (m := 0) (by split <;> omega)).free
  have e : (withinV S a c).2 = true ↔ (chkV S a c).2 = 0 := by
    rw [within_chk]
    show (decide ((chkV S a c).2 = 0) && !(chkV S a c).1.full) = true ↔ _
    rw [hf]; simp
  refine ⟨?_, h2, e.trans h3⟩
  by_cases hz : (chkV S a c).2 = 0
  · rw [if_pos (e.2 hz)]; rw [if_pos hz] at h1; exact h1
  · rw [if_neg (fun h => hz (e.1 h))]; rw [if_neg hz] at h1; exact h1
end

/-- A cube without a variable. -/
def clrC (c : Cu) (v : Nat) : Cu := (clrB c.1 v, clrB c.2 v)
theorem testBit_clrB {n : Nat} (hn : n < 256) (v : Nat) (hv : v < 64) (u : Nat) : Nat.testBit (clrB n v) u = (Nat.testBit n u && decide (u ≠ v)) := by
  unfold clrB
  rw [Nat.testBit_and]
  have := Nat.testBit_two_pow_sub_succ (x := 2 ^ v) (n := 64) (by have := pow_lt64 hv; omega) u
  rw [show 2 ^ 64 - (2 ^ v + 1) = 18446744073709551615 - 2 ^ v by omega] at this
  rw [this, Nat.testBit_two_pow]
  by_cases hu : u < 8
  · by_cases e : u = v
    · subst e; simp
    · have e' : ¬ v = u := fun h => e h.symm
      simp [e, e', show u < 64 by omega]
  · rw [bit_high hn (by omega)]; simp
theorem clrB_ne {n : Nat} (hn : n < 256) {v : Nat} (hv : v < 64) : clrB n v ≠ n ↔ Nat.testBit n v = true := by
  constructor
  · intro h
    cases hb : Nat.testBit n v with
    | true => rfl
    | false =>
      exfalso
      apply h
      apply Nat.eq_of_testBit_eq
      intro u
      rw [testBit_clrB hn v hv]
      by_cases e : u = v
      · subst e; rw [hb]; rfl
      · simp [e]
  · intro h e
    have := testBit_clrB hn v hv v
    rw [e, h] at this
    simp at this
theorem C8.clr {c : Cu} (h : C8 c) {v : Nat} (hv : v < 64) : C8 (clrC c v) :=
  ⟨Nat.lt_of_le_of_lt Nat.and_le_left h.lt, fun u hu => by
    rw [clrC, testBit_clrB h.lt2 v hv] at hu
    rw [clrC, testBit_clrB h.lt v hv]
    simp only [Bool.and_eq_true] at hu ⊢
    exact ⟨h.sub u hu.1, hu.2⟩⟩
/-- One cube names no more than another one, and the same of it. -/
def SubC (c d : Cu) : Prop := ∀ u, Nat.testBit c.1 u = true → Nat.testBit d.1 u = true ∧ Nat.testBit c.2 u = Nat.testBit d.2 u
theorem SubC.refl (c : Cu) : SubC c c := fun u h => ⟨h, rfl⟩
theorem SubC.trans {a b c : Cu} (h : SubC a b) (k : SubC b c) : SubC a c := fun u hu => ⟨(k u (h u hu).1).1, (h u hu).2.trans (k u (h u hu).1).2⟩
theorem SubC.inc {c d : Cu} (h : SubC c d) {β : Int → Bool} (hd : InC d β) : InC c β := fun v hv hm => by rw [(h v hm).2]; exact hd v hv (h v hm).1
theorem clr_sub {c : Cu} (h : C8 c) {v : Nat} (hv : v < 64) : SubC (clrC c v) c := fun u hu => by
  rw [clrC, testBit_clrB h.lt v hv] at hu
  rw [clrC, testBit_clrB h.lt2 v hv]
  simp only [Bool.and_eq_true] at hu
  exact ⟨hu.1, by rw [hu.2]; simp⟩
theorem SubC.clr {c d : Cu} (hc : C8 c) (hd : C8 d) (h : SubC c d) {v : Nat} (hv : v < 64) : SubC (clrC c v) (clrC d v) := fun u hu => by
  rw [clrC, testBit_clrB hc.lt v hv] at hu
  simp only [Bool.and_eq_true] at hu
  rw [clrC, clrC, testBit_clrB hc.lt2 v hv, testBit_clrB hd.lt v hv, testBit_clrB hd.lt2 v hv, (h u hu.1).1, (h u hu.1).2]
  exact ⟨by rw [hu.2]; rfl, rfl⟩

/-- How many nodes a prime needs at most. -/
def phiN (M : Nat) : Nat → Nat
  | 0 => 0
  | k + 1 => if Nat.testBit M (7 - k) then 24 + Nat.max (phiN (clrB M (7 - k)) k) (costN (clrB M (7 - k)) 8 + phiN M k) else phiN M k
end Go.Proofs.Ytboekafmplomhaa
set_option linter.unusedVariables false
set_option linter.unusedSimpArgs false
namespace Go.Proofs.Ytboekafmplomhaa
open Classical

theorem phi_le : ∀ M : Fin 256, phiN M.val 8 ≤ 669 := by decide +kernel
section
variable {f : (Int → Bool) → Bool} {a : Int}
theorem primeN_skip {out : Cu} (h : out.1 < 256) (S : Sto) : ∀ k, k ≤ 56 → primeN a k S out = (S, out)
  | 0, _ => rfl
  | k + 1, hk => by
    rw [primeN, if_neg (fun hne => by
      have := (clrB_ne h (show 63 - k < 64 by omega)).1 hne
      rw [bit_high h (by omega)] at this; cases this)]
    exact primeN_skip h S k (by omega)
/-- What a prime is. -/
structure PrOk (f : (Int → Bool) → Bool) (S : Sto) (out : Cu) (j : Nat) (a : Int) (n : Nat) (R : Sto × Cu) : Prop where
  la : LA f R.1 a n
  grows : Grows S R.1
  c8 : C8 R.2
  sub : SubC R.2 out
  inn : ∀ β, InC R.2 β → f β = true
  prime : ∀ v, 8 - j ≤ v → v < 8 → Nat.testBit R.2.1 v = true → ¬ ∀ β, InC (clrC R.2 v) β → f β = true
theorem primeN_la : ∀ (j : Nat) (S : Sto) (n : Nat) (out : Cu), j ≤ 8 → LA f S a n → n + phiN out.1 j + 280 ≤ 1000000 → C8 out → (∀ β, InC out β → f β = true) →
    PrOk f S out j a (n + phiN out.1 j) (primeN a (56 + j) S out)
  | 0, S, n, out, _, L, _, hc, hi => by
    rw [Nat.add_zero, primeN_skip hc.lt S 56 (by omega)]
    exact ⟨L.weak (by omega), Grows.refl S, hc, SubC.refl _, hi, fun v h1 h2 => by omega⟩
  | j + 1, S, n, out, hj, L, hn, hc, hi => by
    rw [show 56 + (j + 1) = 56 + j + 1 by omega, primeN, show 63 - (56 + j) = 7 - j by omega]
    rw [phiN] at hn ⊢
    by_cases hb : Nat.testBit out.1 (7 - j) = true
    · rw [if_pos hb] at hn ⊢
      rw [if_pos ((clrB_ne hc.lt (by omega)).2 hb)]
      have hle1 : phiN (clrB out.1 (7 - j)) j ≤ Nat.max (phiN (clrB out.1 (7 - j)) j) (costN (clrB out.1 (7 - j)) 8 + phiN out.1 j) := Nat.le_max_left _ _
      have hle2 : costN (clrB out.1 (7 - j)) 8 + phiN out.1 j ≤ Nat.max (phiN (clrB out.1 (7 - j)) j) (costN (clrB out.1 (7 - j)) 8 + phiN out.1 j) := Nat.le_max_right _ _
      generalize Nat.max (phiN (clrB out.1 (7 - j)) j) (costN (clrB out.1 (7 - j)) 8 + phiN out.1 j) = mx at *
      have hcc : C8 (clrC out (7 - j)) := hc.clr (by omega)
      obtain ⟨W1, W2, W3⟩ := within_la L (by omega) hcc
      change PrOk f S out (j + 1) a (n + (24 + mx)) (if (withinV S a (clrC out (7 - j))).2 = true then primeN a (56 + j) (withinV S a (clrC out (7 - j))).1 (clrC out (7 - j)) else primeN a (56 + j) (withinV S a (clrC out (7 - j))).1 out)
      generalize withinV S a (clrC out (7 - j)) = X at *
      by_cases hw : X.2 = true
      · rw [if_pos hw] at W1 ⊢
        have I := primeN_la j X.1 (n + 24 + 0) (clrC out (7 - j)) (by omega) W1 (by show _ + phiN (clrB out.1 (7 - j)) j + 280 ≤ _; omega) hcc (W3.1 hw)
        refine ⟨I.la.weak (by show _ + phiN (clrB out.1 (7 - j)) j ≤ _; omega), W2.trans I.grows, I.c8, I.sub.trans (clr_sub hc (by omega)), I.inn, fun v h1 h2 h3 => ?_⟩
        by_cases e : v = 7 - j
        · exfalso
          have := (I.sub v h3).1
          rw [clrC, testBit_clrB hc.lt _ (by omega), e] at this
          simp at this
        · exact I.prime v (by omega) h2 h3
      · rw [if_neg hw] at W1 ⊢
        have I := primeN_la j X.1 (n + 24 + costN (clrC out (7 - j)).1 8) out (by omega) W1 (by show _ + costN (clrB out.1 (7 - j)) 8 + phiN out.1 j + 280 ≤ _; omega) hc hi
        refine ⟨I.la.weak (by show _ + costN (clrB out.1 (7 - j)) 8 + phiN out.1 j ≤ _; omega), W2.trans I.grows, I.c8, I.sub, I.inn, fun v h1 h2 h3 => ?_⟩
        by_cases e : v = 7 - j
        · subst e
          intro hall
          exact hw (W3.2 (fun β hβ => hall β ((I.sub.clr I.c8 hc (by omega)).inc hβ)))
        · exact I.prime v (by omega) h2 h3
    · rw [if_neg hb] at hn ⊢
      rw [if_neg (fun hne => hb ((clrB_ne hc.lt (by omega)).1 hne))]
      have I := primeN_la j S n out (by omega) L hn hc hi
      refine ⟨I.la, I.grows, I.c8, I.sub, I.inn, fun v h1 h2 h3 => ?_⟩
      by_cases e : v = 7 - j
      · subst e; exact absurd (I.sub _ h3).1 hb
      · exact I.prime v (by omega) h2 h3
/-- A prime of a diagram. -/
structure IsPrime (f : (Int → Bool) → Bool) (c : Cu) : Prop where
  c8 : C8 c
  inn : ∀ β, InC c β → f β = true
  prime : ∀ v, v < 64 → Nat.testBit c.1 v = true → ¬ ∀ β, InC (clrC c v) β → f β = true
theorem primeV_la {S : Sto} {n : Nat} {c : Cu} (L : LA f S a n) (hn : n + 1000 ≤ 1000000) (hc : C8 c) (hi : ∀ β, InC c β → f β = true) :
    LA f (primeV S a c).1 a (n + 693) ∧ Grows S (primeV S a c).1 ∧ IsPrime f (primeV S a c).2 ∧ SubC (primeV S a c).2 c := by
  unfold primeV
  obtain ⟨W1, W2, W3⟩ := within_la L (by omega) hc
  rw [if_pos hc.may, if_pos (W3.2 hi)]
  rw [if_pos (W3.2 hi)] at W1
  generalize withinV S a c = X at *
  have hp := phi_le ⟨c.1, hc.lt⟩
  simp only at hp
  have I := primeN_la 8 X.1 (n + 24 + 0) c (by omega) W1 (by omega) hc hi
  rw [show 56 + 8 = 64 from rfl] at I
  have hf : (primeN a 64 X.1 c).1.full = false := (I.la.rm (m := 0) (by omega)).free
  rw [if_neg (by rw [hf]; simp)]
  refine ⟨I.la.weak (by omega), W2.trans I.grows, ⟨I.c8, I.inn, fun v hv hm => ?_⟩, I.sub⟩
  by_cases h8 : v < 8
  · exact I.prime v (by omega) h8 hm
  · rw [bit_high I.c8.lt (by omega)] at hm; cases hm
end

theorem bit_setB (n k v : Nat) : Nat.testBit (setB n k) v = (Nat.testBit n v || decide (k = v)) := by
  unfold setB
  rw [Nat.testBit_or, Nat.testBit_two_pow]
/-- Two cubes that have no setting in common. -/
def ApartC (x y : Cu) : Prop := ∃ v, v < 64 ∧ Nat.testBit x.1 v = true ∧ Nat.testBit y.1 v = true ∧ Nat.testBit x.2 v ≠ Nat.testBit y.2 v
theorem paths_ok {S : Sto} (hW : Wf S) (hB : Below' S 8) : ∀ (n : Nat) (a : Int) (c : Cu), a.toNat < n → S.has a → C8 c → (∀ u : Nat, Nat.testBit c.1 u = true → (u : Int) < topOf S a) →
    (pathsN S n a c).length ≤ 2 ^ (8 - topOf S a).toNat ∧ (∀ x ∈ pathsN S n a c, C8 x ∧ SubC c x) ∧ (∀ β, InC c β → (ev S β a = true ↔ ∃ x ∈ pathsN S n a c, InC x β)) ∧ (pathsN S n a c).Pairwise ApartC
  | 0, a, c, h, _, _, _ => by omega
  | n + 1, a, c, hn, ha, hc, ht => by
    by_cases h2 : a < 2
    · have e : (atV S a).2 = false := by unfold atV; rw [right_has ha, if_pos h2]
      rw [pathsN, e]
      simp only [Bool.false_eq_true, if_false]
      have hp : 1 ≤ 2 ^ (8 - topOf S a).toNat := Nat.one_le_two_pow
      by_cases h1 : a = 1
      · rw [if_pos h1]
        subst h1
        refine ⟨by simpa using hp, fun x hx => ?_, fun β hβ => ?_, by simp⟩
        · simp at hx; subst hx; exact ⟨hc, SubC.refl _⟩
        · rw [ev_one1]; exact ⟨fun _ => ⟨c, by simp, hβ⟩, fun _ => rfl⟩
      · rw [if_neg h1]
        have h0 : a = 0 := by have := ha.1; omega
        subst h0
        refine ⟨by simp, fun x hx => by simp at hx, fun β hβ => ?_, by simp⟩
        rw [ev_zero0]; simp
    · obtain ⟨i, nd, rfl, hnd⟩ := has_node ha h2
      have hi := (List.getElem?_eq_some_iff.1 hnd).1
      have e : atV S ((i : Int) + 2) = (nd, true) := by
        unfold atV
        rw [right_has ha, if_neg h2, show ((i : Int) + 2 - 2).toNat = i by omega, hnd]; rfl
      rw [pathsN, e]
      simp only [if_true]
      have hok := hW.node i nd hnd
      have hv8 := hB i nd hnd
      have hch := hW.child hnd
      rw [topOf_node hnd] at ht ⊢
      obtain ⟨v, hv⟩ : ∃ v : Nat, nd.1 = v := ⟨nd.1.toNat, by have := hok.v0; omega⟩
      have tlo := hok.tlo
      have thi := hok.thi
      have llo := hok.lo
      have lhi := hok.hi
      have plo := hok.lo0
      have phi := hok.hi0
      rw [hv] at ht hv8 tlo thi ⊢
      simp only [Int.toNat_natCast]
      have hv8' : v < 8 := by omega
      have m1 : Nat.testBit c.1 v = false := by
        cases hb : Nat.testBit c.1 v with
        | false => rfl
        | true => have := ht v hb; omega
      have m2 : Nat.testBit c.2 v = false := by
        cases hb : Nat.testBit c.2 v with
        | false => rfl
        | true => rw [hc.sub v hb] at m1; cases m1
      have pw : 2 ^ v ≤ 2 ^ 7 := Nat.pow_le_pow_right (by omega) (by omega)
      have lt1 : setB c.1 v < 256 := Nat.or_lt_two_pow (n := 8) hc.lt (by omega)
      have c0 : C8 (setB c.1 v, c.2) := ⟨lt1, fun u hu => by
        show Nat.testBit (setB c.1 v) u = true
        rw [bit_setB, hc.sub u hu]; rfl⟩
      have c1 : C8 (setB c.1 v, setB c.2 v) := ⟨lt1, fun u hu => by
        show Nat.testBit (setB c.1 v) u = true
        have hu' : Nat.testBit (setB c.2 v) u = true := hu
        rw [bit_setB] at hu' ⊢
        rcases Bool.or_eq_true_iff.1 hu' with h | h
        · rw [hc.sub u h]; rfl
        · rw [h]; simp⟩
      have bb : ∀ (t : Int), (v : Int) < t → ∀ u : Nat, Nat.testBit (setB c.1 v) u = true → (u : Int) < t := fun t htt u hu => by
        rw [bit_setB] at hu
        rcases Bool.or_eq_true_iff.1 hu with h | h
        · have := ht u h; omega
        · have := of_decide_eq_true h; omega
      obtain ⟨p1, p2, p3, p4⟩ := paths_ok hW hB n nd.2.1 (setB c.1 v, c.2) (by omega) hch.1 c0 (bb _ tlo)
      obtain ⟨q1, q2, q3, q4⟩ := paths_ok hW hB n nd.2.2 (setB c.1 v, setB c.2 v) (by omega) hch.2 c1 (bb _ thi)
      have s0 : SubC c (setB c.1 v, c.2) := fun u hu => ⟨by show Nat.testBit (setB c.1 v) u = true; rw [bit_setB, hu]; rfl, rfl⟩
      have s1 : SubC c (setB c.1 v, setB c.2 v) := fun u hu => ⟨by show Nat.testBit (setB c.1 v) u = true; rw [bit_setB, hu]; rfl, by
        show _ = Nat.testBit (setB c.2 v) u
        rw [bit_setB]
        have : ¬ v = u := fun e => by rw [e, hu] at m1; cases m1
        simp [this]⟩
      have i0 : ∀ β, InC (setB c.1 v, c.2) β ↔ InC c β ∧ β v = false := fun β => by
        constructor
        · intro h
          refine ⟨s0.inc h, ?_⟩
          have := h v (by omega) (by show Nat.testBit (setB c.1 v) v = true; rw [bit_setB]; simp)
          rw [this]; exact m2
        · rintro ⟨h1, h3⟩ u hu hm
          have hm' : Nat.testBit (setB c.1 v) u = true := hm
          rw [bit_setB] at hm'
          rcases Bool.or_eq_true_iff.1 hm' with h | h
          · exact h1 u hu h
          · have e := of_decide_eq_true h; subst e; rw [h3]; exact m2.symm
      have i1 : ∀ β, InC (setB c.1 v, setB c.2 v) β ↔ InC c β ∧ β v = true := fun β => by
        constructor
        · intro h
          refine ⟨s1.inc h, ?_⟩
          have := h v (by omega) (by show Nat.testBit (setB c.1 v) v = true; rw [bit_setB]; simp)
          rw [this]
          show Nat.testBit (setB c.2 v) v = true
          rw [bit_setB]; simp
        · rintro ⟨h1, h3⟩ u hu hm
          have hm' : Nat.testBit (setB c.1 v) u = true := hm
          rw [bit_setB] at hm'
          show β u = Nat.testBit (setB c.2 v) u
          rw [bit_setB]
          by_cases e : v = u
          · subst e; rw [h3]; simp
          · rcases Bool.or_eq_true_iff.1 hm' with h | h
            · rw [h1 u hu h]; simp [e]
            · exact absurd (of_decide_eq_true h) e
      refine ⟨?_, fun x hx => ?_, fun β hβ => ?_, ?_⟩
      · rw [List.length_append]
        have x1 : 2 ^ (8 - topOf S nd.2.1).toNat ≤ 2 ^ (7 - v) := Nat.pow_le_pow_right (by omega) (by omega)
        have x2 : 2 ^ (8 - topOf S nd.2.2).toNat ≤ 2 ^ (7 - v) := Nat.pow_le_pow_right (by omega) (by omega)
        rw [show (8 - (v : Int)).toNat = 7 - v + 1 by omega, Nat.pow_succ]
        omega
      · rcases List.mem_append.1 hx with h | h
        · exact ⟨(p2 x h).1, s0.trans (p2 x h).2⟩
        · exact ⟨(q2 x h).1, s1.trans (q2 x h).2⟩
      · rw [ev_node hW β hnd, hv]
        cases hb : β v with
        | true =>
          simp only [if_true]
          rw [q3 β ((i1 β).2 ⟨hβ, hb⟩)]
          constructor
          · rintro ⟨x, h1, h3⟩; exact ⟨x, List.mem_append_right _ h1, h3⟩
          · rintro ⟨x, h1, h3⟩
            rcases List.mem_append.1 h1 with h | h
            · have := ((i0 β).1 ((p2 x h).2.inc h3)).2
              rw [hb] at this; cases this
            · exact ⟨x, h, h3⟩
        | false =>
          simp only [Bool.false_eq_true, if_false]
          rw [p3 β ((i0 β).2 ⟨hβ, hb⟩)]
          constructor
          · rintro ⟨x, h1, h3⟩; exact ⟨x, List.mem_append_left _ h1, h3⟩
          · rintro ⟨x, h1, h3⟩
            rcases List.mem_append.1 h1 with h | h
            · exact ⟨x, h, h3⟩
            · have := ((i1 β).1 ((q2 x h).2.inc h3)).2
              rw [hb] at this; cases this
      · refine List.pairwise_append.2 ⟨p4, q4, fun x hx y hy => ⟨v, by omega, ?_, ?_, ?_⟩⟩
        · exact ((p2 x hx).2 v (by show Nat.testBit (setB c.1 v) v = true; rw [bit_setB]; simp)).1
        · exact ((q2 y hy).2 v (by show Nat.testBit (setB c.1 v) v = true; rw [bit_setB]; simp)).1
        · have a1 := ((p2 x hx).2 v (by show Nat.testBit (setB c.1 v) v = true; rw [bit_setB]; simp)).2
          have a2 := ((q2 y hy).2 v (by show Nat.testBit (setB c.1 v) v = true; rw [bit_setB]; simp)).2
          rw [← a1, ← a2]
          show Nat.testBit c.2 v ≠ Nat.testBit (setB c.2 v) v
          rw [bit_setB, m2]; simp
theorem inC_zero (β : Int → Bool) : InC (0, 0) β := fun v _ h => by simp at h
theorem c8_zero : C8 (0, 0) := ⟨by show (0 : Nat) < 256; omega, fun v h => by simp at h⟩
theorem pathsL_ok {S : Sto} (hW : Wf S) (hB : Below' S 8) {a : Int} (ha : S.has a) :
    (pathsL S a).length ≤ 256 ∧ (∀ x ∈ pathsL S a, C8 x) ∧ (∀ β, ev S β a = true ↔ ∃ x ∈ pathsL S a, InC x β) ∧ (pathsL S a).Pairwise ApartC := by
  obtain ⟨h1, h2, h3, h4⟩ := paths_ok hW hB (S.nodes.length + 2) a (0, 0) (by have := ha.1; have := ha.2; omega) ha c8_zero (fun u hu => by simp at hu)
  refine ⟨Nat.le_trans h1 ?_, fun x hx => (h2 x hx).1, fun β => h3 β (inC_zero β), h4⟩
  have := topOf_ge hW ha
  exact Nat.pow_le_pow_right (n := 2) (by omega) (show (8 - topOf S a).toNat ≤ 8 by omega)
end Go.Proofs.Ytboekafmplomhaa
set_option linter.unusedVariables false
set_option linter.unusedSimpArgs false
namespace Go.Proofs.Ytboekafmplomhaa
open Classical

/-- A number's bits, as a setting. -/
def setOf (b : Nat) : Int → Bool := fun v => Nat.testBit b v.toNat
theorem inC_self (c : Cu) : InC c (setOf c.2) := fun v _ _ => rfl
theorem filt_le (p q : Nat → Bool) : ∀ l : List Nat, (∀ b ∈ l, p b = true → q b = true) → (l.filter p).length ≤ (l.filter q).length
  | [], _ => by simp
  | x :: l, h => by
    have ih := filt_le p q l (fun b hb => h b (List.mem_cons_of_mem _ hb))
    have hx := h x (by simp)
    rw [List.filter_cons, List.filter_cons]
    cases hp : p x with
    | true => rw [hx hp]; simpa using ih
    | false => simp only [Bool.false_eq_true, if_false]; split <;> simp <;> omega
theorem filt_lt (p q : Nat → Bool) : ∀ l : List Nat, (∀ b ∈ l, p b = true → q b = true) → (∃ b ∈ l, q b = true ∧ p b = false) → (l.filter p).length < (l.filter q).length
  | [], _, h => by obtain ⟨b, hb, _⟩ := h; simp at hb
  | x :: l, h, hex => by
    have le := filt_le p q l (fun b hb => h b (List.mem_cons_of_mem _ hb))
    have hx := h x (by simp)
    rw [List.filter_cons, List.filter_cons]
    obtain ⟨b, hb, h1, h2⟩ := hex
    by_cases e : q x = true ∧ p x = false
    · rw [e.1, e.2]; simp; omega
    · have hb' : b ∈ l := by
        rcases List.mem_cons.1 hb with rfl | hb
        · exact absurd ⟨h1, h2⟩ e
        · exact hb
      have lt := filt_lt p q l (fun b hb => h b (List.mem_cons_of_mem _ hb)) ⟨b, hb', h1, h2⟩
      cases hp : p x with
      | true => rw [hx hp]; simpa using lt
      | false => simp only [Bool.false_eq_true, if_false]; split <;> simp <;> omega
/-- How many settings of eight variables a diagram holds of. -/
def cnt (S : Sto) (a : Int) : Nat := ((List.range 256).filter (fun b => ev S (setOf b) a)).length
theorem cnt_le (S : Sto) (a : Int) : cnt S a ≤ 256 := by
  have := List.length_filter_le (fun b => ev S (setOf b) a) (List.range 256)
  simpa [cnt] using this

/-- A cover under way, done. -/
structure CvOk (f : (Int → Bool) → Bool) (S : Sto) (a : Int) (n : Nat) (R : Sto × List Cu × Bool) : Prop where
  la : LA f R.1 a n
  grows : Grows S R.1
  whole : R.2.2 = true
  prime : ∀ x ∈ R.2.1, IsPrime f x
  val : ∀ β, f β = true ↔ ∃ x ∈ R.2.1, InC x β
  len : R.2.1.length ≤ 256
section
variable {f : (Int → Bool) → Bool} {a : Int}
theorem coverN_la : ∀ (k m : Nat) (S : Sto) (n : Nat) (rest : Int) (l : List Cu), cnt S rest ≤ m → m < k → l.length + m ≤ 256 → LA f S a n → S.has rest →
    (∀ β, ev S β rest = true ↔ f β = true ∧ ¬ ∃ x ∈ l, InC x β) → (∀ x ∈ l, IsPrime f x) → n + 1300 * m + 1300 ≤ 1000000 → CvOk f S a (n + 1300 * m) (coverN a 4096 k S rest l)
  | 0, m, S, n, rest, l, _, hk, _, _, _, _, _, _ => by omega
  | k + 1, m, S, n, rest, l, hc, hk, hl, L, hr, hv, hp, hn => by
    rw [coverN]
    by_cases h0 : rest = 0
    · rw [if_pos h0]
      subst h0
      refine ⟨L.weak (by omega), Grows.refl S, rfl, hp, fun β => ?_, by show l.length ≤ 256; omega⟩
      constructor
      · intro h
        by_cases hx : ∃ x ∈ l, InC x β
        · exact hx
        · have := (hv β).2 ⟨h, hx⟩
          rw [ev_zero0] at this; cases this
      · rintro ⟨x, h1, h2⟩; exact (hp x h1).inn β h2
    · rw [if_neg h0, if_neg (by omega)]
      obtain ⟨p1, p2, p3, p4⟩ := pathsL_ok L.wf L.below hr
      have hne : pathsL S rest ≠ [] := fun e => h0 ((ev_eq L.wf hr (has_zero S)).1 (fun β => by
        rw [ev_zero0]
        cases hb : ev S β rest with
        | false => rfl
        | true =>
          obtain ⟨x, hx, _⟩ := (p3 β).1 hb
          rw [e] at hx; simp at hx))
      obtain ⟨c0, hc0, hmem⟩ : ∃ c0, (pathsL S rest).headD (0, 0) = c0 ∧ c0 ∈ pathsL S rest := by
        cases hp : pathsL S rest with
        | nil => exact absurd hp hne
        | cons x y => exact ⟨x, rfl, by simp⟩
      rw [hc0]
      have h8 := p2 c0 hmem
      have hin : ∀ β, InC c0 β → ev S β rest = true := fun β hβ => (p3 β).2 ⟨c0, hmem, hβ⟩
      have hc1 : 1 ≤ cnt S rest := by
        have : setOf c0.2 = setOf c0.2 := rfl
        have hm : c0.2 ∈ (List.range 256).filter (fun b => ev S (setOf b) rest) := List.mem_filter.2 ⟨List.mem_range.2 h8.lt2, hin _ (inC_self c0)⟩
        exact List.length_pos_of_mem hm
      obtain ⟨P1, P2, P3, P4⟩ := primeV_la L (by omega) h8 (fun β hβ => ((hv β).1 (hin β hβ)).1)
      generalize primeV S a c0 = X at *
      have R1 := of_rz P3.c8 (P1.rm (m := 24) (by omega))
      have L1 := P1.step R1.ok
      generalize ofV X.1 X.2 = X1 at *
      have R2 := ite_rz8 (L1.rm (m := 256) (by omega)) R1.ok.has (has_zero _) (has_one _)
      have L2 := L1.step R2.ok
      change LA f (notV X1.1 X1.2).1 a _ at L2
      have v2 : ∀ β, ev (notV X1.1 X1.2).1 β (notV X1.1 X1.2).2 = true ↔ ¬ InC X.2 β := fun β => by
        refine (R2.val β).trans ?_
        rw [ev_zero0, ev_one1, ← R1.val β]
        cases ev X1.1 β X1.2 <;> simp
      have g2 : Grows S (notV X1.1 X1.2).1 := P2.trans (R1.ok.grows.trans R2.ok.grows)
      have hn2 : (notV X1.1 X1.2).1.has (notV X1.1 X1.2).2 := R2.ok.has
      generalize notV X1.1 X1.2 = X2 at *
      have R3 := ite_rz8 (L2.rm (m := 256) (by omega)) (g2.has hr) hn2 (has_zero _)
      have L3 := L2.step R3.ok
      change LA f (andV X2.1 rest X2.2).1 a _ at L3
      have v3 : ∀ β, ev (andV X2.1 rest X2.2).1 β (andV X2.1 rest X2.2).2 = true ↔ ev S β rest = true ∧ ¬ InC X.2 β := fun β => by
        refine (R3.val β).trans ?_
        rw [ev_zero0, ← v2 β, ev_grows L.wf g2 β hr]
        cases ev S β rest <;> simp
      have g3 : Grows S (andV X2.1 rest X2.2).1 := g2.trans R3.ok.grows
      have hn3 : (andV X2.1 rest X2.2).1.has (andV X2.1 rest X2.2).2 := R3.ok.has
      generalize andV X2.1 rest X2.2 = X3 at *
      have hlt : cnt X3.1 X3.2 < cnt S rest := filt_lt _ _ _ (fun b _ hb => ((v3 _).1 hb).1) ⟨c0.2, List.mem_range.2 h8.lt2, hin _ (inC_self c0), by
        cases hb : ev X3.1 (setOf c0.2) X3.2 with
        | false => rfl
        | true => exact absurd (P4.inc (inC_self c0)) ((v3 _).1 hb).2⟩
      have I := coverN_la k (m - 1) X3.1 (n + 693 + 24 + 256 + 256) X3.2 (l ++ [X.2]) (by omega) (by omega) (by simp; omega) L3 hn3 (fun β => by
        rw [v3 β, hv β]
        constructor
        · rintro ⟨⟨q1, q2⟩, q3⟩
          refine ⟨q1, fun ⟨x, hx, hxi⟩ => ?_⟩
          rcases List.mem_append.1 hx with h | h
          · exact q2 ⟨x, h, hxi⟩
          · simp at h; subst h; exact q3 hxi
        · rintro ⟨q1, q2⟩
          exact ⟨⟨q1, fun ⟨x, hx, hxi⟩ => q2 ⟨x, List.mem_append_left _ hx, hxi⟩⟩, fun h => q2 ⟨X.2, by simp, h⟩⟩) (fun x hx => by
        rcases List.mem_append.1 hx with h | h
        · exact hp x h
        · simp at h; subst h; exact P3) (by omega)
      exact ⟨I.la.weak (by omega), g3.trans I.grows, I.whole, I.prime, I.val, I.len⟩
theorem coverV_la {S : Sto} {n : Nat} (L : LA f S a n) (hn : n + 336000 ≤ 1000000) : CvOk f S a (n + 333056) (coverV S a 4096) := by
  have R := ite_rz8 (L.rm (m := 256) (by omega)) L.has (has_one _) (has_zero _)
  have L1 := L.step R.ok
  change LA f (andV S a 1).1 a _ at L1
  have v1 : ∀ β, ev (andV S a 1).1 β (andV S a 1).2 = true ↔ f β = true ∧ ¬ ∃ x ∈ ([] : List Cu), InC x β := fun β => by
    refine (R.val β).trans ?_
    rw [ev_zero0, ev_one1, L.val]
    cases f β <;> simp
  have g1 : Grows S (andV S a 1).1 := R.ok.grows
  have h1 : (andV S a 1).1.has (andV S a 1).2 := R.ok.has
  unfold coverV
  obtain ⟨K, hK, hK2⟩ : ∃ K : Nat, (4096 : Int).toNat + 1 = K ∧ 256 < K := ⟨_, rfl, by decide⟩
  rw [show heldV 4096 = 4096 from rfl, hK]
  generalize andV S a 1 = X at *
  have I := coverN_la K 256 X.1 (n + 256) X.2 [] (cnt_le _ _) hK2 (by simp) L1 h1 v1 (fun x hx => by simp at hx) (by omega)
  rw [if_pos I.whole, if_neg (by rw [(I.la.rm (m := 0) (by omega)).free]; simp)]
  exact ⟨I.la.weak (by omega), g1.trans I.grows, I.whole, I.prime, I.val, I.len⟩
set_option maxRecDepth 20000 in
theorem allV_la : ∀ (l : List Cu) (S : Sto) (n : Nat) (acc : Int), LA f S a n → S.has acc → n + 280 * l.length ≤ 1000000 → (∀ x ∈ l, C8 x) →
    LA f (allV S acc l).1 a (n + 280 * l.length) ∧ Grows S (allV S acc l).1 ∧ (allV S acc l).1.has (allV S acc l).2 ∧ (∀ β, ev (allV S acc l).1 β (allV S acc l).2 = true ↔ ev S β acc = true ∨ ∃ x ∈ l, InC x β)
  | [], S, n, acc, L, ha, _, _ => ⟨L.weak (by simp), Grows.refl S, ha, fun β => by show ev S β acc = true ↔ _; simp⟩
  | c :: l, S, n, acc, L, ha, hn, hc => by
    rw [allV]
    simp only [List.length_cons] at hn ⊢
    have R1 := of_rz (hc c (by simp)) (L.rm (m := 24) (by omega))
    have L1 := L.step R1.ok
    generalize ofV S c = X1 at *
    have R2 := ite_rz8 (L1.rm (m := 256) (by omega)) (R1.ok.grows.has ha) (has_one _) R1.ok.has
    have L2 := L1.step R2.ok
    change LA f (orV X1.1 acc X1.2).1 a _ at L2
    have v2 : ∀ β, ev (orV X1.1 acc X1.2).1 β (orV X1.1 acc X1.2).2 = true ↔ ev S β acc = true ∨ InC c β := fun β => by
      refine (R2.val β).trans ?_
      rw [ev_one1, R1.old L.wf ha, ← R1.val β]
      cases ev S β acc <;> simp
    have g2 : Grows S (orV X1.1 acc X1.2).1 := R1.ok.grows.trans R2.ok.grows
    have h2 : (orV X1.1 acc X1.2).1.has (orV X1.1 acc X1.2).2 := R2.ok.has
    generalize orV X1.1 acc X1.2 = X2 at *
    obtain ⟨i1, i2, i3, i4⟩ := allV_la l X2.1 (n + 24 + 256) X2.2 L2 h2 (by omega) (fun x hx => hc x (List.mem_cons_of_mem _ hx))
    refine ⟨i1.weak (by omega), g2.trans i2, i3, fun β => ?_⟩
    rw [i4, v2]
    simp only [List.mem_cons, exists_eq_or_imp]
    rw [or_assoc]
theorem all_is {S : Sto} {n : Nat} {l : List Cu} (L : LA f S a n) (hn : n + 280 * l.length ≤ 1000000) (hc : ∀ x ∈ l, C8 x) (hv : ∀ β, f β = true ↔ ∃ x ∈ l, InC x β) :
    LA f (allV S 0 l).1 a (n + 280 * l.length) ∧ (allV S 0 l).2 = a := by
  obtain ⟨i1, i2, i3, i4⟩ := allV_la l S n 0 L (has_zero _) hn hc
  refine ⟨i1, (ev_eq i1.wf i3 i1.has).1 (fun β => ?_)⟩
  rw [i1.val, Bool.eq_iff_iff, i4, hv, ev_zero0]
  simp
end
/-- How many nodes the last look at a cube needs. -/
def psiN (M : Nat) : Nat → Nat
  | 0 => 0
  | v + 1 => psiN M v + if Nat.testBit M v then 24 + costN (clrB M v) 8 else 0
theorem psi_mono (M : Nat) {u v : Nat} (h : u ≤ v) : psiN M u ≤ psiN M v := by
  induction v with
  | zero => obtain rfl : u = 0 := by omega
            exact Nat.le_refl _
  | succ v ih =>
    by_cases e : u = v + 1
    · rw [e]; exact Nat.le_refl _
    · have := ih (by omega)
      rw [psiN]; omega
theorem psi_le8 : ∀ M : Fin 256, psiN M.val 8 ≤ 549 := by decide +kernel
theorem psi_le {M : Nat} (hM : M < 256) (v : Nat) : psiN M v ≤ 549 := by
  have h8 := psi_le8 ⟨M, hM⟩
  simp only at h8
  have top : ∀ v, psiN M (8 + v) = psiN M 8 := fun v => by
    induction v with
    | zero => rfl
    | succ v ih =>
      rw [show 8 + (v + 1) = 8 + v + 1 by omega, psiN, ih, bit_high hM (by omega)]; simp
  rcases Nat.lt_or_ge v 8 with h | h
  · have := psi_mono M (show v ≤ 8 by omega); omega
  · have := top (v - 8)
    rw [show 8 + (v - 8) = v by omega] at this
    omega
end Go.Proofs.Ytboekafmplomhaa
set_option linter.unusedVariables false
set_option linter.unusedSimpArgs false
namespace Go.Proofs.Ytboekafmplomhaa
open Go.RowKit

theorem cus_get : ∀ (l : List Cu) (i : Nat) (hi : i < l.length), (cus l)[i * 2]? = some (.int .u64 l[i].1) ∧ (cus l)[i * 2 + 1]? = some (.int .u64 l[i].2)
  | c :: l, 0, _ => ⟨rfl, rfl⟩
  | c :: l, i + 1, hi => by
    have := cus_get l i (by simpa using hi)
    rw [show (i + 1) * 2 = i * 2 + 1 + 1 by omega]
    exact this
theorem row_cube {w : World} {sv : Value} {G : Option Nat} {l : List Cu} (h : RowIs w sv G 85 2 l.length (cus l)) {i : Nat} (hi : i < l.length) :
    ∃ g cap, sv = .slice (some ⟨g, 0, none⟩) l.length cap ∧ G = some g ∧ g < w.heap.size ∧ w.cell? ⟨g, i * 2, none⟩ = some (.int .u64 l[i].1) ∧ w.cell? ⟨g, i * 2 + 1, none⟩ = some (.int .u64 l[i].2) := by
  obtain ⟨g, cap, e1, e2, c0, -⟩ := h.at hi (show 0 < 2 by omega)
  obtain ⟨g', cap', -, e3, c1, -⟩ := h.at hi (show 1 < 2 by omega)
  rw [e2] at e3; cases e3
  exact ⟨g, cap, e1, e2, h.lt g e2, by rw [show i * 2 = i * 2 + 0 by omega, c0]; exact (cus_get l i hi).1, by rw [c1]; exact (cus_get l i hi).2⟩

set_option maxHeartbeats 4000000 in
theorem all_live {w : World} {p : Nat} {F : List Nat} {S : Sto} (h : StoIs w p F S) (hG : Gs S) {sv : Value} {G : Option Nat} {l : List Cu} (hr : RowIs w sv G 85 2 l.length (cus l)) (hg : ∀ g, G = some g → g ∉ F)
    (hl : ∀ c ∈ l, CuOk c) (hlm : l.length ≤ 1000000) : Tells 56 #[.pointer (some ⟨p, 0, none⟩), sv] w p F (allV S 0 l) := by
  have hOf := hid (fun W F S (h : StoIs W p F S) (hG : Gs S) (c : Cu) (hc : CuOk c) => cof_live h hG hc)
  have hOr := hid (fun W F S (h : StoIs W p F S) (hG : Gs S) (x y : Int) => or_call h hG.1 x y)
  unfold Tells at hOf hOr ⊢
  obtain ⟨a, cap, rfl, hmx⟩ := hr.form
  have HR := hid hr
  have HL := hid hl
  clear hl
  go_enter Try.func56, Try.ntmps56
  go_wp2
  go_loopw [11, 5] (fun x y wr => ∃ (i : Nat) (acc : Int) (S1 : Sto) (F1 : List Nat), i ≤ l.length ∧ x = .int .i64 i ∧ y = .int .i64 acc ∧ StoIs wr p F1 S1 ∧ Gs S1 ∧ StoStep w wr F F1 ∧ allV S 0 l = allV S1 acc (l.drop i)) (fun x _ _ => l.length - (intOf x).toNat)
  case atStart => exact ⟨0, 0, S, F, by omega, rfl, rfl, h, hG, StoStep.refl _ _, rfl⟩
  case round =>
    obtain ⟨i, acc, S1, F1, hi, rfl, rfl, hS1, hG1, st1, hrec⟩ := hrel
    have HREC := hid hrec
    clear hrec
    by_cases hlt : i < l.length
    · have hi1 : (i : Int) < (l.length : Int) := by omega
      have hrw := hr.keep (fun g e => st1.block g (hr.lt g e) (hg g e))
      obtain ⟨g, cap', ea, eg, zg, k0, k1⟩ := row_cube hrw hlt
      have hcc := HL.out l[i] (List.getElem_mem hlt)
      have hd : allV S 0 l = allV (orV (ofV S1 l[i]).1 acc (ofV S1 l[i]).2).1 (orV (ofV S1 l[i]).1 acc (ofV S1 l[i]).2).2 (l.drop (i + 1)) := by
        rw [HREC.out, List.drop_eq_getElem_cons hlt, allV]
      have HD := hid hd
      clear hd HREC
      cases ea
      generalize l[i] = c at *
      clear hr hrw h hG
      have hG2 := ofV_gs hG1 c
      go_wp2_with (first
        | (go_at_call 59; refine (hOf.out _ _ _ (hS1.below (by (repeat' (first | (with_reducible exact Below.refl _ _) | (with_reducible refine Below.ext_mk ?_ ?_ _ _) | (with_reducible refine Below.alloc ?_ ?_ _) | (with_reducible refine Below.drew ?_) | (with_reducible refine Below.setCell ?_ ?_ _) | go_size)))) hG1 c hcc).mono ?_; rintro e w2 ⟨rfl, F2, hS2, st2⟩)
        | (go_at_call 28; refine (hOr.out _ _ _ hS2 hG2 acc _).mono ?_; rintro e w3 ⟨rfl, F3, hS3, st3⟩))
      go_roundw
      case rel =>
        refine ⟨i + 1, _, _, F3, by omega, by go_num, rfl, hS3, orV_gs hG2 _ _, ?_, HD.out⟩
        exact st1.trans ((StoStep.of_below (by (repeat' (first | (with_reducible exact Below.refl _ _) | (with_reducible refine Below.ext_mk ?_ ?_ _ _) | (with_reducible refine Below.alloc ?_ ?_ _) | (with_reducible refine Below.drew ?_) | (with_reducible refine Below.setCell ?_ ?_ _) | go_size)))).trans (st2.trans st3))
      case measure => first | (simp [intOf]; done) | (simp [intOf]; omega)
    · obtain rfl : i = l.length := by omega
      have hd : allV S 0 l = (S1, acc) := by rw [HREC.out, List.drop_length, allV]
      have HD := hid hd
      clear hd HREC
      go_wp2
      go_returns
      rw [HD.out]
      exact ⟨rfl, F1, hS1, st1⟩

def meetN (x y : Cu) : Nat := ((x.2 ^^^ y.2) &&& x.1) &&& y.1
theorem meetN_ne {x y : Cu} (h : ApartC x y) : meetN x y ≠ 0 := by
  obtain ⟨v, -, h1, h2, h3⟩ := h
  intro e
  have : Nat.testBit (meetN x y) v = false := by rw [e]; simp
  unfold meetN at this
  rw [Nat.testBit_and, Nat.testBit_and, Nat.testBit_xor, h1, h2] at this
  cases q1 : Nat.testBit x.2 v <;> cases q2 : Nat.testBit y.2 v <;> rw [q1, q2] at this h3 <;> simp at this h3
theorem meets_any {x y : Cu} (hx : CuOk x) (hy : CuOk y) (h : ApartC x y) (w : World) : Calls Try.prog 57 #[cv x, cv y] w (Pure (.bool false) w) := by
  have e1 := bits_xor_u64_nat x.2 y.2 hx.2 hy.2
  have l1 : x.2 ^^^ y.2 < 18446744073709551616 := Nat.xor_lt_two_pow (n := 64) hx.2 hy.2
  have e2 := bits_and_u64_nat (x.2 ^^^ y.2) x.1 l1 hx.1
  have e3 := bits_and_u64_nat ((x.2 ^^^ y.2) &&& x.1) y.1 (Nat.lt_of_le_of_lt Nat.and_le_left l1) hy.1
  have hne := meetN_ne h
  go_enter Try.func57, Try.ntmps57
  go_upto_region 1 with (fail)
  refine wp_gen (fun V hV => ?_)
  have hbV : Below w.heap.size w V := by rw [hV]; ((repeat' (first | (with_reducible exact Below.refl _ _) | (with_reducible refine Below.ext_mk ?_ ?_ _ _) | (with_reducible refine Below.alloc ?_ ?_ _) | (with_reducible refine Below.drew ?_) | (with_reducible refine Below.setCell ?_ ?_ _) | go_size)))
  have zV0 : w.heap.size < V.heap.size := by rw [hV]; first | (simp; done) | (simp; omega)
  have cV0_0 : V.cell? ⟨w.heap.size, 0, none⟩ = some (.int .u64 x.1) := by rw [hV]; first | (go_simp; done) | (rw [World.cell?_alloc_past _ _ _ (by first | (simp; done) | (simp; omega))]; go_simp)
  have fV0_0 : V.frozen? ⟨w.heap.size, 0, none⟩ = false := by rw [hV]; go_simp
  have cV0_1 : V.cell? ⟨w.heap.size, 1, none⟩ = some (.int .u64 x.2) := by rw [hV]; first | (go_simp; done) | (rw [World.cell?_alloc_past _ _ _ (by first | (simp; done) | (simp; omega))]; go_simp)
  have fV0_1 : V.frozen? ⟨w.heap.size, 1, none⟩ = false := by rw [hV]; go_simp
  have zV1 : w.heap.size + 1 < V.heap.size := by rw [hV]; first | (simp; done) | (simp; omega)
  have cV1_0 : V.cell? ⟨w.heap.size + 1, 0, none⟩ = some (.int .u64 y.1) := by rw [hV]; first | (go_simp; done) | (rw [World.cell?_alloc_past _ _ _ (by first | (simp; done) | (simp; omega))]; go_simp)
  have fV1_0 : V.frozen? ⟨w.heap.size + 1, 0, none⟩ = false := by rw [hV]; go_simp
  have cV1_1 : V.cell? ⟨w.heap.size + 1, 1, none⟩ = some (.int .u64 y.2) := by rw [hV]; first | (go_simp; done) | (rw [World.cell?_alloc_past _ _ _ (by first | (simp; done) | (simp; omega))]; go_simp)
  have fV1_1 : V.frozen? ⟨w.heap.size + 1, 1, none⟩ = false := by rw [hV]; go_simp
  clear hV
  refine wp_region_seq (fun F hF => ?_)
  have HF := hid hF; clear hF
  repeat (first
    | (apply text_skip; (focus rfl); simp only [Act.put, List.setIfInBounds_toArray, List.set_cons_zero, List.set_cons_succ])
    | (apply text_val; (focus rfl); (focus (intro _ _; go_simp; with_reducible rfl)); simp only [Act.put, List.setIfInBounds_toArray, List.set_cons_zero, List.set_cons_succ])
    | (apply text_if; (focus (first | exact wanted_t rfl rfl | exact wanted_f rfl rfl | exact wanted_gt rfl rfl | exact wanted_gf rfl rfl)); (focus (intro hc _ _; (try simp only [Bool.and_eq_true, Bool.not_eq_true', Bool.true_and] at hc); go_simp; with_reducible rfl)); simp only [Act.put, List.setIfInBounds_toArray, List.set_cons_zero, List.set_cons_succ]))
  refine text_nil (HF.out _ (fun mx dx => ?_))
  clear HF F
  go_wp2
  go_returns
  refine Pure.of ?_ (by (repeat' (first | (with_reducible exact Below.refl _ _) | (with_reducible refine Below.ext_mk ?_ ?_ _ _) | (with_reducible refine Below.alloc ?_ ?_ _) | (with_reducible refine Below.drew ?_) | (with_reducible refine Below.setCell ?_ ?_ _) | go_size)))
  show Value.bool (((((x.2 ^^^ y.2) &&& x.1) &&& y.1 : Nat) : Int) == 0) = _
  unfold meetN at hne
  generalize ((x.2 ^^^ y.2) &&& x.1) &&& y.1 = z at *
  cases z with
  | zero => exact absurd rfl hne
  | succ z => simp; omega
end Go.Proofs.Ytboekafmplomhaa
set_option linter.unusedVariables false
set_option linter.unusedSimpArgs false
namespace Go.Proofs.Ytboekafmplomhaa
open Go.RowKit

theorem pathsV_all {S : Sto} (hW : Wf S) (hB : Below' S 8) (hf : S.full = false) {a : Int} (ha : S.has a) : pathsV S a 4096 = (pathsL S a, true) := by
  obtain ⟨h1, -⟩ := pathsL_ok hW hB ha
  unfold pathsV
  rw [if_neg (by rw [hf]; simp), show heldV 4096 = 4096 from rfl, if_pos (by omega)]

set_option maxRecDepth 100000 in
set_option maxHeartbeats 16000000 in
theorem cubeCovers_any {w : World} {sv0 : Value} {l : List Int} (hl0 : Rd w 1 sv0 (ints l)) (hI : ∀ x ∈ l, -9223372036854775808 ≤ x ∧ x ≤ 9223372036854775807) :
    Calls Try.prog 8 #[sv0] w (Pure (.bool true) w) := by
  have KN := hid (fun W => known32 W)
  have MA := made32_any (cap := 1048576) (by omega) (by omega) hl0 hI
  obtain ⟨la, lc, rfl, hlc, hlm0⟩ := hl0.len
  obtain ⟨MO, ML⟩ := madeV_ok (cap := 1048576) (by omega) (by omega) l
  have MC := madeV_cap' (cap := 1048576) (by omega) (by omega) l
  unfold MadeAt32 at MA
  generalize madeV 1048576 l = R0 at *
  obtain ⟨S0, all⟩ := R0
  simp only at MO ML MC
  clear hl0 hI hlc hlm0
  go_enter Try.func8, Try.ntmps8
  go_upto_region 4 with (go_at_call 53; refine MA.mono ?_; rintro e w1 ⟨p, F, sv, G, rfl, hH, hb1⟩; obtain ⟨sa, sc, rfl, _⟩ := RowIs.form hH.row)
  have hws := hb1.size
  have hlm : all.length ≤ 9223372036854775807 := by have := RowIs.form hH.row; obtain ⟨_, _, _, h⟩ := this; unfold maxLen at h; omega
  obtain ⟨m1, hm1⟩ : ∃ m, m = all.length - 1 := ⟨_, rfl⟩
  obtain ⟨ga, cap', e1, -, zga, ca⟩ := RowIs.one hH.row (i := m1) (u := .int .i64 (all.getD m1 0)) (by simp [ints, List.getD_eq_getElem?_getD, show m1 < all.length by omega])
  cases e1
  have wm1 : IntKind.i64.wrap ((all.length : Int) - 1) = (m1 : Int) := by rw [IntWalk.i64_in _ (by omega)]; omega
  have l1 : (m1 : Int) < (all.length : Int) := by omega
  have hma : all.getD m1 0 ∈ all := by rw [List.getD_eq_getElem?_getD, List.getElem?_eq_getElem (by omega)]; exact List.getElem_mem _
  have hA := MO.has _ hma
  generalize all.getD m1 0 = a at *
  obtain ⟨f, hf⟩ : ∃ f : (Int → Bool) → Bool, ∀ β, ev S0 β a = f β := ⟨fun β => ev S0 β a, fun _ => rfl⟩
  have L0 : LA f S0 a 5376 := ⟨MO.wf, MO.sated, MO.below, MC, hA, hf, by have := MO.count; have := pot_le f S0; omega⟩
  have hPV := pathsV_all L0.wf L0.below (L0.rm (m := 0) (by omega)).free hA
  obtain ⟨P1, P2, P3, P4⟩ := pathsL_ok L0.wf L0.below hA
  obtain ⟨P, hP⟩ : ∃ P, P = pathsL S0 a := ⟨_, rfl⟩
  rw [← hP] at hPV P1 P2 P3 P4
  have CV := coverV_la L0 (by omega)
  have hFlo := hH.from_
  have hS0 := hH.sto
  have PT := hid (fun W (hb : Below w1.heap.size w1 W) => cpaths_live (hS0.below hb) L0.wf a 4096)
  rw [hPV] at PT
  have CC := hid (fun W (hS : StoIs W p F S0) => ccover_live hS L0.gs a 4096)
  unfold CoverAt at CC
  obtain ⟨C, hC⟩ : ∃ C, C = coverV S0 a 4096 := ⟨_, rfl⟩
  rw [← hC] at CC CV
  have HCV := hid CV
  have HP := hid (And.intro P1 (And.intro P2 (And.intro P3 P4)))
  clear hPV P1 P2 P3 P4 hP hC CV hma hm1 MO ML MC MA hH hf hlm
  go_upto_region 6 with (go_at_call 54; refine (PT.out _ (Below.refl _ _)).mono ?_; rintro e w2 ⟨sp, Gp, rfl, hrp, hgp, hb2⟩; obtain ⟨pa, pc, rfl, _⟩ := RowIs.form hrp)
  have hS2 := hS0.below hb2
  clear PT ca wm1 l1
  go_upto_region 7 with (go_at_call 55; refine (CC.out _ hS2).mono ?_; rintro e w3 ⟨sc3, Gc, F3, rfl, hrc, hgc, hS3, hG3, st3⟩; obtain ⟨ca, cc, rfl, _⟩ := RowIs.form hrc)
  obtain ⟨S1, cs, b⟩ := C
  have hwh : b = true := HCV.out.whole
  subst hwh
  simp only at hrc hgc hS3 hG3
  obtain ⟨C1, C2, -, C4, C5, C6⟩ := HCV.out
  simp only at C1 C4 C5 C6
  have HCS := hid (And.intro C4 C6)
  obtain ⟨A1, A2⟩ := all_is C1 (l := P) (by have := HP.out.1; omega) HP.out.2.1 (fun β => by rw [← L0.val]; exact HP.out.2.2.1 β)
  have AL1 := all_live hS3 hG3 (hrp.keep (fun g e => st3.block g (hrp.lt g e) (fun hm => by have := hgp g e; have := hS0.lt g hm; omega))) (fun g e hm => by
    rcases st3.fresh g hm with h | h
    · have := hgp g e; have := hS0.lt g h; omega
    · have := hrp.lt g e; omega) (fun c hc => (HP.out.2.1 c hc).cu) (by have := HP.out.1; omega)
  unfold Tells at AL1
  have A1 := A1.weak (show _ ≤ 410112 by have := HP.out.1; omega)
  rw [A2] at AL1
  obtain ⟨S2, hS2e⟩ : ∃ S, S = (allV S1 0 P).1 := ⟨_, rfl⟩
  rw [← hS2e] at A1 AL1
  clear hS2e A2
  obtain ⟨B1, B2⟩ := all_is A1 (l := cs) (by omega) (fun x hx => (C4 x hx).c8) C5
  have B1 := B1.weak (show _ ≤ 481792 by omega)
  have AL2 := hid (fun W F4 (hS : StoIs W p F4 S2) (st : StoStep w3 W F3 F4) => show Calls Try.prog 56 #[.pointer (some ⟨p, 0, none⟩), .slice ca cs.length cc] W (fun e w' => e = .returned (.int .i64 a) ∧ Turned W p F4 (allV S2 0 cs).1 w') from by
    have := all_live hS A1.gs (hrc.keep (fun g e => st.block g (hrc.lt g e) (hgc g e).2)) (fun g e hm => by
      rcases st.fresh g hm with h | h
      · exact (hgc g e).2 h
      · have := hrc.lt g e; omega) (fun c hc => (C4 c hc).c8.cu) (by omega)
    unfold Tells at this
    rw [B2] at this
    exact this)
  obtain ⟨S3, hS3e⟩ : ∃ S, S = (allV S2 0 cs).1 := ⟨_, rfl⟩
  rw [← hS3e] at B1 AL2
  have HB := hid B1
  clear hS3e B2 C1 C4 C5 A1 B1 CC HCV
  have AL1 := hid AL1
  refine wp_region_doc (fun F' hF' => ?_)
  have HF := hid hF'
  clear hF'
  iterate 9 (refine doc_val rfl (by first | (go_simp; done) | (go_simp; exact ⟨rfl, rfl⟩) | (go_simp; with_reducible rfl)) ?_; simp only [Act.put, List.setIfInBounds_toArray, List.set_cons_zero, List.set_cons_succ])
  refine doc_call rfl (by first | (go_simp; done) | (go_simp; exact ⟨rfl, rfl⟩) | (go_simp; with_reducible rfl)) (AL1.out.mono ?_)
  rintro _ w4 ⟨rfl, F4, hS4, st4⟩
  refine ⟨_, rfl, ?_⟩
  simp only [Act.put, List.setIfInBounds_toArray, List.set_cons_zero, List.set_cons_succ]
  iterate 6 (refine doc_val rfl (by first | (go_simp; done) | (go_simp; exact ⟨rfl, rfl⟩) | (go_simp; with_reducible rfl)) ?_; simp only [Act.put, List.setIfInBounds_toArray, List.set_cons_zero, List.set_cons_succ])
  refine doc_call rfl (by first | (go_simp; done) | (go_simp; exact ⟨rfl, rfl⟩) | (go_simp; with_reducible rfl)) ((AL2.out _ _ hS4 st4).mono ?_)
  rintro _ w5 ⟨rfl, F5, hS5, st5⟩
  refine ⟨_, rfl, ?_⟩
  simp only [Act.put, List.setIfInBounds_toArray, List.set_cons_zero, List.set_cons_succ]
  iterate 3 (refine doc_val rfl (by first | (go_simp; done) | (go_simp; exact ⟨rfl, rfl⟩) | (go_simp; with_reducible rfl)) ?_; simp only [Act.put, List.setIfInBounds_toArray, List.set_cons_zero, List.set_cons_succ])
  refine doc_end (HF.out _ _ ?_)
  clear HF F' AL1 AL2
  have st35 := st4.trans st5
  have st25 := st3.trans st35
  have hF5 : ∀ k ∈ F5, k ∈ F ∨ w2.heap.size ≤ k := fun k hk => by
    rcases st25.fresh k hk with h | h
    · exact .inl h
    · exact .inr h.1
  have hp5 : RowIs w5 (.slice pa P.length pc) Gp 85 2 P.length (cus P) := hrp.keep (fun g e => st25.block g (hrp.lt g e) (fun hm => by have := hgp g e; have := hS0.lt g hm; omega))
  have hc5 : RowIs w5 (.slice ca cs.length cc) Gc 85 2 cs.length (cus cs) := hrc.keep (fun g e => st35.block g (hrc.lt g e) (hgc g e).2)
  have hcF : ∀ g, Gc = some g → g ∉ F5 := fun g e hm => by
    rcases st35.fresh g hm with h | h
    · exact (hgc g e).2 h
    · have := hrc.lt g e; omega
  have hlo : ∀ k ∈ F5, w.heap.size ≤ k := fun k hk => by
    rcases hF5 k hk with h | h
    · exact hFlo k h
    · have := hb2.size; omega
  have hb5 : Below w.heap.size w w5 := hb1.trans ((hb2.mono hws).trans (st25.below hFlo (Nat.le_trans hws hb2.size)))
  clear hrp hrc hgp hgc hS0 hS2 hS3 hG3 st3 st4 st5 st35 st25 hF5 hFlo hb1 hb2 hS4
  have HC5 := hid (And.intro hc5 hcF)
  have HS5 := hid (And.intro hS5 hlo)
  clear hc5 hcF hS5 hlo
  clear A1 AL1 B1 C2 C6 hws zga hA L0
  have HPP := hid (And.intro HP.out.2.1 HP.out.2.2.2)
  have hsP : P.length ≤ 256 := HP.out.1
  clear HP
  have HB5 := hid hb5
  clear hb5
  go_wp2_with fail
  go_loopw [66] (fun i wr => ∃ k : Nat, k ≤ P.length ∧ i = .int .i64 k ∧ Below w5.heap.size w5 wr) (fun i _ => P.length - (intOf i).toNat)
  case atStart => exact ⟨0, by omega, rfl, Below.refl _ _⟩
  case round =>
    obtain ⟨k, hk, rfl, hbr⟩ := hrel
    by_cases hlt : k < P.length
    · have hk1 : (k : Int) < (P.length : Int) := by omega
      have hpr : RowIs wr (.slice pa P.length pc) Gp 85 2 P.length (cus P) := hp5.keep (fun g e => hbr.block g (hp5.lt g e))
      obtain ⟨g, cap, ea, eg, zg, k0, k1⟩ := row_cube hpr hlt
      have hcap : P.length ≤ cap := by
        obtain ⟨_, ⟨h1, _⟩ | ⟨g', cap', cur, h1, h2, h3, h4, _⟩⟩ := hpr
        · rw [ea] at h1; cases h1
        · rw [ea] at h1; cases h1; exact h4
      cases ea
      obtain ⟨x, hx⟩ : ∃ x, x = P[k] := ⟨_, rfl⟩
      rw [← hx] at k0 k1
      have HX := hid hx
      have HPR := hid hpr
      clear hx hpr
      go_upto_region 13 with (fail)
      refine wp_gen (fun V hV => ?_)
      have hbV : Below wr.heap.size wr V := by rw [hV]; (repeat' (first | (with_reducible exact Below.refl _ _) | (with_reducible refine Below.ext_mk ?_ ?_ _ _) | (with_reducible refine Below.alloc ?_ ?_ _) | (with_reducible refine Below.drew ?_) | (with_reducible refine Below.setCell ?_ ?_ _) | go_size))
      have bx : Blk V wr.heap.size 85 [.int .u64 x.1, .int .u64 x.2] := by rw [hV]; exact Blk.new wr 85 [.int .u64 x.1, .int .u64 x.2]
      have hpV : RowIs V (.slice (some ⟨g, 0, none⟩) P.length pc) Gp 85 2 P.length (cus P) := HPR.out.keep (fun g e => hbV.block g (HPR.out.lt g e))
      obtain ⟨xb, hxb⟩ : ∃ b, b = wr.heap.size := ⟨_, rfl⟩
      rw [← hxb] at bx ⊢
      clear hV k0 k1 HPR hxb
      go_loopw [75] (fun i wq => ∃ j : Nat, j ≤ k ∧ i = .int .i64 j ∧ Below V.heap.size V wq) (fun i _ => k - (intOf i).toNat)
      case atStart => exact ⟨0, by omega, rfl, Below.refl _ _⟩
      case round =>
        obtain ⟨j, hj, rfl, hbq⟩ := hrel
        by_cases hjk : j < k
        · have hj1 : (j : Int) < (k : Int) := by omega
          have hpq := hpV.keep (w' := wr) (fun g e => hbq.block g (hpV.lt g e))
          obtain ⟨g', cap', ea, eg', zg', k0, k1⟩ := row_cube hpq (show j < P.length by omega)
          cases ea
          obtain ⟨y, hy⟩ : ∃ y, y = P[j] := ⟨_, rfl⟩
          rw [← hy] at k0 k1
          have hap : ApartC x y := by
            have := (List.pairwise_iff_getElem.1 HPP.out.2) j k (by omega) hlt hjk
            rw [← hy, ← HX.out] at this
            obtain ⟨v, h1, h2, h3, h4⟩ := this
            exact ⟨v, h1, h3, h2, fun e => h4 e.symm⟩
          have hxo : CuOk x := by rw [HX.out]; exact (HPP.out.1 _ (List.getElem_mem _)).cu
          have hyo : CuOk y := by rw [hy]; exact (HPP.out.1 _ (List.getElem_mem _)).cu
          have ME := hid (fun W => meets_any hxo hyo hap W)
          have hsq := hbq.size
          have x0 := (bx.below hbq).cell 0
          have x1 := (bx.below hbq).cell 1
          have zx := (bx.below hbq).lt
          simp only [List.getElem?_cons_zero, List.getElem?_cons_succ] at x0 x1
          clear hy hap hxo hyo hpq
          go_wp2_with (go_at_call 57; refine (ME.out _).mono ?_; rintro e w' ⟨rfl, m1, d1, rfl⟩)
          go_roundw
          case rel => exact ⟨j + 1, by omega, by go_num, by (repeat' (first | (with_reducible exact hbq) | (with_reducible exact Below.refl _ _) | (with_reducible refine Below.ext_mk ?_ ?_ _ _) | (with_reducible refine Below.alloc ?_ ?_ _) | (with_reducible refine Below.drew ?_) | (with_reducible refine Below.setCell ?_ ?_ _) | go_size))⟩
          case measure => first | (simp [intOf]; done) | (simp [intOf]; omega)
        · obtain rfl : j = k := by omega
          go_wp2
          go_roundw
          case rel => exact ⟨j + 1, by omega, by go_num, hbr.trans ((hbV.trans (hbq.mono hbV.size)).mono hbr.size)⟩
          case measure => first | (simp [intOf]; done) | (simp [intOf]; omega)
    · obtain rfl : k = P.length := by omega
      have hbw := HB5.out.trans (hbr.mono HB5.out.size)
      have hSr := HS5.out.1.below hbr
      have hcr := HC5.out.1.keep (fun g e => hbr.block g (HC5.out.1.lt g e))
      have hcF := HC5.out.2
      have hlo := HS5.out.2
      have HBW := hid hbw
      have hOf := hid (fun W F S (h : StoIs W p F S) (hG : Gs S) (c : Cu) (hc : CuOk c) => cof_live h hG hc)
      have hNo := hid (fun W F S (h : StoIs W p F S) (hG : Gs S) (x : Int) => not_call h hG.1 x)
      have hAn := hid (fun W F S (h : StoIs W p F S) (hG : Gs S) (x y : Int) => and_call h hG.1 x y)
      unfold Tells at hOf hNo hAn
      have HCR := hid (And.intro hcr hcF)
      have HLO := hid hlo
      clear HC5 HS5 HB5 hp5 hbr hbw hcr hcF hlo HPP
      go_wp2
      obtain ⟨W, hWe⟩ : ∃ W, W = wr := ⟨_, rfl⟩
      rw [← hWe] at HCR HBW hSr
      have s0 : StoStep W wr F5 F5 := by rw [hWe]; exact StoStep.refl _ _
      rw [hWe] at hSr
      clear hWe
      go_loopw [86] (fun i wr => ∃ (k : Nat) (S : Sto) (F1 : List Nat), k ≤ cs.length ∧ i = .int .i64 k ∧ StoIs wr p F1 S ∧ StoStep W wr F5 F1 ∧ LA f S a (481792 + 600 * k)) (fun i _ => cs.length - (intOf i).toNat)
      case atStart => exact ⟨0, S3, F5, by omega, rfl, hSr, s0, HB.out⟩
      case round =>
        obtain ⟨k, S, F1, hk, rfl, hS, hst, hL⟩ := hrel
        clear hSr s0
        by_cases hlt : k < cs.length
        · have hk1 : (k : Int) < (cs.length : Int) := by omega
          have hcq := HCR.out.1.keep (fun g e => hst.block g (HCR.out.1.lt g e) (HCR.out.2 g e))
          obtain ⟨g, cap, ea, eg, zg, k0, k1⟩ := row_cube hcq hlt
          cases ea
          have hpx := HCS.out.1 cs[k] (List.getElem_mem hlt)
          generalize cs[k] = x at *
          clear hcq
          go_upto_region 22 with (fail)
          refine wp_gen (fun V hV => ?_)
          have hbV : Below wr.heap.size wr V := by rw [hV]; (repeat' (first | (with_reducible exact Below.refl _ _) | (with_reducible refine Below.ext_mk ?_ ?_ _ _) | (with_reducible refine Below.alloc ?_ ?_ _) | (with_reducible refine Below.drew ?_) | (with_reducible refine Below.setCell ?_ ?_ _) | go_size))
          have bx : Blk V wr.heap.size 85 [.int .u64 x.1, .int .u64 x.2] := by rw [hV]; exact Blk.new wr 85 [.int .u64 x.1, .int .u64 x.2]
          have hSV := hS.below hbV
          have hxF : wr.heap.size ∉ F1 := fun hm => Nat.lt_irrefl _ (hS.lt _ hm)
          have stV : StoStep W V F5 F1 := hst.trans (StoStep.of_below hbV)
          obtain ⟨xb, hxb⟩ : ∃ b, b = wr.heap.size := ⟨_, rfl⟩
          rw [← hxb] at bx hxF ⊢
          clear hV k0 k1 hxb hbV hst hS
          have hkk : k < 256 := by have := HCS.out.2; omega
          obtain ⟨K1, K2, K3⟩ := chk_la hL (by omega) hpx.c8
          have hz := K3.2 hpx.inn
          rw [if_pos hz] at K1
          obtain ⟨R1, hR1⟩ : ∃ R, R = ofV S x := ⟨_, rfl⟩
          obtain ⟨R2, hR2⟩ : ∃ R, R = notV R1.1 a := ⟨_, rfl⟩
          obtain ⟨R3, hR3⟩ : ∃ R, R = andV R2.1 R1.2 R2.2 := ⟨_, rfl⟩
          have eR : chkV S a x = R3 := by unfold chkV; rw [← hR1, ← hR2, ← hR3]
          rw [eR] at K1 hz
          have g1 : Gs R1.1 := by rw [hR1]; exact ofV_gs hL.gs x
          have g2 : Gs R2.1 := by rw [hR2]; exact notV_gs g1 a
          have D1 := hid (fun W F (h : StoIs W p F S) => hR1 ▸ hOf.out W F S h hL.gs x hpx.c8.cu)
          have D2 := hid (fun W F (h : StoIs W p F R1.1) => hR2 ▸ hNo.out W F _ h g1 a)
          have D3 := hid (fun W F (h : StoIs W p F R2.1) => hz ▸ hR3 ▸ hAn.out W F _ h g2 R1.2 R2.2)
          have MY := hid (fun W => hpx.c8.may ▸ cmay_any hpx.c8.cu W)
          have HLA := hid K1
          have x0 := bx.cell 0
          have x1 := bx.cell 1
          have zx := bx.lt
          simp only [List.getElem?_cons_zero, List.getElem?_cons_succ] at x0 x1
          clear hR1 hR2 hR3 eR g1 g2 K1 K2 K3 hz hL
          refine wp_region_doc (fun F' hF' => ?_)
          have HF := hid hF'
          clear hF'
          refine doc_val rfl (by first | (go_simp; done) | (go_simp; exact ⟨rfl, rfl⟩) | (go_simp; with_reducible rfl)) ?_
          simp only [Act.put, List.setIfInBounds_toArray, List.set_cons_zero, List.set_cons_succ]
          refine doc_call rfl (by first | (go_simp; done) | (go_simp; exact ⟨rfl, rfl⟩) | (go_simp; with_reducible rfl)) ((MY.out _).mono ?_)
          rintro _ _ ⟨rfl, mz, dz, rfl⟩
          refine ⟨_, rfl, ?_⟩
          simp only [Act.put, List.setIfInBounds_toArray, List.set_cons_zero, List.set_cons_succ]
          iterate 5 (refine doc_val rfl (by first | (go_simp; done) | (go_simp; exact ⟨rfl, rfl⟩) | (go_simp; with_reducible rfl)) ?_; simp only [Act.put, List.setIfInBounds_toArray, List.set_cons_zero, List.set_cons_succ])
          refine doc_call rfl (by first | (go_simp; done) | (go_simp; exact ⟨rfl, rfl⟩) | (go_simp; with_reducible rfl)) ((D1.out _ _ (hSV.ext _ _)).mono ?_)
          rintro _ q1 ⟨rfl, Fa, hSa, sta⟩
          refine ⟨_, rfl, ?_⟩
          simp only [Act.put, List.setIfInBounds_toArray, List.set_cons_zero, List.set_cons_succ]
          iterate 2 (refine doc_val rfl (by first | (go_simp; done) | (go_simp; exact ⟨rfl, rfl⟩) | (go_simp; with_reducible rfl)) ?_; simp only [Act.put, List.setIfInBounds_toArray, List.set_cons_zero, List.set_cons_succ])
          refine doc_call rfl (by first | (go_simp; done) | (go_simp; exact ⟨rfl, rfl⟩) | (go_simp; with_reducible rfl)) ((D2.out _ _ hSa).mono ?_)
          rintro _ q2 ⟨rfl, Fb, hSb, stb⟩
          refine ⟨_, rfl, ?_⟩
          simp only [Act.put, List.setIfInBounds_toArray, List.set_cons_zero, List.set_cons_succ]
          refine doc_call rfl (by first | (go_simp; done) | (go_simp; exact ⟨rfl, rfl⟩) | (go_simp; with_reducible rfl)) ((D3.out _ _ hSb).mono ?_)
          rintro _ q3 ⟨rfl, Fc, hSc, stc⟩
          refine ⟨_, rfl, ?_⟩
          simp only [Act.put, List.setIfInBounds_toArray, List.set_cons_zero, List.set_cons_succ]
          iterate 2 (refine doc_val rfl (by first | (go_simp; done) | (go_simp; exact ⟨rfl, rfl⟩) | (go_simp; with_reducible rfl)) ?_; simp only [Act.put, List.setIfInBounds_toArray, List.set_cons_zero, List.set_cons_succ])
          refine doc_end (HF.out _ _ ?_)
          clear HF F' D1 D2 D3
          have sV3 : StoStep V q3 F1 Fc := (StoStep.of_below (by (repeat' (first | (with_reducible exact Below.refl _ _) | (with_reducible refine Below.ext_mk ?_ ?_ _ _) | (with_reducible refine Below.alloc ?_ ?_ _) | (with_reducible refine Below.drew ?_) | (with_reducible refine Below.setCell ?_ ?_ _) | go_size)))).trans (sta.trans (stb.trans stc))
          clear sta stb stc hSa hSb hSV x0 x1 zx
          go_wp2
          have HPX := hid hpx
          clear hpx MY
          go_loopw [104] (fun i wr => ∃ (v : Nat) (S' : Sto) (F' : List Nat), v ≤ 64 ∧ i = .int .i64 v ∧ StoIs wr p F' S' ∧ StoStep V wr F1 F' ∧ LA f S' a (481816 + 600 * k + psiN x.1 v)) (fun i _ => 64 - (intOf i).toNat)
          case atStart => exact ⟨0, R3.1, Fc, by omega, rfl, hSc, sV3, HLA.out.weak (by rw [psiN]; omega)⟩
          case round =>
            obtain ⟨v, T, F2, hv, rfl, hT, stT, hL⟩ := hrel
            clear hSc sV3
            by_cases hv64 : v < 64
            · have hv0 : (0 : Int) ≤ (v : Int) := by omega
              have hvl : (v : Int) < 64 := by omega
              have u1 : IntKind.u64.wrap (2 ^ v) = 2 ^ v := wrap_pow hv64
              have a1 := andNot_pow HPX.out.c8.cu.1 hv64
              have a2 := andNot_pow HPX.out.c8.cu.2 hv64
              have bxr : Blk wr xb 85 [.int .u64 x.1, .int .u64 x.2] := bx.keep (stT.block xb bx.lt hxF)
              have x0 := bxr.cell 0
              have x1 := bxr.cell 1
              have zx := bxr.lt
              simp only [List.getElem?_cons_zero, List.getElem?_cons_succ] at x0 x1
              obtain ⟨y, hy⟩ : ∃ y, y = clrC x v := ⟨_, rfl⟩
              rw [show clrB x.1 v = y.1 by rw [hy]; rfl] at a1
              rw [show clrB x.2 v = y.2 by rw [hy]; rfl] at a2
              have HY := hid hy
              have hyo : C8 y := by rw [hy]; exact HPX.out.c8.clr hv64
              have HYO := hid hyo
              clear hy hyo
              go_upto_region 29 with (fail)
              refine wp_gen (fun Y hY => ?_)
              have hbY : Below wr.heap.size wr Y := by rw [hY]; (repeat' (first | (with_reducible exact Below.refl _ _) | (with_reducible refine Below.ext_mk ?_ ?_ _ _) | (with_reducible refine Below.alloc ?_ ?_ _) | (with_reducible refine Below.drew ?_) | (with_reducible refine Below.setCell ?_ ?_ _) | go_size))
              have byy : Blk Y wr.heap.size 85 [.int .u64 y.1, .int .u64 y.2] := by rw [hY]; exact Blk.new wr 85 [.int .u64 y.1, .int .u64 y.2]
              have bxY := bxr.below hbY
              have hTY := hT.below hbY
              have stY : StoStep V Y F1 F2 := stT.trans (StoStep.of_below hbY)
              obtain ⟨yb, hyb⟩ : ∃ b, b = wr.heap.size := ⟨_, rfl⟩
              rw [← hyb] at byy ⊢
              clear hY x0 x1 zx a1 a2 u1 hyb hbY stT hT bxr
              have x0 := bxY.cell 0
              have x1 := bxY.cell 1
              have zx := bxY.lt
              have y0 := byy.cell 0
              have y1 := byy.cell 1
              have zy := byy.lt
              simp only [List.getElem?_cons_zero, List.getElem?_cons_succ] at x0 x1 y0 y1
              have hkk : k < 256 := by have := HCS.out.2; omega
              have hps := psi_le HPX.out.c8.lt v
              by_cases hbit : Nat.testBit x.1 v = true
              · have hne1 : y.1 ≠ x.1 := by rw [HY.out]; exact (clrB_ne HPX.out.c8.lt hv64).2 hbit
                have hne : ((y.1 : Int) == (x.1 : Int)) = false := by simp; omega
                have hne2 : ¬ (y.1 : Int) = (x.1 : Int) := by omega
                have HPS : Hid (psiN x.1 (v + 1) = psiN x.1 v + (24 + costN (clrB x.1 v) 8)) := hid (by rw [psiN, if_pos hbit])
                obtain ⟨K1, K2, K3⟩ := chk_la hL (by omega) HYO.out
                have hz : ¬ (chkV T a y).2 = 0 := fun h => HPX.out.prime v hv64 hbit (by rw [← HY.out]; exact K3.1 h)
                rw [if_neg hz] at K1
                obtain ⟨Q1, hQ1⟩ : ∃ R, R = ofV T y := ⟨_, rfl⟩
                obtain ⟨Q2, hQ2⟩ : ∃ R, R = notV Q1.1 a := ⟨_, rfl⟩
                obtain ⟨Q3, hQ3⟩ : ∃ R, R = andV Q2.1 Q1.2 Q2.2 := ⟨_, rfl⟩
                have eR : chkV T a y = Q3 := by unfold chkV; rw [← hQ1, ← hQ2, ← hQ3]
                rw [eR] at K1 hz
                have g1 : Gs Q1.1 := by rw [hQ1]; exact ofV_gs hL.gs y
                have g2 : Gs Q2.1 := by rw [hQ2]; exact notV_gs g1 a
                have D1 := hid (fun W F (h : StoIs W p F T) => hQ1 ▸ hOf.out W F T h hL.gs y HYO.out.cu)
                have D2 := hid (fun W F (h : StoIs W p F Q1.1) => hQ2 ▸ hNo.out W F _ h g1 a)
                have D3 := hid (fun W F (h : StoIs W p F Q2.1) => hQ3 ▸ hAn.out W F _ h g2 Q1.2 Q2.2)
                have HLB := hid K1
                have hzn : (Q3.2 == 0) = false := by simpa using hz
                clear hQ1 hQ2 hQ3 eR g1 g2 K1 K2 K3 hL hne1
                refine wp_region_doc (fun F' hF' => ?_)
                have HF := hid hF'
                clear hF'
                iterate 7 (refine doc_val rfl (by first | (go_simp; done) | (go_simp; exact ⟨rfl, rfl⟩) | (go_simp; with_reducible rfl)) ?_; simp only [Act.put, List.setIfInBounds_toArray, List.set_cons_zero, List.set_cons_succ])
                refine doc_call rfl (by first | (go_simp; done) | (go_simp; exact ⟨rfl, rfl⟩) | (go_simp; with_reducible rfl)) ((D1.out _ _ hTY).mono ?_)
                rintro _ q4 ⟨rfl, Fd, hSd, std⟩
                refine ⟨_, rfl, ?_⟩
                simp only [Act.put, List.setIfInBounds_toArray, List.set_cons_zero, List.set_cons_succ]
                iterate 2 (refine doc_val rfl (by first | (go_simp; done) | (go_simp; exact ⟨rfl, rfl⟩) | (go_simp; with_reducible rfl)) ?_; simp only [Act.put, List.setIfInBounds_toArray, List.set_cons_zero, List.set_cons_succ])
                refine doc_call rfl (by first | (go_simp; done) | (go_simp; exact ⟨rfl, rfl⟩) | (go_simp; with_reducible rfl)) ((D2.out _ _ hSd).mono ?_)
                rintro _ q5 ⟨rfl, Fe, hSe, ste⟩
                refine ⟨_, rfl, ?_⟩
                simp only [Act.put, List.setIfInBounds_toArray, List.set_cons_zero, List.set_cons_succ]
                refine doc_call rfl (by first | (go_simp; done) | (go_simp; exact ⟨rfl, rfl⟩) | (go_simp; with_reducible rfl)) ((D3.out _ _ hSe).mono ?_)
                rintro _ q6 ⟨rfl, Ff, hSf, stf⟩
                refine ⟨_, rfl, ?_⟩
                simp only [Act.put, List.setIfInBounds_toArray, List.set_cons_zero, List.set_cons_succ]
                iterate 2 (refine doc_val rfl (by first | (go_simp; done) | (go_simp; exact ⟨rfl, rfl⟩) | (go_simp; with_reducible rfl)) ?_; simp only [Act.put, List.setIfInBounds_toArray, List.set_cons_zero, List.set_cons_succ])
                refine doc_end (HF.out _ _ ?_)
                clear HF F' D1 D2 D3
                have stZ : StoStep V q6 F1 Ff := stY.trans (std.trans (ste.trans stf))
                have HST := hid (And.intro hSf stZ)
                clear std ste stf hSd hSe hTY x0 x1 y0 y1 zx zy byy bxY stY hSf stZ
                go_wp2
                go_roundw
                case rel => exact ⟨v + 1, Q3.1, Ff, by omega, by go_num, HST.out.1, HST.out.2, HLB.out.weak (by rw [HPS.out, HY.out]; show _ + 24 + costN (clrB x.1 v) 8 ≤ _; omega)⟩
                case measure => first | (simp [intOf]; done) | (simp [intOf]; omega)
              · have hb1 : Nat.testBit x.1 v = false := by simpa using hbit
                have hyx : y = x := by
                  rw [HY.out]
                  have e1 : clrB x.1 v = x.1 := by
                    by_cases h : clrB x.1 v = x.1
                    · exact h
                    · exact absurd ((clrB_ne HPX.out.c8.lt hv64).1 h) hbit
                  have e2 : clrB x.2 v = x.2 := by
                    by_cases h : clrB x.2 v = x.2
                    · exact h
                    · exact absurd (HPX.out.c8.sub v ((clrB_ne HPX.out.c8.lt2 hv64).1 h)) hbit
                  unfold clrC
                  rw [e1, e2]
                have HPS : Hid (psiN x.1 (v + 1) = psiN x.1 v + 0) := hid (by rw [psiN, if_neg hbit])
                subst hyx
                clear HY HYO hbit hb1
                refine wp_region_doc (fun F hF => ?_)
                have HF := hid hF
                clear hF
                iterate 4 (refine doc_val rfl (by first | (go_simp; done) | (go_simp; exact ⟨rfl, rfl⟩) | (go_simp; with_reducible rfl)) ?_; simp only [Act.put, List.setIfInBounds_toArray, List.set_cons_zero, List.set_cons_succ])
                iterate 9 (refine doc_not rfl ?_; simp only [Act.put, List.setIfInBounds_toArray, List.set_cons_zero, List.set_cons_succ])
                iterate 1 (refine doc_val rfl (by first | (go_simp; done) | (go_simp; exact ⟨rfl, rfl⟩) | (go_simp; with_reducible rfl)) ?_; simp only [Act.put, List.setIfInBounds_toArray, List.set_cons_zero, List.set_cons_succ])
                refine doc_end (HF.out _ _ ?_)
                clear HF F
                have HST := hid (And.intro hTY stY)
                clear hTY x0 x1 y0 y1 zx zy byy bxY stY
                go_wp2
                go_roundw
                case rel => exact ⟨v + 1, T, F2, by omega, by go_num, HST.out.1, HST.out.2, hL.weak (by rw [HPS.out]; omega)⟩
                case measure => first | (simp [intOf]; done) | (simp [intOf]; omega)
            · obtain rfl : v = 64 := by omega
              have hps := psi_le HPX.out.c8.lt 64
              have HST := hid (And.intro hT (stV.trans stT))
              clear hT stT
              go_wp2
              go_roundw
              case rel => exact ⟨k + 1, T, F2, by omega, by go_num, HST.out.1, HST.out.2, hL.weak (by omega)⟩
              case measure => first | (simp [intOf]; done) | (simp [intOf]; omega)
        · obtain rfl : k = cs.length := by omega
          have hbw := HBW.out.trans (hst.below HLO.out HBW.out.size)
          have hsw := hbw.size
          go_wp2_with (go_at_call 60; refine (KN.out _).mono ?_; rintro e w' ⟨rfl, m9, d9, rfl⟩)
          go_returns
          exact Pure.of rfl (by (repeat' (first | (with_reducible exact hbw) | (with_reducible exact Below.refl _ _) | (with_reducible refine Below.ext_mk ?_ ?_ _ _) | (with_reducible refine Below.alloc ?_ ?_ _) | (with_reducible refine Below.drew ?_) | (with_reducible refine Below.setCell ?_ ?_ _) | go_size)))
end Go.Proofs.Ytboekafmplomhaa
