/-
  A world with more blocks behind it: the normal form of the world behind a call that only makes memory.
-/
import Derived.Test.YtkblldmpdihamaaRows
import Derived.WalkKit
import Derived.WalkSpells
import Derived.WalkLawsBesides
import Derived.Handy
import Derived.Deep.RegionHeld3
import Derived.Deep.DeepCutAuto
namespace Go
open Go.RowKit

/-- A fact kept from the walk. -/
theorem hid {p : Prop} (h : p) : Hid p := h

/-- The world w with the blocks m behind it, and d answers of the tape drawn. -/
def World.ext (w : World) (m : Array Obj) (d : Nat) : World := { w with heap := w.heap ++ m, drawn := d }

section
variable (w : World) (m : Array Obj) (d : Nat) (n i : Nat) (v : Value)
@[simp, go_sem] theorem World.size_ext : (w.ext m d).heap.size = w.heap.size + m.size := by simp [World.ext]
theorem World.heap_ext {k : Nat} (h : k < w.heap.size) : (w.ext m d).heap[k]? = w.heap[k]? := by
  simp [World.ext, Array.getElem?_append, h]
@[simp, go_sem] theorem World.cell?_ext (h : n < w.heap.size) : (w.ext m d).cell? ⟨n, i, none⟩ = w.cell? ⟨n, i, none⟩ := by
  simp only [World.cell?, World.heap_ext w m d h]
@[simp, go_sem] theorem World.frozen?_ext (h : n < w.heap.size) : (w.ext m d).frozen? ⟨n, i, none⟩ = w.frozen? ⟨n, i, none⟩ := by
  simp only [World.frozen?, World.heap_ext w m d h]
@[simp, go_sem] theorem World.setCell_ext (h : n < w.heap.size) : (w.ext m d).setCell ⟨n, i, none⟩ v = (w.setCell ⟨n, i, none⟩ v).ext m d := by
  simp only [World.setCell, World.ext]
  congr 1
  apply Array.ext_getElem?
  intro k
  by_cases hk : k < w.heap.size
  · simp only [Array.getElem?_append, Array.getElem?_modify, Array.size_modify, hk, if_true]
  · simp only [Array.getElem?_append, Array.getElem?_modify, Array.size_modify, hk, if_false]
    rw [if_neg (by omega)]
@[simp, go_sem] theorem World.drew_ext : (w.ext m d).drew = w.ext m (d + 1) := rfl
@[simp, go_sem] theorem World.ext_drew : w.drew.ext m d = w.ext m d := rfl
@[simp, go_sem] theorem World.ext_ext (m' : Array Obj) (d' : Nat) : (w.ext m d).ext m' d' = w.ext (m ++ m') d' := by
  simp [World.ext]
@[simp, go_sem] theorem lt_add_size (h : n < i) : (n < i + m.size) = True := by simp; omega
@[simp, go_sem] theorem le_add_one (h : n ≤ i) : (n ≤ i + 1) = True := by simp; omega
@[simp, go_sem] theorem lt_add_one (h : n ≤ i) : (n < i + 1) = True := by simp; omega
@[simp, go_sem] theorem lt_add_pair (a b : Nat) (h : n < i) : (n < i + (a + b)) = True := by simp; omega
@[simp, go_sem] theorem le_add_pair (a b : Nat) (h : n ≤ i) : (n ≤ i + (a + b)) = True := by simp; omega
@[simp, go_sem] theorem le_add_pair' (a b : Nat) (h : n < i) : (n ≤ i + (a + b)) = True := by simp; omega
@[simp, go_sem] theorem le_add_size' (h : n < i) : (n ≤ i + m.size) = True := by simp; omega
@[simp, go_sem] theorem le_add_pair1 (a b : Nat) (h : n < i) : (n ≤ i + (a + b) + 1) = True := by simp; omega
@[simp, go_sem] theorem le_add_size1 (h : n < i) : (n ≤ i + m.size + 1) = True := by simp; omega
@[simp, go_sem] theorem le_add_size (h : n ≤ i) : (n ≤ i + m.size) = True := by simp; omega
end

theorem Below.to_ext {w w' : World} (h : RowKit.Below w.heap.size w w') : ∃ m d, w' = w.ext m d := by
  refine ⟨w'.heap.extract w.heap.size w'.heap.size, w'.drawn, ?_⟩
  obtain ⟨h1, h2, h3, h4, h5⟩ := h
  obtain ⟨hp', t', d', o', p'⟩ := w'
  obtain ⟨hp, t, d, o, p⟩ := w
  simp only [World.ext] at *
  subst h1 h2 h3
  congr 1
  apply Array.ext_getElem?
  intro i
  by_cases hi : i < hp.size
  · rw [h5 i hi, Array.getElem?_append, if_pos hi]
  · rw [Array.getElem?_append, if_neg hi, Array.getElem?_extract]
    by_cases h6 : i < hp'.size
    · rw [if_pos (by omega)]; congr 1; omega
    · rw [if_neg (by omega)]; exact Array.getElem?_eq_none (by omega)

theorem Below.ext_mk {B : Nat} {a w : World} (h : RowKit.Below B a w) (hB : B ≤ w.heap.size) (m : Array Obj) (d : Nat) : RowKit.Below B a (w.ext m d) :=
  h.trans ⟨rfl, rfl, rfl, by simp, fun k hk => World.heap_ext _ _ _ (by omega)⟩

/-- What a function that only computes gives back: the value, and a world of more blocks. -/
def Pure (v : Value) (w : World) (e : Ending) (w' : World) : Prop := e = .returned v ∧ ∃ m d, w' = w.ext m d
theorem Pure.of {v v' : Value} {w w' : World} (h : v' = v) (hb : RowKit.Below w.heap.size w w') : Pure v w (.returned v') w' := ⟨by rw [h], Below.to_ext hb⟩
theorem Pure.mk {v : Value} {w w' : World} (h : RowKit.Below w.heap.size w w') : Pure v w (.returned v) w' := ⟨rfl, Below.to_ext h⟩

/-- A call of a function value that lies in a slot. -/
def callVal (v : Value) (xs : Array Value) : Sem Next := do
  let d ← Deferred.ofValue v xs
  invoke d.target d.args
@[go_sem ↓] theorem execOp_call_tmp (a : Act) (dst : Option Tmp) (t : Tmp) (xs : Array Operand) (ats : Array TypeId) (ty : TypeId) (pos : String) (after : Array Edge) (guard : Option (Nat × Bool)) :
    execOp a.eval { dst, op := .call { callee := .value (.tmp t), args := xs, argTypes := ats }, type := ty, pos, after, guard } = callVal (a.eval (.tmp t)) (xs.map a.eval) := rfl
@[go_sem] theorem callVal_func (k : FuncId) (fst cap xs : Array Value) : callVal (.func (.func k) fst cap) xs = callFunc k (fst ++ xs ++ cap) := rfl
end Go
