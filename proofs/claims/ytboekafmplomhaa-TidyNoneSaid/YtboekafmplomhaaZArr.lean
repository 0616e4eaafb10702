/-
  Blocks that are known whole; whole arrays loaded, stored, handed back.
-/
import Derived.Test.YtboekafmplomhaaZV2
import Derived.Test.YtboekafmplomhaaZDoC
import Derived.Laws.MakeOwn
import Derived.Laws.Rows
import Derived.Deep.WholeRow
set_option linter.unusedVariables false
set_option linter.unusedSimpArgs false
namespace Go
open Go.RowKit

/-- A block of just these cells. -/
def Blk (w : World) (g : Nat) (e : TypeId) (xs : List Value) : Prop := w.heap[g]? = some (.cells xs.toArray e (0, 0))
section
variable {w w' : World} {g : Nat} {e : TypeId} {xs : List Value}
theorem Blk.lt (h : Blk w g e xs) : g < w.heap.size := (Array.getElem?_eq_some_iff.1 h).1
theorem Blk.cell (h : Blk w g e xs) (i : Nat) : w.cell? ⟨g, i, none⟩ = xs[i]? := by unfold Blk at h; simp [World.cell?, h]
theorem Blk.free (h : Blk w g e xs) (i : Nat) : w.frozen? ⟨g, i, none⟩ = false := by unfold Blk at h; simp [World.frozen?, h]
theorem Blk.keep (h : Blk w g e xs) (hk : w'.heap[g]? = w.heap[g]?) : Blk w' g e xs := by unfold Blk at *; rw [hk]; exact h
theorem Blk.cast {ys : List Value} (h : Blk w g e xs) (he : xs = ys) : Blk w g e ys := he ▸ h
theorem Blk.below (h : Blk w g e xs) (hb : Below w.heap.size w w') : Blk w' g e xs := h.keep (hb.block g h.lt)
theorem Blk.ext (h : Blk w g e xs) (m : Array Obj) (d : Nat) : Blk (w.ext m d) g e xs := h.keep (World.heap_ext _ _ _ h.lt)
theorem Blk.set_ (h : Blk w g e xs) (i : Nat) (v : Value) : Blk (w.setCell ⟨g, i, none⟩ v) g e (xs.set i v) := by
  unfold Blk at *; simp [World.setCell, Array.getElem?_modify, h]
theorem Blk.far (h : Blk w g e xs) {b : Nat} (hb : b ≠ g) (i : Nat) (v : Value) : Blk (w.setCell ⟨b, i, none⟩ v) g e xs := h.keep (Below.heap_setCell _ _ _ _ (fun e => hb e.symm))
theorem Blk.row (h : Blk w g e xs) (ys : List Value) : Blk (w.setRow g ys.toArray) g e ys := setRow_heap w g xs.toArray ys.toArray e _ h
theorem Blk.farRow (h : Blk w g e xs) {b : Nat} (hb : b ≠ g) (cs : Array Value) : Blk (w.setRow b cs) g e xs := h.keep (by
  unfold World.setRow; simp [Array.getElem?_modify, hb])
theorem Blk.new (w : World) (e : TypeId) (xs : List Value) : Blk (w.alloc (.cells xs.toArray e)) w.heap.size e xs := heap_alloc_new w _
theorem Below.setRow {B : Nat} {a : World} (h : Below B a w) (hg : B ≤ g) (cs : Array Value) : Below B a (w.setRow g cs) :=
  ⟨h.os, h.tape, h.output, by simpa using h.size, fun k hk => by
    rw [← h.block k hk]; unfold World.setRow; simp [Array.getElem?_modify, show ¬ g = k by omega]⟩
end

section
variable {P : Program} {w : World}
/-- A whole array is loaded. -/
theorem load_row_op (a : Act) (dst : Option Tmp) (ty t : TypeId) (x : Operand) (pos : String) (after : Array Edge) (guard : Option (Nat × Bool)) {g n : Nat} {el e : TypeId} {xs : List Value}
    (hu : P.underlying ty = some (.array n el)) (hi : (P.info? ty).map (·.size) = some xs.length) (hx : a.eval x = .pointer (some ⟨g, 0, none⟩)) (hg : Blk w g e xs) :
    (execOp a.eval { dst, op := .load ty x, type := t, pos, after, guard }).run P w = .ok (.value (.agg xs.toArray)) w := by
  have h := run_loadVar_row (P := P) w g e ty xs.toArray (0, 0) _ hg hu rfl (by simpa using hi)
  unfold execOp
  simp only [hx, Instr.loadAt, Instr.sureAddr, Sem.run_bind, Sem.run_pure, Result.andThen_ok, h]
/-- A whole array is stored. -/
theorem store_row_op (a : Act) (dst : Option Tmp) (ty t : TypeId) (x y : Operand) (pos : String) (after : Array Edge) (guard : Option (Nat × Bool)) {g : Nat} {e : TypeId} {xs ys : List Value}
    (hi : (P.info? ty).map (·.size) = some ys.length) (hl : xs.length = ys.length) (h1 : ys.all (·.oneCell') = true) (hx : a.eval x = .pointer (some ⟨g, 0, none⟩)) (hy : a.eval y = .agg ys.toArray) (hg : Blk w g e xs) :
    (execOp a.eval { dst, op := .store ty x y, type := t, pos, after, guard }).run P w = .ok .skip (w.setRow g ys.toArray) := by
  have h := run_storeVar_row (P := P) w g e ty xs.toArray ys.toArray hg (by simpa using hi) (by simpa using hl) (by simpa using h1)
  unfold execOp
  simp only [hx, hy, Instr.storeAt, Instr.sureAddr, Sem.run_bind, Sem.run_pure, Result.andThen_ok, h]
end
end Go
