/-
  A region that draws its order, whose head makes blocks of its own beside pure calls: walked once, in the order of the text; where the blocks lie is told at its end alone.
-/
import Derived.Test.YtboekafmplomhaaZV
import Derived.Test.YtboekafmplomhaaZDoC
import Derived.Laws.MakeOwn
import Derived.Laws.Rows
import Derived.Deep.WholeRow
import Derived.Test.YtboekafmplomhaaZQuantL
import Derived.Test.YtboekafmplomhaaZAny
import Derived.Test.YtboekafmplomhaaZLund
set_option linter.unusedVariables false
set_option linter.unusedSimpArgs false
namespace Go
open Go.RowKit

section
variable {P : Program} {ops : Array Oper} {Q : Exit → Act → World → Prop} {W : World} {F : Act → Prop} {o : Oper} {r : List Oper} {a : Act} {v : Value} {G : Nat → Value → World → Prop}

/-- An operation; 'made': it makes a block, and what it gives hangs on when it comes up. -/
structure EntM where
  i : Nat
  o : Oper
  v : Value
  made : Bool

/-- In every world behind W the operation gives v, and makes no more than memory. -/
def G2 (P : Program) (W : World) (o : Oper) (v : Value) (a : Act) : Prop :=
  ∀ m d, match (execOp a.eval o).run P (W.ext m d) with
    | .ok (.value u) w' => u = v ∧ Ext (W.ext m d) w'
    | .ok .skip w' => undef = v ∧ Ext (W.ext m d) w'
    | .ok (.enter f args) w' => Calls P f args w' (fun e w'' => e = .returned v ∧ Ext (W.ext m d) w'')
    | _ => False
/-- The block that a value leads to. -/
def blkOf : Value → Nat
  | .pointer (some a) => a.block
  | .slice (some a) _ _ => a.block
  | .map (some b) => b
  | _ => 0
/-- It makes a block, of which G speaks. -/
def GK (P : Program) (W : World) (G : Nat → Value → World → Prop) (i : Nat) (o : Oper) (a : Act) : Prop :=
  ∀ m d, ∃ u w', (execOp a.eval o).run P (W.ext m d) = .ok (.value u) w' ∧ Ext (W.ext m d) w' ∧ G i u w' ∧ (W.ext m d).heap.size ≤ blkOf u ∧ blkOf u < w'.heap.size
def GivesM (P : Program) (ops : Array Oper) (W : World) (G : Nat → Value → World → Prop) (x : EntM) (a : Act) : Prop :=
  (x.made = true ∧ Region.wanted x.o (yielded ops a.tmps) = true ∧ GK P W G x.i x.o a) ∨
  (x.made = false ∧ ((Region.wanted x.o (yielded ops a.tmps) = true ∧ G2 P W x.o x.v a) ∨ (Region.wanted x.o (yielded ops a.tmps) = false ∧ x.v = undef)))
theorem GivesM.of_same {x : EntM} {a a' : Act} (h : GivesM P ops W G x a) (he : execOp a'.eval x.o = execOp a.eval x.o)
    (hw : Region.wanted x.o (yielded ops a'.tmps) = Region.wanted x.o (yielded ops a.tmps)) : GivesM P ops W G x a' := by
  unfold GivesM GK G2 at *; rw [he, hw]; exact h
/-- Two that are apart: neither reads what the other one gives. -/
structure Far (ops : Array Oper) (x y : EntM) : Prop where
  comm : ∀ (a : Act) u v, (a.put x.o.dst u).put y.o.dst v = (a.put y.o.dst v).put x.o.dst u
  ex : ∀ (a : Act) u, execOp (a.put y.o.dst u).eval x.o = execOp a.eval x.o
  wx : ∀ (a : Act) u, Region.wanted x.o (yielded ops (a.put y.o.dst u).tmps) = Region.wanted x.o (yielded ops a.tmps)
  ey : ∀ (a : Act) u, execOp (a.put x.o.dst u).eval y.o = execOp a.eval y.o
  wy : ∀ (a : Act) u, Region.wanted y.o (yielded ops (a.put x.o.dst u).tmps) = Region.wanted y.o (yielded ops a.tmps)
theorem Far.symm {x y : EntM} (h : Far ops x y) : Far ops y x := ⟨fun a u v => (h.comm a v u).symm, h.ey, h.wy, h.ex, h.wx⟩
end
end Go
set_option linter.unusedVariables false
set_option linter.unusedSimpArgs false
namespace Go
open Go.RowKit

/-- A block of just these cells. -/
def Blk (w : World) (g : Nat) (e : TypeId) (xs : List Value) : Prop := w.heap[g]? = some (.cells xs.toArray e (0, 0))
section
variable {w w' : World} {g : Nat} {e : TypeId} {xs : List Value}
theorem Blk.lt (h : Blk w g e xs) : g < w.heap.size := (Array.getElem?_eq_some_iff.1 h).1
theorem Blk.cell (h : Blk w g e xs) (i : Nat) : w.cell? ⟨g, i, none⟩ = xs[i]? := by unfold Blk at h; simp [World.cell?, h]
theorem Blk.free (h : Blk w g e xs) (i : Nat) : w.frozen? ⟨g, i, none⟩ = false := by unfold Blk at h; simp [World.frozen?, h]
theorem Blk.keep (h : Blk w g e xs) (hk : w'.heap[g]? = w.heap[g]?) : Blk w' g e xs := by unfold Blk at *; rw [hk]; exact h
theorem Blk.below (h : Blk w g e xs) (hb : Below w.heap.size w w') : Blk w' g e xs := h.keep (hb.block g h.lt)
theorem Blk.ext (h : Blk w g e xs) (m : Array Obj) (d : Nat) : Blk (w.ext m d) g e xs := h.keep (World.heap_ext _ _ _ h.lt)
theorem Blk.set_ (h : Blk w g e xs) (i : Nat) (v : Value) : Blk (w.setCell ⟨g, i, none⟩ v) g e (xs.set i v) := by
  unfold Blk at *; simp [World.setCell, Array.getElem?_modify, h]
theorem Blk.far (h : Blk w g e xs) {b : Nat} (hb : b ≠ g) (i : Nat) (v : Value) : Blk (w.setCell ⟨b, i, none⟩ v) g e xs := h.keep (Below.heap_setCell _ _ _ _ (fun e => hb e.symm))
theorem Blk.row (h : Blk w g e xs) (ys : List Value) : Blk (w.setRow g ys.toArray) g e ys := setRow_heap w g xs.toArray ys.toArray e _ h
theorem Blk.farRow (h : Blk w g e xs) {b : Nat} (hb : b ≠ g) (cs : Array Value) : Blk (w.setRow b cs) g e xs := h.keep (by
  unfold World.setRow; simp [Array.getElem?_modify, hb])
theorem Blk.new (w : World) (e : TypeId) (xs : List Value) : Blk (w.alloc (.cells xs.toArray e)) w.heap.size e xs := heap_alloc_new w _
theorem Below.setRow {B : Nat} {a : World} (h : Below B a w) (hg : B ≤ g) (cs : Array Value) : Below B a (w.setRow g cs) :=
  ⟨h.os, h.tape, h.output, by simpa using h.size, fun k hk => by
    rw [← h.block k hk]; unfold World.setRow; simp [Array.getElem?_modify, show ¬ g = k by omega]⟩
end

section
variable {P : Program} {w : World}
/-- A whole array is stored. -/
theorem store_row_op (a : Act) (dst : Option Tmp) (ty t : TypeId) (x y : Operand) (pos : String) (after : Array Edge) (guard : Option (Nat × Bool)) {g : Nat} {e : TypeId} {xs ys : List Value}
    (hi : (P.info? ty).map (·.size) = some ys.length) (hl : xs.length = ys.length) (h1 : ys.all (·.oneCell') = true) (hx : a.eval x = .pointer (some ⟨g, 0, none⟩)) (hy : a.eval y = .agg ys.toArray) (hg : Blk w g e xs) :
    (execOp a.eval { dst, op := .store ty x y, type := t, pos, after, guard }).run P w = .ok .skip (w.setRow g ys.toArray) := by
  have h := run_storeVar_row (P := P) w g e ty xs.toArray ys.toArray hg (by simpa using hi) (by simpa using hl) (by simpa using h1)
  unfold execOp
  simp only [hx, hy, Instr.storeAt, Instr.sureAddr, Sem.run_bind, Sem.run_pure, Result.andThen_ok, h]
end
end Go
set_option linter.unusedVariables false
set_option linter.unusedSimpArgs false
namespace Go.Proofs.Ytboekafmplomhaa
open Go.RowKit

structure SupW (w : World) (p km kb i0 i1 i3 : Nat) (F : List Nat) (S : Sto) (K : List (Int × Int)) (O : List Bool) : Prop where
  sto : StoIs w p F S
  map : MapIs ki w km K
  blk : Blk w kb 127 (bools O)
  len : O.length = 64
  fm : km ∉ F
  fb : kb ∉ F
  ne : km ≠ kb
  z0 : i0 < w.heap.size
  z1 : i1 < w.heap.size
  z3 : i3 < w.heap.size
  m0 : i0 ≠ km
  m1 : i1 ≠ km
  m3 : i3 ≠ km
  b0 : i0 ≠ kb
  b1 : i1 ≠ kb
  b3 : i3 ≠ kb
  c0 : w.cell? ⟨i0, 0, none⟩ = some (.pointer (some ⟨p, 0, none⟩))
  c1 : w.cell? ⟨i1, 0, none⟩ = some (.map (some km))
  c3 : w.cell? ⟨i3, 0, none⟩ = some (.func (.func 101) #[] #[.pointer (some ⟨i0, 0, none⟩), .pointer (some ⟨i1, 0, none⟩), .pointer (some ⟨kb, 0, none⟩), .pointer (some ⟨i3, 0, none⟩)])

section
variable {w w' : World} {p km kb i0 i1 i3 : Nat} {F : List Nat} {S : Sto} {K K' : List (Int × Int)} {O O' : List Bool}
theorem SupW.step (h : SupW w p km kb i0 i1 i3 F S K O) (st : StoStep w w' [km, kb] [km, kb]) (hm : MapIs ki w' km K') (hb : Blk w' kb 127 (bools O')) (hl : O'.length = 64) : SupW w' p km kb i0 i1 i3 F S K' O' :=
  have hk : ∀ k, k < w.heap.size → k ≠ km → k ≠ kb → w'.heap[k]? = w.heap[k]? := fun k h1 h2 h3 => st.block k h1 (by simp [h2, h3])
  { sto := h.sto.keep (fun k hk' => hk k (h.sto.lt k hk') (fun e => h.fm (e ▸ hk')) (fun e => h.fb (e ▸ hk')))
    map := hm, blk := hb, len := hl, fm := h.fm, fb := h.fb, ne := h.ne
    z0 := Nat.lt_of_lt_of_le h.z0 st.size, z1 := Nat.lt_of_lt_of_le h.z1 st.size, z3 := Nat.lt_of_lt_of_le h.z3 st.size
    m0 := h.m0, m1 := h.m1, m3 := h.m3, b0 := h.b0, b1 := h.b1, b3 := h.b3
    c0 := (cell_of_heap 0 (hk _ h.z0 h.m0 h.b0)).trans h.c0
    c1 := (cell_of_heap 0 (hk _ h.z1 h.m1 h.b1)).trans h.c1
    c3 := (cell_of_heap 0 (hk _ h.z3 h.m3 h.b3)).trans h.c3 }
theorem SupW.below (h : SupW w p km kb i0 i1 i3 F S K O) (hb : Below w.heap.size w w') : SupW w' p km kb i0 i1 i3 F S K O :=
  h.step (StoStep.of_below hb) (MapIs.keep h.map (hb.block _ (MapIs.lt h.map))) (h.blk.below hb) h.len
theorem SupW.put (h : SupW w p km kb i0 i1 i3 F S K O) (o : Obj) (hm : MapIs ki (w.putObj km o) km K') (v : Nat) :
    SupW ((w.putObj km o).setCell ⟨kb, v, none⟩ (.bool true)) p km kb i0 i1 i3 F S K' (O.set v true) ∧ StoStep w ((w.putObj km o).setCell ⟨kb, v, none⟩ (.bool true)) [km, kb] [km, kb] := by
  have s1 : StoStep w (w.putObj km o) [km, kb] [km, kb] := StoStep.put (by simp) o
  have s2 : StoStep (w.putObj km o) ((w.putObj km o).setCell ⟨kb, v, none⟩ (.bool true)) [km, kb] [km, kb] :=
    ⟨rfl, rfl, rfl, by simp [World.setCell], fun k hk hn => Below.heap_setCell _ _ _ _ (fun e => hn (by simp at e; simp [e])), fun k hk => .inl hk⟩
  refine ⟨h.step (s1.trans s2) (MapIs.keep hm (Below.heap_setCell _ _ _ _ (fun e => h.ne e))) ?_ (by simp [h.len]), s1.trans s2⟩
  have hb : Blk (w.putObj km o) kb 127 (bools O) := h.blk.keep (World.heap_putObj_ne _ _ (fun e => h.ne e.symm))
  have := hb.set_ v (.bool true)
  rw [show bools (O.set v true) = (bools O).set v (.bool true) by simp [bools, List.map_set]]
  exact this
end

theorem atV_yes {S : Sto} {x : Int} (h : (atV S x).2 = true) : ∃ (i : Nat) (n : Nd), x = (i : Int) + 2 ∧ S.nodes[i]? = some n ∧ atV S x = (n, true) ∧ rightOf S x = x := by
  unfold atV at h
  by_cases h2 : rightOf S x < 2
  · rw [if_pos h2] at h; cases h
  · obtain ⟨e1, e2, e3⟩ := rightOf_two h2
    obtain ⟨i, rfl⟩ : ∃ i : Nat, x = (i : Int) + 2 := ⟨(x - 2).toNat, by omega⟩
    have hi : i < S.nodes.length := by omega
    refine ⟨i, S.nodes[i], rfl, by simp [hi], ?_, e1⟩
    unfold atV
    rw [if_neg h2, show ((i : Int) + 2 - 2).toNat = i by omega]
    simp [hi]

theorem branchy_size (x y z : Value) : (Try.prog.info? 39).map (·.size) = some [x, y, z].length := by
  have h : (Try.prog.info? 39).map (·.size) = some 3 := by kernel_rfl
  exact h

end Go.Proofs.Ytboekafmplomhaa
