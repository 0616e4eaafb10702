/-
  Package tidy: each goes over the nodes of diagrams, in their order (whatever store, whatever is done at each).
-/
import Derived.Test.YtboekafmplomhaaZSup
set_option linter.unusedVariables false
set_option linter.unusedSimpArgs false
namespace Go.Proofs.Ytboekafmplomhaa
open Go.RowKit

theorem load_struct_op {w : World} (a : Act) (dst : Option Tmp) (ty t : TypeId) (x : Operand) (pos : String) (after : Array Edge) (guard : Option (Nat × Bool)) {g : Nat} {e : TypeId} {xs : List Value} {fs : _}
    (hu : Try.prog.underlying ty = some (.struct fs)) (hi : (Try.prog.info? ty).map (·.size) = some xs.length) (hx : a.eval x = .pointer (some ⟨g, 0, none⟩)) (hg : Blk w g e xs) :
    (execOp a.eval { dst, op := .load ty x, type := t, pos, after, guard }).run Try.prog w = .ok (.value (.agg xs.toArray)) w := by
  have h := run_loadVar_row (P := Try.prog) w g e ty xs.toArray (0, 0) _ hg hu rfl (by simpa using hi)
  unfold execOp
  simp only [hx, Instr.loadAt, Instr.sureAddr, Sem.run_bind, Sem.run_pure, Result.andThen_ok, h]

structure Src (q : Option Addr) (F : List Nat) (St : World → Prop) (at_ : Int → Nd × Bool) (rk : Int → Nat) : Prop where
  keep : ∀ w w', St w → (∀ k ∈ F, w'.heap[k]? = w.heap[k]?) → St w'
  lt : ∀ w, St w → ∀ k ∈ F, k < w.heap.size
  call : ∀ w, St w → ∀ a, Calls Try.prog 21 #[.pointer q, .int .i64 a] w (Pure (.tuple #[.agg #[.int .i64 (at_ a).1.1, .int .i64 (at_ a).1.2.1, .int .i64 (at_ a).1.2.2], .bool (at_ a).2]) w)
  lo : ∀ a, (at_ a).2 = true → rk (at_ a).1.2.1 < rk a
  hi : ∀ a, (at_ a).2 = true → rk (at_ a).1.2.2 < rk a
structure Doer (kf : FuncId) (cap : Array Value) (at_ : Int → Nd × Bool) (I : List Nat → List Int → World → Prop) : Prop where
  keep : ∀ M L w w', I M L w → (∀ k ∈ M, w'.heap[k]? = w.heap[k]?) → I M L w'
  lt : ∀ M L w, I M L w → ∀ k ∈ M, k < w.heap.size
  enter : ∀ args w, (callFunc kf args).run Try.prog w = .ok (.enter kf args) w
  call : ∀ M L w a, (at_ a).2 = true → I M L w → Calls Try.prog kf (#[.int .i64 a, .agg #[.int .i64 (at_ a).1.1, .int .i64 (at_ a).1.2.1, .int .i64 (at_ a).1.2.2]] ++ cap) w
    (fun e w' => e = .returned (.tuple #[]) ∧ ∃ M', I M' (L ++ [a]) w' ∧ StoStep w w' M M')

structure EachW (q : Option Addr) (F : List Nat) (St : World → Prop) (dv : Value) (w : World) (km i0 i1 i3 i4 : Nat) (K : List (Int × Int)) (M : List Nat) : Prop where
  st : St w
  map : MapIs ki w km K
  fm : km ∉ F
  mm : km ∉ M
  FM : ∀ k ∈ F, k ∉ M
  z0 : i0 < w.heap.size
  z1 : i1 < w.heap.size
  z3 : i3 < w.heap.size
  z4 : i4 < w.heap.size
  m0 : i0 ≠ km
  m1 : i1 ≠ km
  m3 : i3 ≠ km
  m4 : i4 ≠ km
  n0 : i0 ∉ M
  n1 : i1 ∉ M
  n3 : i3 ∉ M
  n4 : i4 ∉ M
  c0 : w.cell? ⟨i0, 0, none⟩ = some (.pointer q)
  c1 : w.cell? ⟨i1, 0, none⟩ = some (.map (some km))
  c3 : w.cell? ⟨i3, 0, none⟩ = some (.func (.func 136) #[] #[.pointer (some ⟨i0, 0, none⟩), .pointer (some ⟨i1, 0, none⟩), .pointer (some ⟨i3, 0, none⟩), .pointer (some ⟨i4, 0, none⟩)])
  c4 : w.cell? ⟨i4, 0, none⟩ = some dv

section
variable {q : Option Addr} {F : List Nat} {St : World → Prop} {at_ : Int → Nd × Bool} {rk : Int → Nat} {kf : FuncId} {cap : Array Value} {I : List Nat → List Int → World → Prop}
variable {w w' : World} {dv : Value} {km i0 i1 i3 i4 : Nat} {K K' : List (Int × Int)} {M M' : List Nat}
theorem EachW.step (h : EachW q F St dv w km i0 i1 i3 i4 K M) (hs : Src q F St at_ rk) (st : StoStep w w' (km :: M) (km :: M')) (hm : MapIs ki w' km K') (mm : km ∉ M') : EachW q F St dv w' km i0 i1 i3 i4 K' M' :=
  have hk : ∀ k, k < w.heap.size → k ≠ km → k ∉ M → w'.heap[k]? = w.heap[k]? := fun k h1 h2 h3 => st.block k h1 (by simp [h2, h3])
  have hn : ∀ k, k < w.heap.size → k ≠ km → k ∉ M → k ∉ M' := fun k h1 h2 h3 h4 => st.keeps h1 (by simp [h2, h3]) (List.mem_cons_of_mem _ h4)
  { st := hs.keep w w' h.st (fun k hk' => hk k (hs.lt w h.st k hk') (fun e => h.fm (e ▸ hk')) (h.FM k hk'))
    map := hm, fm := h.fm, mm := mm
    FM := fun k hk' => hn k (hs.lt w h.st k hk') (fun e => h.fm (e ▸ hk')) (h.FM k hk')
    z0 := Nat.lt_of_lt_of_le h.z0 st.size, z1 := Nat.lt_of_lt_of_le h.z1 st.size, z3 := Nat.lt_of_lt_of_le h.z3 st.size, z4 := Nat.lt_of_lt_of_le h.z4 st.size
    m0 := h.m0, m1 := h.m1, m3 := h.m3, m4 := h.m4
    n0 := hn _ h.z0 h.m0 h.n0, n1 := hn _ h.z1 h.m1 h.n1, n3 := hn _ h.z3 h.m3 h.n3, n4 := hn _ h.z4 h.m4 h.n4
    c0 := (cell_of_heap 0 (hk _ h.z0 h.m0 h.n0)).trans h.c0
    c1 := (cell_of_heap 0 (hk _ h.z1 h.m1 h.n1)).trans h.c1
    c3 := (cell_of_heap 0 (hk _ h.z3 h.m3 h.n3)).trans h.c3
    c4 := (cell_of_heap 0 (hk _ h.z4 h.m4 h.n4)).trans h.c4 }
theorem EachW.below (h : EachW q F St dv w km i0 i1 i3 i4 K M) (hs : Src q F St at_ rk) (hb : Below w.heap.size w w') : EachW q F St dv w' km i0 i1 i3 i4 K M :=
  h.step hs (StoStep.of_below hb) (MapIs.keep h.map (hb.block _ (MapIs.lt h.map))) h.mm
theorem EachW.put (h : EachW q F St dv w km i0 i1 i3 i4 K M) (hs : Src q F St at_ rk) (o : Obj) (hm : MapIs ki (w.putObj km o) km K') : EachW q F St dv (w.putObj km o) km i0 i1 i3 i4 K' M ∧ StoStep w (w.putObj km o) (km :: M) (km :: M) :=
  have s1 : StoStep w (w.putObj km o) (km :: M) (km :: M) := StoStep.put (by simp) o
  ⟨h.step hs s1 hm h.mm, s1⟩

end
end Go.Proofs.Ytboekafmplomhaa
