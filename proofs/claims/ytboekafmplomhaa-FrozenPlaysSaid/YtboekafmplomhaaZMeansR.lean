/-
  A new store.
-/
import Derived.Test.YtboekafmplomhaaZCallsB
import Derived.Test.YtboekafmplomhaaZDead
import Derived.Test.YtboekafmplomhaaZMeansP
import Derived.Test.YtboekafmplomhaaZLund
import Derived.Test.YtboekafmplomhaaZDoC
import Derived.Laws.MakeOwn
set_option linter.unusedVariables false
set_option linter.unusedSimpArgs false
namespace Go.Proofs.Ytboekafmplomhaa
open Go.RowKit

/-- A new store, in blocks of its own. -/
def NewAt (w : World) (cap : Int) (e : Ending) (w' : World) : Prop :=
  ∃ p F, e = .returned (.tuple #[.pointer (some ⟨p, 0, none⟩), .int .i64 0]) ∧ StoIs w' p F (newS cap) ∧ Below w.heap.size w w' ∧ ∀ k ∈ F, w.heap.size ≤ k
theorem new_call (cap : Int) (h1 : 2 ≤ cap) (h2 : cap ≤ 1048576) (w : World) :
    Calls Try.prog 15 #[.int .i64 cap] w (NewAt w cap) := by
  have hmm := @run_makeMap Try.prog
  go_enter Try.func15, Try.ntmps15
  go_wp2
  go_returns
  refine ⟨w.heap.size + 1 + 1, [w.heap.size + 1 + 1, w.heap.size, w.heap.size + 1], rfl, ?_, ?_, ?_⟩
  · refine ⟨.slice none 0 0, none, w.heap.size, w.heap.size + 1, ?_, ⟨rfl, .inl ⟨rfl, rfl, rfl⟩⟩, ⟨#[], 0, ?_, rfl⟩, ⟨#[], 0, ?_, rfl⟩, rfl, ?_⟩
    · have e := World.heap_alloc_last ((w.alloc (.map #[] 0)).alloc (.map #[] 0)) (.cells #[.int .i64 cap, .slice none 0 0, .map (some w.heap.size), .map (some (w.heap.size + 1)), .bool false] 47)
      simpa [newS] using e
    · rw [Below.heap_alloc _ _ _ (by simp), Below.heap_alloc _ _ _ (by simp)]
      exact World.heap_alloc_last w _
    · rw [Below.heap_alloc _ _ _ (by simp)]
      have e := World.heap_alloc_last (w.alloc (.map #[] 0)) (.map #[] 0)
      simpa using e
    · simp; omega
  · (repeat' (first | (with_reducible exact Below.refl _ _) | (with_reducible refine Below.ext_mk ?_ ?_ _ _) | (with_reducible refine Below.alloc ?_ ?_ _) | (with_reducible refine Below.drew ?_) | (with_reducible refine Below.setCell ?_ ?_ _) | go_size))
  · intro k hk
    simp at hk
    omega
end Go.Proofs.Ytboekafmplomhaa
set_option linter.unusedVariables false
set_option linter.unusedSimpArgs false
namespace Go.Proofs.Ytboekafmplomhaa
open Go.RowKit

section
variable {w : World} {p : Nat} {F : List Nat}
end

theorem StoStep.low {w w' : World} {F F' : List Nat} {B : Nat} (h : StoStep w w' F F') (hF : ∀ k ∈ F, B ≤ k) (hB : B ≤ w.heap.size) : ∀ k ∈ F', B ≤ k := fun k hk => by
  rcases h.fresh k hk with q | q
  · exact hF k q
  · omega

end Go.Proofs.Ytboekafmplomhaa
set_option linter.unusedVariables false
set_option linter.unusedSimpArgs false
namespace Go.Proofs.Ytboekafmplomhaa
open Go.RowKit

end Go.Proofs.Ytboekafmplomhaa
set_option linter.unusedVariables false
set_option linter.unusedSimpArgs false
namespace Go.Proofs.Ytboekafmplomhaa
open Go.RowKit

theorem infoInt_some : (Try.prog.info? 3).isSome = true := by kernel_rfl
noncomputable abbrev infoInt : TypeInfo := (Try.prog.info? 3).get infoInt_some
theorem infoInt_is : Try.prog.info? 3 = some infoInt := (Option.some_get _).symm
theorem infoInt_zero : infoInt.zero = some (.int .i64 0) := by kernel_rfl
theorem infoInt_size : infoInt.size = 1 := by kernel_rfl
theorem infoInt_bytes : infoInt.bytes = 8 := by kernel_rfl
/-- A row of one-cell elements in a block of its own, of just its length. -/
def Arr (w : World) (g : Nat) (e : TypeId) (xs : List Value) : Prop := w.heap[g]? = some (.cells xs.toArray e (0, 0))
theorem Arr.lt {w : World} {g : Nat} {e : TypeId} {xs : List Value} (h : Arr w g e xs) : g < w.heap.size := (Array.getElem?_eq_some_iff.1 h).1
theorem Arr.cell {w : World} {g : Nat} {e : TypeId} {xs : List Value} (h : Arr w g e xs) (i : Nat) : w.cell? ⟨g, i, none⟩ = xs[i]? := by
  unfold Arr at h; simp [World.cell?, h]
theorem Arr.free {w : World} {g : Nat} {e : TypeId} {xs : List Value} (h : Arr w g e xs) (i : Nat) : w.frozen? ⟨g, i, none⟩ = false := by
  unfold Arr at h; simp [World.frozen?, h]
theorem Arr.keep {w w' : World} {g : Nat} {e : TypeId} {xs : List Value} (h : Arr w g e xs) (hk : w'.heap[g]? = w.heap[g]?) : Arr w' g e xs := by unfold Arr at *; rw [hk]; exact h
theorem Arr.below {w w' : World} {g : Nat} {e : TypeId} {xs : List Value} (h : Arr w g e xs) (hb : Below w.heap.size w w') : Arr w' g e xs := h.keep (hb.block g h.lt)
theorem Arr.set_ {w : World} {g : Nat} {e : TypeId} {xs : List Value} (h : Arr w g e xs) (i : Nat) (v : Value) : Arr (w.setCell ⟨g, i, none⟩ v) g e (xs.set i v) := by
  unfold Arr at *
  simp [World.setCell, Array.getElem?_modify, h]
theorem Arr.made {w : World} {z : Value} {e : TypeId} {n : Nat} (hz : z.cells = #[z]) : Arr (w.alloc (.cells (madeCells z.cells n) e)) w.heap.size e (List.replicate n z) := by
  unfold Arr
  rw [World.heap_alloc_last]
  have e : madeCells z.cells n = (List.replicate n z).toArray := by
    unfold madeCells
    rw [hz]
    apply Array.ext
    · simp
    · intro i h1 h2
      simp [Nat.mod_one]
  rw [e]

/-- A store, and the row of diagrams that were told, in blocks from B on. -/
structure Held (B : Nat) (w : World) (p : Nat) (F : List Nat) (S : Sto) (sv : Value) (G : Option Nat) (all : List Int) : Prop where
  sto : StoIs w p F S
  row : RowIs w sv G 3 1 all.length (ints all)
  from_ : ∀ k ∈ F, B ≤ k
  rowFrom : ∀ g, G = some g → B ≤ g ∧ g ∉ F
theorem Held.keep {B : Nat} {w w' : World} {p : Nat} {F : List Nat} {S : Sto} {sv : Value} {G : Option Nat} {all : List Int} (h : Held B w p F S sv G all)
    (hk : ∀ k, (k ∈ F ∨ G = some k) → w'.heap[k]? = w.heap[k]?) : Held B w' p F S sv G all :=
  ⟨h.sto.keep (fun k hk' => hk k (.inl hk')), RowIs.keep h.row (fun g hg => hk g (.inr hg)), h.from_, h.rowFrom⟩
theorem Held.below {B : Nat} {w w' : World} {p : Nat} {F : List Nat} {S : Sto} {sv : Value} {G : Option Nat} {all : List Int} (h : Held B w p F S sv G all) (hb : Below w.heap.size w w') : Held B w' p F S sv G all :=
  h.keep (fun k hk => hb.block k (by rcases hk with hk | hk; exact h.sto.lt k hk; exact RowIs.lt h.row k hk))

/-- One more diagram is told: the call, and append. -/
theorem Held.grow {B : Nat} {w w' : World} {p : Nat} {F F' : List Nat} {S S' : Sto} {sv : Value} {G : Option Nat} {all : List Int} (h : Held B w p F S sv G all) (hB : B ≤ w.heap.size)
    (hs : StoIs w' p F' S') (st : StoStep w w' F F') (hk : all.length ≤ 1000) (x : Int) :
    ∃ v' w1 G', (Builtin.append_ #[28, 28] 28 #[sv, .slice (some ⟨w'.heap.size, 0, none⟩) 1 1]).run Try.prog (w'.alloc (.cells #[.int .i64 x] 3)) = .ok v' w1 ∧
      Held B w1 p F' S' v' (some G') (all ++ [x]) ∧ Below B w w1 := by
  have hG : ∀ g, G = some g → g < w.heap.size ∧ g ∉ F' ∧ w'.heap[g]? = w.heap[g]? := fun g hg => by
    have h1 := RowIs.lt h.row g hg
    have h2 := h.rowFrom g hg
    exact ⟨h1, st.keeps h1 h2.2, st.block g h1 h2.2⟩
  have litn : (w'.alloc (.cells #[.int .i64 x] 3)).heap[w'.heap.size]? = some (.cells #[.int .i64 x] 3 (0, 0)) := World.heap_alloc_last w' _
  have row' : RowIs w' sv G 3 1 all.length (ints all) := RowIs.keep h.row (fun g hg => (hG g hg).2.2)
  have rowL : RowIs (w'.alloc (.cells #[.int .i64 x] 3)) sv G 3 1 all.length (ints all) := RowIs.keep row' (fun g hg => Below.heap_alloc _ _ _ (RowIs.lt row' g hg))
  obtain ⟨v', w1, G', r1, r2, r3, r4⟩ := append_row (P := Try.prog) 28 28 infoInt (.int .i64 0) 8 Try.underlying28 infoInt_is infoInt_zero infoInt_size infoInt_bytes rfl (by omega) rowL
    ⟨w'.heap.size, 0, none⟩ 1 1 [.int .i64 x] rfl (fun j u hu => by
      rcases j with _ | j
      · simp at hu; subst hu
        show (w'.alloc (.cells #[.int .i64 x] 3)).cell? ⟨w'.heap.size, 0, none⟩ = _
        simp only [World.cell?]
        rw [litn]; rfl
      · simp at hu) (by simp [Value.oneCell']) (by omega) (by unfold maxLen; omega) (by omega)
  have hFlt : ∀ k ∈ F', k < w'.heap.size := hs.lt
  have hne : ∀ k ∈ F', some k ≠ G := fun k hk e => (hG k e.symm).2.1 hk
  have kF : ∀ k ∈ F', w1.heap[k]? = w'.heap[k]? := fun k hk => (r3.block k (by have := hFlt k hk; simp; omega) (hne k hk)).trans (Below.heap_alloc _ _ _ (hFlt k hk))
  have e1 : ints (all ++ [x]) = ints all ++ [.int .i64 x] := by simp [ints]
  rw [← e1] at r2
  have hF' : ∀ k ∈ F', B ≤ k := st.low h.from_ hB
  refine ⟨v', w1, G', r1, ⟨hs.keep kF, by rw [List.length_append]; exact r2, hF', fun g hg => ?_⟩, ?_⟩
  · cases hg
    rcases r4 with e | ⟨e, _⟩
    · exact ⟨(h.rowFrom _ e).1, (hG _ e).2.1⟩
    · simp at e
      refine ⟨by have := st.size; omega, fun hm => by have := hFlt _ hm; omega⟩
  · have b1 : Below B w w' := st.below h.from_ hB
    exact (b1.alloc (Nat.le_trans hB st.size) _).grown r3 (by have := st.size; simp; omega) (fun g hg => (h.rowFrom g hg).1)
end Go.Proofs.Ytboekafmplomhaa
