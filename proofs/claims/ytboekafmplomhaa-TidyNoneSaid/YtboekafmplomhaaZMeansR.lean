/-
  Rows of our own that are written: the law's rows of numbers and of truths.
-/
import Derived.Test.YtboekafmplomhaaZLundB
import Derived.Test.YtboekafmplomhaaZDoC
import Derived.Test.YtboekafmplomhaaZKnown15
import Derived.Laws.MakeOwn
set_option linter.unusedVariables false
set_option linter.unusedSimpArgs false
namespace Go.Proofs.Ytboekafmplomhaa
open Go.RowKit

theorem infoInt_some : (Try.prog.info? 3).isSome = true := by kernel_rfl
noncomputable abbrev infoInt : TypeInfo := (Try.prog.info? 3).get infoInt_some
theorem infoInt_is : Try.prog.info? 3 = some infoInt := (Option.some_get _).symm
theorem infoInt_zero : infoInt.zero = some (.int .i64 0) := by kernel_rfl
theorem infoInt_size : infoInt.size = 1 := by kernel_rfl
theorem infoInt_bytes : infoInt.bytes = 8 := by kernel_rfl
theorem infoU64_some : (Try.prog.info? 36).isSome = true := by kernel_rfl
noncomputable abbrev infoU64 : TypeInfo := (Try.prog.info? 36).get infoU64_some
theorem infoU64_is : Try.prog.info? 36 = some infoU64 := (Option.some_get _).symm
theorem infoU64_zero : infoU64.zero = some (.int .u64 0) := by kernel_rfl
theorem infoU64_size : infoU64.size = 1 := by kernel_rfl
theorem infoU64_bytes : infoU64.bytes = 8 := by kernel_rfl

/-- 'make' of a row. -/
theorem make_row (t e : TypeId) (i : TypeInfo) (z : Value) (ht : Try.prog.underlying t = some (.slice e)) (hi : Try.prog.info? e = some i) (hz : i.zero = some z)
    (kl kc : IntKind) (n c : Nat) (hnc : n ≤ c) (hbytes : i.bytes * c ≤ 281474976710656) (h63 : c ≤ 9223372036854775807) (w : World) :
    (Instr.makeSlice t (.int kl (n : Int)) (.int kc (c : Int))).run Try.prog w = .ok (.slice (some ⟨w.heap.size, 0, none⟩) n c) (w.alloc (.cells (madeCells z.cells (c * i.size)) e)) := by
  have hb : (i.bytes : Int) * (c : Int) ≤ 281474976710656 := by
    have h : ((i.bytes * c : Nat) : Int) ≤ 281474976710656 := by omega
    rwa [Int.natCast_mul] at h
  have hr := run_make (P := Try.prog) w t e i z ht hi hz kl kc n c (by omega) (by omega) hb (by omega)
  simp only [Int.toNat_natCast] at hr
  exact hr

/-- A row of one-cell elements in a block of its own, of just its length. -/
def Arr (w : World) (g : Nat) (e : TypeId) (xs : List Value) : Prop := w.heap[g]? = some (.cells xs.toArray e (0, 0))
theorem Arr.lt {w : World} {g : Nat} {e : TypeId} {xs : List Value} (h : Arr w g e xs) : g < w.heap.size := (Array.getElem?_eq_some_iff.1 h).1
theorem Arr.cell {w : World} {g : Nat} {e : TypeId} {xs : List Value} (h : Arr w g e xs) (i : Nat) : w.cell? ⟨g, i, none⟩ = xs[i]? := by
  unfold Arr at h; simp [World.cell?, h]
theorem Arr.free {w : World} {g : Nat} {e : TypeId} {xs : List Value} (h : Arr w g e xs) (i : Nat) : w.frozen? ⟨g, i, none⟩ = false := by
  unfold Arr at h; simp [World.frozen?, h]
theorem Arr.keep {w w' : World} {g : Nat} {e : TypeId} {xs : List Value} (h : Arr w g e xs) (hk : w'.heap[g]? = w.heap[g]?) : Arr w' g e xs := by unfold Arr at *; rw [hk]; exact h
theorem Arr.below {w w' : World} {g : Nat} {e : TypeId} {xs : List Value} (h : Arr w g e xs) (hb : Below w.heap.size w w') : Arr w' g e xs := h.keep (hb.block g h.lt)
theorem Arr.set_ {w : World} {g : Nat} {e : TypeId} {xs : List Value} (h : Arr w g e xs) (i : Nat) (v : Value) : Arr (w.setCell ⟨g, i, none⟩ v) g e (xs.set i v) := by
  unfold Arr at *
  simp [World.setCell, Array.getElem?_modify, h]
theorem Arr.made {w : World} {z : Value} {e : TypeId} {n : Nat} (hz : z.cells = #[z]) : Arr (w.alloc (.cells (madeCells z.cells n) e)) w.heap.size e (List.replicate n z) := by
  unfold Arr
  rw [World.heap_alloc_last]
  have e : madeCells z.cells n = (List.replicate n z).toArray := by
    unfold madeCells
    rw [hz]
    apply Array.ext
    · simp
    · intro i h1 h2
      simp [Nat.mod_one]
  rw [e]

/-- A store, and the row of diagrams that were told, in blocks from B on. -/
structure Held (B : Nat) (w : World) (p : Nat) (F : List Nat) (S : Sto) (sv : Value) (G : Option Nat) (all : List Int) : Prop where
  sto : StoIs w p F S
  row : RowIs w sv G 3 1 all.length (ints all)
  from_ : ∀ k ∈ F, B ≤ k
  rowFrom : ∀ g, G = some g → B ≤ g ∧ g ∉ F
theorem Held.keep {B : Nat} {w w' : World} {p : Nat} {F : List Nat} {S : Sto} {sv : Value} {G : Option Nat} {all : List Int} (h : Held B w p F S sv G all)
    (hk : ∀ k, (k ∈ F ∨ G = some k) → w'.heap[k]? = w.heap[k]?) : Held B w' p F S sv G all :=
  ⟨h.sto.keep (fun k hk' => hk k (.inl hk')), RowIs.keep h.row (fun g hg => hk g (.inr hg)), h.from_, h.rowFrom⟩
theorem Held.below {B : Nat} {w w' : World} {p : Nat} {F : List Nat} {S : Sto} {sv : Value} {G : Option Nat} {all : List Int} (h : Held B w p F S sv G all) (hb : Below w.heap.size w w') : Held B w' p F S sv G all :=
  h.keep (fun k hk => hb.block k (by rcases hk with hk | hk; exact h.sto.lt k hk; exact RowIs.lt h.row k hk))

/-- One more diagram is told: the call, and append. -/
theorem Held.grow {B : Nat} {w w' : World} {p : Nat} {F F' : List Nat} {S S' : Sto} {sv : Value} {G : Option Nat} {all : List Int} (h : Held B w p F S sv G all) (hB : B ≤ w.heap.size)
    (hs : StoIs w' p F' S') (st : StoStep w w' F F') (hk : all.length ≤ 1000) (x : Int) :
    ∃ v' w1 G', (Builtin.append_ #[28, 28] 28 #[sv, .slice (some ⟨w'.heap.size, 0, none⟩) 1 1]).run Try.prog (w'.alloc (.cells #[.int .i64 x] 3)) = .ok v' w1 ∧
      Held B w1 p F' S' v' (some G') (all ++ [x]) ∧ Below B w w1 := by
  have hG : ∀ g, G = some g → g < w.heap.size ∧ g ∉ F' ∧ w'.heap[g]? = w.heap[g]? := fun g hg => by
    have h1 := RowIs.lt h.row g hg
    have h2 := h.rowFrom g hg
    exact ⟨h1, st.keeps h1 h2.2, st.block g h1 h2.2⟩
  have litn : (w'.alloc (.cells #[.int .i64 x] 3)).heap[w'.heap.size]? = some (.cells #[.int .i64 x] 3 (0, 0)) := World.heap_alloc_last w' _
  have row' : RowIs w' sv G 3 1 all.length (ints all) := RowIs.keep h.row (fun g hg => (hG g hg).2.2)
  have rowL : RowIs (w'.alloc (.cells #[.int .i64 x] 3)) sv G 3 1 all.length (ints all) := RowIs.keep row' (fun g hg => Below.heap_alloc _ _ _ (RowIs.lt row' g hg))
  obtain ⟨v', w1, G', r1, r2, r3, r4⟩ := append_row (P := Try.prog) 28 28 infoInt (.int .i64 0) 8 Try.underlying28 infoInt_is infoInt_zero infoInt_size infoInt_bytes rfl (by omega) rowL
    ⟨w'.heap.size, 0, none⟩ 1 1 [.int .i64 x] rfl (fun j u hu => by
      rcases j with _ | j
      · simp at hu; subst hu
        show (w'.alloc (.cells #[.int .i64 x] 3)).cell? ⟨w'.heap.size, 0, none⟩ = _
        simp only [World.cell?]
        rw [litn]; rfl
      · simp at hu) (by simp [Value.oneCell']) (by omega) (by unfold maxLen; omega) (by omega)
  have hFlt : ∀ k ∈ F', k < w'.heap.size := hs.lt
  have hne : ∀ k ∈ F', some k ≠ G := fun k hk e => (hG k e.symm).2.1 hk
  have kF : ∀ k ∈ F', w1.heap[k]? = w'.heap[k]? := fun k hk => (r3.block k (by have := hFlt k hk; simp; omega) (hne k hk)).trans (Below.heap_alloc _ _ _ (hFlt k hk))
  have e1 : ints (all ++ [x]) = ints all ++ [.int .i64 x] := by simp [ints]
  rw [← e1] at r2
  have hF' : ∀ k ∈ F', B ≤ k := st.low h.from_ hB
  refine ⟨v', w1, G', r1, ⟨hs.keep kF, by rw [List.length_append]; exact r2, hF', fun g hg => ?_⟩, ?_⟩
  · cases hg
    rcases r4 with e | ⟨e, _⟩
    · exact ⟨(h.rowFrom _ e).1, (hG _ e).2.1⟩
    · simp at e
      refine ⟨by have := st.size; omega, fun hm => by have := hFlt _ hm; omega⟩
  · have b1 : Below B w w' := st.below h.from_ hB
    exact (b1.alloc (Nat.le_trans hB st.size) _).grown r3 (by have := st.size; simp; omega) (fun g hg => (h.rowFrom g hg).1)
end Go.Proofs.Ytboekafmplomhaa
