/-
  Slices of bytes: rows of our own, that grow; bytes as strings.
-/
import Derived.Test.YtboekafmplomhaaZSupB
import Derived.Laws.BytesArg
import Derived.ArgAppend
import Derived.Lib.SlBytesConst
set_option linter.unusedVariables false
set_option linter.unusedSimpArgs false
namespace Go.Proofs.Ytboekafmplomhaa
open Go.RowKit

def byts (l : List Nat) : List Value := l.map fun (x : Nat) => Value.int .u8 (x : Int)
theorem byts_length (l : List Nat) : (byts l).length = l.length := by simp [byts]
theorem byts_append (l m : List Nat) : byts (l ++ m) = byts l ++ byts m := by simp [byts]
theorem infoU8_some : (Try.prog.info? 5).isSome = true := by kernel_rfl
noncomputable abbrev infoU8 : TypeInfo := (Try.prog.info? 5).get infoU8_some
theorem infoU8_is : Try.prog.info? 5 = some infoU8 := (Option.some_get _).symm
theorem infoU8_zero : infoU8.zero = some (.int .u8 0) := by kernel_rfl
theorem infoU8_size : infoU8.size = 1 := by kernel_rfl
theorem infoU8_bytes : infoU8.bytes = 1 := by kernel_rfl
theorem Rd.lenB {w : World} {sv : Value} {l : List Nat} (h : Rd w 1 sv (byts l)) : ∃ a cap, sv = .slice a l.length cap ∧ l.length ≤ cap ∧ l.length ≤ 9223372036854775807 := by
  obtain ⟨a, n, cap, h1, h2, h3, h4, _⟩ := h
  rw [byts_length, Nat.mul_one] at h4
  subst h4
  exact ⟨a, cap, h1, h2, h3⟩
theorem Rd.byteAt {w : World} {a : Option Addr} {cap : Nat} {l : List Nat} (h : Rd w 1 (.slice a l.length cap) (byts l)) {i : Nat} (hi : i < l.length) :
    ∃ b off, a = some ⟨b, off, none⟩ ∧ b < w.heap.size ∧ w.cell? ⟨b, off + i, none⟩ = some (.int .u8 (l[i] : Nat)) := by
  obtain ⟨a', n', c', h1, _, _, _, h5⟩ := h
  cases h1
  obtain ⟨b, off, rfl, h6, h7⟩ := h5 (by omega)
  exact ⟨b, off, rfl, h6, h7 i _ (by simp [byts, hi])⟩
theorem Rd.takeB {w : World} {a : Option Addr} {cap : Nat} {l : List Nat} (h : Rd w 1 (.slice a l.length cap) (byts l)) {i c' : Nat} (hi : i ≤ l.length) (hc : i ≤ c') :
    Rd w 1 (.slice a i c') (byts (l.take i)) := by
  obtain ⟨a', n', c'', h1, h2, h3, h4, h5⟩ := h
  cases h1
  refine ⟨_, _, _, rfl, hc, by omega, by simp [byts_length]; omega, fun hn => ?_⟩
  obtain ⟨b', off', e, h6, h7⟩ := h5 (by omega)
  refine ⟨b', off', e, h6, fun j u hu => h7 j u ?_⟩
  have hj := (List.getElem?_eq_some_iff.1 hu).1
  rw [byts_length, List.length_take] at hj
  rw [← hu]
  simp only [byts, List.getElem?_map, List.getElem?_take]
  rw [if_pos (by omega)]

/-- The string of some bytes. -/
def strOf (l : List Nat) : ByteArray := strOfNums (l.map fun (x : Nat) => (x : Int))
theorem str_any {w : World} {sv : Value} {l : List Nat} (h : Rd w 1 sv (byts l)) : (convert 100 9 sv).run Try.prog w = .ok (.string (strOf l)) w := by
  obtain ⟨a, n, c, rfl, h1, h2, h3, h4⟩ := h
  have hl : l.length = n := by rw [byts_length] at h3; simpa using h3
  rcases Nat.eq_zero_or_pos n with h0 | h0
  · have hl0 : l = [] := List.length_eq_zero_iff.1 (by omega)
    subst hl0
    subst h0
    cases a with
    | none => exact run_convert_bytes_nil w _ 5 Try.underlying100 Try.underlying5 0 c _ Try.underlying9
    | some q =>
      rw [run_convert_bytes_string w _ _ 5 _ _ _ Try.underlying100 Try.underlying5 Try.underlying9,
        run_bytesToString w q 0 c [] (run_loadCells_list (P := Try.prog) w q [] (fun j v hv => by simp at hv))]
      rfl
  · obtain ⟨b, off, e1, e2, e3⟩ := h4 h0
    subst e1
    refine run_convert_bytes_arg w _ 5 Try.underlying100 Try.underlying5 b off n c (l.map fun (x : Nat) => (x : Int)) (by simpa using hl) ?_ _ Try.underlying9
    intro i hi
    refine e3 i _ ?_
    simp [byts, hl, hi, List.getD_eq_getElem?_getD]
theorem strOf_inj {l m : List Nat} (hl : ∀ x ∈ l, x < 256) (hm : ∀ x ∈ m, x < 256) : strOf l = strOf m ↔ l = m := by
  constructor
  · intro h
    have h1 := congrArg (fun s : ByteArray => s.data.toList) h
    unfold strOf at h1
    simp only [strOfNums_data, List.map_map] at h1
    have h2 := congrArg (List.map UInt8.toNat) h1
    simp only [List.map_map] at h2
    have key : ∀ t : List Nat, (∀ x ∈ t, x < 256) → t.map (UInt8.toNat ∘ ((fun n : Int => UInt8.ofNat n.toNat) ∘ fun (x : Nat) => (x : Int))) = t := by
      intro t ht
      conv => rhs; rw [← List.map_id t]
      apply List.map_congr_left
      intro x hx
      have := ht x hx
      simp
      omega
    rw [key l hl, key m hm] at h2
    exact h2
  · intro h; rw [h]

/-- Bytes of our own, at or beyond block B. -/
def OwnB (B : Nat) (w : World) (sv : Value) (l : List Nat) : Prop := ∃ G, RowIs w sv G 5 1 l.length (byts l) ∧ ∀ g, G = some g → B ≤ g
theorem OwnB.below {B : Nat} {w w' : World} {sv : Value} {l : List Nat} (h : OwnB B w sv l) (hb : Below w.heap.size w w') : OwnB B w' sv l := by
  obtain ⟨G, h1, h2⟩ := h
  exact ⟨G, RowIs.keep h1 (fun g hg => hb.block g (RowIs.lt h1 g hg)), h2⟩
theorem OwnB.rd {B : Nat} {w : World} {sv : Value} {l : List Nat} (h : OwnB B w sv l) : Rd w 1 sv (byts l) := by
  obtain ⟨G, h1, _⟩ := h
  exact RowIs.rd h1
theorem OwnB.mono {B B' : Nat} {w : World} {sv : Value} {l : List Nat} (h : OwnB B w sv l) (hB : B' ≤ B) : OwnB B' w sv l := by
  obtain ⟨G, h1, h2⟩ := h
  exact ⟨G, h1, fun g hg => Nat.le_trans hB (h2 g hg)⟩
theorem OwnB.form {B : Nat} {w : World} {sv : Value} {l : List Nat} (h : OwnB B w sv l) : ∃ a cap, sv = .slice a l.length cap := by
  obtain ⟨G, h1, h2⟩ := h
  obtain ⟨a, cap, e, _⟩ := RowIs.form h1
  exact ⟨a, cap, e⟩
def blkOf : Value → Option Nat
  | .slice (some a) _ _ => some a.block
  | _ => none
/-- What grew a slice: no block but its own one has turned. -/
structure GrewS (w : World) (sv : Value) (w' : World) (v' : Value) : Prop where
  size : w.heap.size ≤ w'.heap.size
  keep : ∀ k, k < w.heap.size → blkOf sv ≠ some k → w'.heap[k]? = w.heap[k]?
  own : ∀ k, k < w.heap.size → blkOf sv ≠ some k → blkOf v' ≠ some k
theorem GrewS.trans {w w1 w2 : World} {sv v1 v2 : Value} (h : GrewS w sv w1 v1) (g : GrewS w1 v1 w2 v2) : GrewS w sv w2 v2 where
  size := Nat.le_trans h.size g.size
  keep k hk hn := (g.keep k (Nat.lt_of_lt_of_le hk h.size) (h.own k hk hn)).trans (h.keep k hk hn)
  own k hk hn := g.own k (Nat.lt_of_lt_of_le hk h.size) (h.own k hk hn)
theorem GrewS.blk {w w1 : World} {sv v1 : Value} (h : GrewS w sv w1 v1) {g : Nat} {e : TypeId} {xs : List Value} (b : Blk w g e xs) (hn : blkOf sv ≠ some g) : Blk w1 g e xs := b.keep (h.keep g b.lt hn)
theorem RowIs.blkOf {w : World} {sv : Value} {G : Option Nat} {e : TypeId} {s n : Nat} {xs : List Value} (h : RowIs w sv G e s n xs) : blkOf sv = G := by
  obtain ⟨_, ⟨rfl, _, rfl⟩ | ⟨g, cap, cur, rfl, rfl, _⟩⟩ := h
  · rfl
  · rfl
theorem OwnB.lt {B : Nat} {w : World} {sv : Value} {l : List Nat} (h : OwnB B w sv l) {k : Nat} (hk : w.heap.size ≤ k) : blkOf sv ≠ some k := by
  obtain ⟨G, h1, h2⟩ := h
  rw [RowIs.blkOf h1]
  intro e
  have := RowIs.lt h1 k e
  omega
/-- A literal of bytes (its row marked, as that of a constant string). -/
theorem lit_rd (w : World) (m : List Nat) (hm : m.length ≤ 1000) (k : Nat × Nat) : Rd (w.alloc (.cells (byts m).toArray 5 k)) 1 (.slice (some ⟨w.heap.size, 0, none⟩) m.length m.length) (byts m) :=
  ⟨_, _, _, rfl, Nat.le_refl _, by omega, by rw [byts_length]; omega, fun _ => ⟨_, _, rfl, by simp, fun j u hu => by
    simp only [World.cell?, World.alloc, Nat.zero_add, Array.getElem?_push_size]
    simpa using hu⟩⟩
/-- More bytes at the end: the literal lies in the next block. -/
theorem OwnB.grow {B : Nat} {w : World} {sv : Value} {l : List Nat} (h : OwnB B w sv l) (hB : B ≤ w.heap.size) (hk : l.length ≤ 100000000) (m : List Nat) (hm : 0 < m.length) (hm2 : m.length ≤ 1000) :
    ∃ v' w1, (Builtin.append_ #[100, 100] 100 #[sv, .slice (some ⟨w.heap.size, 0, none⟩) m.length m.length]).run Try.prog (w.alloc (.cells (byts m).toArray 5)) = .ok v' w1 ∧
      OwnB B w1 v' (l ++ m) ∧ Below B w w1 ∧ GrewS w sv w1 v' := by
  obtain ⟨G, h, hG⟩ := h
  have hbo := RowIs.blkOf h
  have litn : (w.alloc (.cells (byts m).toArray 5)).heap[w.heap.size]? = some (.cells (byts m).toArray 5 (0, 0)) := World.heap_alloc_last w _
  have rowL : RowIs (w.alloc (.cells (byts m).toArray 5)) sv G 5 1 l.length (byts l) := RowIs.keep h (fun g hg => Below.heap_alloc _ _ _ (RowIs.lt h g hg))
  obtain ⟨v', w1, G', r1, r2, r3, r4⟩ := append_row (P := Try.prog) 100 100 infoU8 (.int .u8 0) 1 Try.underlying100 infoU8_is infoU8_zero infoU8_size infoU8_bytes rfl (by omega) rowL
    ⟨w.heap.size, 0, none⟩ m.length m.length (byts m) (by rw [byts_length]; omega) (fun j u hu => by
      have hadd : (⟨w.heap.size, 0, none⟩ : Addr).add j = ⟨w.heap.size, j, none⟩ := by unfold Addr.add; simp; intro e; exact e.symm
      rw [hadd]
      simp only [World.cell?]
      rw [litn]
      simpa using hu) (by intro u hu; simp [byts] at hu; obtain ⟨x, _, rfl⟩ := hu; rfl) hm (by unfold maxLen; omega) (by omega)
  have hbo' := RowIs.blkOf r2
  have hsz := r3.size
  simp only [World.size_alloc] at hsz
  refine ⟨v', w1, r1, ⟨some G', ?_, ?_⟩, ?_, ⟨by omega, fun k hk hn => ?_, fun k hk hn => ?_⟩⟩
  · rw [byts_append, List.length_append]
    exact r2
  · intro g hg
    cases hg
    rcases r4 with e | ⟨e, _⟩
    · exact hG _ e
    · simp at e; omega
  · exact ((Below.refl _ _).alloc hB _).grown r3 (by simp; omega) hG
  · rw [hbo] at hn
    exact (r3.block k (by simp; omega) (fun e => hn e.symm)).trans (Below.heap_alloc _ _ _ hk)
  · rw [hbo] at hn
    rw [hbo']
    intro e
    cases e
    rcases r4 with e | ⟨e, _⟩
    · exact hn e
    · simp at e; omega
/-- A slice that is full: append copies it. -/
theorem full_grow {B : Nat} {w : World} {b off : Nat} {l : List Nat} (h : Rd w 1 (.slice (some ⟨b, off, none⟩) l.length l.length) (byts l)) (h0 : 0 < l.length) (hB : B ≤ w.heap.size) (hk : l.length ≤ 100000000) (m : List Nat) (hm : 0 < m.length) (hm2 : m.length ≤ 1000) :
    ∃ v' w1, (Builtin.append_ #[100, 100] 100 #[.slice (some ⟨b, off, none⟩) l.length l.length, .slice (some ⟨w.heap.size, 0, none⟩) m.length m.length]).run Try.prog (w.alloc (.cells (byts m).toArray 5)) = .ok v' w1 ∧
      OwnB B w1 v' (l ++ m) ∧ Below B w w1 ∧ GrewS w (.slice (some ⟨b, off, none⟩) l.length l.length) w1 v' := by
  obtain ⟨a', n', c', e1, _, _, _, h5⟩ := h
  cases e1
  obtain ⟨b', off', e1, hb1, hc⟩ := h5 h0
  cases e1
  have litn : (w.alloc (.cells (byts m).toArray 5)).heap[w.heap.size]? = some (.cells (byts m).toArray 5 (0, 0)) := World.heap_alloc_last w _
  have hba : Below w.heap.size w (w.alloc (.cells (byts m).toArray 5)) := Below.alloc (Below.refl _ _) (Nat.le_refl _) _
  obtain ⟨v', w1, r1, r2, r3⟩ := run_append_arg_grows (P := Try.prog) _ 100 100 5 infoU8 (.int .u8 0) 1 1 Try.underlying100 infoU8_is infoU8_zero infoU8_size infoU8_bytes rfl (by omega)
    ⟨b, off, none⟩ l.length l.length (byts l) (by rw [byts_length]; omega) (fun j u hu => by
      rw [show (⟨b, off, none⟩ : Addr).add j = ⟨b, off + j, none⟩ from Addr.add_lit ..]
      exact (hba.cell (p := ⟨b, off + j, none⟩) hb1).trans (hc j u hu))
    ⟨w.heap.size, 0, none⟩ m.length m.length (byts m) (by rw [byts_length]; omega) (fun j u hu => by
      have hadd : (⟨w.heap.size, 0, none⟩ : Addr).add j = ⟨w.heap.size, j, none⟩ := by unfold Addr.add; simp; intro e; exact e.symm
      rw [hadd]
      simp only [World.cell?]
      rw [litn]
      simpa using hu) (by omega) (by unfold maxLen; omega) (by omega)
  have hsz := r3.size
  simp only [World.size_alloc] at hsz
  have e2 : byts l ++ byts m = byts (l ++ m) := by rw [byts_append]
  rw [e2] at r2
  obtain ⟨q0, ⟨q1, q2⟩ | ⟨g, cap, cur, q1, q2, q3, q4, q5, q6, q7⟩⟩ := r2
  · omega
  · simp only [World.size_alloc] at q2
    refine ⟨v', w1, r1, ⟨some g, ⟨by rw [byts_length, Nat.mul_one], .inr ⟨g, cap, cur, by rw [List.length_append]; exact q1, rfl, q3, by rw [List.length_append]; exact q4, q5, q6, by rw [List.length_append]; exact q7⟩⟩, fun g' hg => ?_⟩, ?_, ⟨by omega, fun k hk hn => ?_, fun k hk hn => ?_⟩⟩
    · cases hg
      omega
    · exact ((hba.mono hB).trans (Below.grown (Below.refl _ _) r3 (by simp; omega) (fun k hk => by cases hk)))
    · exact (r3.block k (by simp; omega) (by simp)).trans (Below.heap_alloc _ _ _ hk)
    · rw [q1]
      simp only [blkOf, ne_eq, Option.some.injEq]
      omega
/-- What append may grow. -/
def GrowB (B : Nat) (w : World) (sv : Value) (l : List Nat) : Prop := OwnB B w sv l ∨ ∃ b off, sv = .slice (some ⟨b, off, none⟩) l.length l.length ∧ Rd w 1 sv (byts l) ∧ 0 < l.length
theorem GrowB.below {B : Nat} {w w' : World} {sv : Value} {l : List Nat} (h : GrowB B w sv l) (hb : Below w.heap.size w w') : GrowB B w' sv l := by
  rcases h with h | ⟨b, off, h1, h2, h3⟩
  · exact .inl (h.below hb)
  · exact .inr ⟨b, off, h1, h2.below hb, h3⟩
theorem GrowB.form {B : Nat} {w : World} {sv : Value} {l : List Nat} (h : GrowB B w sv l) : ∃ a cap, sv = .slice a l.length cap := by
  rcases h with h | ⟨b, off, h1, h2, h3⟩
  · exact h.form
  · exact ⟨_, _, h1⟩
theorem GrowB.grow {B : Nat} {w : World} {sv : Value} {l : List Nat} (h : GrowB B w sv l) (hB : B ≤ w.heap.size) (hk : l.length ≤ 100000000) (m : List Nat) (hm : 0 < m.length) (hm2 : m.length ≤ 1000) :
    ∃ v' w1, (Builtin.append_ #[100, 100] 100 #[sv, .slice (some ⟨w.heap.size, 0, none⟩) m.length m.length]).run Try.prog (w.alloc (.cells (byts m).toArray 5)) = .ok v' w1 ∧
      OwnB B w1 v' (l ++ m) ∧ Below B w w1 ∧ GrewS w sv w1 v' := by
  rcases h with h | ⟨b, off, rfl, h2, h3⟩
  · exact h.grow hB hk m hm hm2
  · exact full_grow h2 h3 hB hk m hm hm2
end Go.Proofs.Ytboekafmplomhaa
