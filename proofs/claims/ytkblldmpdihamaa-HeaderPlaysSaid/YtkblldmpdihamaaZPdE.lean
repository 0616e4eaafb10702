/-
  The document's Emit of a packet (quillonref19).
-/
import Derived.Test.YtkblldmpdihamaaZPdS
set_option linter.unusedVariables false
set_option linter.unusedSimpArgs false
namespace Go.Proofs.Ytkblldmpdihamaa
open Go.RowKit

-- bytes out of bits, as the document makes them
def hvB (f : Nat → Bool) : Nat → Nat
  | 0 => 0
  | m + 1 => 2 * hvB f m + (if f m then 1 else 0)
theorem hvB_lt (f : Nat → Bool) : ∀ m, hvB f m < 2 ^ m
  | 0 => by simp [hvB]
  | m + 1 => by
    have := hvB_lt f m
    rw [hvB, Nat.pow_succ]
    split <;> omega
theorem byteOf_hvB (f : Nat → Bool) : byteOf f = hvB f 8 := by
  unfold byteOf
  rw [show List.range 8 = [0, 1, 2, 3, 4, 5, 6, 7] from rfl]
  simp only [List.foldl_cons, List.foldl_nil, hvB]
  generalize f 0 = b0
  generalize f 1 = b1
  generalize f 2 = b2
  generalize f 3 = b3
  generalize f 4 = b4
  generalize f 5 = b5
  generalize f 6 = b6
  generalize f 7 = b7
  revert b0 b1 b2 b3 b4 b5 b6 b7
  decide
theorem take_eight (l : List Bool) (j : Nat) (h : 8 * (j + 1) ≤ l.length) : l.take (8 * (j + 1)) = l.take (8 * j) ++ (List.range 8).map fun i => l.getD (8 * j + i) false := by
  apply List.ext_getElem
  · simp; omega
  · intro i h1 h2
    simp only [List.getElem_take]
    by_cases q : i < 8 * j
    · rw [List.getElem_append_left (by simp; omega)]; simp
    · rw [List.getElem_append_right (by simp; omega)]
      have hi : i < l.length := by simp at h1; omega
      have e1 : (List.take (8 * j) l).length = 8 * j := by simp; omega
      simp only [e1, List.getElem_map, List.getElem_range]
      rw [show 8 * j + (i - 8 * j) = i by omega]
      simp [hi]
/-- The first bytes of bits. -/
def byteN (l : List Bool) : Nat → List Nat
  | 0 => []
  | j + 1 => byteN l j ++ [hvB (fun i => l.getD (8 * j + i) false) 8]
theorem byteN_length (l : List Bool) : ∀ j, (byteN l j).length = j
  | 0 => rfl
  | j + 1 => by simp [byteN, byteN_length l j]
theorem layAll_byteN (l : List Bool) : ∀ j, 8 * j ≤ l.length → layAll ([], 0) (l.take (8 * j)) = (byteN l j, 8 * j)
  | 0, _ => rfl
  | j + 1, h => by
    rw [take_eight l j h, layAll_append, layAll_byteN l j (by omega), layAll_byte _ _ _ (by omega), byteOf_hvB]
    rfl

/-- One element more, behind a row. -/
theorem push_one {w : World} {sv : Value} {G : Option Nat} {n : Nat} {xs : List Value} {t e : TypeId} {i : TypeInfo} {z : Value} {bytes : Nat} (ht : Try.prog.underlying t = some (.slice e)) (hi : Try.prog.info? e = some i) (hz : i.zero = some z) (hsize : i.size = 1) (hby : i.bytes = bytes)
    (hzs : z.cells.size = 1) (h : RowIs w sv G e 1 n xs) (u : Value) (hu : u.oneCell' = true) (hn : n ≤ 1000000) (hb : bytes ≤ 100) :
    ∃ (sa : Option Addr) (sc : Nat) (w7 : World) (G' : Nat), (Builtin.append_ #[t, t] t #[sv, .slice (some ⟨w.heap.size, 0, none⟩) 1 1]).run Try.prog (w.alloc (.cells #[u] e)) = .ok (.slice sa (n + 1) sc) w7 ∧
      RowIs w7 (.slice sa (n + 1) sc) (some G') e 1 (n + 1) (xs ++ [u]) ∧ ∀ (B : Nat) (a : World), Below B a w → B ≤ w.heap.size → (∀ g, G = some g → B ≤ g) → (Below B a w7 ∧ B ≤ G') ∧ ∀ q, q < w.heap.size → G ≠ some q → w7.heap[q]? = w.heap[q]? ∧ G' ≠ q := by
  have hB6 : Below w.heap.size w (w.alloc (.cells #[u] e)) := Below.alloc (Below.refl _ _) (Nat.le_refl _) _
  have bS : Blk (w.alloc (.cells #[u] e)) w.heap.size e [u] := Blk.new w _ _
  have hrow6 := RowIs.keep h (fun g hg => hB6.block g (RowIs.lt h g hg))
  obtain ⟨v', w7, G', r1, r2, r3, r4⟩ := append_row (P := Try.prog) t t i z bytes ht hi hz hsize hby hzs (by omega) hrow6
    ⟨w.heap.size, 0, none⟩ 1 1 [u] rfl (fun i u' hu' => by
      rw [hadd_off, Nat.zero_add]
      exact (bS.cell i).trans hu') (by simpa using hu) (by omega) (by unfold maxLen; omega) (Nat.le_trans (Nat.mul_le_mul (by omega : n + 1 ≤ 1000001) hb) (by decide))
  obtain ⟨sa, sc, rfl, _⟩ := r2.form
  refine ⟨sa, sc, w7, G', r1, r2, fun B a hB hs hG => ⟨⟨(hB.trans (hB6.mono hs)).grown r3 (by have := hB6.size; omega) hG, ?_⟩, fun q hq hn => ⟨(r3.block q (by have := hB6.size; omega) (fun e => hn e.symm)).trans (hB6.block q hq), ?_⟩⟩⟩
  · rcases r4 with h' | ⟨h', _⟩
    · exact hG _ h'
    · have := hB6.size; omega
  · rintro rfl
    rcases r4 with h' | ⟨h', _⟩
    · exact hn h'
    · have := hB6.size; omega
/-- A slice is laid behind a row of bytes. -/
theorem push_bytes {w : World} {sv : Value} {G : Option Nat} {out l : List Nat} {s : SL} (h : RowIs w sv G 5 1 out.length (byts out)) (R : RdS w 1 s (byts l)) (hn : out.length ≤ 100000) (hl : l.length ≤ 100000) :
    ∃ (r : SL) (w1 : World), (Builtin.append_ #[34, 34] 34 #[sv, s.v]).run Try.prog w = .ok r.v w1 ∧ RdS w1 1 r (byts (out ++ l)) ∧ ∀ (B : Nat) (a : World), Below B a w → B ≤ w.heap.size → (∀ g, G = some g → B ≤ g) → Below B a w1 := by
  have hsn : s.n = l.length := by have := R.2.2.1; rw [byts_length] at this; omega
  obtain ⟨ra, rn, rc⟩ := s
  simp only at hsn
  subst hsn
  rcases Nat.eq_zero_or_pos l.length with h0 | hrs
  · have hl0 : l = [] := List.length_eq_zero_iff.1 h0
    simp only [SL.v_mk]
    rw [h0]
    obtain ⟨sa', sc', he, _⟩ := h.form
    have hrow := h
    rw [he] at hrow
    have hR := (RowIs.rdS (s := ⟨sa', _, sc'⟩) hrow).1
    rw [he]
    refine ⟨⟨sa', _, sc'⟩, w, run_append_nothing (P := Try.prog) w _ _ _ 5 infoU8 Try.underlying34 infoU8_is sa' _ sc' hR.1 _ ?_, by rw [hl0, List.append_nil]; exact hR, fun B a hB _ _ => hB⟩
    cases ra with
    | none => exact Src.ofNil w Try.underlying34 rc
    | some a => exact Src.ofSlice w Try.underlying34 a 0 rc [] (by simp) (fun j u hu => by simp at hu) (fun u hu => by simp at hu)
  · obtain ⟨rb, ro, er, zr, cr⟩ := R.2.2.2 hrs
    simp only at er
    obtain ⟨v', w1, G', r1, r2, r3, r4⟩ := append_row (P := Try.prog) 34 34 infoU8 (.int .u8 0) 1 Try.underlying34 infoU8_is infoU8_zero infoU8_size infoU8_bytes rfl (by omega) h
      ⟨rb, ro, none⟩ l.length rc (byts l) (by rw [byts_length]; omega) (fun j u hu => by rw [hadd_off]; exact cr j u hu) (by intro u hu; simp [byts] at hu; obtain ⟨x, _, rfl⟩ := hu; rfl) hrs (by unfold maxLen; omega) (by omega)
    obtain ⟨sa', sc', rfl, _⟩ := r2.form
    have Q := (RowIs.rdS (s := ⟨sa', _, sc'⟩) r2).1
    refine ⟨⟨sa', _, sc'⟩, w1, by rw [er]; exact r1, ?_, fun B a hB hs hG => hB.grown r3 hs hG⟩
    rw [show byts (out ++ l) = byts out ++ byts l by simp [byts]]
    exact Q
end Go.Proofs.Ytkblldmpdihamaa
