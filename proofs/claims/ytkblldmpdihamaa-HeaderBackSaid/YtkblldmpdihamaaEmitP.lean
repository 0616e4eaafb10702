/-
  Package header: Emit, in plain Lean; worlds in which bits are laid.
-/
import Derived.Test.YtkblldmpdihamaaLay
set_option linter.unusedVariables false
set_option linter.unusedSimpArgs false
namespace Go.Proofs.Ytkblldmpdihamaa
open Go.RowKit

def layAll (s : List Nat × Nat) (l : List Bool) : List Nat × Nat := l.foldl (fun s b => (layN s.1 s.2 b, s.2 + 1)) s
theorem layAll_append (s : List Nat × Nat) (a b : List Bool) : layAll s (a ++ b) = layAll (layAll s a) b := by simp [layAll]
theorem layAll_snoc (s : List Nat × Nat) (l : List Bool) {c : Nat} (hc : c < l.length) : layAll s (l.take (c + 1)) = (layN (layAll s (l.take c)).1 (layAll s (l.take c)).2 l[c], (layAll s (l.take c)).2 + 1) := by
  rw [List.take_add_one, layAll_append]
  simp [layAll, hc]
theorem layAll_many (s : List Nat × Nat) (l : List Bool) : (layAll s l).2 = s.2 + l.length := by
  induction l generalizing s with
  | nil => simp [layAll]
  | cons b r ih =>
    have := ih (layN s.1 s.2 b, s.2 + 1)
    simp only [layAll, List.foldl_cons, List.length_cons] at this ⊢
    omega
/-- One field's bits, the highest one first. -/
def bitsOne (ns : List (BitVec 128)) (f : Nat) (x : Int) : List Bool := (List.range x.toNat).map fun (i : Nat) => decide (f < ns.length) && bitV (ns.getD f 0#128) (x - 1 - (i : Int))
theorem bitsOne_length (ns : List (BitVec 128)) (f : Nat) (x : Int) : (bitsOne ns f x).length = x.toNat := by simp [bitsOne]
theorem bitsOne_at (ns : List (BitVec 128)) (f : Nat) (x : Int) {c : Nat} (hc : c < (bitsOne ns f x).length) : (bitsOne ns f x)[c] = (decide (f < ns.length) && bitV (ns.getD f 0#128) (x - 1 - (c : Int))) := by simp [bitsOne]
/-- The bits of the first fields. -/
def fbT (ns : List (BitVec 128)) (ws : List Int) : Nat → List Bool
  | 0 => []
  | f + 1 => fbT ns ws f ++ bitsOne ns f (ws.getD f 0)
/-- A header's bits: none, if it isn't there. -/
def hBits (hs : List (SL × List Int)) (va : List Bool) (fs : List (SL × List (BitVec 128))) (h : Int) : List Bool :=
  if 0 ≤ h ∧ h.toNat < va.length ∧ h.toNat < fs.length ∧ va.getD h.toNat false = true then fbT ((fs.getD h.toNat (slNil, [])).2) (headAt hs h).2 (headAt hs h).2.length else []
def emT (hs : List (SL × List Int)) (va : List Bool) (fs : List (SL × List (BitVec 128))) (es : List Int) : Nat → List Bool
  | 0 => []
  | j + 1 => emT hs va fs es j ++ hBits hs va fs (es.getD j 0)

/-- Bits are being laid. -/
def EmW (V : World) (i0 i1 g0 : Nat) (wr : World) (s : List Nat × Nat) : Prop :=
  ∃ sv G, LayW wr i0 i1 sv G s.1 s.2 ∧ Turn V wr [i0, i1, g0] ∧ (∀ g, G = some g → g = g0 ∨ V.heap.size ≤ g)
theorem EmW.ext {V wr : World} {i0 i1 g0 : Nat} {s : List Nat × Nat} (h : EmW V i0 i1 g0 wr s) (m : Array Obj) (d : Nat) : EmW V i0 i1 g0 (wr.ext m d) s := by
  obtain ⟨sv, G, L, t, hG⟩ := h
  have hb : Below wr.heap.size wr (wr.ext m d) := Below.ext_mk (Below.refl _ _) (Nat.le_refl _) _ _
  exact ⟨sv, G, { L with many := L.many.ext m d, out := L.out.ext m d, row := RowIs.keep L.row (fun g hg => hb.block g (RowIs.lt L.row g hg)) }, t.trans (Turn.of_below hb), hG⟩
theorem EmW.lay {V wr : World} {i0 i1 g0 : Nat} {s : List Nat × Nat} (h : EmW V i0 i1 g0 wr s) (hm : s.2 ≤ 90000) (bit : Bool) :
    Calls Try.prog 40 #[.bool bit, .pointer (some ⟨i0, 0, none⟩), .pointer (some ⟨i1, 0, none⟩)] wr
      (fun e w' => e = .returned (.tuple #[]) ∧ EmW V i0 i1 g0 w' (layN s.1 s.2 bit, s.2 + 1)) := by
  obtain ⟨sv, G, L, t, hG⟩ := h
  refine (lay_any L hm bit).mono ?_
  rintro e w' ⟨rfl, sv', G', L', t', hG'⟩
  refine ⟨rfl, sv', G', L', t.from t' (fun i hi => ?_), fun g hg => ?_⟩
  · simp at hi
    rcases hi with rfl | rfl | hi
    · exact .inl (by simp)
    · exact .inl (by simp)
    · rcases hG i hi with e | e
      · exact .inl (by simp [e])
      · exact .inr e
  · rcases hG' g hg with e | e
    · exact hG g e
    · exact .inr (Nat.le_trans t.size e)
end Go.Proofs.Ytkblldmpdihamaa
