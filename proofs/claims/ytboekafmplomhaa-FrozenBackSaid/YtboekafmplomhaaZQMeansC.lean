/-
  QuantMeans: copies of bits, bits with one of them told, whether numbers hold one.
-/
import Derived.Test.YtboekafmplomhaaZQMeansP
import Derived.Test.YtboekafmplomhaaZKnown31B
set_option linter.unusedVariables false
set_option linter.unusedSimpArgs false
namespace Go.Proofs.Ytboekafmplomhaa
open Go.RowKit

theorem RowIs.addr3 {w : World} {a : Option Addr} {n c g : Nat} {e : TypeId} {s m : Nat} {xs : List Value} (h : RowIs w (.slice a n c) (some g) e s m xs) : a = some ⟨g, 0, none⟩ ∧ n = m := by
  obtain ⟨_, ⟨_, _, h3⟩ | ⟨g', cap, cur, h1, h2, _⟩⟩ := h
  · cases h3
  · cases h2
    injection h1 with e1 e2
    exact ⟨e1, e2⟩
theorem RowIs.bits {w : World} {g n c : Nat} {l : List Bool} (h : RowIs w (.slice (some ⟨g, 0, none⟩) n c) (some g) 4 1 l.length (bools l)) (hl : l.length ≤ 1000000) : BitsAre w (.slice (some ⟨g, 0, none⟩) n c) l := by
  obtain ⟨-, rfl⟩ := RowIs.addr3 h
  refine ⟨g, c, rfl, RowIs.lt h g rfl, hl, fun i b hi => ?_⟩
  obtain ⟨g', cap, e1, e2, _, e4⟩ := RowIs.one h (show (bools l)[i]? = some (.bool b) by simp [bools, hi])
  cases e2
  exact e4
theorem RowIs.setOne {w : World} {sv : Value} {g n i : Nat} {e : TypeId} {xs : List Value} (v : Value) (h : RowIs w sv (some g) e 1 n xs) (hi : i < n) :
    RowIs (w.setCell ⟨g, i, none⟩ v) sv (some g) e 1 n (xs.set i v) ∧ w.frozen? ⟨g, i, none⟩ = false := by
  obtain ⟨h0, ⟨_, _, h3⟩ | ⟨g', cap, cur, h1, h2, h3, h4, h5, h6, h7⟩⟩ := h
  · cases h3
  · cases h2
    have hb : w.heap[g]? = some (.cells cur e (0, 0)) := h3
    refine ⟨⟨by rw [List.length_set]; exact h0, .inr ⟨g, cap, cur.setIfInBounds i v, h1, rfl, ?_, h4, h5, by simpa using h6, ?_⟩⟩, by simp [World.frozen?, h3]⟩
    · simp [World.setCell, Array.getElem?_modify, h3]
    · rw [← h7]
      simp [List.take_set]
/-- What copies of bits are: bits, in a row of their own. -/
def BitsNew (w : World) (l : List Bool) (e : Ending) (w' : World) : Prop :=
  ∃ (g c : Nat), e = .returned (.slice (some ⟨g, 0, none⟩) l.length c) ∧ RowIs w' (.slice (some ⟨g, 0, none⟩) l.length c) (some g) 4 1 l.length (bools l) ∧ w.heap.size ≤ g ∧ Below w.heap.size w w'
set_option maxRecDepth 100000 in
theorem cloneb_any {w : World} {sv : Value} {l : List Bool} (h : BitsAre w sv l) (h0 : 0 < l.length) (h8 : l.length ≤ 1000) : Calls Try.prog 63 #[sv] w (BitsNew w l) := by
  obtain ⟨gb, cap, rfl, hg, _, hc⟩ := h
  have hrow : RowIs (w.alloc (.cells #[] 4)) (.slice (some ⟨w.heap.size, 0, none⟩) 0 0) (some w.heap.size) 4 1 0 [] :=
    ⟨by simp, .inr ⟨w.heap.size, 0, #[], rfl, rfl, World.heap_alloc_last w _, Nat.le_refl _, Nat.zero_le _, by simp, by simp⟩⟩
  have hbl : Below w.heap.size w (w.alloc (.cells #[] 4)) := by (repeat' (first | (with_reducible exact Below.refl _ _) | (with_reducible refine Below.ext_mk ?_ ?_ _ _) | (with_reducible refine Below.alloc ?_ ?_ _) | (with_reducible refine Below.drew ?_) | (with_reducible refine Below.setCell ?_ ?_ _) | go_size))
  obtain ⟨v', w1, G', r1, r2, r3, r4⟩ := append_row (P := Try.prog) 33 33 infoBool (.bool false) 1 Try.underlying33 infoBool_is infoBool_zero infoBool_size infoBool_bytes rfl (by omega) hrow
    ⟨gb, 0, none⟩ l.length cap (bools l) (by simp [bools]) (fun j u hu => by
      have hj : (⟨gb, 0, none⟩ : Addr).add j = ⟨gb, j, none⟩ := by unfold Addr.add; by_cases e : j = 0 <;> simp [e]
      rw [hj]
      simp only [bools, List.getElem?_map, Option.map_eq_some_iff] at hu
      obtain ⟨b, hb, rfl⟩ := hu
      exact (hbl.cell (p := ⟨gb, j, none⟩) hg).trans (hc j b hb)) (by intro u hu; simp [bools] at hu; rcases hu with ⟨_, rfl⟩ | ⟨_, rfl⟩ <;> rfl) h0 (by unfold maxLen; omega) (by omega)
  have hfin : Below w.heap.size w w1 := hbl.grown r3 (by simp) (fun g hg => by cases hg; exact Nat.le_refl _)
  rw [Nat.zero_add, List.nil_append] at r2
  have hG : w.heap.size ≤ G' := by
    rcases r4 with e | ⟨e, _⟩
    · cases e; exact Nat.le_refl _
    · simp at e; omega
  obtain ⟨a', sc', rfl, _⟩ := r2.form
  obtain ⟨rfl, -⟩ := RowIs.addr3 r2
  have hnn : ∀ w, (binOp BinOp.eql 33 (.slice (some ⟨gb, 0, none⟩) l.length cap) (.slice none 0 0)).run Try.prog w = .ok (.bool false) w := fun _ => by kernel_rfl
  have R1 := hid r1
  clear r1 r3 r4 hrow hbl hc
  go_enter Try.func63, Try.ntmps63
  go_upto_region 3 with (fail)
  refine wp_region_doc (fun F' hF => ?_)
  have HF := hid hF
  clear hF
  iterate 2 (refine doc_val rfl (by first | (go_simp; done) | (go_simp; exact ⟨rfl, rfl⟩) | (go_simp; with_reducible rfl)) ?_; simp only [Act.put, List.setIfInBounds_toArray, List.set_cons_zero, List.set_cons_succ])
  refine doc_val rfl (run_append_op _ _ _ _ _ _ _ _ _ R1.out) ?_
  simp only [Act.put, List.setIfInBounds_toArray, List.set_cons_zero, List.set_cons_succ]
  refine doc_val rfl (by first | (go_simp; done) | (go_simp; exact ⟨rfl, rfl⟩) | (go_simp; with_reducible rfl)) ?_
  simp only [Act.put, List.setIfInBounds_toArray, List.set_cons_zero, List.set_cons_succ]
  refine doc_end (HF.out _ _ ?_)
  clear HF F'
  go_wp2_with fail
  go_returns
  exact ⟨G', sc', rfl, r2, hG, hfin⟩

set_option maxRecDepth 100000 in
/-- Bits with one of them told. -/
theorem told_any {w : World} {sv : Value} {l : List Bool} (h : BitsAre w sv l) (h8 : l.length ≤ 1000) {kb : Nat} (hk : kb < w.heap.size) (ck : w.cell? ⟨kb, 0, none⟩ = some sv) (i : Nat) (hi : i < l.length) (on : Bool) :
    Calls Try.prog 62 #[.int .i64 (i : Int), .bool on, .pointer (some ⟨kb, 0, none⟩)] w (BitsNew w (l.set i on)) := by
  have C := cloneb_any h (by omega) h8
  have hi1 : (i : Int) < (l.length : Int) := by omega
  clear h
  go_enter Try.func62, Try.ntmps62
  go_upto_region 2 with (go_at_call 63; refine C.mono ?_; rintro e w1 ⟨g, c, rfl, hR, hg, hb⟩)
  have zg := RowIs.lt hR g rfl
  obtain ⟨S1, f1⟩ := RowIs.setOne (.bool on) hR hi
  have hS : Below w.heap.size w (w1.setCell ⟨g, i, none⟩ (.bool on)) := hb.setCell hg _
  obtain ⟨g', cap', e1, e2, e3, e4⟩ := RowIs.at hR hi (j := 0) (by omega)
  cases e2
  simp only [Nat.mul_one, Nat.add_zero] at e3
  rw [show (bools l)[i]? = some (.bool l[i]) by simp [bools, hi]] at e3
  have e5 : (bools l).set i (.bool on) = bools (l.set i on) := by simp [bools, List.map_set]
  rw [e5] at S1
  have SS := hid S1
  have HS := hid hS
  clear hR S1 hS hb C e4 e1
  go_wp2_with fail
  go_returns
  have q : (l.set i on).length = l.length := by simp
  refine ⟨g, c, ?_, ?_, hg, HS.out⟩
  · rw [q]; rfl
  · rw [q]; exact SS.out

/-- Where numbers hold one. -/
def idxN (x : Int) : List Int → Nat → Int
  | [], _ => -1
  | y :: r, k => if x = y then (k : Int) else idxN x r (k + 1)
theorem idxN_not {x : Int} : ∀ (l : List Int) (k : Nat), x ∉ l → idxN x l k = -1
  | [], _, _ => rfl
  | y :: r, k, h => by
    rw [idxN, if_neg (fun e => h (by simp [e])), idxN_not r (k + 1) (fun hm => h (by simp [hm]))]
theorem index_not {w : World} {sv : Value} {l : List Int} (h : Rd w 1 sv (ints l)) (x : Int) (hx : x ∉ l) :
    Calls Try.prog 118 #[sv, .int .i64 x] w (Pure (.int .i64 (-1)) w) := by
  obtain ⟨a, cap, rfl, hc, hm⟩ := h.len
  have L := hid h
  have HX := hid hx
  clear h hx
  go_enter Try.func118, Try.ntmps118
  go_wp2_with fail
  go_loopw [8] (fun i wr => ∃ j : Nat, j ≤ l.length ∧ i = .int .i64 j ∧ Below w.heap.size w wr) (fun i _ => l.length - (intOf i).toNat)
  case atStart => exact ⟨0, by omega, rfl, by (repeat' (first | (with_reducible exact Below.refl _ _) | (with_reducible refine Below.ext_mk ?_ ?_ _ _) | (with_reducible refine Below.alloc ?_ ?_ _) | (with_reducible refine Below.drew ?_) | (with_reducible refine Below.setCell ?_ ?_ _) | go_size))⟩
  case round =>
    obtain ⟨j, hj, rfl, hb⟩ := hrel
    by_cases hlt : j < l.length
    · have hj1 : (j : Int) < (l.length : Int) := by omega
      obtain ⟨b, off, rfl, zb, c⟩ := Rd.intAt (L.out.below hb) hlt
      have hne : (x == l[j]) = false := by
        simp only [beq_eq_false_iff_ne, ne_eq]
        intro e
        exact HX.out (by rw [e]; exact List.getElem_mem _)
      generalize l[j] = y at *
      go_wp2_with fail
      go_roundw
      case rel => exact ⟨j + 1, hlt, by go_num, by (repeat' (first | (with_reducible exact hb) | (with_reducible exact Below.refl _ _) | (with_reducible refine Below.ext_mk ?_ ?_ _ _) | (with_reducible refine Below.alloc ?_ ?_ _) | (with_reducible refine Below.drew ?_) | (with_reducible refine Below.setCell ?_ ?_ _) | go_size))⟩
      case measure => simp [intOf]; omega
    · obtain rfl : j = l.length := by omega
      go_wp2_with fail
      go_returns
      exact Pure.of rfl (by (repeat' (first | (with_reducible exact hb) | (with_reducible exact Below.refl _ _) | (with_reducible refine Below.ext_mk ?_ ?_ _ _) | (with_reducible refine Below.alloc ?_ ?_ _) | (with_reducible refine Below.drew ?_) | (with_reducible refine Below.setCell ?_ ?_ _) | go_size)))
theorem contains_not {w : World} {sv : Value} {l : List Int} (h : Rd w 1 sv (ints l)) (x : Int) (hx : x ∉ l) :
    Calls Try.prog 64 #[sv, .int .i64 x] w (Pure (.bool false) w) := by
  have I := index_not h x hx
  clear h
  go_enter Try.func64, Try.ntmps64
  go_wp2_with (go_at_call 118; refine I.mono ?_; rintro e w1 ⟨rfl, m, d, rfl⟩)
  go_returns
  exact Pure.of rfl (by (repeat' (first | (with_reducible exact Below.refl _ _) | (with_reducible refine Below.ext_mk ?_ ?_ _ _) | (with_reducible refine Below.alloc ?_ ?_ _) | (with_reducible refine Below.drew ?_) | (with_reducible refine Below.setCell ?_ ?_ _) | go_size)))
end Go.Proofs.Ytboekafmplomhaa
