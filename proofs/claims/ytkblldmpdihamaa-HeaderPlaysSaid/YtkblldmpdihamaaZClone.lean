/-
  bytes.Clone of bytes that are there.
-/
import Derived.Test.YtkblldmpdihamaaZTakeB
import Derived.Deep.Upon
import Derived.Test.YtkblldmpdihamaaZRow
set_option linter.unusedVariables false
set_option linter.unusedSimpArgs false
namespace Go.Proofs.Ytkblldmpdihamaa
open Go.RowKit

theorem infoU8_some : (Try.prog.info? 5).isSome = true := by kernel_rfl
noncomputable abbrev infoU8 : TypeInfo := (Try.prog.info? 5).get infoU8_some
theorem infoU8_is : Try.prog.info? 5 = some infoU8 := (Option.some_get _).symm
theorem infoU8_zero : infoU8.zero = some (.int .u8 0) := by kernel_rfl
theorem infoU8_size : infoU8.size = 1 := by kernel_rfl
theorem infoU8_bytes : infoU8.bytes = 1 := by kernel_rfl

/-- A row of our own, as a slice that reads. -/
theorem RowIs.rdS {w : World} {s : SL} {G : Option Nat} {e : TypeId} {size n : Nat} {xs : List Value} (h : RowIs w s.v G e size n xs) : RdS w size s xs ∧ s.n = n ∧ (∀ b off, s.a = some ⟨b, off, none⟩ → G = some b) := by
  obtain ⟨sa, sn, sc⟩ := s
  obtain ⟨h0, ⟨h1, rfl, _⟩ | ⟨g, cap, cur, h1, rfl, h3, h4, h5, h6, h7⟩⟩ := h
  · simp only [SL.v_mk, Value.slice.injEq] at h1
    obtain ⟨rfl, rfl, rfl⟩ := h1
    exact ⟨⟨Nat.le_refl _, by simp, by simpa using h0, fun h => absurd h (by simp)⟩, rfl, fun b off e => by cases e⟩
  · simp only [SL.v_mk, Value.slice.injEq] at h1
    obtain ⟨rfl, rfl, rfl⟩ := h1
    refine ⟨⟨h4, by unfold maxLen at h5; simp only; omega, h0, fun hn => ⟨g, 0, rfl, (Array.getElem?_eq_some_iff.1 h3).1, fun j u hu => ?_⟩⟩, rfl, fun b off e => by cases e; rfl⟩
    have hj : j < sn * size := by rw [← h0]; exact (List.getElem?_eq_some_iff.1 hu).1
    rw [← h7, List.getElem?_take_of_lt hj] at hu
    rw [Nat.zero_add]
    simp only [World.cell?, h3]
    simpa using hu
theorem hadd_off (b off i : Nat) : (⟨b, off, none⟩ : Addr).add i = ⟨b, off + i, none⟩ := by
  unfold Addr.add
  by_cases e : i = 0 <;> simp [e]

theorem slice_not_nil (b off n c : Nat) (w : World) : (binOp BinOp.eql 34 (.slice (some ⟨b, off, none⟩) n c) (.slice none 0 0)).run Try.prog w = .ok (.bool false) w := by kernel_rfl
/-- A slice that was just made. -/
def Fresh (B : Nat) (s : SL) : Prop := ∀ b off, s.a = some ⟨b, off, none⟩ → B ≤ b
set_option maxRecDepth 100000 in
theorem clone_det {w : World} {s : SL} {l : List Nat} (h : RdS w 1 s (byts l)) (h0 : 0 < l.length) (h1 : l.length ≤ 100000) :
    ∃ (r : SL) (W1 : World), Calls Try.prog 32 #[s.v] w (fun e w' => e = .returned r.v ∧ w' = W1) ∧ RdS W1 1 r (byts l) ∧ Fresh w.heap.size r ∧ Below w.heap.size w W1 := by
  have hn : s.n = l.length := by have := h.2.2.1; rw [byts_length] at this; omega
  obtain ⟨b, off, ea, zb, hc⟩ := h.2.2.2 (by omega)
  obtain ⟨sa, sn, sc⟩ := s
  simp only at hn ea
  subst ea hn
  have H := hid h
  clear h
  have hcmp := fun w => slice_not_nil b off l.length sc w
  have hrow : RowIs (w.alloc (.cells #[] 5)) (.slice (some ⟨w.heap.size, 0, none⟩) 0 0) (some w.heap.size) 5 1 0 [] :=
    ⟨rfl, .inr ⟨w.heap.size, 0, #[], rfl, rfl, Blk.new w 5 [], Nat.le_refl _, Nat.zero_le _, rfl, rfl⟩⟩
  have hbl : Below w.heap.size w (w.alloc (.cells #[] 5)) := by (repeat' (first | (with_reducible exact Below.refl _ _) | (with_reducible refine Below.ext_mk ?_ ?_ _ _) | (with_reducible refine Below.alloc ?_ ?_ _) | (with_reducible refine Below.drew ?_) | (with_reducible refine Below.setCell ?_ ?_ _) | go_size))
  obtain ⟨v', w1, G', r1, r2, r3, r4⟩ := append_row (P := Try.prog) 34 34 infoU8 (.int .u8 0) 1 Try.underlying34 infoU8_is infoU8_zero infoU8_size infoU8_bytes rfl (by omega) hrow
    ⟨b, off, none⟩ l.length sc (byts l) (by rw [byts_length]; omega) (fun j u hu => by
      rw [hadd_off]
      exact (hbl.cell (p := ⟨b, off + j, none⟩) zb).trans (hc j u hu)) (by intro u hu; simp [byts] at hu; obtain ⟨x, _, rfl⟩ := hu; rfl) h0 (by unfold maxLen; omega) (by omega)
  obtain ⟨sa', sc', rfl, _⟩ := r2.form
  simp only [Nat.zero_add, List.nil_append] at r1 r2
  obtain ⟨q1, q2, q3⟩ := RowIs.rdS (s := ⟨sa', l.length, sc'⟩) r2
  refine ⟨⟨sa', l.length, sc'⟩, w1, ?_, q1, fun b' off' e => ?_, (hbl.grown r3 (by simp) (fun g hg => by cases hg; exact Nat.le_refl _))⟩
  · clear q1 q2 q3 r2 r3 r4 hrow hbl
    go_enter Try.func32, Try.ntmps32
    go_upto_region 3 with (fail)
    refine wp_region_doc (fun F' hF => ?_)
    have HF := hid hF
    clear hF
    refine doc_val rfl (by first | (go_simp; done) | (go_simp; exact ⟨rfl, rfl⟩) | (go_simp; with_reducible rfl)) ?_
    simp only [Act.put, List.setIfInBounds_toArray, List.set_cons_zero, List.set_cons_succ]
    refine doc_val rfl (by first | (go_simp; done) | (go_simp; exact ⟨rfl, rfl⟩) | (go_simp; with_reducible rfl)) ?_
    simp only [Act.put, List.setIfInBounds_toArray, List.set_cons_zero, List.set_cons_succ]
    refine doc_val rfl (run_append_op _ _ _ _ _ _ _ _ _ r1) ?_
    simp only [Act.put, List.setIfInBounds_toArray, List.set_cons_zero, List.set_cons_succ]
    refine doc_val rfl (by first | (go_simp; done) | (go_simp; exact ⟨rfl, rfl⟩) | (go_simp; with_reducible rfl)) ?_
    simp only [Act.put, List.setIfInBounds_toArray, List.set_cons_zero, List.set_cons_succ]
    refine doc_end (HF.out _ _ ?_)
    clear HF F'
    go_wp2
    go_returns
    exact ⟨rfl, rfl⟩
  · have := q3 b' off' e
    rcases r4 with r4 | ⟨r4, _⟩
    · cases r4; cases this; exact Nat.le_refl _
    · cases this
      simp at r4
      omega
/-- A slice whose block is there. -/
def Lt (w : World) (s : SL) : Prop := ∀ b off, s.a = some ⟨b, off, none⟩ → b < w.heap.size
theorem Lt.mono {w w' : World} {s : SL} (h : Lt w s) (hz : w.heap.size ≤ w'.heap.size) : Lt w' s := fun b off e => Nat.lt_of_lt_of_le (h b off e) hz
theorem Lt.of_rd {w : World} {s : SL} {size : Nat} {xs : List Value} (h : RdS w size s xs) (h0 : 0 < s.n) : Lt w s := fun b off e => by
  obtain ⟨b', off', e', z', _⟩ := h.2.2.2 h0
  rw [e] at e'; cases e'; exact z'
theorem addr_not_nil (a : Addr) (n c : Nat) (w : World) : (binOp BinOp.eql 34 (.slice (some a) n c) (.slice none 0 0)).run Try.prog w = .ok (.bool false) w := by kernel_rfl
set_option maxRecDepth 100000 in
theorem clone_all {w : World} {s : SL} {l : List Nat} (h : RdS w 1 s (byts l)) (h1 : l.length ≤ 100000) :
    ∃ (r : SL) (W1 : World), Calls Try.prog 32 #[s.v] w (fun e w' => e = .returned r.v ∧ w' = W1) ∧ RdS W1 1 r (byts l) ∧ Fresh w.heap.size r ∧ Below w.heap.size w W1 ∧ Lt W1 r := by
  rcases Nat.eq_zero_or_pos l.length with h0 | h0
  · have hl0 : l = [] := List.length_eq_zero_iff.1 h0
    subst hl0
    have hn : s.n = 0 := by have := h.2.2.1; simp [byts] at this; omega
    obtain ⟨sa, sn, sc⟩ := s
    simp only at hn
    subst hn
    cases sa with
    | none =>
      have hc : (binOp BinOp.eql 34 (.slice none 0 sc) (.slice none 0 0)).run Try.prog w = .ok (.bool true) w := by kernel_rfl
      clear h
      refine ⟨⟨none, 0, 0⟩, w, ?_, ⟨Nat.le_refl _, by simp, by simp [byts], fun h => by simp at h⟩, (fun b off e => by cases e), Below.refl _ _, (fun b off e => by cases e)⟩
      go_enter Try.func32, Try.ntmps32
      go_wp2_with fail
      go_returns
      exact ⟨rfl, rfl⟩
    | some a =>
      have hcmp := fun w => addr_not_nil a 0 sc w
      clear h
      have r1 : (Builtin.append_ #[34, 34] 34 #[.slice (some ⟨w.heap.size, 0, none⟩) 0 0, .slice (some a) 0 sc]).run Try.prog (w.alloc (.cells #[] 5)) = .ok (.slice (some ⟨w.heap.size, 0, none⟩) 0 0) (w.alloc (.cells #[] 5)) :=
        run_append_nothing (P := Try.prog) _ _ _ _ 5 infoU8 Try.underlying34 infoU8_is _ 0 0 (Nat.le_refl _) _ (Src.ofSlice _ Try.underlying34 a 0 sc [] (by simp) (fun j u hu => by simp at hu) (fun u hu => by simp at hu))
      refine ⟨⟨some ⟨w.heap.size, 0, none⟩, 0, 0⟩, w.alloc (.cells #[] 5), ?_, ⟨Nat.le_refl _, by simp, by simp [byts], fun h => by simp at h⟩, (fun b off e => by cases e; exact Nat.le_refl _), by (repeat' (first | (with_reducible exact Below.refl _ _) | (with_reducible refine Below.ext_mk ?_ ?_ _ _) | (with_reducible refine Below.alloc ?_ ?_ _) | (with_reducible refine Below.drew ?_) | (with_reducible refine Below.setCell ?_ ?_ _) | go_size)), (fun b off e => by cases e; simp)⟩
      go_enter Try.func32, Try.ntmps32
      go_upto_region 3 with (fail)
      refine wp_region_doc (fun F' hF => ?_)
      have HF := hid hF
      clear hF
      refine doc_val rfl (by first | (go_simp; done) | (go_simp; exact ⟨rfl, rfl⟩) | (go_simp; with_reducible rfl)) ?_
      simp only [Act.put, List.setIfInBounds_toArray, List.set_cons_zero, List.set_cons_succ]
      refine doc_val rfl (by first | (go_simp; done) | (go_simp; exact ⟨rfl, rfl⟩) | (go_simp; with_reducible rfl)) ?_
      simp only [Act.put, List.setIfInBounds_toArray, List.set_cons_zero, List.set_cons_succ]
      refine doc_val rfl (run_append_op _ _ _ _ _ _ _ _ _ r1) ?_
      simp only [Act.put, List.setIfInBounds_toArray, List.set_cons_zero, List.set_cons_succ]
      refine doc_val rfl (by first | (go_simp; done) | (go_simp; exact ⟨rfl, rfl⟩) | (go_simp; with_reducible rfl)) ?_
      simp only [Act.put, List.setIfInBounds_toArray, List.set_cons_zero, List.set_cons_succ]
      refine doc_end (HF.out _ _ ?_)
      clear HF F'
      go_wp2
      go_returns
      exact ⟨rfl, rfl⟩
  · obtain ⟨r, W1, c, h1, h2, h3⟩ := clone_det h h0 h1
    have hrn : 0 < r.n := by have := h1.2.2.1; rw [byts_length] at this; omega
    exact ⟨r, W1, c, h1, h2, h3, Lt.of_rd h1 hrn⟩
theorem clone_any {w : World} {s : SL} {l : List Nat} (h : RdS w 1 s (byts l)) (h1 : l.length ≤ 100000) :
    Calls Try.prog 32 #[s.v] w (fun e w' => ∃ r : SL, e = .returned r.v ∧ RdS w' 1 r (byts l) ∧ Fresh w.heap.size r ∧ Below w.heap.size w w' ∧ Lt w' r) := by
  obtain ⟨r, W1, c, h1, h2, h3, h4⟩ := clone_all h h1
  exact c.mono fun e w' ⟨e1, e2⟩ => ⟨r, e1, by rw [e2]; exact h1, h2, by rw [e2]; exact h3, by rw [e2]; exact h4⟩
/-- A slice's end. -/
theorem RdS.drop {w : World} {b off n c nn : Nat} {l : List Nat} (h : RdS w 1 ⟨some ⟨b, off, none⟩, n, c⟩ (byts l)) (hn : nn ≤ n) : RdS w 1 ⟨some ⟨b, off + nn, none⟩, n - nn, c - nn⟩ (byts (l.drop nn)) := by
  obtain ⟨h1, h2, h3, h4⟩ := h
  simp only [byts_length, Nat.mul_one] at h1 h2 h3 h4
  refine ⟨by simp only; omega, by simp only; omega, by rw [byts_length, List.length_drop]; simp only; omega, fun hp => ?_⟩
  simp only at hp
  obtain ⟨b', off', e1, e2, e3⟩ := h4 (by omega)
  cases e1
  refine ⟨b, off + nn, rfl, e2, fun j u hu => ?_⟩
  have := e3 (nn + j) u (by unfold byts at hu ⊢; rw [List.map_drop, List.getElem?_drop] at hu; exact hu)
  rw [Nat.add_assoc]; exact this
end Go.Proofs.Ytkblldmpdihamaa
