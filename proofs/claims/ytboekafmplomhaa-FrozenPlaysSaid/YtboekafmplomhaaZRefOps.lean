/-
  The document's store: node: the walk.
-/
import Derived.Test.YtboekafmplomhaaZRefStoW
import Derived.Deep.Upon
set_option linter.unusedVariables false
set_option linter.unusedSimpArgs false
namespace Go.Proofs.Ytboekafmplomhaa
open Go.RowKit

/-- A call of the document's store: it tells a number, and turns the store. -/
def RTells (f : FuncId) (args : Array Value) (w : World) (q : Nat) (F : List Nat) (X : RSt × Int) : Prop :=
  Calls Try.prog f args w (fun e w' => e = .returned (.int .i64 X.2) ∧ ∃ F', RIs w' q F' X.1 ∧ StoStep w w' F F')
theorem RIs.set_full {w : World} {q : Nat} {F : List Nat} {R : RSt} (h : RIs w q F R) : RIs (w.setCell ⟨q, 2, none⟩ (.bool true)) q F ⟨R.cap, R.L, true⟩ := by
  obtain ⟨sv, G, h1, h2, rfl, h5⟩ := h
  refine ⟨sv, G, ?_, h2.keep (fun g hg => Below.heap_setCell _ _ _ _ (fun e => ?_)), rfl, h5⟩
  · simp [World.setCell, Array.getElem?_modify, h1]
  · simp at e; subst e; rw [hg] at h5; simp at h5
set_option maxRecDepth 100000 in
theorem RIs.grow {w : World} {q : Nat} {F : List Nat} {R : RSt} (h : RIs w q F R) (hl : R.L.length ≤ 1048576) (n : Nd) {sv : Value} (hsv : w.cell? ⟨q, 1, none⟩ = some sv) :
    ∃ (a : Option Addr) (c : Nat) (w1 : World) (a' : Option Addr) (c' : Nat) (w2 : World) (F' : List Nat),
      (Builtin.append_ #[43, 43] 43 #[.slice (some ⟨w.heap.size, 0, none⟩) 0 0, sv]).run Try.prog (w.alloc (.cells #[] 39)) = .ok (.slice a R.L.length c) w1 ∧
      (Builtin.append_ #[43, 43] 43 #[.slice a R.L.length c, .slice (some ⟨w1.heap.size, 0, none⟩) 1 1]).run Try.prog (w1.alloc (.cells #[.int .i64 n.1, .int .i64 n.2.1, .int .i64 n.2.2] 39)) = .ok (.slice a' (R.L.length + 1) c') w2 ∧
      w2.frozen? ⟨q, 1, none⟩ = false ∧ (∃ u, w2.cell? ⟨q, 1, none⟩ = some u) ∧ q < w2.heap.size ∧ q < w1.heap.size ∧
      RIs (w2.setCell ⟨q, 1, none⟩ (.slice a' (R.L.length + 1) c')) q F' ⟨R.cap, R.L ++ [n], R.full⟩ ∧ StoStep w (w2.setCell ⟨q, 1, none⟩ (.slice a' (R.L.length + 1) c')) F F' := by
  have hlt := h.lt
  obtain ⟨sv', G, h1, h2, rfl, h5⟩ := h
  have zq := (Array.getElem?_eq_some_iff.1 h1).1
  have e : sv' = sv := by simp [World.cell?, h1] at hsv; exact hsv
  subst e
  have hrow : RowIs (w.alloc (.cells #[] 39)) (.slice (some ⟨w.heap.size, 0, none⟩) 0 0) (some w.heap.size) 39 3 0 [] :=
    ⟨by simp, .inr ⟨w.heap.size, 0, #[], rfl, rfl, World.heap_alloc_last w _, Nat.le_refl _, Nat.zero_le _, by simp, by simp⟩⟩
  have hbl : Below w.heap.size w (w.alloc (.cells #[] 39)) := by (repeat' (first | (with_reducible exact Below.refl _ _) | (with_reducible refine Below.ext_mk ?_ ?_ _ _) | (with_reducible refine Below.alloc ?_ ?_ _) | (with_reducible refine Below.drew ?_) | (with_reducible refine Below.setCell ?_ ?_ _) | go_size))
  -- the copy
  have C : ∃ (a : Option Addr) (c : Nat) (w1 : World) (g1 : Nat), (Builtin.append_ #[43, 43] 43 #[.slice (some ⟨w.heap.size, 0, none⟩) 0 0, sv']).run Try.prog (w.alloc (.cells #[] 39)) = .ok (.slice a R.L.length c) w1 ∧
      RowIs w1 (.slice a R.L.length c) (some g1) 39 3 R.L.length (flat R.L) ∧ w.heap.size ≤ g1 ∧ Below w.heap.size w w1 := by
    obtain ⟨sa, sc, rfl, hm⟩ := h2.form
    rcases Nat.eq_zero_or_pos R.L.length with h0 | h0
    · have hx : R.L = [] := List.length_eq_zero_iff.1 h0
      rw [h0]
      refine ⟨some ⟨w.heap.size, 0, none⟩, 0, w.alloc (.cells #[] 39), w.heap.size, run_append_nothing (P := Try.prog) _ _ _ _ 39 infoB Try.underlying43 info_is _ 0 0 (Nat.le_refl _) _ ?_, by rw [hx]; exact hrow, Nat.le_refl _, hbl⟩
      cases sa with
      | none => exact Src.ofNil _ Try.underlying43 sc
      | some a => exact Src.ofSlice _ Try.underlying43 a 0 sc [] (by simp) (fun j u hu => by simp at hu) (fun u hu => by simp at hu)
    · obtain ⟨g, cap, e1, e2, _, _⟩ := RowIs.at h2 h0 (j := 0) (by omega)
      injection e1 with e1
      subst e1
      have zg := RowIs.lt h2 g e2
      obtain ⟨v', w1, G', r1, r2, r3, r4⟩ := append_row (P := Try.prog) 43 43 infoB (.agg #[.int .i64 0, .int .i64 0, .int .i64 0]) 24 Try.underlying43 info_is infoB_zero infoB_size infoB_bytes rfl (by omega) hrow
        ⟨g, 0, none⟩ R.L.length sc (flat R.L) (flat_length R.L) (fun j u hu => by
          have hj : (⟨g, 0, none⟩ : Addr).add j = ⟨g, j, none⟩ := by unfold Addr.add; by_cases e : j = 0 <;> simp [e]
          rw [hj]
          have hj3 : j < R.L.length * 3 := by rw [← flat_length]; exact (List.getElem?_eq_some_iff.1 hu).1
          obtain ⟨g', cap', e1', e2', c, _⟩ := RowIs.at h2 (i := j / 3) (j := j % 3) (by omega) (by omega)
          rw [e2] at e2'
          cases e2'
          rw [show j / 3 * 3 + j % 3 = j by omega, hu] at c
          exact (hbl.cell (p := ⟨g, j, none⟩) zg).trans c) (by
            intro u hu
            have : ∀ l : List Nd, ∀ u ∈ flat l, u.oneCell' = true := fun l => by
              induction l with
              | nil => intro u hu; simp [flat] at hu
              | cons m r ih => intro u hu; simp only [flat, List.mem_cons] at hu; rcases hu with rfl | rfl | rfl | hu; rfl; rfl; rfl; exact ih u hu
            exact this _ u hu) h0 (by unfold maxLen; omega) (by omega)
      rw [Nat.zero_add, List.nil_append] at r2
      obtain ⟨a, c, rfl, _⟩ := r2.form
      refine ⟨a, c, w1, G', r1, r2, ?_, hbl.grown r3 (by simp) (fun g hg => by cases hg; exact Nat.le_refl _)⟩
      rcases r4 with e | ⟨e, _⟩
      · cases e; exact Nat.le_refl _
      · simp at e; omega
  obtain ⟨a, c, w1, g1, p1, p2, p3, p4⟩ := C
  have row1 : RowIs (w1.alloc (.cells #[.int .i64 n.1, .int .i64 n.2.1, .int .i64 n.2.2] 39)) (.slice a R.L.length c) (some g1) 39 3 R.L.length (flat R.L) := RowIs.keep p2 (fun g hg => Below.heap_alloc _ _ _ (RowIs.lt p2 g hg))
  have lit : (w1.alloc (.cells #[.int .i64 n.1, .int .i64 n.2.1, .int .i64 n.2.2] 39)).heap[w1.heap.size]? = some (.cells #[.int .i64 n.1, .int .i64 n.2.1, .int .i64 n.2.2] 39 (0, 0)) := World.heap_alloc_last w1 _
  obtain ⟨v', w2, g2, r1, r2, r3, r4⟩ := append_row (P := Try.prog) 43 43 infoB (.agg #[.int .i64 0, .int .i64 0, .int .i64 0]) 24 Try.underlying43 info_is infoB_zero infoB_size infoB_bytes rfl (by omega) row1
    ⟨w1.heap.size, 0, none⟩ 1 1 [.int .i64 n.1, .int .i64 n.2.1, .int .i64 n.2.2] rfl (fun j u hu => by
      rcases j with _ | _ | _ | j
      · simp at hu; subst hu
        show (w1.alloc (.cells #[.int .i64 n.1, .int .i64 n.2.1, .int .i64 n.2.2] 39)).cell? ⟨w1.heap.size, 0, none⟩ = _
        simp only [World.cell?]
        rw [lit]; rfl
      · simp at hu; subst hu
        show (w1.alloc (.cells #[.int .i64 n.1, .int .i64 n.2.1, .int .i64 n.2.2] 39)).cell? ⟨w1.heap.size, 1, none⟩ = _
        simp only [World.cell?]
        rw [lit]; rfl
      · simp at hu; subst hu
        show (w1.alloc (.cells #[.int .i64 n.1, .int .i64 n.2.1, .int .i64 n.2.2] 39)).cell? ⟨w1.heap.size, 2, none⟩ = _
        simp only [World.cell?]
        rw [lit]; rfl
      · simp at hu) (by simp [Value.oneCell']) (by omega) (by unfold maxLen; omega) (by omega)
  obtain ⟨a', c', rfl, _⟩ := r2.form
  have z1 := p4.size
  have z2 := r3.size
  have hb2 : Below w.heap.size w w2 := (p4.alloc z1 _).grown r3 (by simp; omega) (fun g hg => by cases hg; exact p3)
  have hg2 : w.heap.size ≤ g2 := by
    rcases r4 with e | ⟨e, _⟩
    · cases e; exact p3
    · simp at e; omega
  have hq2 : w2.heap[q]? = w.heap[q]? := hb2.block q zq
  have hne : g2 ≠ q := by omega
  refine ⟨a, c, w1, a', c', w2, [q, g2], p1, r1, ?_, ?_, by have := hb2.size; omega, by omega, ?_, ?_⟩
  · simp [World.frozen?, hq2, h1]
  · exact ⟨_, by simp [World.cell?, hq2, h1]; rfl⟩
  · refine ⟨.slice a' (R.L.length + 1) c', some g2, ?_, ?_, rfl, by simp; exact fun e => hne e.symm⟩
    · simp [World.setCell, Array.getElem?_modify, hq2, h1]
    · have e3 : flat (R.L ++ [n]) = flat R.L ++ [.int .i64 n.1, .int .i64 n.2.1, .int .i64 n.2.2] := by rw [flat_append]; rfl
      simp only [List.length_append, List.length_singleton]
      rw [e3]
      exact RowIs.keep r2 (fun g hg => Below.heap_setCell _ _ _ _ (by cases hg; exact hne))
  · refine ⟨hb2.os, hb2.tape, hb2.output, by simp [World.setCell]; exact hb2.size, fun k hk hn => ?_, fun k hk => ?_⟩
    · rw [Below.heap_setCell _ _ _ _ (fun e => hn (by rw [e]; simp))]; exact hb2.block k hk
    · simp at hk
      rcases hk with rfl | rfl
      · exact .inl (by simp)
      · refine .inr ⟨hg2, ?_⟩
        have := RowIs.lt r2 k rfl
        simp [World.setCell]; exact this

section
variable {w : World} {q : Nat} {F : List Nat}
set_option maxRecDepth 100000 in
set_option maxHeartbeats 4000000 in
theorem rnode_any {R : RSt} (h : RIs w q F R) (hl : R.L.length ≤ 1048576) (v lo hi : Int) :
    RTells 137 #[.pointer (some ⟨q, 0, none⟩), .int .i64 v, .int .i64 lo, .int .i64 hi] w q F (rnode R v lo hi) := by
  have H := hid h
  obtain ⟨a, cap', zq, c0, c1, c2, hm⟩ := h.cells
  unfold RTells
  by_cases e : lo = hi
  · have e' : (lo == hi) = true := by simpa using e
    have er : rnode R v lo hi = (R, lo) := by unfold rnode; rw [if_pos (.inl e)]
    rw [er]
    clear e er h
    go_enter Try.func137, Try.ntmps137
    go_upto_region 1 with (fail)
    refine wp_region_doc (fun F hF => ?_)
    have HF := hid hF
    clear hF
    repeat (first
      | (refine doc_not rfl ?_; simp only [Act.put, List.setIfInBounds_toArray, List.set_cons_zero, List.set_cons_succ])
      | (refine doc_val rfl (by first | (go_simp; done) | (go_simp; exact ⟨rfl, rfl⟩) | (go_simp; with_reducible rfl)) ?_; simp only [Act.put, List.setIfInBounds_toArray, List.set_cons_zero, List.set_cons_succ]))
    refine doc_end (HF.out _ _ ?_)
    clear HF F
    go_wp2_with fail
    go_returns
    exact ⟨rfl, F, H.out.below (by (repeat' (first | (with_reducible exact Below.refl _ _) | (with_reducible refine Below.ext_mk ?_ ?_ _ _) | (with_reducible refine Below.alloc ?_ ?_ _) | (with_reducible refine Below.drew ?_) | (with_reducible refine Below.setCell ?_ ?_ _) | go_size))), StoStep.of_below (by (repeat' (first | (with_reducible exact Below.refl _ _) | (with_reducible refine Below.ext_mk ?_ ?_ _ _) | (with_reducible refine Below.alloc ?_ ?_ _) | (with_reducible refine Below.drew ?_) | (with_reducible refine Below.setCell ?_ ?_ _) | go_size)))⟩
  · have e' : (lo == hi) = false := by simpa using e
    cases hf : R.full
    · rw [hf] at c2
      have HR := hid (show rnode R v lo hi = match findN R.L (v, lo, hi) 0 with | some i => (R, i) | none => if R.cap ≤ (R.L.length : Int) then (⟨R.cap, R.L, true⟩, 0) else (⟨R.cap, R.L ++ [(v, lo, hi)], R.full⟩, (R.L.length : Int) + 2) by
        unfold rnode; rw [if_neg (by rw [hf]; simp [e])]; rfl)
      have HF0 := hid hf
      clear h e hf
      go_enter Try.func137, Try.ntmps137
      go_upto_region 1 with (fail)
      refine wp_region_doc (fun F hF => ?_)
      have HF := hid hF
      clear hF
      repeat (first
        | (refine doc_not rfl ?_; simp only [Act.put, List.setIfInBounds_toArray, List.set_cons_zero, List.set_cons_succ])
        | (refine doc_val rfl (by first | (go_simp; done) | (go_simp; exact ⟨rfl, rfl⟩) | (go_simp; with_reducible rfl)) ?_; simp only [Act.put, List.setIfInBounds_toArray, List.set_cons_zero, List.set_cons_succ]))
      refine doc_end (HF.out _ _ ?_)
      clear HF F
      clear c0 c2
      go_wp2_with fail
      go_loopw [9] (fun iv wr => ∃ j : Nat, j ≤ R.L.length ∧ iv = .int .i64 j ∧ findN (R.L.drop j) (v, lo, hi) j = findN R.L (v, lo, hi) 0 ∧ Below w.heap.size w wr) (fun iv _ => R.L.length - (intOf iv).toNat)
      case atStart => exact ⟨0, by omega, rfl, rfl, by (repeat' (first | (with_reducible exact Below.refl _ _) | (with_reducible refine Below.ext_mk ?_ ?_ _ _) | (with_reducible refine Below.alloc ?_ ?_ _) | (with_reducible refine Below.drew ?_) | (with_reducible refine Below.setCell ?_ ?_ _) | go_size))⟩
      case round =>
        obtain ⟨j, hj, rfl, hfd, hb⟩ := hrel
        have HFD := hid hfd
        clear hfd c1
        by_cases hlt : j < R.L.length
        · have hj1 : (j : Int) < (R.L.length : Int) := by omega
          have hj0 : (0 : Int) ≤ (j : Int) := by omega
          obtain ⟨g, cap2, z1, z2, _, d1, _, n0, n1, n2⟩ := (H.out.below hb).node (List.getElem?_eq_getElem hlt)
          have ED := hid (show R.L.drop j = R.L[j] :: R.L.drop (j + 1) from List.drop_eq_getElem_cons hlt)
          generalize R.L[j] = m at *
          obtain ⟨m1, m2, m3⟩ := m
          simp only at n0 n1 n2
          by_cases k1 : m1 = v
          · have k1' : (m1 == v) = true := by simpa using k1
            by_cases k2 : m2 = lo
            · have k2' : (m2 == lo) = true := by simpa using k2
              by_cases k3 : m3 = hi
              · have k3' : (m3 == hi) = true := by simpa using k3
                have ER := hid (show rnode R v lo hi = (R, (j : Int) + 2) by
                  rw [HR.out, ← HFD.out, ED.out]; unfold findN; rw [if_pos (by rw [k1, k2, k3])])
                have w2' : IntKind.i64.wrap ((j : Int) + 2) = (j : Int) + 2 := IntWalk.i64_in _ (by omega)
                clear k1 k2 k3
                go_upto_region 6 with (fail)
                refine wp_region_doc (fun F hF => ?_)
                have HF := hid hF
                clear hF
                repeat (first
                  | (refine doc_not rfl ?_; simp only [Act.put, List.setIfInBounds_toArray, List.set_cons_zero, List.set_cons_succ])
                  | (refine doc_val rfl (by first | (go_simp; done) | (go_simp; exact ⟨rfl, rfl⟩) | (go_simp; with_reducible rfl)) ?_; simp only [Act.put, List.setIfInBounds_toArray, List.set_cons_zero, List.set_cons_succ]))
                refine doc_end (HF.out _ _ ?_)
                clear HF F
                go_wp2_with fail
                go_returns
                rw [ER.out]
                exact ⟨rfl, F, H.out.below (by (repeat' (first | (with_reducible exact hb) | (with_reducible exact Below.refl _ _) | (with_reducible refine Below.ext_mk ?_ ?_ _ _) | (with_reducible refine Below.alloc ?_ ?_ _) | (with_reducible refine Below.drew ?_) | (with_reducible refine Below.setCell ?_ ?_ _) | go_size))), StoStep.of_below (by (repeat' (first | (with_reducible exact hb) | (with_reducible exact Below.refl _ _) | (with_reducible refine Below.ext_mk ?_ ?_ _ _) | (with_reducible refine Below.alloc ?_ ?_ _) | (with_reducible refine Below.drew ?_) | (with_reducible refine Below.setCell ?_ ?_ _) | go_size)))⟩
              · have k3' : (m3 == hi) = false := by simpa using k3
                have EN := hid (show findN (R.L.drop (j + 1)) (v, lo, hi) (j + 1) = findN R.L (v, lo, hi) 0 by
                  rw [← HFD.out, ED.out]; conv => rhs; unfold findN
                  rw [if_neg (fun h => k3 (by simp at h; exact h.2.2))])
                clear k1 k2 k3
                go_upto_region 6 with (fail)
                refine wp_region_doc (fun F hF => ?_)
                have HF := hid hF
                clear hF
                repeat (first
                  | (refine doc_not rfl ?_; simp only [Act.put, List.setIfInBounds_toArray, List.set_cons_zero, List.set_cons_succ])
                  | (refine doc_val rfl (by first | (go_simp; done) | (go_simp; exact ⟨rfl, rfl⟩) | (go_simp; with_reducible rfl)) ?_; simp only [Act.put, List.setIfInBounds_toArray, List.set_cons_zero, List.set_cons_succ]))
                refine doc_end (HF.out _ _ ?_)
                clear HF F
                go_wp2_with fail
                go_roundw
                case rel => exact ⟨j + 1, by omega, by go_num, EN.out, by (repeat' (first | (with_reducible exact hb) | (with_reducible exact Below.refl _ _) | (with_reducible refine Below.ext_mk ?_ ?_ _ _) | (with_reducible refine Below.alloc ?_ ?_ _) | (with_reducible refine Below.drew ?_) | (with_reducible refine Below.setCell ?_ ?_ _) | go_size))⟩
                case measure => simp [intOf]; omega
            · have k2' : (m2 == lo) = false := by simpa using k2
              have EN := hid (show findN (R.L.drop (j + 1)) (v, lo, hi) (j + 1) = findN R.L (v, lo, hi) 0 by
                rw [← HFD.out, ED.out]; conv => rhs; unfold findN
                rw [if_neg (fun h => k2 (by simp at h; exact h.2.1))])
              clear k1 k2
              go_upto_region 6 with (fail)
              refine wp_region_doc (fun F hF => ?_)
              have HF := hid hF
              clear hF
              repeat (first
                | (refine doc_not rfl ?_; simp only [Act.put, List.setIfInBounds_toArray, List.set_cons_zero, List.set_cons_succ])
                | (refine doc_val rfl (by first | (go_simp; done) | (go_simp; exact ⟨rfl, rfl⟩) | (go_simp; with_reducible rfl)) ?_; simp only [Act.put, List.setIfInBounds_toArray, List.set_cons_zero, List.set_cons_succ]))
              refine doc_end (HF.out _ _ ?_)
              clear HF F
              go_wp2_with fail
              go_roundw
              case rel => exact ⟨j + 1, by omega, by go_num, EN.out, by (repeat' (first | (with_reducible exact hb) | (with_reducible exact Below.refl _ _) | (with_reducible refine Below.ext_mk ?_ ?_ _ _) | (with_reducible refine Below.alloc ?_ ?_ _) | (with_reducible refine Below.drew ?_) | (with_reducible refine Below.setCell ?_ ?_ _) | go_size))⟩
              case measure => simp [intOf]; omega
          · have k1' : (m1 == v) = false := by simpa using k1
            have EN := hid (show findN (R.L.drop (j + 1)) (v, lo, hi) (j + 1) = findN R.L (v, lo, hi) 0 by
              rw [← HFD.out, ED.out]; conv => rhs; unfold findN
              rw [if_neg (fun h => k1 (by simp at h; exact h.1))])
            clear k1
            go_upto_region 6 with (fail)
            refine wp_region_doc (fun F hF => ?_)
            have HF := hid hF
            clear hF
            repeat (first
              | (refine doc_not rfl ?_; simp only [Act.put, List.setIfInBounds_toArray, List.set_cons_zero, List.set_cons_succ])
              | (refine doc_val rfl (by first | (go_simp; done) | (go_simp; exact ⟨rfl, rfl⟩) | (go_simp; with_reducible rfl)) ?_; simp only [Act.put, List.setIfInBounds_toArray, List.set_cons_zero, List.set_cons_succ]))
            refine doc_end (HF.out _ _ ?_)
            clear HF F
            go_wp2_with fail
            go_roundw
            case rel => exact ⟨j + 1, by omega, by go_num, EN.out, by (repeat' (first | (with_reducible exact hb) | (with_reducible exact Below.refl _ _) | (with_reducible refine Below.ext_mk ?_ ?_ _ _) | (with_reducible refine Below.alloc ?_ ?_ _) | (with_reducible refine Below.drew ?_) | (with_reducible refine Below.setCell ?_ ?_ _) | go_size))⟩
            case measure => simp [intOf]; omega
        · obtain rfl : j = R.L.length := by omega
          obtain ⟨a2, cap2, z1, d0, d1, d2, _⟩ := (H.out.below hb).cells
          have NF := hid (show findN R.L (v, lo, hi) 0 = none by rw [← HFD.out, List.drop_length]; rfl)
          have hrs := hb.size
          by_cases hc : R.cap ≤ (R.L.length : Int)
          · have ER := hid (show rnode R v lo hi = (⟨R.cap, R.L, true⟩, 0) by rw [HR.out, NF.out]; simp only; rw [if_pos hc])
            go_upto_region 8 with (fail)
            refine wp_region_ext (by kernel_rfl) (by kernel_rfl) (fun F hF => ?_)
            have HF := hid hF; clear hF
            repeat (first
              | (apply text_skip; (focus rfl); simp only [Act.put, List.setIfInBounds_toArray, List.set_cons_zero, List.set_cons_succ])
              | (apply text_val; (focus rfl); (focus (intro _ _; go_simp; with_reducible rfl)); simp only [Act.put, List.setIfInBounds_toArray, List.set_cons_zero, List.set_cons_succ])
              | (apply text_if; (focus (first | exact wanted_t rfl rfl | exact wanted_f rfl rfl | exact wanted_gt rfl rfl | exact wanted_gf rfl rfl)); (focus (intro hc _ _; (try simp only [Bool.and_eq_true, Bool.not_eq_true', Bool.true_and] at hc); go_simp; with_reducible rfl)); simp only [Act.put, List.setIfInBounds_toArray, List.set_cons_zero, List.set_cons_succ]))
            refine text_nil (HF.out _ (fun mx dx => ?_))
            clear HF F
            clear d0 d1
            have fz : ∀ m d, (wr.ext m d).frozen? ⟨q, 2, none⟩ = false := fun m d => by
              obtain ⟨sv, G, h1, _⟩ := (H.out.below hb).ext m d
              simp [World.frozen?, h1]
            have fz2 := fz mx dx
            have d2x : (wr.ext mx dx).cell? ⟨q, 2, none⟩ = some (.bool R.full) := by rw [World.cell?_ext _ _ _ _ _ z1]; exact d2
            have zx : q < (wr.ext mx dx).heap.size := by simp; omega
            have hbx : Below w.heap.size w (wr.ext mx dx) := Below.ext_mk hb hrs mx dx
            generalize wr.ext mx dx = X at *
            clear fz d2
            go_wp2_with fail
            go_returns
            rw [ER.out]
            refine ⟨rfl, F, (H.out.below hbx).set_full, (StoStep.of_below hbx).trans (StoStep.set (H.out.below hbx).mem 2 (.bool true))⟩
          · have ER := hid (show rnode R v lo hi = (⟨R.cap, R.L ++ [(v, lo, hi)], R.full⟩, (R.L.length : Int) + 2) by rw [HR.out, NF.out]; simp only; rw [if_neg hc])
            have hc' : ¬ (R.L.length : Int) ≥ R.cap := hc
            go_upto_region 8 with (fail)
            refine wp_region_ext (by kernel_rfl) (by kernel_rfl) (fun F hF => ?_)
            have HF := hid hF; clear hF
            repeat (first
              | (apply text_skip; (focus rfl); simp only [Act.put, List.setIfInBounds_toArray, List.set_cons_zero, List.set_cons_succ])
              | (apply text_val; (focus rfl); (focus (intro _ _; go_simp; with_reducible rfl)); simp only [Act.put, List.setIfInBounds_toArray, List.set_cons_zero, List.set_cons_succ])
              | (apply text_if; (focus (first | exact wanted_t rfl rfl | exact wanted_f rfl rfl | exact wanted_gt rfl rfl | exact wanted_gf rfl rfl)); (focus (intro hc _ _; (try simp only [Bool.and_eq_true, Bool.not_eq_true', Bool.true_and] at hc); go_simp; with_reducible rfl)); simp only [Act.put, List.setIfInBounds_toArray, List.set_cons_zero, List.set_cons_succ]))
            refine text_nil (HF.out _ (fun mx dx => ?_))
            clear HF F
            have hbx : Below w.heap.size w (wr.ext mx dx) := Below.ext_mk hb hrs mx dx
            have HX := H.out.below hbx
            have d1x : (wr.ext mx dx).cell? ⟨q, 1, none⟩ = some (.slice a2 R.L.length cap2) := by rw [World.cell?_ext _ _ _ _ _ z1]; exact d1
            have zx : q < (wr.ext mx dx).heap.size := by simp; omega
            generalize wr.ext mx dx = X at *
            obtain ⟨ga, gc, w1, gb, gd', w2, F', p1, p2, p3, ⟨u, p4⟩, p5, p5', p6, p7⟩ := HX.grow hl (v, lo, hi) d1x
            have P1 := hid p1
            have P2 := hid p2
            have P7 := hid p7
            have P6 := hid p6
            clear p1 p2 p6 p7 d0 d1 d2 hc hc' z1
            go_upto_region 11 with (fail)
            refine wp_region_doc (fun F' hF => ?_)
            have HF := hid hF
            clear hF
            iterate 6 (refine doc_val rfl (by first | (go_simp; done) | (go_simp; exact ⟨rfl, rfl⟩) | (go_simp; with_reducible rfl)) ?_; simp only [Act.put, List.setIfInBounds_toArray, List.set_cons_zero, List.set_cons_succ])
            refine doc_val rfl (run_append_op _ _ _ _ _ _ _ _ _ P1.out) ?_
            simp only [Act.put, List.setIfInBounds_toArray, List.set_cons_zero, List.set_cons_succ]
            iterate 5 (refine doc_val rfl (by first | (go_simp; done) | (go_simp; exact ⟨rfl, rfl⟩) | (go_simp; with_reducible rfl)) ?_; simp only [Act.put, List.setIfInBounds_toArray, List.set_cons_zero, List.set_cons_succ])
            refine doc_val rfl (run_append_op _ _ _ _ _ _ _ _ _ P2.out) ?_
            simp only [Act.put, List.setIfInBounds_toArray, List.set_cons_zero, List.set_cons_succ]
            iterate 2 (refine doc_val rfl (by first | (go_simp; done) | (go_simp; exact ⟨rfl, rfl⟩) | (go_simp; with_reducible rfl)) ?_; simp only [Act.put, List.setIfInBounds_toArray, List.set_cons_zero, List.set_cons_succ])
            refine doc_skip rfl (by first | (go_simp; done) | (go_simp; exact ⟨rfl, rfl⟩) | (go_simp; with_reducible rfl)) ?_
            simp only [Act.put, List.setIfInBounds_toArray, List.set_cons_zero, List.set_cons_succ]
            refine doc_end (HF.out _ _ ?_)
            clear HF p3 p4 p5 d1x
            obtain ⟨_, _, z3, _, t1, _, _⟩ := P6.out.cells
            have tl : (R.L ++ [(v, lo, hi)]).length = R.L.length + 1 := by simp
            rw [tl] at t1
            have wl : IntKind.i64.wrap ((R.L.length : Int) + 1 + 1) = (R.L.length : Int) + 2 := by rw [show (R.L.length : Int) + 1 + 1 = (R.L.length : Int) + 2 by omega]; exact IntWalk.i64_in _ (by omega)
            generalize (w2.setCell ⟨q, 1, none⟩ (.slice gb (R.L.length + 1) gd')) = Y at *
            go_wp2_with fail
            go_returns
            rw [ER.out]
            exact ⟨rfl, _, P6.out.below (by (repeat' (first | (with_reducible exact Below.refl _ _) | (with_reducible refine Below.ext_mk ?_ ?_ _ _) | (with_reducible refine Below.alloc ?_ ?_ _) | (with_reducible refine Below.drew ?_) | (with_reducible refine Below.setCell ?_ ?_ _) | go_size))), ((StoStep.of_below hbx).trans P7.out).trans (StoStep.of_below (by (repeat' (first | (with_reducible exact Below.refl _ _) | (with_reducible refine Below.ext_mk ?_ ?_ _ _) | (with_reducible refine Below.alloc ?_ ?_ _) | (with_reducible refine Below.drew ?_) | (with_reducible refine Below.setCell ?_ ?_ _) | go_size))))⟩
    · rw [hf] at c2
      have er : rnode R v lo hi = (R, lo) := by unfold rnode; rw [if_pos (.inr hf)]
      rw [er]
      clear e er h hf
      go_enter Try.func137, Try.ntmps137
      go_upto_region 1 with (fail)
      refine wp_region_doc (fun F hF => ?_)
      have HF := hid hF
      clear hF
      repeat (first
        | (refine doc_not rfl ?_; simp only [Act.put, List.setIfInBounds_toArray, List.set_cons_zero, List.set_cons_succ])
        | (refine doc_val rfl (by first | (go_simp; done) | (go_simp; exact ⟨rfl, rfl⟩) | (go_simp; with_reducible rfl)) ?_; simp only [Act.put, List.setIfInBounds_toArray, List.set_cons_zero, List.set_cons_succ]))
      refine doc_end (HF.out _ _ ?_)
      clear HF F
      go_wp2_with fail
      go_returns
      exact ⟨rfl, F, H.out.below (by (repeat' (first | (with_reducible exact Below.refl _ _) | (with_reducible refine Below.ext_mk ?_ ?_ _ _) | (with_reducible refine Below.alloc ?_ ?_ _) | (with_reducible refine Below.drew ?_) | (with_reducible refine Below.setCell ?_ ?_ _) | go_size))), StoStep.of_below (by (repeat' (first | (with_reducible exact Below.refl _ _) | (with_reducible refine Below.ext_mk ?_ ?_ _ _) | (with_reducible refine Below.alloc ?_ ?_ _) | (with_reducible refine Below.drew ?_) | (with_reducible refine Below.setCell ?_ ?_ _) | go_size)))⟩
end
end Go.Proofs.Ytboekafmplomhaa
set_option linter.unusedVariables false
set_option linter.unusedSimpArgs false
namespace Go.Proofs.Ytboekafmplomhaa
open Go.RowKit

theorem rite_store {n : Nat} {S : Sto} {c a b : Int} (hW : Wf S) (hc : S.has c) (ha : S.has a) (hb : S.has b) (hn : 64 - low S c a b < n) : ∃ S1, (rite n (rOf S) c a b).1 = rOf S1 ∧ Wf S1 ∧ Grows S S1 := by
  cases hf : S.full with
  | true => exact ⟨S, rite_full n (R := rOf S) hf c a b, hW, Grows.refl S⟩
  | false =>
    have I := rite_sim n n S c a b (Nat.le_refl _) hW hf hc ha hb hn
    have O := iteN_ok n S c a b hW hc ha hb hn
    exact ⟨_, I.1, O.wf, O.grows⟩
theorem wf_len {S : Sto} (hW : Wf S) : S.nodes.length ≤ 1048576 := by have := hW.len; have := hW.cap; omega
theorem Rturn.trans {w w1 w2 : World} {F F1 : List Nat} {q : Nat} {R : RSt} (st : StoStep w w1 F F1) (h : ∃ F', RIs w2 q F' R ∧ StoStep w1 w2 F1 F') : ∃ F', RIs w2 q F' R ∧ StoStep w w2 F F' := by
  obtain ⟨F', h1, h2⟩ := h
  exact ⟨F', h1, st.trans h2⟩

set_option maxRecDepth 100000 in
set_option maxHeartbeats 16000000 in
theorem rite_any : ∀ (n : Nat) (w : World) (q : Nat) (F : List Nat) (S : Sto) (c a b : Int), RIs w q F (rOf S) → Wf S → S.has c → S.has a → S.has b → 64 - low S c a b < n →
    RTells 138 #[.pointer (some ⟨q, 0, none⟩), .int .i64 c, .int .i64 a, .int .i64 b] w q F (rite n (rOf S) c a b) := by
  intro n
  induction n with
  | zero => intro w q F S c a b _ h hc _ _ hn; have := (low_le S c a b).1; have := topOf_le h hc; omega
  | succ n ih =>
    intro w q F S c a b h hW hc ha hb hn
    have H := hid h
    obtain ⟨sa, cap', zq, c0, c1, c2, hm⟩ := h.cells
    unfold RTells
    clear c0 c1
    cases hf : S.full
    case true =>
      have er : rite (n + 1) (rOf S) c a b = (rOf S, 0) := by unfold rite; rw [if_pos (show (rOf S).full = true from hf)]
      have c2' : w.cell? ⟨q, 2, none⟩ = some (.bool true) := by rw [c2]; show some (Value.bool S.full) = _; rw [hf]
      rw [er]
      clear c2 er h ih
      go_enter Try.func138, Try.ntmps138
      go_wp2_with fail
      go_returns
      exact ⟨rfl, F, H.out.below (by (repeat' (first | (with_reducible exact Below.refl _ _) | (with_reducible refine Below.ext_mk ?_ ?_ _ _) | (with_reducible refine Below.alloc ?_ ?_ _) | (with_reducible refine Below.drew ?_) | (with_reducible refine Below.setCell ?_ ?_ _) | go_size))), StoStep.of_below (by (repeat' (first | (with_reducible exact Below.refl _ _) | (with_reducible refine Below.ext_mk ?_ ?_ _ _) | (with_reducible refine Below.alloc ?_ ?_ _) | (with_reducible refine Below.drew ?_) | (with_reducible refine Below.setCell ?_ ?_ _) | go_size)))⟩
    have c2' : w.cell? ⟨q, 2, none⟩ = some (.bool false) := by rw [c2]; show some (Value.bool S.full) = _; rw [hf]
    have hfr : ¬ (rOf S).full = true := by show ¬ S.full = true; rw [hf]; simp
    clear c2
    by_cases e1 : c = 1 ∨ a = b
    · have er : rite (n + 1) (rOf S) c a b = (rOf S, a) := by unfold rite; rw [if_neg hfr, if_pos e1]
      rw [er]
      by_cases k1 : c = 1
      · have k1' : (c == 1) = true := by simpa using k1
        clear er h ih e1 k1 hfr hf
        go_enter Try.func138, Try.ntmps138
        go_upto_region 3 with (fail)
        refine wp_region_doc (fun F hF => ?_)
        have HF := hid hF
        clear hF
        repeat (first
          | (refine doc_not rfl ?_; simp only [Act.put, List.setIfInBounds_toArray, List.set_cons_zero, List.set_cons_succ])
          | (refine doc_val rfl (by first | (go_simp; done) | (go_simp; exact ⟨rfl, rfl⟩) | (go_simp; with_reducible rfl)) ?_; simp only [Act.put, List.setIfInBounds_toArray, List.set_cons_zero, List.set_cons_succ]))
        refine doc_end (HF.out _ _ ?_)
        clear HF F
        go_wp2_with fail
        go_returns
        exact ⟨rfl, F, H.out.below (by (repeat' (first | (with_reducible exact Below.refl _ _) | (with_reducible refine Below.ext_mk ?_ ?_ _ _) | (with_reducible refine Below.alloc ?_ ?_ _) | (with_reducible refine Below.drew ?_) | (with_reducible refine Below.setCell ?_ ?_ _) | go_size))), StoStep.of_below (by (repeat' (first | (with_reducible exact Below.refl _ _) | (with_reducible refine Below.ext_mk ?_ ?_ _ _) | (with_reducible refine Below.alloc ?_ ?_ _) | (with_reducible refine Below.drew ?_) | (with_reducible refine Below.setCell ?_ ?_ _) | go_size)))⟩
      · have k1' : (c == 1) = false := by simpa using k1
        have k2 : a = b := e1.resolve_left k1
        have k2' : (a == b) = true := by simpa using k2
        clear er h ih e1 k1 k2 hfr hf
        go_enter Try.func138, Try.ntmps138
        go_upto_region 3 with (fail)
        refine wp_region_doc (fun F hF => ?_)
        have HF := hid hF
        clear hF
        repeat (first
          | (refine doc_not rfl ?_; simp only [Act.put, List.setIfInBounds_toArray, List.set_cons_zero, List.set_cons_succ])
          | (refine doc_val rfl (by first | (go_simp; done) | (go_simp; exact ⟨rfl, rfl⟩) | (go_simp; with_reducible rfl)) ?_; simp only [Act.put, List.setIfInBounds_toArray, List.set_cons_zero, List.set_cons_succ]))
        refine doc_end (HF.out _ _ ?_)
        clear HF F
        go_wp2_with fail
        go_returns
        exact ⟨rfl, F, H.out.below (by (repeat' (first | (with_reducible exact Below.refl _ _) | (with_reducible refine Below.ext_mk ?_ ?_ _ _) | (with_reducible refine Below.alloc ?_ ?_ _) | (with_reducible refine Below.drew ?_) | (with_reducible refine Below.setCell ?_ ?_ _) | go_size))), StoStep.of_below (by (repeat' (first | (with_reducible exact Below.refl _ _) | (with_reducible refine Below.ext_mk ?_ ?_ _ _) | (with_reducible refine Below.alloc ?_ ?_ _) | (with_reducible refine Below.drew ?_) | (with_reducible refine Below.setCell ?_ ?_ _) | go_size)))⟩
    have k1' : (c == 1) = false := by simp; exact fun e => e1 (.inl e)
    have k2' : (a == b) = false := by simp; exact fun e => e1 (.inr e)
    by_cases e2 : c = 0
    · have er : rite (n + 1) (rOf S) c a b = (rOf S, b) := by unfold rite; rw [if_neg hfr, if_neg e1, if_pos e2]
      rw [er]
      have e2' : (c == 0) = true := by simpa using e2
      clear er h ih e1 e2 hfr hf
      go_enter Try.func138, Try.ntmps138
      go_upto_region 3 with (fail)
      refine wp_region_doc (fun F hF => ?_)
      have HF := hid hF
      clear hF
      repeat (first
        | (refine doc_not rfl ?_; simp only [Act.put, List.setIfInBounds_toArray, List.set_cons_zero, List.set_cons_succ])
        | (refine doc_val rfl (by first | (go_simp; done) | (go_simp; exact ⟨rfl, rfl⟩) | (go_simp; with_reducible rfl)) ?_; simp only [Act.put, List.setIfInBounds_toArray, List.set_cons_zero, List.set_cons_succ]))
      refine doc_end (HF.out _ _ ?_)
      clear HF F
      go_wp2_with fail
      go_returns
      exact ⟨rfl, F, H.out.below (by (repeat' (first | (with_reducible exact Below.refl _ _) | (with_reducible refine Below.ext_mk ?_ ?_ _ _) | (with_reducible refine Below.alloc ?_ ?_ _) | (with_reducible refine Below.drew ?_) | (with_reducible refine Below.setCell ?_ ?_ _) | go_size))), StoStep.of_below (by (repeat' (first | (with_reducible exact Below.refl _ _) | (with_reducible refine Below.ext_mk ?_ ?_ _ _) | (with_reducible refine Below.alloc ?_ ?_ _) | (with_reducible refine Below.drew ?_) | (with_reducible refine Below.setCell ?_ ?_ _) | go_size)))⟩
    have e2' : (c == 0) = false := by simpa using e2
    by_cases e3 : a = 1 ∧ b = 0
    · have er : rite (n + 1) (rOf S) c a b = (rOf S, c) := by unfold rite; rw [if_neg hfr, if_neg e1, if_neg e2, if_pos e3]
      rw [er]
      have e3' : (a == 1) = true := by simpa using e3.1
      have e4' : (b == 0) = true := by simpa using e3.2
      clear er h ih e1 e2 e3 hfr hf
      go_enter Try.func138, Try.ntmps138
      go_upto_region 3 with (fail)
      refine wp_region_doc (fun F hF => ?_)
      have HF := hid hF
      clear hF
      repeat (first
        | (refine doc_not rfl ?_; simp only [Act.put, List.setIfInBounds_toArray, List.set_cons_zero, List.set_cons_succ])
        | (refine doc_val rfl (by first | (go_simp; done) | (go_simp; exact ⟨rfl, rfl⟩) | (go_simp; with_reducible rfl)) ?_; simp only [Act.put, List.setIfInBounds_toArray, List.set_cons_zero, List.set_cons_succ]))
      refine doc_end (HF.out _ _ ?_)
      clear HF F
      go_upto_region 7 with (fail)
      refine wp_region_doc (fun F hF => ?_)
      have HF := hid hF
      clear hF
      repeat (first
        | (refine doc_not rfl ?_; simp only [Act.put, List.setIfInBounds_toArray, List.set_cons_zero, List.set_cons_succ])
        | (refine doc_val rfl (by first | (go_simp; done) | (go_simp; exact ⟨rfl, rfl⟩) | (go_simp; with_reducible rfl)) ?_; simp only [Act.put, List.setIfInBounds_toArray, List.set_cons_zero, List.set_cons_succ]))
      refine doc_end (HF.out _ _ ?_)
      clear HF F
      go_wp2_with fail
      go_returns
      exact ⟨rfl, F, H.out.below (by (repeat' (first | (with_reducible exact Below.refl _ _) | (with_reducible refine Below.ext_mk ?_ ?_ _ _) | (with_reducible refine Below.alloc ?_ ?_ _) | (with_reducible refine Below.drew ?_) | (with_reducible refine Below.setCell ?_ ?_ _) | go_size))), StoStep.of_below (by (repeat' (first | (with_reducible exact Below.refl _ _) | (with_reducible refine Below.ext_mk ?_ ?_ _ _) | (with_reducible refine Below.alloc ?_ ?_ _) | (with_reducible refine Below.drew ?_) | (with_reducible refine Below.setCell ?_ ?_ _) | go_size)))⟩
    -- the parts
    obtain ⟨l1, l2, l3⟩ := low_le S c a b
    have hc2 : ¬ c < 2 := fun h2 => by have := hc.1; simp at e1; omega
    have hl64 : low S c a b < 64 := by
      obtain ⟨i, m, rfl, hm⟩ := has_node hc hc2
      rw [topOf_node hm] at l1
      have := (hW.node i m hm).v64; omega
    have EQ0 : rite (n + 1) (rOf S) c a b = rnode (rite n (rite n (rOf S) (rpart (rOf S) c (low S c a b) false) (rpart (rOf S) a (low S c a b) false) (rpart (rOf S) b (low S c a b) false)).1
        (rpart (rite n (rOf S) (rpart (rOf S) c (low S c a b) false) (rpart (rOf S) a (low S c a b) false) (rpart (rOf S) b (low S c a b) false)).1 c (low S c a b) true)
        (rpart (rite n (rOf S) (rpart (rOf S) c (low S c a b) false) (rpart (rOf S) a (low S c a b) false) (rpart (rOf S) b (low S c a b) false)).1 a (low S c a b) true)
        (rpart (rite n (rOf S) (rpart (rOf S) c (low S c a b) false) (rpart (rOf S) a (low S c a b) false) (rpart (rOf S) b (low S c a b) false)).1 b (low S c a b) true)).1 (low S c a b)
        (rite n (rOf S) (rpart (rOf S) c (low S c a b) false) (rpart (rOf S) a (low S c a b) false) (rpart (rOf S) b (low S c a b) false)).2
        (rite n (rite n (rOf S) (rpart (rOf S) c (low S c a b) false) (rpart (rOf S) a (low S c a b) false) (rpart (rOf S) b (low S c a b) false)).1
        (rpart (rite n (rOf S) (rpart (rOf S) c (low S c a b) false) (rpart (rOf S) a (low S c a b) false) (rpart (rOf S) b (low S c a b) false)).1 c (low S c a b) true)
        (rpart (rite n (rOf S) (rpart (rOf S) c (low S c a b) false) (rpart (rOf S) a (low S c a b) false) (rpart (rOf S) b (low S c a b) false)).1 a (low S c a b) true)
        (rpart (rite n (rOf S) (rpart (rOf S) c (low S c a b) false) (rpart (rOf S) a (low S c a b) false) (rpart (rOf S) b (low S c a b) false)).1 b (low S c a b) true)).2 := by
      conv => lhs; unfold rite
      rw [if_neg hfr, if_neg e1, if_neg e2, if_neg e3]
      simp only [rlow_sim hc ha hb]
    obtain ⟨v, hv⟩ : ∃ v, v = low S c a b := ⟨_, rfl⟩
    rw [← hv] at EQ0 l1 l2 l3 hl64 hn
    obtain ⟨c1, c2, c3, c4, c5⟩ := split_ok hW hc l1 hl64
    obtain ⟨a1, a2, a3, a4, a5⟩ := split_ok hW ha l2 hl64
    obtain ⟨b1, b2, b3, b4, b5⟩ := split_ok hW hb l3 hl64
    have TC := fun W (hb : Below w.heap.size w W) => rtop_any (H.out.below hb) hW c hc
    have TA := fun W (hb : Below w.heap.size w W) => rtop_any (H.out.below hb) hW a ha
    have TB := fun W (hb' : Below w.heap.size w W) => rtop_any (H.out.below hb') hW b hb
    have PC := fun W (hb : Below w.heap.size w W) => rpart_any (H.out.below hb) hW c v hc hl64 false
    have PA := fun W (hb : Below w.heap.size w W) => rpart_any (H.out.below hb) hW a v ha hl64 false
    have PB := fun W (hb' : Below w.heap.size w W) => rpart_any (H.out.below hb') hW b v hb hl64 false
    have hl1 : 64 - low S (rpart (rOf S) c v false) (rpart (rOf S) a v false) (rpart (rOf S) b v false) < n := by
      rw [(rpart_sim hc v).1, (rpart_sim ha v).1, (rpart_sim hb v).1]; have := lt_low c3 a3 b3; omega
    have hC0 : S.has (rpart (rOf S) c v false) := by rw [(rpart_sim hc v).1]; exact c1
    have hA0 : S.has (rpart (rOf S) a v false) := by rw [(rpart_sim ha v).1]; exact a1
    have hB0 : S.has (rpart (rOf S) b v false) := by rw [(rpart_sim hb v).1]; exact b1
    have I1 := fun W (hb : Below w.heap.size w W) => ih W q F S _ _ _ (H.out.below hb) hW hC0 hA0 hB0 hl1
    obtain ⟨S1, s1, wf1, g1⟩ := rite_store hW hC0 hA0 hB0 hl1
    unfold RTells at I1
    generalize rite n (rOf S) (rpart (rOf S) c v false) (rpart (rOf S) a v false) (rpart (rOf S) b v false) = X at *
    generalize rpart (rOf S) c v false = p1 at *
    generalize rpart (rOf S) a v false = p2 at *
    generalize rpart (rOf S) b v false = p3 at *
    obtain ⟨X1, X2⟩ := X
    simp only at s1 EQ0 I1
    subst s1
    have QC := fun W F (h : RIs W q F (rOf S1)) => rpart_any h wf1 c v (g1.has hc) hl64 true
    have QA := fun W F (h : RIs W q F (rOf S1)) => rpart_any h wf1 a v (g1.has ha) hl64 true
    have QB := fun W F (h : RIs W q F (rOf S1)) => rpart_any h wf1 b v (g1.has hb) hl64 true
    have rc : rpart (rOf S1) c v true = (splitOf S c v).2 := by rw [(rpart_sim (g1.has hc) v).2, g1.split hc hl64]
    have ra : rpart (rOf S1) a v true = (splitOf S a v).2 := by rw [(rpart_sim (g1.has ha) v).2, g1.split ha hl64]
    have rb : rpart (rOf S1) b v true = (splitOf S b v).2 := by rw [(rpart_sim (g1.has hb) v).2, g1.split hb hl64]
    have hl2 : 64 - low S1 (rpart (rOf S1) c v true) (rpart (rOf S1) a v true) (rpart (rOf S1) b v true) < n := by
      rw [rc, ra, rb, g1.low c2 a2 b2]; have := lt_low c4 a4 b4; omega
    have hC1 : S1.has (rpart (rOf S1) c v true) := by rw [rc]; exact g1.has c2
    have hA1 : S1.has (rpart (rOf S1) a v true) := by rw [ra]; exact g1.has a2
    have hB1 : S1.has (rpart (rOf S1) b v true) := by rw [rb]; exact g1.has b2
    have I2 := fun W F (h : RIs W q F (rOf S1)) => ih W q F S1 _ _ _ h wf1 hC1 hA1 hB1 hl2
    obtain ⟨S2, s2, wf2, g2⟩ := rite_store wf1 hC1 hA1 hB1 hl2
    unfold RTells at I2
    generalize rite n (rOf S1) (rpart (rOf S1) c v true) (rpart (rOf S1) a v true) (rpart (rOf S1) b v true) = Y at *
    generalize rpart (rOf S1) c v true = r1 at *
    generalize rpart (rOf S1) a v true = r2 at *
    generalize rpart (rOf S1) b v true = r3 at *
    obtain ⟨Y1, Y2⟩ := Y
    simp only at s2 EQ0 I2
    subst s2
    have ND := fun W F (h : RIs W q F (rOf S2)) => rnode_any h (wf_len wf2) v X2 Y2
    unfold RTells at ND
    have EQ := hid EQ0
    have LW := hid (show v = min (min (topOf S c) (topOf S a)) (topOf S b) by rw [hv]; rfl)
    have ELSE := hid e3
    clear EQ0 hv h ih e1 e2 e3 hfr hf hC0 hA0 hB0 hC1 hA1 hB1 hl1 hl2 rc ra rb c1 c2 c3 c4 c5 a1 a2 a3 a4 a5 b1 b2 b3 b4 b5 g1 g2 wf1 wf2 l1 l2 l3 hn hc ha hb hW hc2
    generalize topOf S c = tc at *
    generalize topOf S a = ta at *
    generalize topOf S b = tb at *
    have e34 : ((a == 1) && (b == 0)) = false := by
      have := ELSE.out
      by_cases q1 : a = 1
      · have : ¬ b = 0 := fun q2 => this ⟨q1, q2⟩
        simp [this]
      · simp [q1]
    by_cases h1 : ta < tc
    · by_cases h2 : tb < ta
      · obtain rfl : v = tb := by have := LW.out; omega
        clear LW
        cases e3' : (a == 1)
        · clear e34
          go_enter Try.func138, Try.ntmps138
          go_upto_region 3 with (fail)
          refine wp_region_doc (fun F hF => ?_)
          have HF := hid hF
          clear hF
          repeat (first
            | (refine doc_not rfl ?_; simp only [Act.put, List.setIfInBounds_toArray, List.set_cons_zero, List.set_cons_succ])
            | (refine doc_val rfl (by first | (go_simp; done) | (go_simp; exact ⟨rfl, rfl⟩) | (go_simp; with_reducible rfl)) ?_; simp only [Act.put, List.setIfInBounds_toArray, List.set_cons_zero, List.set_cons_succ]))
          refine doc_end (HF.out _ _ ?_)
          clear HF F
          go_upto_region 7 with (fail)
          refine wp_region_doc (fun F hF => ?_)
          have HF := hid hF
          clear hF
          repeat (first
            | (refine doc_not rfl ?_; simp only [Act.put, List.setIfInBounds_toArray, List.set_cons_zero, List.set_cons_succ])
            | (refine doc_val rfl (by first | (go_simp; done) | (go_simp; exact ⟨rfl, rfl⟩) | (go_simp; with_reducible rfl)) ?_; simp only [Act.put, List.setIfInBounds_toArray, List.set_cons_zero, List.set_cons_succ]))
          refine doc_end (HF.out _ _ ?_)
          clear HF F
          go_wp2_with (first
            | ((with_reducible refine (TC _ (by (repeat' (first | (with_reducible exact Below.refl _ _) | (with_reducible refine Below.ext_mk ?_ ?_ _ _) | (with_reducible refine Below.alloc ?_ ?_ _) | (with_reducible refine Below.drew ?_) | (with_reducible refine Below.setCell ?_ ?_ _) | go_size)))).mono ?_); rintro e w1 ⟨rfl, m1, d1, rfl⟩)
            | ((with_reducible refine (TA _ (by (repeat' (first | (with_reducible exact Below.refl _ _) | (with_reducible refine Below.ext_mk ?_ ?_ _ _) | (with_reducible refine Below.alloc ?_ ?_ _) | (with_reducible refine Below.drew ?_) | (with_reducible refine Below.setCell ?_ ?_ _) | go_size)))).mono ?_); rintro e w1 ⟨rfl, m1, d1, rfl⟩)
            | ((with_reducible refine (TB _ (by (repeat' (first | (with_reducible exact Below.refl _ _) | (with_reducible refine Below.ext_mk ?_ ?_ _ _) | (with_reducible refine Below.alloc ?_ ?_ _) | (with_reducible refine Below.drew ?_) | (with_reducible refine Below.setCell ?_ ?_ _) | go_size)))).mono ?_); rintro e w1 ⟨rfl, m1, d1, rfl⟩)
            | ((with_reducible refine (PC _ (by (repeat' (first | (with_reducible exact Below.refl _ _) | (with_reducible refine Below.ext_mk ?_ ?_ _ _) | (with_reducible refine Below.alloc ?_ ?_ _) | (with_reducible refine Below.drew ?_) | (with_reducible refine Below.setCell ?_ ?_ _) | go_size)))).mono ?_); rintro e w1 ⟨rfl, m1, d1, rfl⟩)
            | ((with_reducible refine (PA _ (by (repeat' (first | (with_reducible exact Below.refl _ _) | (with_reducible refine Below.ext_mk ?_ ?_ _ _) | (with_reducible refine Below.alloc ?_ ?_ _) | (with_reducible refine Below.drew ?_) | (with_reducible refine Below.setCell ?_ ?_ _) | go_size)))).mono ?_); rintro e w1 ⟨rfl, m1, d1, rfl⟩)
            | ((with_reducible refine (PB _ (by (repeat' (first | (with_reducible exact Below.refl _ _) | (with_reducible refine Below.ext_mk ?_ ?_ _ _) | (with_reducible refine Below.alloc ?_ ?_ _) | (with_reducible refine Below.drew ?_) | (with_reducible refine Below.setCell ?_ ?_ _) | go_size)))).mono ?_); rintro e w1 ⟨rfl, m1, d1, rfl⟩)
            | ((with_reducible refine (I1 _ (by (repeat' (first | (with_reducible exact Below.refl _ _) | (with_reducible refine Below.ext_mk ?_ ?_ _ _) | (with_reducible refine Below.alloc ?_ ?_ _) | (with_reducible refine Below.drew ?_) | (with_reducible refine Below.setCell ?_ ?_ _) | go_size)))).mono ?_); rintro e u1 ⟨rfl, F1, hR1, st1⟩)
            | ((with_reducible refine (QC _ _ (by first | exact hR1 | exact (hR1.ext _ _))).mono ?_); rintro e w1 ⟨rfl, m2, d2, rfl⟩)
            | ((with_reducible refine (QA _ _ (by first | exact hR1 | exact (hR1.ext _ _))).mono ?_); rintro e w1 ⟨rfl, m2, d2, rfl⟩)
            | ((with_reducible refine (QB _ _ (by first | exact hR1 | exact (hR1.ext _ _))).mono ?_); rintro e w1 ⟨rfl, m2, d2, rfl⟩)
            | ((with_reducible refine (I2 _ _ (by first | exact hR1 | exact (hR1.ext _ _))).mono ?_); rintro e u2 ⟨rfl, F2, hR2, st2⟩)
            | ((with_reducible refine (ND _ _ hR2).mono ?_); rintro e u3 ⟨rfl, F3, hR3, st3⟩))
          go_returns
          rw [EQ.out]
          exact ⟨rfl, F3, hR3, (((StoStep.of_below (by (repeat' (first | (with_reducible exact Below.refl _ _) | (with_reducible refine Below.ext_mk ?_ ?_ _ _) | (with_reducible refine Below.alloc ?_ ?_ _) | (with_reducible refine Below.drew ?_) | (with_reducible refine Below.setCell ?_ ?_ _) | go_size)))).trans st1).trans (StoStep.of_below (by (repeat' (first | (with_reducible exact Below.refl _ _) | (with_reducible refine Below.ext_mk ?_ ?_ _ _) | (with_reducible refine Below.alloc ?_ ?_ _) | (with_reducible refine Below.drew ?_) | (with_reducible refine Below.setCell ?_ ?_ _) | go_size))))).trans (st2.trans st3)⟩
        · have e4' : (b == 0) = false := by rw [e3'] at e34; simpa using e34
          clear e34
          go_enter Try.func138, Try.ntmps138
          go_upto_region 3 with (fail)
          refine wp_region_doc (fun F hF => ?_)
          have HF := hid hF
          clear hF
          repeat (first
            | (refine doc_not rfl ?_; simp only [Act.put, List.setIfInBounds_toArray, List.set_cons_zero, List.set_cons_succ])
            | (refine doc_val rfl (by first | (go_simp; done) | (go_simp; exact ⟨rfl, rfl⟩) | (go_simp; with_reducible rfl)) ?_; simp only [Act.put, List.setIfInBounds_toArray, List.set_cons_zero, List.set_cons_succ]))
          refine doc_end (HF.out _ _ ?_)
          clear HF F
          go_upto_region 7 with (fail)
          refine wp_region_doc (fun F hF => ?_)
          have HF := hid hF
          clear hF
          repeat (first
            | (refine doc_not rfl ?_; simp only [Act.put, List.setIfInBounds_toArray, List.set_cons_zero, List.set_cons_succ])
            | (refine doc_val rfl (by first | (go_simp; done) | (go_simp; exact ⟨rfl, rfl⟩) | (go_simp; with_reducible rfl)) ?_; simp only [Act.put, List.setIfInBounds_toArray, List.set_cons_zero, List.set_cons_succ]))
          refine doc_end (HF.out _ _ ?_)
          clear HF F
          go_wp2_with (first
            | ((with_reducible refine (TC _ (by (repeat' (first | (with_reducible exact Below.refl _ _) | (with_reducible refine Below.ext_mk ?_ ?_ _ _) | (with_reducible refine Below.alloc ?_ ?_ _) | (with_reducible refine Below.drew ?_) | (with_reducible refine Below.setCell ?_ ?_ _) | go_size)))).mono ?_); rintro e w1 ⟨rfl, m1, d1, rfl⟩)
            | ((with_reducible refine (TA _ (by (repeat' (first | (with_reducible exact Below.refl _ _) | (with_reducible refine Below.ext_mk ?_ ?_ _ _) | (with_reducible refine Below.alloc ?_ ?_ _) | (with_reducible refine Below.drew ?_) | (with_reducible refine Below.setCell ?_ ?_ _) | go_size)))).mono ?_); rintro e w1 ⟨rfl, m1, d1, rfl⟩)
            | ((with_reducible refine (TB _ (by (repeat' (first | (with_reducible exact Below.refl _ _) | (with_reducible refine Below.ext_mk ?_ ?_ _ _) | (with_reducible refine Below.alloc ?_ ?_ _) | (with_reducible refine Below.drew ?_) | (with_reducible refine Below.setCell ?_ ?_ _) | go_size)))).mono ?_); rintro e w1 ⟨rfl, m1, d1, rfl⟩)
            | ((with_reducible refine (PC _ (by (repeat' (first | (with_reducible exact Below.refl _ _) | (with_reducible refine Below.ext_mk ?_ ?_ _ _) | (with_reducible refine Below.alloc ?_ ?_ _) | (with_reducible refine Below.drew ?_) | (with_reducible refine Below.setCell ?_ ?_ _) | go_size)))).mono ?_); rintro e w1 ⟨rfl, m1, d1, rfl⟩)
            | ((with_reducible refine (PA _ (by (repeat' (first | (with_reducible exact Below.refl _ _) | (with_reducible refine Below.ext_mk ?_ ?_ _ _) | (with_reducible refine Below.alloc ?_ ?_ _) | (with_reducible refine Below.drew ?_) | (with_reducible refine Below.setCell ?_ ?_ _) | go_size)))).mono ?_); rintro e w1 ⟨rfl, m1, d1, rfl⟩)
            | ((with_reducible refine (PB _ (by (repeat' (first | (with_reducible exact Below.refl _ _) | (with_reducible refine Below.ext_mk ?_ ?_ _ _) | (with_reducible refine Below.alloc ?_ ?_ _) | (with_reducible refine Below.drew ?_) | (with_reducible refine Below.setCell ?_ ?_ _) | go_size)))).mono ?_); rintro e w1 ⟨rfl, m1, d1, rfl⟩)
            | ((with_reducible refine (I1 _ (by (repeat' (first | (with_reducible exact Below.refl _ _) | (with_reducible refine Below.ext_mk ?_ ?_ _ _) | (with_reducible refine Below.alloc ?_ ?_ _) | (with_reducible refine Below.drew ?_) | (with_reducible refine Below.setCell ?_ ?_ _) | go_size)))).mono ?_); rintro e u1 ⟨rfl, F1, hR1, st1⟩)
            | ((with_reducible refine (QC _ _ (by first | exact hR1 | exact (hR1.ext _ _))).mono ?_); rintro e w1 ⟨rfl, m2, d2, rfl⟩)
            | ((with_reducible refine (QA _ _ (by first | exact hR1 | exact (hR1.ext _ _))).mono ?_); rintro e w1 ⟨rfl, m2, d2, rfl⟩)
            | ((with_reducible refine (QB _ _ (by first | exact hR1 | exact (hR1.ext _ _))).mono ?_); rintro e w1 ⟨rfl, m2, d2, rfl⟩)
            | ((with_reducible refine (I2 _ _ (by first | exact hR1 | exact (hR1.ext _ _))).mono ?_); rintro e u2 ⟨rfl, F2, hR2, st2⟩)
            | ((with_reducible refine (ND _ _ hR2).mono ?_); rintro e u3 ⟨rfl, F3, hR3, st3⟩))
          go_returns
          rw [EQ.out]
          exact ⟨rfl, F3, hR3, (((StoStep.of_below (by (repeat' (first | (with_reducible exact Below.refl _ _) | (with_reducible refine Below.ext_mk ?_ ?_ _ _) | (with_reducible refine Below.alloc ?_ ?_ _) | (with_reducible refine Below.drew ?_) | (with_reducible refine Below.setCell ?_ ?_ _) | go_size)))).trans st1).trans (StoStep.of_below (by (repeat' (first | (with_reducible exact Below.refl _ _) | (with_reducible refine Below.ext_mk ?_ ?_ _ _) | (with_reducible refine Below.alloc ?_ ?_ _) | (with_reducible refine Below.drew ?_) | (with_reducible refine Below.setCell ?_ ?_ _) | go_size))))).trans (st2.trans st3)⟩
      · obtain rfl : v = ta := by have := LW.out; omega
        clear LW
        cases e3' : (a == 1)
        · clear e34
          go_enter Try.func138, Try.ntmps138
          go_upto_region 3 with (fail)
          refine wp_region_doc (fun F hF => ?_)
          have HF := hid hF
          clear hF
          repeat (first
            | (refine doc_not rfl ?_; simp only [Act.put, List.setIfInBounds_toArray, List.set_cons_zero, List.set_cons_succ])
            | (refine doc_val rfl (by first | (go_simp; done) | (go_simp; exact ⟨rfl, rfl⟩) | (go_simp; with_reducible rfl)) ?_; simp only [Act.put, List.setIfInBounds_toArray, List.set_cons_zero, List.set_cons_succ]))
          refine doc_end (HF.out _ _ ?_)
          clear HF F
          go_upto_region 7 with (fail)
          refine wp_region_doc (fun F hF => ?_)
          have HF := hid hF
          clear hF
          repeat (first
            | (refine doc_not rfl ?_; simp only [Act.put, List.setIfInBounds_toArray, List.set_cons_zero, List.set_cons_succ])
            | (refine doc_val rfl (by first | (go_simp; done) | (go_simp; exact ⟨rfl, rfl⟩) | (go_simp; with_reducible rfl)) ?_; simp only [Act.put, List.setIfInBounds_toArray, List.set_cons_zero, List.set_cons_succ]))
          refine doc_end (HF.out _ _ ?_)
          clear HF F
          go_wp2_with (first
            | ((with_reducible refine (TC _ (by (repeat' (first | (with_reducible exact Below.refl _ _) | (with_reducible refine Below.ext_mk ?_ ?_ _ _) | (with_reducible refine Below.alloc ?_ ?_ _) | (with_reducible refine Below.drew ?_) | (with_reducible refine Below.setCell ?_ ?_ _) | go_size)))).mono ?_); rintro e w1 ⟨rfl, m1, d1, rfl⟩)
            | ((with_reducible refine (TA _ (by (repeat' (first | (with_reducible exact Below.refl _ _) | (with_reducible refine Below.ext_mk ?_ ?_ _ _) | (with_reducible refine Below.alloc ?_ ?_ _) | (with_reducible refine Below.drew ?_) | (with_reducible refine Below.setCell ?_ ?_ _) | go_size)))).mono ?_); rintro e w1 ⟨rfl, m1, d1, rfl⟩)
            | ((with_reducible refine (TB _ (by (repeat' (first | (with_reducible exact Below.refl _ _) | (with_reducible refine Below.ext_mk ?_ ?_ _ _) | (with_reducible refine Below.alloc ?_ ?_ _) | (with_reducible refine Below.drew ?_) | (with_reducible refine Below.setCell ?_ ?_ _) | go_size)))).mono ?_); rintro e w1 ⟨rfl, m1, d1, rfl⟩)
            | ((with_reducible refine (PC _ (by (repeat' (first | (with_reducible exact Below.refl _ _) | (with_reducible refine Below.ext_mk ?_ ?_ _ _) | (with_reducible refine Below.alloc ?_ ?_ _) | (with_reducible refine Below.drew ?_) | (with_reducible refine Below.setCell ?_ ?_ _) | go_size)))).mono ?_); rintro e w1 ⟨rfl, m1, d1, rfl⟩)
            | ((with_reducible refine (PA _ (by (repeat' (first | (with_reducible exact Below.refl _ _) | (with_reducible refine Below.ext_mk ?_ ?_ _ _) | (with_reducible refine Below.alloc ?_ ?_ _) | (with_reducible refine Below.drew ?_) | (with_reducible refine Below.setCell ?_ ?_ _) | go_size)))).mono ?_); rintro e w1 ⟨rfl, m1, d1, rfl⟩)
            | ((with_reducible refine (PB _ (by (repeat' (first | (with_reducible exact Below.refl _ _) | (with_reducible refine Below.ext_mk ?_ ?_ _ _) | (with_reducible refine Below.alloc ?_ ?_ _) | (with_reducible refine Below.drew ?_) | (with_reducible refine Below.setCell ?_ ?_ _) | go_size)))).mono ?_); rintro e w1 ⟨rfl, m1, d1, rfl⟩)
            | ((with_reducible refine (I1 _ (by (repeat' (first | (with_reducible exact Below.refl _ _) | (with_reducible refine Below.ext_mk ?_ ?_ _ _) | (with_reducible refine Below.alloc ?_ ?_ _) | (with_reducible refine Below.drew ?_) | (with_reducible refine Below.setCell ?_ ?_ _) | go_size)))).mono ?_); rintro e u1 ⟨rfl, F1, hR1, st1⟩)
            | ((with_reducible refine (QC _ _ (by first | exact hR1 | exact (hR1.ext _ _))).mono ?_); rintro e w1 ⟨rfl, m2, d2, rfl⟩)
            | ((with_reducible refine (QA _ _ (by first | exact hR1 | exact (hR1.ext _ _))).mono ?_); rintro e w1 ⟨rfl, m2, d2, rfl⟩)
            | ((with_reducible refine (QB _ _ (by first | exact hR1 | exact (hR1.ext _ _))).mono ?_); rintro e w1 ⟨rfl, m2, d2, rfl⟩)
            | ((with_reducible refine (I2 _ _ (by first | exact hR1 | exact (hR1.ext _ _))).mono ?_); rintro e u2 ⟨rfl, F2, hR2, st2⟩)
            | ((with_reducible refine (ND _ _ hR2).mono ?_); rintro e u3 ⟨rfl, F3, hR3, st3⟩))
          go_returns
          rw [EQ.out]
          exact ⟨rfl, F3, hR3, (((StoStep.of_below (by (repeat' (first | (with_reducible exact Below.refl _ _) | (with_reducible refine Below.ext_mk ?_ ?_ _ _) | (with_reducible refine Below.alloc ?_ ?_ _) | (with_reducible refine Below.drew ?_) | (with_reducible refine Below.setCell ?_ ?_ _) | go_size)))).trans st1).trans (StoStep.of_below (by (repeat' (first | (with_reducible exact Below.refl _ _) | (with_reducible refine Below.ext_mk ?_ ?_ _ _) | (with_reducible refine Below.alloc ?_ ?_ _) | (with_reducible refine Below.drew ?_) | (with_reducible refine Below.setCell ?_ ?_ _) | go_size))))).trans (st2.trans st3)⟩
        · have e4' : (b == 0) = false := by rw [e3'] at e34; simpa using e34
          clear e34
          go_enter Try.func138, Try.ntmps138
          go_upto_region 3 with (fail)
          refine wp_region_doc (fun F hF => ?_)
          have HF := hid hF
          clear hF
          repeat (first
            | (refine doc_not rfl ?_; simp only [Act.put, List.setIfInBounds_toArray, List.set_cons_zero, List.set_cons_succ])
            | (refine doc_val rfl (by first | (go_simp; done) | (go_simp; exact ⟨rfl, rfl⟩) | (go_simp; with_reducible rfl)) ?_; simp only [Act.put, List.setIfInBounds_toArray, List.set_cons_zero, List.set_cons_succ]))
          refine doc_end (HF.out _ _ ?_)
          clear HF F
          go_upto_region 7 with (fail)
          refine wp_region_doc (fun F hF => ?_)
          have HF := hid hF
          clear hF
          repeat (first
            | (refine doc_not rfl ?_; simp only [Act.put, List.setIfInBounds_toArray, List.set_cons_zero, List.set_cons_succ])
            | (refine doc_val rfl (by first | (go_simp; done) | (go_simp; exact ⟨rfl, rfl⟩) | (go_simp; with_reducible rfl)) ?_; simp only [Act.put, List.setIfInBounds_toArray, List.set_cons_zero, List.set_cons_succ]))
          refine doc_end (HF.out _ _ ?_)
          clear HF F
          go_wp2_with (first
            | ((with_reducible refine (TC _ (by (repeat' (first | (with_reducible exact Below.refl _ _) | (with_reducible refine Below.ext_mk ?_ ?_ _ _) | (with_reducible refine Below.alloc ?_ ?_ _) | (with_reducible refine Below.drew ?_) | (with_reducible refine Below.setCell ?_ ?_ _) | go_size)))).mono ?_); rintro e w1 ⟨rfl, m1, d1, rfl⟩)
            | ((with_reducible refine (TA _ (by (repeat' (first | (with_reducible exact Below.refl _ _) | (with_reducible refine Below.ext_mk ?_ ?_ _ _) | (with_reducible refine Below.alloc ?_ ?_ _) | (with_reducible refine Below.drew ?_) | (with_reducible refine Below.setCell ?_ ?_ _) | go_size)))).mono ?_); rintro e w1 ⟨rfl, m1, d1, rfl⟩)
            | ((with_reducible refine (TB _ (by (repeat' (first | (with_reducible exact Below.refl _ _) | (with_reducible refine Below.ext_mk ?_ ?_ _ _) | (with_reducible refine Below.alloc ?_ ?_ _) | (with_reducible refine Below.drew ?_) | (with_reducible refine Below.setCell ?_ ?_ _) | go_size)))).mono ?_); rintro e w1 ⟨rfl, m1, d1, rfl⟩)
            | ((with_reducible refine (PC _ (by (repeat' (first | (with_reducible exact Below.refl _ _) | (with_reducible refine Below.ext_mk ?_ ?_ _ _) | (with_reducible refine Below.alloc ?_ ?_ _) | (with_reducible refine Below.drew ?_) | (with_reducible refine Below.setCell ?_ ?_ _) | go_size)))).mono ?_); rintro e w1 ⟨rfl, m1, d1, rfl⟩)
            | ((with_reducible refine (PA _ (by (repeat' (first | (with_reducible exact Below.refl _ _) | (with_reducible refine Below.ext_mk ?_ ?_ _ _) | (with_reducible refine Below.alloc ?_ ?_ _) | (with_reducible refine Below.drew ?_) | (with_reducible refine Below.setCell ?_ ?_ _) | go_size)))).mono ?_); rintro e w1 ⟨rfl, m1, d1, rfl⟩)
            | ((with_reducible refine (PB _ (by (repeat' (first | (with_reducible exact Below.refl _ _) | (with_reducible refine Below.ext_mk ?_ ?_ _ _) | (with_reducible refine Below.alloc ?_ ?_ _) | (with_reducible refine Below.drew ?_) | (with_reducible refine Below.setCell ?_ ?_ _) | go_size)))).mono ?_); rintro e w1 ⟨rfl, m1, d1, rfl⟩)
            | ((with_reducible refine (I1 _ (by (repeat' (first | (with_reducible exact Below.refl _ _) | (with_reducible refine Below.ext_mk ?_ ?_ _ _) | (with_reducible refine Below.alloc ?_ ?_ _) | (with_reducible refine Below.drew ?_) | (with_reducible refine Below.setCell ?_ ?_ _) | go_size)))).mono ?_); rintro e u1 ⟨rfl, F1, hR1, st1⟩)
            | ((with_reducible refine (QC _ _ (by first | exact hR1 | exact (hR1.ext _ _))).mono ?_); rintro e w1 ⟨rfl, m2, d2, rfl⟩)
            | ((with_reducible refine (QA _ _ (by first | exact hR1 | exact (hR1.ext _ _))).mono ?_); rintro e w1 ⟨rfl, m2, d2, rfl⟩)
            | ((with_reducible refine (QB _ _ (by first | exact hR1 | exact (hR1.ext _ _))).mono ?_); rintro e w1 ⟨rfl, m2, d2, rfl⟩)
            | ((with_reducible refine (I2 _ _ (by first | exact hR1 | exact (hR1.ext _ _))).mono ?_); rintro e u2 ⟨rfl, F2, hR2, st2⟩)
            | ((with_reducible refine (ND _ _ hR2).mono ?_); rintro e u3 ⟨rfl, F3, hR3, st3⟩))
          go_returns
          rw [EQ.out]
          exact ⟨rfl, F3, hR3, (((StoStep.of_below (by (repeat' (first | (with_reducible exact Below.refl _ _) | (with_reducible refine Below.ext_mk ?_ ?_ _ _) | (with_reducible refine Below.alloc ?_ ?_ _) | (with_reducible refine Below.drew ?_) | (with_reducible refine Below.setCell ?_ ?_ _) | go_size)))).trans st1).trans (StoStep.of_below (by (repeat' (first | (with_reducible exact Below.refl _ _) | (with_reducible refine Below.ext_mk ?_ ?_ _ _) | (with_reducible refine Below.alloc ?_ ?_ _) | (with_reducible refine Below.drew ?_) | (with_reducible refine Below.setCell ?_ ?_ _) | go_size))))).trans (st2.trans st3)⟩
    · by_cases h2 : tb < tc
      · obtain rfl : v = tb := by have := LW.out; omega
        clear LW
        cases e3' : (a == 1)
        · clear e34
          go_enter Try.func138, Try.ntmps138
          go_upto_region 3 with (fail)
          refine wp_region_doc (fun F hF => ?_)
          have HF := hid hF
          clear hF
          repeat (first
            | (refine doc_not rfl ?_; simp only [Act.put, List.setIfInBounds_toArray, List.set_cons_zero, List.set_cons_succ])
            | (refine doc_val rfl (by first | (go_simp; done) | (go_simp; exact ⟨rfl, rfl⟩) | (go_simp; with_reducible rfl)) ?_; simp only [Act.put, List.setIfInBounds_toArray, List.set_cons_zero, List.set_cons_succ]))
          refine doc_end (HF.out _ _ ?_)
          clear HF F
          go_upto_region 7 with (fail)
          refine wp_region_doc (fun F hF => ?_)
          have HF := hid hF
          clear hF
          repeat (first
            | (refine doc_not rfl ?_; simp only [Act.put, List.setIfInBounds_toArray, List.set_cons_zero, List.set_cons_succ])
            | (refine doc_val rfl (by first | (go_simp; done) | (go_simp; exact ⟨rfl, rfl⟩) | (go_simp; with_reducible rfl)) ?_; simp only [Act.put, List.setIfInBounds_toArray, List.set_cons_zero, List.set_cons_succ]))
          refine doc_end (HF.out _ _ ?_)
          clear HF F
          go_wp2_with (first
            | ((with_reducible refine (TC _ (by (repeat' (first | (with_reducible exact Below.refl _ _) | (with_reducible refine Below.ext_mk ?_ ?_ _ _) | (with_reducible refine Below.alloc ?_ ?_ _) | (with_reducible refine Below.drew ?_) | (with_reducible refine Below.setCell ?_ ?_ _) | go_size)))).mono ?_); rintro e w1 ⟨rfl, m1, d1, rfl⟩)
            | ((with_reducible refine (TA _ (by (repeat' (first | (with_reducible exact Below.refl _ _) | (with_reducible refine Below.ext_mk ?_ ?_ _ _) | (with_reducible refine Below.alloc ?_ ?_ _) | (with_reducible refine Below.drew ?_) | (with_reducible refine Below.setCell ?_ ?_ _) | go_size)))).mono ?_); rintro e w1 ⟨rfl, m1, d1, rfl⟩)
            | ((with_reducible refine (TB _ (by (repeat' (first | (with_reducible exact Below.refl _ _) | (with_reducible refine Below.ext_mk ?_ ?_ _ _) | (with_reducible refine Below.alloc ?_ ?_ _) | (with_reducible refine Below.drew ?_) | (with_reducible refine Below.setCell ?_ ?_ _) | go_size)))).mono ?_); rintro e w1 ⟨rfl, m1, d1, rfl⟩)
            | ((with_reducible refine (PC _ (by (repeat' (first | (with_reducible exact Below.refl _ _) | (with_reducible refine Below.ext_mk ?_ ?_ _ _) | (with_reducible refine Below.alloc ?_ ?_ _) | (with_reducible refine Below.drew ?_) | (with_reducible refine Below.setCell ?_ ?_ _) | go_size)))).mono ?_); rintro e w1 ⟨rfl, m1, d1, rfl⟩)
            | ((with_reducible refine (PA _ (by (repeat' (first | (with_reducible exact Below.refl _ _) | (with_reducible refine Below.ext_mk ?_ ?_ _ _) | (with_reducible refine Below.alloc ?_ ?_ _) | (with_reducible refine Below.drew ?_) | (with_reducible refine Below.setCell ?_ ?_ _) | go_size)))).mono ?_); rintro e w1 ⟨rfl, m1, d1, rfl⟩)
            | ((with_reducible refine (PB _ (by (repeat' (first | (with_reducible exact Below.refl _ _) | (with_reducible refine Below.ext_mk ?_ ?_ _ _) | (with_reducible refine Below.alloc ?_ ?_ _) | (with_reducible refine Below.drew ?_) | (with_reducible refine Below.setCell ?_ ?_ _) | go_size)))).mono ?_); rintro e w1 ⟨rfl, m1, d1, rfl⟩)
            | ((with_reducible refine (I1 _ (by (repeat' (first | (with_reducible exact Below.refl _ _) | (with_reducible refine Below.ext_mk ?_ ?_ _ _) | (with_reducible refine Below.alloc ?_ ?_ _) | (with_reducible refine Below.drew ?_) | (with_reducible refine Below.setCell ?_ ?_ _) | go_size)))).mono ?_); rintro e u1 ⟨rfl, F1, hR1, st1⟩)
            | ((with_reducible refine (QC _ _ (by first | exact hR1 | exact (hR1.ext _ _))).mono ?_); rintro e w1 ⟨rfl, m2, d2, rfl⟩)
            | ((with_reducible refine (QA _ _ (by first | exact hR1 | exact (hR1.ext _ _))).mono ?_); rintro e w1 ⟨rfl, m2, d2, rfl⟩)
            | ((with_reducible refine (QB _ _ (by first | exact hR1 | exact (hR1.ext _ _))).mono ?_); rintro e w1 ⟨rfl, m2, d2, rfl⟩)
            | ((with_reducible refine (I2 _ _ (by first | exact hR1 | exact (hR1.ext _ _))).mono ?_); rintro e u2 ⟨rfl, F2, hR2, st2⟩)
            | ((with_reducible refine (ND _ _ hR2).mono ?_); rintro e u3 ⟨rfl, F3, hR3, st3⟩))
          go_returns
          rw [EQ.out]
          exact ⟨rfl, F3, hR3, (((StoStep.of_below (by (repeat' (first | (with_reducible exact Below.refl _ _) | (with_reducible refine Below.ext_mk ?_ ?_ _ _) | (with_reducible refine Below.alloc ?_ ?_ _) | (with_reducible refine Below.drew ?_) | (with_reducible refine Below.setCell ?_ ?_ _) | go_size)))).trans st1).trans (StoStep.of_below (by (repeat' (first | (with_reducible exact Below.refl _ _) | (with_reducible refine Below.ext_mk ?_ ?_ _ _) | (with_reducible refine Below.alloc ?_ ?_ _) | (with_reducible refine Below.drew ?_) | (with_reducible refine Below.setCell ?_ ?_ _) | go_size))))).trans (st2.trans st3)⟩
        · have e4' : (b == 0) = false := by rw [e3'] at e34; simpa using e34
          clear e34
          go_enter Try.func138, Try.ntmps138
          go_upto_region 3 with (fail)
          refine wp_region_doc (fun F hF => ?_)
          have HF := hid hF
          clear hF
          repeat (first
            | (refine doc_not rfl ?_; simp only [Act.put, List.setIfInBounds_toArray, List.set_cons_zero, List.set_cons_succ])
            | (refine doc_val rfl (by first | (go_simp; done) | (go_simp; exact ⟨rfl, rfl⟩) | (go_simp; with_reducible rfl)) ?_; simp only [Act.put, List.setIfInBounds_toArray, List.set_cons_zero, List.set_cons_succ]))
          refine doc_end (HF.out _ _ ?_)
          clear HF F
          go_upto_region 7 with (fail)
          refine wp_region_doc (fun F hF => ?_)
          have HF := hid hF
          clear hF
          repeat (first
            | (refine doc_not rfl ?_; simp only [Act.put, List.setIfInBounds_toArray, List.set_cons_zero, List.set_cons_succ])
            | (refine doc_val rfl (by first | (go_simp; done) | (go_simp; exact ⟨rfl, rfl⟩) | (go_simp; with_reducible rfl)) ?_; simp only [Act.put, List.setIfInBounds_toArray, List.set_cons_zero, List.set_cons_succ]))
          refine doc_end (HF.out _ _ ?_)
          clear HF F
          go_wp2_with (first
            | ((with_reducible refine (TC _ (by (repeat' (first | (with_reducible exact Below.refl _ _) | (with_reducible refine Below.ext_mk ?_ ?_ _ _) | (with_reducible refine Below.alloc ?_ ?_ _) | (with_reducible refine Below.drew ?_) | (with_reducible refine Below.setCell ?_ ?_ _) | go_size)))).mono ?_); rintro e w1 ⟨rfl, m1, d1, rfl⟩)
            | ((with_reducible refine (TA _ (by (repeat' (first | (with_reducible exact Below.refl _ _) | (with_reducible refine Below.ext_mk ?_ ?_ _ _) | (with_reducible refine Below.alloc ?_ ?_ _) | (with_reducible refine Below.drew ?_) | (with_reducible refine Below.setCell ?_ ?_ _) | go_size)))).mono ?_); rintro e w1 ⟨rfl, m1, d1, rfl⟩)
            | ((with_reducible refine (TB _ (by (repeat' (first | (with_reducible exact Below.refl _ _) | (with_reducible refine Below.ext_mk ?_ ?_ _ _) | (with_reducible refine Below.alloc ?_ ?_ _) | (with_reducible refine Below.drew ?_) | (with_reducible refine Below.setCell ?_ ?_ _) | go_size)))).mono ?_); rintro e w1 ⟨rfl, m1, d1, rfl⟩)
            | ((with_reducible refine (PC _ (by (repeat' (first | (with_reducible exact Below.refl _ _) | (with_reducible refine Below.ext_mk ?_ ?_ _ _) | (with_reducible refine Below.alloc ?_ ?_ _) | (with_reducible refine Below.drew ?_) | (with_reducible refine Below.setCell ?_ ?_ _) | go_size)))).mono ?_); rintro e w1 ⟨rfl, m1, d1, rfl⟩)
            | ((with_reducible refine (PA _ (by (repeat' (first | (with_reducible exact Below.refl _ _) | (with_reducible refine Below.ext_mk ?_ ?_ _ _) | (with_reducible refine Below.alloc ?_ ?_ _) | (with_reducible refine Below.drew ?_) | (with_reducible refine Below.setCell ?_ ?_ _) | go_size)))).mono ?_); rintro e w1 ⟨rfl, m1, d1, rfl⟩)
            | ((with_reducible refine (PB _ (by (repeat' (first | (with_reducible exact Below.refl _ _) | (with_reducible refine Below.ext_mk ?_ ?_ _ _) | (with_reducible refine Below.alloc ?_ ?_ _) | (with_reducible refine Below.drew ?_) | (with_reducible refine Below.setCell ?_ ?_ _) | go_size)))).mono ?_); rintro e w1 ⟨rfl, m1, d1, rfl⟩)
            | ((with_reducible refine (I1 _ (by (repeat' (first | (with_reducible exact Below.refl _ _) | (with_reducible refine Below.ext_mk ?_ ?_ _ _) | (with_reducible refine Below.alloc ?_ ?_ _) | (with_reducible refine Below.drew ?_) | (with_reducible refine Below.setCell ?_ ?_ _) | go_size)))).mono ?_); rintro e u1 ⟨rfl, F1, hR1, st1⟩)
            | ((with_reducible refine (QC _ _ (by first | exact hR1 | exact (hR1.ext _ _))).mono ?_); rintro e w1 ⟨rfl, m2, d2, rfl⟩)
            | ((with_reducible refine (QA _ _ (by first | exact hR1 | exact (hR1.ext _ _))).mono ?_); rintro e w1 ⟨rfl, m2, d2, rfl⟩)
            | ((with_reducible refine (QB _ _ (by first | exact hR1 | exact (hR1.ext _ _))).mono ?_); rintro e w1 ⟨rfl, m2, d2, rfl⟩)
            | ((with_reducible refine (I2 _ _ (by first | exact hR1 | exact (hR1.ext _ _))).mono ?_); rintro e u2 ⟨rfl, F2, hR2, st2⟩)
            | ((with_reducible refine (ND _ _ hR2).mono ?_); rintro e u3 ⟨rfl, F3, hR3, st3⟩))
          go_returns
          rw [EQ.out]
          exact ⟨rfl, F3, hR3, (((StoStep.of_below (by (repeat' (first | (with_reducible exact Below.refl _ _) | (with_reducible refine Below.ext_mk ?_ ?_ _ _) | (with_reducible refine Below.alloc ?_ ?_ _) | (with_reducible refine Below.drew ?_) | (with_reducible refine Below.setCell ?_ ?_ _) | go_size)))).trans st1).trans (StoStep.of_below (by (repeat' (first | (with_reducible exact Below.refl _ _) | (with_reducible refine Below.ext_mk ?_ ?_ _ _) | (with_reducible refine Below.alloc ?_ ?_ _) | (with_reducible refine Below.drew ?_) | (with_reducible refine Below.setCell ?_ ?_ _) | go_size))))).trans (st2.trans st3)⟩
      · obtain rfl : v = tc := by have := LW.out; omega
        clear LW
        cases e3' : (a == 1)
        · clear e34
          go_enter Try.func138, Try.ntmps138
          go_upto_region 3 with (fail)
          refine wp_region_doc (fun F hF => ?_)
          have HF := hid hF
          clear hF
          repeat (first
            | (refine doc_not rfl ?_; simp only [Act.put, List.setIfInBounds_toArray, List.set_cons_zero, List.set_cons_succ])
            | (refine doc_val rfl (by first | (go_simp; done) | (go_simp; exact ⟨rfl, rfl⟩) | (go_simp; with_reducible rfl)) ?_; simp only [Act.put, List.setIfInBounds_toArray, List.set_cons_zero, List.set_cons_succ]))
          refine doc_end (HF.out _ _ ?_)
          clear HF F
          go_upto_region 7 with (fail)
          refine wp_region_doc (fun F hF => ?_)
          have HF := hid hF
          clear hF
          repeat (first
            | (refine doc_not rfl ?_; simp only [Act.put, List.setIfInBounds_toArray, List.set_cons_zero, List.set_cons_succ])
            | (refine doc_val rfl (by first | (go_simp; done) | (go_simp; exact ⟨rfl, rfl⟩) | (go_simp; with_reducible rfl)) ?_; simp only [Act.put, List.setIfInBounds_toArray, List.set_cons_zero, List.set_cons_succ]))
          refine doc_end (HF.out _ _ ?_)
          clear HF F
          go_wp2_with (first
            | ((with_reducible refine (TC _ (by (repeat' (first | (with_reducible exact Below.refl _ _) | (with_reducible refine Below.ext_mk ?_ ?_ _ _) | (with_reducible refine Below.alloc ?_ ?_ _) | (with_reducible refine Below.drew ?_) | (with_reducible refine Below.setCell ?_ ?_ _) | go_size)))).mono ?_); rintro e w1 ⟨rfl, m1, d1, rfl⟩)
            | ((with_reducible refine (TA _ (by (repeat' (first | (with_reducible exact Below.refl _ _) | (with_reducible refine Below.ext_mk ?_ ?_ _ _) | (with_reducible refine Below.alloc ?_ ?_ _) | (with_reducible refine Below.drew ?_) | (with_reducible refine Below.setCell ?_ ?_ _) | go_size)))).mono ?_); rintro e w1 ⟨rfl, m1, d1, rfl⟩)
            | ((with_reducible refine (TB _ (by (repeat' (first | (with_reducible exact Below.refl _ _) | (with_reducible refine Below.ext_mk ?_ ?_ _ _) | (with_reducible refine Below.alloc ?_ ?_ _) | (with_reducible refine Below.drew ?_) | (with_reducible refine Below.setCell ?_ ?_ _) | go_size)))).mono ?_); rintro e w1 ⟨rfl, m1, d1, rfl⟩)
            | ((with_reducible refine (PC _ (by (repeat' (first | (with_reducible exact Below.refl _ _) | (with_reducible refine Below.ext_mk ?_ ?_ _ _) | (with_reducible refine Below.alloc ?_ ?_ _) | (with_reducible refine Below.drew ?_) | (with_reducible refine Below.setCell ?_ ?_ _) | go_size)))).mono ?_); rintro e w1 ⟨rfl, m1, d1, rfl⟩)
            | ((with_reducible refine (PA _ (by (repeat' (first | (with_reducible exact Below.refl _ _) | (with_reducible refine Below.ext_mk ?_ ?_ _ _) | (with_reducible refine Below.alloc ?_ ?_ _) | (with_reducible refine Below.drew ?_) | (with_reducible refine Below.setCell ?_ ?_ _) | go_size)))).mono ?_); rintro e w1 ⟨rfl, m1, d1, rfl⟩)
            | ((with_reducible refine (PB _ (by (repeat' (first | (with_reducible exact Below.refl _ _) | (with_reducible refine Below.ext_mk ?_ ?_ _ _) | (with_reducible refine Below.alloc ?_ ?_ _) | (with_reducible refine Below.drew ?_) | (with_reducible refine Below.setCell ?_ ?_ _) | go_size)))).mono ?_); rintro e w1 ⟨rfl, m1, d1, rfl⟩)
            | ((with_reducible refine (I1 _ (by (repeat' (first | (with_reducible exact Below.refl _ _) | (with_reducible refine Below.ext_mk ?_ ?_ _ _) | (with_reducible refine Below.alloc ?_ ?_ _) | (with_reducible refine Below.drew ?_) | (with_reducible refine Below.setCell ?_ ?_ _) | go_size)))).mono ?_); rintro e u1 ⟨rfl, F1, hR1, st1⟩)
            | ((with_reducible refine (QC _ _ (by first | exact hR1 | exact (hR1.ext _ _))).mono ?_); rintro e w1 ⟨rfl, m2, d2, rfl⟩)
            | ((with_reducible refine (QA _ _ (by first | exact hR1 | exact (hR1.ext _ _))).mono ?_); rintro e w1 ⟨rfl, m2, d2, rfl⟩)
            | ((with_reducible refine (QB _ _ (by first | exact hR1 | exact (hR1.ext _ _))).mono ?_); rintro e w1 ⟨rfl, m2, d2, rfl⟩)
            | ((with_reducible refine (I2 _ _ (by first | exact hR1 | exact (hR1.ext _ _))).mono ?_); rintro e u2 ⟨rfl, F2, hR2, st2⟩)
            | ((with_reducible refine (ND _ _ hR2).mono ?_); rintro e u3 ⟨rfl, F3, hR3, st3⟩))
          go_returns
          rw [EQ.out]
          exact ⟨rfl, F3, hR3, (((StoStep.of_below (by (repeat' (first | (with_reducible exact Below.refl _ _) | (with_reducible refine Below.ext_mk ?_ ?_ _ _) | (with_reducible refine Below.alloc ?_ ?_ _) | (with_reducible refine Below.drew ?_) | (with_reducible refine Below.setCell ?_ ?_ _) | go_size)))).trans st1).trans (StoStep.of_below (by (repeat' (first | (with_reducible exact Below.refl _ _) | (with_reducible refine Below.ext_mk ?_ ?_ _ _) | (with_reducible refine Below.alloc ?_ ?_ _) | (with_reducible refine Below.drew ?_) | (with_reducible refine Below.setCell ?_ ?_ _) | go_size))))).trans (st2.trans st3)⟩
        · have e4' : (b == 0) = false := by rw [e3'] at e34; simpa using e34
          clear e34
          go_enter Try.func138, Try.ntmps138
          go_upto_region 3 with (fail)
          refine wp_region_doc (fun F hF => ?_)
          have HF := hid hF
          clear hF
          repeat (first
            | (refine doc_not rfl ?_; simp only [Act.put, List.setIfInBounds_toArray, List.set_cons_zero, List.set_cons_succ])
            | (refine doc_val rfl (by first | (go_simp; done) | (go_simp; exact ⟨rfl, rfl⟩) | (go_simp; with_reducible rfl)) ?_; simp only [Act.put, List.setIfInBounds_toArray, List.set_cons_zero, List.set_cons_succ]))
          refine doc_end (HF.out _ _ ?_)
          clear HF F
          go_upto_region 7 with (fail)
          refine wp_region_doc (fun F hF => ?_)
          have HF := hid hF
          clear hF
          repeat (first
            | (refine doc_not rfl ?_; simp only [Act.put, List.setIfInBounds_toArray, List.set_cons_zero, List.set_cons_succ])
            | (refine doc_val rfl (by first | (go_simp; done) | (go_simp; exact ⟨rfl, rfl⟩) | (go_simp; with_reducible rfl)) ?_; simp only [Act.put, List.setIfInBounds_toArray, List.set_cons_zero, List.set_cons_succ]))
          refine doc_end (HF.out _ _ ?_)
          clear HF F
          go_wp2_with (first
            | ((with_reducible refine (TC _ (by (repeat' (first | (with_reducible exact Below.refl _ _) | (with_reducible refine Below.ext_mk ?_ ?_ _ _) | (with_reducible refine Below.alloc ?_ ?_ _) | (with_reducible refine Below.drew ?_) | (with_reducible refine Below.setCell ?_ ?_ _) | go_size)))).mono ?_); rintro e w1 ⟨rfl, m1, d1, rfl⟩)
            | ((with_reducible refine (TA _ (by (repeat' (first | (with_reducible exact Below.refl _ _) | (with_reducible refine Below.ext_mk ?_ ?_ _ _) | (with_reducible refine Below.alloc ?_ ?_ _) | (with_reducible refine Below.drew ?_) | (with_reducible refine Below.setCell ?_ ?_ _) | go_size)))).mono ?_); rintro e w1 ⟨rfl, m1, d1, rfl⟩)
            | ((with_reducible refine (TB _ (by (repeat' (first | (with_reducible exact Below.refl _ _) | (with_reducible refine Below.ext_mk ?_ ?_ _ _) | (with_reducible refine Below.alloc ?_ ?_ _) | (with_reducible refine Below.drew ?_) | (with_reducible refine Below.setCell ?_ ?_ _) | go_size)))).mono ?_); rintro e w1 ⟨rfl, m1, d1, rfl⟩)
            | ((with_reducible refine (PC _ (by (repeat' (first | (with_reducible exact Below.refl _ _) | (with_reducible refine Below.ext_mk ?_ ?_ _ _) | (with_reducible refine Below.alloc ?_ ?_ _) | (with_reducible refine Below.drew ?_) | (with_reducible refine Below.setCell ?_ ?_ _) | go_size)))).mono ?_); rintro e w1 ⟨rfl, m1, d1, rfl⟩)
            | ((with_reducible refine (PA _ (by (repeat' (first | (with_reducible exact Below.refl _ _) | (with_reducible refine Below.ext_mk ?_ ?_ _ _) | (with_reducible refine Below.alloc ?_ ?_ _) | (with_reducible refine Below.drew ?_) | (with_reducible refine Below.setCell ?_ ?_ _) | go_size)))).mono ?_); rintro e w1 ⟨rfl, m1, d1, rfl⟩)
            | ((with_reducible refine (PB _ (by (repeat' (first | (with_reducible exact Below.refl _ _) | (with_reducible refine Below.ext_mk ?_ ?_ _ _) | (with_reducible refine Below.alloc ?_ ?_ _) | (with_reducible refine Below.drew ?_) | (with_reducible refine Below.setCell ?_ ?_ _) | go_size)))).mono ?_); rintro e w1 ⟨rfl, m1, d1, rfl⟩)
            | ((with_reducible refine (I1 _ (by (repeat' (first | (with_reducible exact Below.refl _ _) | (with_reducible refine Below.ext_mk ?_ ?_ _ _) | (with_reducible refine Below.alloc ?_ ?_ _) | (with_reducible refine Below.drew ?_) | (with_reducible refine Below.setCell ?_ ?_ _) | go_size)))).mono ?_); rintro e u1 ⟨rfl, F1, hR1, st1⟩)
            | ((with_reducible refine (QC _ _ (by first | exact hR1 | exact (hR1.ext _ _))).mono ?_); rintro e w1 ⟨rfl, m2, d2, rfl⟩)
            | ((with_reducible refine (QA _ _ (by first | exact hR1 | exact (hR1.ext _ _))).mono ?_); rintro e w1 ⟨rfl, m2, d2, rfl⟩)
            | ((with_reducible refine (QB _ _ (by first | exact hR1 | exact (hR1.ext _ _))).mono ?_); rintro e w1 ⟨rfl, m2, d2, rfl⟩)
            | ((with_reducible refine (I2 _ _ (by first | exact hR1 | exact (hR1.ext _ _))).mono ?_); rintro e u2 ⟨rfl, F2, hR2, st2⟩)
            | ((with_reducible refine (ND _ _ hR2).mono ?_); rintro e u3 ⟨rfl, F3, hR3, st3⟩))
          go_returns
          rw [EQ.out]
          exact ⟨rfl, F3, hR3, (((StoStep.of_below (by (repeat' (first | (with_reducible exact Below.refl _ _) | (with_reducible refine Below.ext_mk ?_ ?_ _ _) | (with_reducible refine Below.alloc ?_ ?_ _) | (with_reducible refine Below.drew ?_) | (with_reducible refine Below.setCell ?_ ?_ _) | go_size)))).trans st1).trans (StoStep.of_below (by (repeat' (first | (with_reducible exact Below.refl _ _) | (with_reducible refine Below.ext_mk ?_ ?_ _ _) | (with_reducible refine Below.alloc ?_ ?_ _) | (with_reducible refine Below.drew ?_) | (with_reducible refine Below.setCell ?_ ?_ _) | go_size))))).trans (st2.trans st3)⟩
end Go.Proofs.Ytboekafmplomhaa
set_option linter.unusedVariables false
set_option linter.unusedSimpArgs false
namespace Go.Proofs.Ytboekafmplomhaa
open Go.RowKit

theorem StoStep.cell {w w' : World} {F F' : List Nat} (st : StoStep w w' F F') {b i : Nat} {v : Value} (hb : b < w.heap.size) (hn : b ∉ F) (hc : w.cell? ⟨b, i, none⟩ = some v) : w'.cell? ⟨b, i, none⟩ = some v :=
  (cell_of_heap i (st.block b hb hn)).trans hc

end Go.Proofs.Ytboekafmplomhaa
set_option linter.unusedVariables false
set_option linter.unusedSimpArgs false
namespace Go.Proofs.Ytboekafmplomhaa
open Go.RowKit

theorem back_any (x : Int) (n : Nat) (h0 : 0 < n) (hn : n ≤ 1000) (hx : -9223372036854775808 ≤ x ∧ x ≤ 9223372036854775807) (w : World) :
    Calls Try.prog 104 #[.int .i64 x, .int .i64 (n : Int)] w (Pure (.int .i64 (atN x n)) w) := by
  have hz : ((n : Int) == 0) = false := by simp; omega
  have hz1 : ¬ (n : Int) = 0 := by omega
  have hz2 : ¬ n = 0 := by omega
  have hnm : ¬ (n : Int) = -1 := by omega
  by_cases hx0 : x < 0
  · have e1 : IntKind.i64.wrap (x + 1) = x + 1 := IntWalk.i64_in _ (by omega)
    have e2 : IntKind.i64.wrap (-(x + 1)) = -(x + 1) := IntWalk.i64_in _ (by omega)
    have e3 : (-(x + 1)).tmod (n : Int) = atN x n := by unfold atN; rw [if_pos hx0, Int.tmod_eq_emod_of_nonneg (by omega)]
    have hr := atN_range x (n := (n : Int)) (by omega)
    have e4 : IntKind.i64.wrap (atN x n) = atN x n := IntWalk.i64_in _ (by omega)
    clear hr
    go_enter Try.func104, Try.ntmps104
    go_wp2
    go_returns
    exact Pure.of rfl (by (repeat' (first | (with_reducible exact Below.refl _ _) | (with_reducible refine Below.ext_mk ?_ ?_ _ _) | (with_reducible refine Below.alloc ?_ ?_ _) | (with_reducible refine Below.drew ?_) | (with_reducible refine Below.setCell ?_ ?_ _) | go_size)))
  · have e3 : x.tmod (n : Int) = atN x n := by unfold atN; rw [if_neg hx0, Int.tmod_eq_emod_of_nonneg (by omega)]
    have hr := atN_range x (n := (n : Int)) (by omega)
    have e4 : IntKind.i64.wrap (atN x n) = atN x n := IntWalk.i64_in _ (by omega)
    clear hr
    go_enter Try.func104, Try.ntmps104
    go_wp2
    go_returns
    exact Pure.of rfl (by (repeat' (first | (with_reducible exact Below.refl _ _) | (with_reducible refine Below.ext_mk ?_ ?_ _ _) | (with_reducible refine Below.alloc ?_ ?_ _) | (with_reducible refine Below.drew ?_) | (with_reducible refine Below.setCell ?_ ?_ _) | go_size)))

/-- A call of the document's store that tells what the program's tells. -/
def RSame (f : FuncId) (args : Array Value) (w : World) (q : Nat) (F : List Nat) (X : Sto × Int) : Prop :=
  Calls Try.prog f args w (fun e w' => e = .returned (.int .i64 X.2) ∧ ∃ F', RIs w' q F' (rOf X.1) ∧ StoStep w w' F F')
section
variable {w : World} {q : Nat} {F : List Nat} {S : Sto}
set_option maxHeartbeats 4000000 in
theorem rIte_call (h : RIs w q F (rOf S)) (hW : Wf S) (x y z : Int) :
    RSame 105 #[.pointer (some ⟨q, 0, none⟩), .int .i64 x, .int .i64 y, .int .i64 z] w q F (iteV S x y z) := by
  have H := hid h
  have RX := fun W (hb : Below w.heap.size w W) => rright_any (H.out.below hb) (wf_len hW) x
  have RY := fun W (hb : Below w.heap.size w W) => rright_any (H.out.below hb) (wf_len hW) y
  have RZ := fun W (hb : Below w.heap.size w W) => rright_any (H.out.below hb) (wf_len hW) z
  have g1 := topOf_ge hW (has_right (S := S) x); have g2 := topOf_ge hW (has_right (S := S) y); have g3 := topOf_ge hW (has_right (S := S) z)
  have hn : 64 - low S (rightOf S x) (rightOf S y) (rightOf S z) < (66 : Nat) := by unfold low; omega
  have I := fun W (hb : Below w.heap.size w W) => rite_any 66 W q F S _ _ _ (H.out.below hb) hW (has_right x) (has_right y) (has_right z) hn
  obtain ⟨S1, s1, wf1, _⟩ := rite_store hW (has_right x) (has_right y) (has_right z) hn
  have SIM := hid (iteV_sim hW x y z)
  unfold rIteV rmade at SIM
  rw [rright_sim] at RX RY RZ SIM
  rw [rright_sim, rright_sim] at SIM
  unfold RTells at I
  unfold RSame
  generalize rite 66 (rOf S) (rightOf S x) (rightOf S y) (rightOf S z) = X at *
  generalize rightOf S x = x' at *
  generalize rightOf S y = y' at *
  generalize rightOf S z = z' at *
  obtain ⟨X1, X2⟩ := X
  simp only at s1 I SIM
  subst s1
  have MD := fun W F (h : RIs W q F (rOf S1)) => rmade_any h X2
  have e1 : rOf S1 = rOf (iteV S x y z).1 := congrArg Prod.fst SIM.out
  have e2 : (if (rOf S1).full = true then 0 else X2) = (iteV S x y z).2 := congrArg Prod.snd SIM.out
  rw [e2] at MD
  rw [← e1]
  clear SIM e1 e2 h hW g1 g2 g3 hn wf1
  generalize (iteV S x y z).2 = r at *
  go_enter Try.func105, Try.ntmps105
  go_wp2_with (first
    | ((with_reducible refine (RX _ (by (repeat' (first | (with_reducible exact Below.refl _ _) | (with_reducible refine Below.ext_mk ?_ ?_ _ _) | (with_reducible refine Below.alloc ?_ ?_ _) | (with_reducible refine Below.drew ?_) | (with_reducible refine Below.setCell ?_ ?_ _) | go_size)))).mono ?_); rintro e w1 ⟨rfl, m1, d1, rfl⟩)
    | ((with_reducible refine (RY _ (by (repeat' (first | (with_reducible exact Below.refl _ _) | (with_reducible refine Below.ext_mk ?_ ?_ _ _) | (with_reducible refine Below.alloc ?_ ?_ _) | (with_reducible refine Below.drew ?_) | (with_reducible refine Below.setCell ?_ ?_ _) | go_size)))).mono ?_); rintro e w1 ⟨rfl, m1, d1, rfl⟩)
    | ((with_reducible refine (RZ _ (by (repeat' (first | (with_reducible exact Below.refl _ _) | (with_reducible refine Below.ext_mk ?_ ?_ _ _) | (with_reducible refine Below.alloc ?_ ?_ _) | (with_reducible refine Below.drew ?_) | (with_reducible refine Below.setCell ?_ ?_ _) | go_size)))).mono ?_); rintro e w1 ⟨rfl, m1, d1, rfl⟩)
    | ((with_reducible refine (I _ (by (repeat' (first | (with_reducible exact Below.refl _ _) | (with_reducible refine Below.ext_mk ?_ ?_ _ _) | (with_reducible refine Below.alloc ?_ ?_ _) | (with_reducible refine Below.drew ?_) | (with_reducible refine Below.setCell ?_ ?_ _) | go_size)))).mono ?_); rintro e u1 ⟨rfl, F1, hR1, st1⟩)
    | ((with_reducible refine (MD _ _ hR1).mono ?_); rintro e w2 ⟨rfl, m2, d2, rfl⟩))
  go_returns
  exact ⟨rfl, F1, hR1.ext _ _, ((StoStep.of_below (by (repeat' (first | (with_reducible exact Below.refl _ _) | (with_reducible refine Below.ext_mk ?_ ?_ _ _) | (with_reducible refine Below.alloc ?_ ?_ _) | (with_reducible refine Below.drew ?_) | (with_reducible refine Below.setCell ?_ ?_ _) | go_size)))).trans st1).trans (StoStep.of_below (Below.ext_mk (Below.refl _ _) (Nat.le_refl _) _ _))⟩
set_option maxHeartbeats 4000000 in
theorem rVar_call (h : RIs w q F (rOf S)) (hW : Wf S) (v : Int) :
    RSame 103 #[.pointer (some ⟨q, 0, none⟩), .int .i64 v] w q F (varV S v) := by
  have H := hid h
  have SIM := hid (varV_sim hW v)
  unfold RSame
  by_cases h0 : v < 0
  · have e : varV S v = (S, 0) := by unfold varV; rw [if_pos (.inl h0)]
    rw [e]
    clear e SIM h
    go_enter Try.func103, Try.ntmps103
    go_upto_region 1 with (fail)
    refine wp_region_doc (fun F hF => ?_)
    have HF := hid hF
    clear hF
    repeat (first
      | (refine doc_not rfl ?_; simp only [Act.put, List.setIfInBounds_toArray, List.set_cons_zero, List.set_cons_succ])
      | (refine doc_val rfl (by first | (go_simp; done) | (go_simp; exact ⟨rfl, rfl⟩) | (go_simp; with_reducible rfl)) ?_; simp only [Act.put, List.setIfInBounds_toArray, List.set_cons_zero, List.set_cons_succ]))
    refine doc_end (HF.out _ _ ?_)
    clear HF F
    go_wp2_with fail
    go_returns
    exact ⟨rfl, F, H.out.below (by (repeat' (first | (with_reducible exact Below.refl _ _) | (with_reducible refine Below.ext_mk ?_ ?_ _ _) | (with_reducible refine Below.alloc ?_ ?_ _) | (with_reducible refine Below.drew ?_) | (with_reducible refine Below.setCell ?_ ?_ _) | go_size))), StoStep.of_below (by (repeat' (first | (with_reducible exact Below.refl _ _) | (with_reducible refine Below.ext_mk ?_ ?_ _ _) | (with_reducible refine Below.alloc ?_ ?_ _) | (with_reducible refine Below.drew ?_) | (with_reducible refine Below.setCell ?_ ?_ _) | go_size)))⟩
  · by_cases h1 : 63 < v
    · have e : varV S v = (S, 0) := by unfold varV; rw [if_pos (.inr (by omega))]
      rw [e]
      have h1' : v > 63 := h1
      clear e SIM h
      go_enter Try.func103, Try.ntmps103
      go_upto_region 1 with (fail)
      refine wp_region_doc (fun F hF => ?_)
      have HF := hid hF
      clear hF
      repeat (first
        | (refine doc_not rfl ?_; simp only [Act.put, List.setIfInBounds_toArray, List.set_cons_zero, List.set_cons_succ])
        | (refine doc_val rfl (by first | (go_simp; done) | (go_simp; exact ⟨rfl, rfl⟩) | (go_simp; with_reducible rfl)) ?_; simp only [Act.put, List.setIfInBounds_toArray, List.set_cons_zero, List.set_cons_succ]))
      refine doc_end (HF.out _ _ ?_)
      clear HF F
      go_wp2_with fail
      go_returns
      exact ⟨rfl, F, H.out.below (by (repeat' (first | (with_reducible exact Below.refl _ _) | (with_reducible refine Below.ext_mk ?_ ?_ _ _) | (with_reducible refine Below.alloc ?_ ?_ _) | (with_reducible refine Below.drew ?_) | (with_reducible refine Below.setCell ?_ ?_ _) | go_size))), StoStep.of_below (by (repeat' (first | (with_reducible exact Below.refl _ _) | (with_reducible refine Below.ext_mk ?_ ?_ _ _) | (with_reducible refine Below.alloc ?_ ?_ _) | (with_reducible refine Below.drew ?_) | (with_reducible refine Below.setCell ?_ ?_ _) | go_size)))⟩
    · have N := fun W (hb : Below w.heap.size w W) => rnode_any (H.out.below hb) (wf_len hW) v 0 1
      unfold rVarV rmade at SIM
      rw [if_neg (by omega)] at SIM
      unfold RTells at N
      generalize rnode (rOf S) v 0 1 = X at *
      have MD := fun W F (h : RIs W q F X.1) => rmade_any h X.2
      have e1 : X.1 = rOf (varV S v).1 := congrArg Prod.fst SIM.out
      have e2 : (if X.1.full = true then 0 else X.2) = (varV S v).2 := congrArg Prod.snd SIM.out
      rw [e2] at MD
      rw [← e1]
      clear SIM e1 e2 h hW
      generalize (varV S v).2 = r at *
      have h1' : ¬ v > 63 := h1
      go_enter Try.func103, Try.ntmps103
      go_upto_region 1 with (fail)
      refine wp_region_doc (fun F hF => ?_)
      have HF := hid hF
      clear hF
      repeat (first
        | (refine doc_not rfl ?_; simp only [Act.put, List.setIfInBounds_toArray, List.set_cons_zero, List.set_cons_succ])
        | (refine doc_val rfl (by first | (go_simp; done) | (go_simp; exact ⟨rfl, rfl⟩) | (go_simp; with_reducible rfl)) ?_; simp only [Act.put, List.setIfInBounds_toArray, List.set_cons_zero, List.set_cons_succ]))
      refine doc_end (HF.out _ _ ?_)
      clear HF F
      go_wp2_with (first
        | ((with_reducible refine (N _ (by (repeat' (first | (with_reducible exact Below.refl _ _) | (with_reducible refine Below.ext_mk ?_ ?_ _ _) | (with_reducible refine Below.alloc ?_ ?_ _) | (with_reducible refine Below.drew ?_) | (with_reducible refine Below.setCell ?_ ?_ _) | go_size)))).mono ?_); rintro e u1 ⟨rfl, F1, hR1, st1⟩)
        | ((with_reducible refine (MD _ _ hR1).mono ?_); rintro e w2 ⟨rfl, m2, d2, rfl⟩))
      go_returns
      exact ⟨rfl, F1, hR1.ext _ _, ((StoStep.of_below (by (repeat' (first | (with_reducible exact Below.refl _ _) | (with_reducible refine Below.ext_mk ?_ ?_ _ _) | (with_reducible refine Below.alloc ?_ ?_ _) | (with_reducible refine Below.drew ?_) | (with_reducible refine Below.setCell ?_ ?_ _) | go_size)))).trans st1).trans (StoStep.of_below (Below.ext_mk (Below.refl _ _) (Nat.le_refl _) _ _))⟩
end
end Go.Proofs.Ytboekafmplomhaa
