/-
  Package tidy: Same over live stores.
-/
import Derived.Test.YtboekafmplomhaaZTidyN
set_option linter.unusedVariables false
set_option linter.unusedSimpArgs false
namespace Go.Proofs.Ytboekafmplomhaa
open Go.RowKit

abbrev kp (a : Int × Int) : Value := .agg #[.int .i64 a.1, .int .i64 a.2]
theorem key_pair : KeyOk Try.prog 122 (.struct (Try.prog.fieldsOf 122)) kp where
  und := by kernel_rfl
  check em n w := by
    unfold Instr.checkKey
    simp [go_sem]
    rw [show (9999 : Nat) = 9998 + 1 from rfl, check_int, Result.andThen, check_int]
  now a b := .inl rfl
  eq a b w := by
    unfold Op.equal
    rw [show Op.maxDepth = 9999 + 1 from rfl]
    simp [go_sem]
    obtain ⟨a1, a2⟩ := a
    obtain ⟨b1, b2⟩ := b
    by_cases h1 : a1 = b1 <;> by_cases h2 : a2 = b2 <;> simp [h1, h2]
  same a := by unfold Instr.sameBits; simp [Instr.sameBits]

/-- What Same's walk has seen, and what it tells. -/
def sameN (at1 at2 : Int → Nd × Bool) : Nat → List ((Int × Int) × Int) → Int → Int → List ((Int × Int) × Int) × Bool
  | 0, K, _, _ => (K, false)
  | n + 1, K, a, b =>
    if 0 < (aget K (a, b)).getD 0 then (K, true) else
    if (at1 a).2 = false ∨ (at2 b).2 = false then (aput K (a, b) 1, decide ((at1 a).2 = (at2 b).2) && decide (decide (a = 1) = decide (b = 1))) else
    if (at1 a).1.1 ≠ (at2 b).1.1 then (aput K (a, b) 1, false) else
    if (sameN at1 at2 n (aput K (a, b) 1) (at1 a).1.2.1 (at2 b).1.2.1).2 = false then sameN at1 at2 n (aput K (a, b) 1) (at1 a).1.2.1 (at2 b).1.2.1 else
    sameN at1 at2 n (sameN at1 at2 n (aput K (a, b) 1) (at1 a).1.2.1 (at2 b).1.2.1).1 (at1 a).1.2.2 (at2 b).1.2.2

structure SameW (q1 q2 : Option Addr) (F1 F2 : List Nat) (St1 St2 : World → Prop) (w : World) (km i2 i3 i4 i5 : Nat) (K : List ((Int × Int) × Int)) : Prop where
  s1 : St1 w
  s2 : St2 w
  map : MapIs kp w km K
  f1 : km ∉ F1
  f2 : km ∉ F2
  z2 : i2 < w.heap.size
  z3 : i3 < w.heap.size
  z4 : i4 < w.heap.size
  z5 : i5 < w.heap.size
  m2 : i2 ≠ km
  m3 : i3 ≠ km
  m4 : i4 ≠ km
  m5 : i5 ≠ km
  c2 : w.cell? ⟨i2, 0, none⟩ = some (.map (some km))
  c3 : w.cell? ⟨i3, 0, none⟩ = some (.pointer q1)
  c4 : w.cell? ⟨i4, 0, none⟩ = some (.pointer q2)
  c5 : w.cell? ⟨i5, 0, none⟩ = some (.func (.func 96) #[] #[.pointer (some ⟨i2, 0, none⟩), .pointer (some ⟨i3, 0, none⟩), .pointer (some ⟨i4, 0, none⟩), .pointer (some ⟨i5, 0, none⟩)])
section
variable {q1 q2 : Option Addr} {F1 F2 : List Nat} {St1 St2 : World → Prop} {at1 at2 : Int → Nd × Bool} {rk1 rk2 : Int → Nat}
variable {w w' : World} {km i2 i3 i4 i5 : Nat} {K K' : List ((Int × Int) × Int)}
theorem SameW.step (h : SameW q1 q2 F1 F2 St1 St2 w km i2 i3 i4 i5 K) (hs1 : Src q1 F1 St1 at1 rk1) (hs2 : Src q2 F2 St2 at2 rk2) (st : StoStep w w' [km] [km]) (hm : MapIs kp w' km K') : SameW q1 q2 F1 F2 St1 St2 w' km i2 i3 i4 i5 K' :=
  have hk : ∀ k, k < w.heap.size → k ≠ km → w'.heap[k]? = w.heap[k]? := fun k h1 h2 => st.block k h1 (by simp [h2])
  { s1 := hs1.keep w w' h.s1 (fun k hk' => hk k (hs1.lt w h.s1 k hk') (fun e => h.f1 (e ▸ hk')))
    s2 := hs2.keep w w' h.s2 (fun k hk' => hk k (hs2.lt w h.s2 k hk') (fun e => h.f2 (e ▸ hk')))
    map := hm, f1 := h.f1, f2 := h.f2
    z2 := Nat.lt_of_lt_of_le h.z2 st.size, z3 := Nat.lt_of_lt_of_le h.z3 st.size, z4 := Nat.lt_of_lt_of_le h.z4 st.size, z5 := Nat.lt_of_lt_of_le h.z5 st.size
    m2 := h.m2, m3 := h.m3, m4 := h.m4, m5 := h.m5
    c2 := (cell_of_heap 0 (hk _ h.z2 h.m2)).trans h.c2
    c3 := (cell_of_heap 0 (hk _ h.z3 h.m3)).trans h.c3
    c4 := (cell_of_heap 0 (hk _ h.z4 h.m4)).trans h.c4
    c5 := (cell_of_heap 0 (hk _ h.z5 h.m5)).trans h.c5 }
theorem SameW.below (h : SameW q1 q2 F1 F2 St1 St2 w km i2 i3 i4 i5 K) (hs1 : Src q1 F1 St1 at1 rk1) (hs2 : Src q2 F2 St2 at2 rk2) (hb : Below w.heap.size w w') : SameW q1 q2 F1 F2 St1 St2 w' km i2 i3 i4 i5 K :=
  h.step hs1 hs2 (StoStep.of_below hb) (MapIs.keep h.map (hb.block _ (MapIs.lt h.map)))

set_option maxHeartbeats 8000000 in
theorem same1_any (hs1 : Src q1 F1 St1 at1 rk1) (hs2 : Src q2 F2 St2 at2 rk2) : ∀ (n : Nat) (w : World) (K : List ((Int × Int) × Int)) (a b : Int), SameW q1 q2 F1 F2 St1 St2 w km i2 i3 i4 i5 K → rk1 a < n →
    Calls Try.prog 96 #[.int .i64 a, .int .i64 b, .pointer (some ⟨i2, 0, none⟩), .pointer (some ⟨i3, 0, none⟩), .pointer (some ⟨i4, 0, none⟩), .pointer (some ⟨i5, 0, none⟩)] w
      (fun e w' => e = .returned (.bool (sameN at1 at2 n K a b).2) ∧ SameW q1 q2 F1 F2 St1 St2 w' km i2 i3 i4 i5 (sameN at1 at2 n K a b).1 ∧ StoStep w w' [km] [km]) := by
  intro n
  induction n with
  | zero => intro w K a b _ hn; omega
  | succ n ih =>
    intro w K a b h hn
    have H := hid h
    have z2 := h.z2
    have c2 := h.c2
    have hlook := fun m d => lookup_run (w := w.ext m d) key_pair Try.underlying120 (zero_int _) (MapIs.ext h.map m d) (a, b) false
    simp only [Bool.false_eq_true, if_false, kp] at hlook
    by_cases hk : 0 < (aget K (a, b)).getD 0
    · have hR : sameN at1 at2 (n + 1) K a b = (K, true) := by rw [sameN, if_pos hk]
      rw [hR]
      clear hR h ih
      generalize (aget K (a, b)).getD 0 = kk at *
      go_enter Try.func96, Try.ntmps96
      go_upto_region 1 with (fail)
      refine wp_region_seq (fun F hF => ?_)
      have HF := hid hF; clear hF
      repeat (first
        | (apply text_skip; (focus rfl); simp only [Act.put, List.setIfInBounds_toArray, List.set_cons_zero, List.set_cons_succ])
        | (apply text_val; (focus rfl); (focus (intro _ _; go_simp; with_reducible rfl)); simp only [Act.put, List.setIfInBounds_toArray, List.set_cons_zero, List.set_cons_succ])
        | (apply text_if; (focus (first | exact wanted_t rfl rfl | exact wanted_f rfl rfl | exact wanted_gt rfl rfl | exact wanted_gf rfl rfl)); (focus (intro hc _ _; (try simp only [Bool.and_eq_true, Bool.not_eq_true', Bool.true_and] at hc); go_simp; with_reducible rfl)); simp only [Act.put, List.setIfInBounds_toArray, List.set_cons_zero, List.set_cons_succ]))
      refine text_nil (HF.out _ (fun mx dx => ?_))
      clear HF F
      go_wp2_with fail
      go_returns
      have hb : Below w.heap.size w (w.ext mx dx) := by (repeat' (first | (with_reducible exact Below.refl _ _) | (with_reducible refine Below.ext_mk ?_ ?_ _ _) | (with_reducible refine Below.alloc ?_ ?_ _) | (with_reducible refine Below.drew ?_) | (with_reducible refine Below.setCell ?_ ?_ _) | go_size))
      exact ⟨rfl, H.out.below hs1 hs2 hb, StoStep.of_below hb⟩
    · have hR : sameN at1 at2 (n + 1) K a b = (if (at1 a).2 = false ∨ (at2 b).2 = false then (aput K (a, b) 1, decide ((at1 a).2 = (at2 b).2) && decide (decide (a = 1) = decide (b = 1))) else
          if (at1 a).1.1 ≠ (at2 b).1.1 then (aput K (a, b) 1, false) else
          if (sameN at1 at2 n (aput K (a, b) 1) (at1 a).1.2.1 (at2 b).1.2.1).2 = false then sameN at1 at2 n (aput K (a, b) 1) (at1 a).1.2.1 (at2 b).1.2.1 else
          sameN at1 at2 n (sameN at1 at2 n (aput K (a, b) 1) (at1 a).1.2.1 (at2 b).1.2.1).1 (at1 a).1.2.2 (at2 b).1.2.2) := by rw [sameN, if_neg hk]
      rw [hR]
      clear hR h
      obtain ⟨R, hRR⟩ : ∃ R, (if (at1 a).2 = false ∨ (at2 b).2 = false then (aput K (a, b) 1, decide ((at1 a).2 = (at2 b).2) && decide (decide (a = 1) = decide (b = 1))) else
          if (at1 a).1.1 ≠ (at2 b).1.1 then (aput K (a, b) 1, false) else
          if (sameN at1 at2 n (aput K (a, b) 1) (at1 a).1.2.1 (at2 b).1.2.1).2 = false then sameN at1 at2 n (aput K (a, b) 1) (at1 a).1.2.1 (at2 b).1.2.1 else
          sameN at1 at2 n (sameN at1 at2 n (aput K (a, b) 1) (at1 a).1.2.1 (at2 b).1.2.1).1 (at1 a).1.2.2 (at2 b).1.2.2) = R := ⟨_, rfl⟩
      rw [hRR]
      have HRR := hid hRR
      clear hRR
      have RK := hid (fun h => And.intro (hs1.lo a h) (hs1.hi a h))
      have A10 := hid (fun W (h : St1 W) => hs1.call W h a)
      have A20 := hid (fun W (h : St2 W) => hs2.call W h b)
      generalize (aget K (a, b)).getD 0 = kk at *
      generalize (at1 a).1.1 = x1 at *
      generalize (at1 a).1.2.1 = x2 at *
      generalize (at1 a).1.2.2 = x3 at *
      generalize (at2 b).1.1 = y1 at *
      generalize (at2 b).1.2.1 = y2 at *
      generalize (at2 b).1.2.2 = y3 at *
      generalize (at1 a).2 = is1 at *
      generalize (at2 b).2 = is2 at *
      go_enter Try.func96, Try.ntmps96
      go_upto_region 1 with (fail)
      refine wp_region_seq (fun F hF => ?_)
      have HF := hid hF; clear hF
      repeat (first
        | (apply text_skip; (focus rfl); simp only [Act.put, List.setIfInBounds_toArray, List.set_cons_zero, List.set_cons_succ])
        | (apply text_val; (focus rfl); (focus (intro _ _; go_simp; with_reducible rfl)); simp only [Act.put, List.setIfInBounds_toArray, List.set_cons_zero, List.set_cons_succ])
        | (apply text_if; (focus (first | exact wanted_t rfl rfl | exact wanted_f rfl rfl | exact wanted_gt rfl rfl | exact wanted_gf rfl rfl)); (focus (intro hc _ _; (try simp only [Bool.and_eq_true, Bool.not_eq_true', Bool.true_and] at hc); go_simp; with_reducible rfl)); simp only [Act.put, List.setIfInBounds_toArray, List.set_cons_zero, List.set_cons_succ]))
      refine text_nil (HF.out _ (fun mx dx => ?_))
      clear HF F
      clear hlook hk
      go_upto_region 3 with (fail)
      refine wp_gen (fun X hX => ?_)
      have hbX : Below w.heap.size w X := by rw [hX]; (repeat' (first | (with_reducible exact Below.refl _ _) | (with_reducible refine Below.ext_mk ?_ ?_ _ _) | (with_reducible refine Below.alloc ?_ ?_ _) | (with_reducible refine Below.drew ?_) | (with_reducible refine Below.setCell ?_ ?_ _) | go_size))
      clear hX
      have H2 := H.out.below hs1 hs2 hbX
      obtain ⟨o, u1, u2⟩ := update_run (t := 120) key_pair Try.underlying120 H2.map (a, b) 1
      simp only [kp] at u1
      have z2 := H2.z2
      have c2 := H2.c2
      have sp : StoStep X (X.putObj km o) [km] [km] := StoStep.put (by simp) o
      have H3 := hid (H2.step hs1 hs2 sp u2)
      have ST3 := hid ((StoStep.of_below hbX).trans sp)
      clear H2 u2 sp hbX
      refine wp_region_doc (fun F' hF => ?_)
      have HF := hid hF
      clear hF
      iterate 4 (refine doc_val rfl (by first | (go_simp; done) | (go_simp; exact ⟨rfl, rfl⟩) | (go_simp; with_reducible rfl)) ?_; simp only [Act.put, List.setIfInBounds_toArray, List.set_cons_zero, List.set_cons_succ])
      refine doc_skip rfl (by first | (go_simp; done) | (go_simp; exact ⟨rfl, rfl⟩) | (go_simp; with_reducible rfl)) ?_
      simp only [Act.put, List.setIfInBounds_toArray, List.set_cons_zero, List.set_cons_succ]
      refine doc_end (HF.out _ _ ?_)
      clear HF F' u1 z2 c2
      generalize X.putObj km o = Z at *
      have z3 := H3.out.z3
      have c3 := H3.out.c3
      have A1 := hid (A10.out _ H3.out.s1)
      go_upto_region 4 with (fail)
      refine wp_region_doc (fun F' hF => ?_)
      have HF := hid hF
      clear hF
      iterate 2 (refine doc_val rfl (by first | (go_simp; done) | (go_simp; exact ⟨rfl, rfl⟩) | (go_simp; with_reducible rfl)) ?_; simp only [Act.put, List.setIfInBounds_toArray, List.set_cons_zero, List.set_cons_succ])
      refine doc_call rfl (by first | (go_simp; done) | (go_simp; exact ⟨rfl, rfl⟩) | (go_simp; with_reducible rfl)) ((A1.out).mono ?_)
      rintro e w1 ⟨rfl, m1, d1, rfl⟩
      refine ⟨_, rfl, ?_⟩
      simp only [Act.put, List.setIfInBounds_toArray, List.set_cons_zero, List.set_cons_succ]
      iterate 4 (refine doc_val rfl (by first | (go_simp; done) | (go_simp; exact ⟨rfl, rfl⟩) | (go_simp; with_reducible rfl)) ?_; simp only [Act.put, List.setIfInBounds_toArray, List.set_cons_zero, List.set_cons_succ])
      refine doc_skip rfl (store_row_op (xs := [.int .i64 0, .int .i64 0, .int .i64 0]) (ys := [.int .i64 x1, .int .i64 x2, .int .i64 x3]) _ _ _ _ _ _ _ _ _ (branchy_size _ _ _) rfl rfl rfl rfl (by have h := Blk.new (Z.ext m1 d1) 39 [.int .i64 0, .int .i64 0, .int .i64 0]; rw [World.size_ext] at h; exact h)) ?_
      simp only [Act.put, List.setIfInBounds_toArray, List.set_cons_zero, List.set_cons_succ]
      refine doc_val rfl (by first | (go_simp; done) | (go_simp; exact ⟨rfl, rfl⟩) | (go_simp; with_reducible rfl)) ?_
      simp only [Act.put, List.setIfInBounds_toArray, List.set_cons_zero, List.set_cons_succ]
      refine doc_end (HF.out _ _ ?_)
      clear HF F'
      go_upto_region 5 with (fail)
      refine wp_gen (fun U hU => ?_)
      have hbU : Below Z.heap.size Z U := by
        rw [hU]; exact Below.setRow (Below.alloc (Below.ext_mk (Below.refl _ _) (Nat.le_refl _) _ _) (by first | (simp; done) | (simp; omega)) _) (by omega) _
      have bU : Blk U (Z.heap.size + m1.size) 39 [.int .i64 x1, .int .i64 x2, .int .i64 x3] := by
        rw [hU]
        have h := Blk.new (Z.ext m1 d1) 39 [.int .i64 0, .int .i64 0, .int .i64 0]
        rw [World.size_ext] at h
        exact h.row _
      have hBU : Z.heap.size ≤ Z.heap.size + m1.size := by omega
      generalize Z.heap.size + m1.size = BU at *
      clear hU
      have H4 := hid (H3.out.below hs1 hs2 hbU)
      have ST4 := hid (ST3.out.trans (StoStep.of_below hbU))
      have z4 := H4.out.z4
      have c4 := H4.out.c4
      have A2 := hid (A20.out _ H4.out.s2)
      have zkm : km < Z.heap.size := MapIs.lt H3.out.map
      clear A1 A10 H3 ST3 z3 c3
      refine wp_region_doc (fun F' hF => ?_)
      have HF := hid hF
      clear hF
      iterate 2 (refine doc_val rfl (by first | (go_simp; done) | (go_simp; exact ⟨rfl, rfl⟩) | (go_simp; with_reducible rfl)) ?_; simp only [Act.put, List.setIfInBounds_toArray, List.set_cons_zero, List.set_cons_succ])
      refine doc_call rfl (by first | (go_simp; done) | (go_simp; exact ⟨rfl, rfl⟩) | (go_simp; with_reducible rfl)) ((A2.out).mono ?_)
      rintro e w1 ⟨rfl, m1, d1, rfl⟩
      refine ⟨_, rfl, ?_⟩
      simp only [Act.put, List.setIfInBounds_toArray, List.set_cons_zero, List.set_cons_succ]
      iterate 4 (refine doc_val rfl (by first | (go_simp; done) | (go_simp; exact ⟨rfl, rfl⟩) | (go_simp; with_reducible rfl)) ?_; simp only [Act.put, List.setIfInBounds_toArray, List.set_cons_zero, List.set_cons_succ])
      refine doc_skip rfl (store_row_op (xs := [.int .i64 0, .int .i64 0, .int .i64 0]) (ys := [.int .i64 y1, .int .i64 y2, .int .i64 y3]) _ _ _ _ _ _ _ _ _ (branchy_size _ _ _) rfl rfl rfl rfl (by have h := Blk.new (U.ext m1 d1) 39 [.int .i64 0, .int .i64 0, .int .i64 0]; rw [World.size_ext] at h; exact h)) ?_
      simp only [Act.put, List.setIfInBounds_toArray, List.set_cons_zero, List.set_cons_succ]
      refine doc_val rfl (by first | (go_simp; done) | (go_simp; exact ⟨rfl, rfl⟩) | (go_simp; with_reducible rfl)) ?_
      simp only [Act.put, List.setIfInBounds_toArray, List.set_cons_zero, List.set_cons_succ]
      refine doc_end (HF.out _ _ ?_)
      clear HF F'
      go_upto_region 6 with (fail)
      refine wp_gen (fun Y hU => ?_)
      have hbY : Below U.heap.size U Y := by
        rw [hU]; exact Below.setRow (Below.alloc (Below.ext_mk (Below.refl _ _) (Nat.le_refl _) _ _) (by first | (simp; done) | (simp; omega)) _) (by omega) _
      have bY : Blk Y (U.heap.size + m1.size) 39 [.int .i64 y1, .int .i64 y2, .int .i64 y3] := by
        rw [hU]
        have h := Blk.new (U.ext m1 d1) 39 [.int .i64 0, .int .i64 0, .int .i64 0]
        rw [World.size_ext] at h
        exact h.row _
      have hBY : U.heap.size ≤ U.heap.size + m1.size := by omega
      generalize U.heap.size + m1.size = BY at *
      clear hU
      have bU2 := bU.below hbY
      have H5 := hid (H4.out.below hs1 hs2 hbY)
      have ST5 := hid (ST4.out.trans (StoStep.of_below hbY))
      have zkU := hbU.size
      clear A2 A20 H4 ST4 z4 c4 bU hbY
      by_cases hno : is1 = false ∨ is2 = false
      · have HX0 := HRR.out.symm
        rw [if_pos hno] at HX0
        have HX := hid HX0
        clear HX0
        have HB1 := hid bU2
        have HB2 := hid bY
        clear ih bU2 bY HRR
        by_cases a1 : a = 1 <;> by_cases b1 : b = 1 <;> cases is1 <;> cases is2 <;> simp only [or_self, or_true, true_or, Bool.true_eq_false, Bool.false_eq_true] at hno
        all_goals
          go_wp2
          go_returns
          rw [HX.out]
          refine ⟨by first | (simp [a1, b1]; done) | (simp [*]; done) | (simp [*]; show decide (a = 1) = decide (b = 1); simp [a1, b1]; done), ?_⟩
          first | exact ⟨H5.out, ST5.out⟩ | exact ⟨H5.out.below hs1 hs2 (Below.ext_mk (Below.refl _ _) (Nat.le_refl _) _ _), ST5.out.trans (StoStep.of_below (Below.ext_mk (Below.refl _ _) (Nat.le_refl _) _ _))⟩
      · have HX0 := HRR.out
        rw [if_neg hno] at HX0
        have HX := hid HX0
        clear HX0
        clear HRR
        have e1 : is1 = true := by cases is1 <;> simp_all
        have e2 : is2 = true := by cases is2 <;> simp_all
        subst e1
        subst e2
        have rk := RK.out rfl
        have lt1 : rk1 x2 < n := by omega
        have lt2 : rk1 x3 < n := by omega
        clear hno hn RK rk
        have HB1 := hid bU2
        have HB2 := hid bY
        have zb1 := bU2.lt
        have zb2 := bY.lt
        have g1 := bU2.cell 0
        have g2 := bU2.cell 1
        have g4 := bY.cell 0
        have g5 := bY.cell 1
        simp only [List.getElem?_cons_zero, List.getElem?_cons_succ] at g1 g2 g4 g5
        have c5 := H5.out.c5
        have z5 := H5.out.z5
        have I1 := ih _ _ x2 y2 H5.out lt1
        clear bU2 bY
        by_cases hv : x1 ≠ y1
        · have HY0 := HX.out.symm
          rw [if_pos hv] at HY0
          have HY := hid HY0
          clear HY0
          clear HX
          have hv' : (x1 == y1) = false := by simpa using hv
          clear ih I1 hv
          go_upto_region 8 with (fail)
          refine wp_region_doc (fun F' hF => ?_)
          have HF := hid hF
          clear hF
          iterate 6 (refine doc_val rfl (by first | (go_simp; done) | (go_simp; exact ⟨rfl, rfl⟩) | (go_simp; with_reducible rfl)) ?_; simp only [Act.put, List.setIfInBounds_toArray, List.set_cons_zero, List.set_cons_succ])
          iterate 6 (refine doc_not rfl ?_; simp only [Act.put, List.setIfInBounds_toArray, List.set_cons_zero, List.set_cons_succ])
          iterate 2 (refine doc_val rfl (by first | (go_simp; done) | (go_simp; exact ⟨rfl, rfl⟩) | (go_simp; with_reducible rfl)) ?_; simp only [Act.put, List.setIfInBounds_toArray, List.set_cons_zero, List.set_cons_succ])
          iterate 6 (refine doc_not rfl ?_; simp only [Act.put, List.setIfInBounds_toArray, List.set_cons_zero, List.set_cons_succ])
          iterate 2 (refine doc_val rfl (by first | (go_simp; done) | (go_simp; exact ⟨rfl, rfl⟩) | (go_simp; with_reducible rfl)) ?_; simp only [Act.put, List.setIfInBounds_toArray, List.set_cons_zero, List.set_cons_succ])
          refine doc_end (HF.out _ _ ?_)
          clear HF F'
          go_wp2_with fail
          go_returns
          rw [HY.out]
          exact ⟨rfl, H5.out, ST5.out⟩
        · have HY0 := HX.out
          rw [if_neg hv] at HY0
          have HY := hid HY0
          clear HY0
          clear HX
          have hv' : (x1 == y1) = true := by simpa using hv
          have I2 := fun W K h => ih W K x3 y3 h lt2
          obtain ⟨R1, hR1⟩ : ∃ R, sameN at1 at2 n (aput K (a, b) 1) x2 y2 = R := ⟨_, rfl⟩
          rw [hR1] at I1 HY
          obtain ⟨K1, r1⟩ := R1
          simp only at I1 HY
          clear ih hv hR1
          have hn1 : BU ≠ km := by omega
          have hn2 : BY ≠ km := by omega
          go_upto_region 8 with (fail)
          refine wp_region_doc (fun F' hF => ?_)
          have HF := hid hF
          clear hF
          iterate 11 (refine doc_val rfl (by first | (go_simp; done) | (go_simp; exact ⟨rfl, rfl⟩) | (go_simp; with_reducible rfl)) ?_; simp only [Act.put, List.setIfInBounds_toArray, List.set_cons_zero, List.set_cons_succ])
          refine doc_call rfl (by first | (go_simp; done) | (go_simp; exact ⟨rfl, rfl⟩) | (go_simp; with_reducible rfl)) (I1.mono ?_)
          rintro e w6 ⟨rfl, H6, st6⟩
          refine ⟨_, rfl, ?_⟩
          simp only [Act.put, List.setIfInBounds_toArray, List.set_cons_zero, List.set_cons_succ]
          have d1 := HB1.out.keep (st6.block BU zb1 (by simp [hn1]))
          have d2 := HB2.out.keep (st6.block BY zb2 (by simp [hn2]))
          have f3 := d1.cell 2
          have f6 := d2.cell 2
          simp only [List.getElem?_cons_zero, List.getElem?_cons_succ] at f3 f6
          have fz1 := d1.lt
          have fz2 := d2.lt
          have h5 := H6.c5
          have hz5 := H6.z5
          have J2 := I2 _ _ H6
          have ST6 := hid (ST5.out.trans st6)
          have HH6 := hid H6
          clear g1 g2 g4 g5 c5 z5 I1 I2 d1 d2 H6 st6
          cases r1
          · have HZ := hid (show R = (K1, false) from by have := HY.out; rw [if_pos rfl] at this; exact this.symm)
            clear HY
            iterate 2 (refine doc_val rfl (by first | (go_simp; done) | (go_simp; exact ⟨rfl, rfl⟩) | (go_simp; with_reducible rfl)) ?_; simp only [Act.put, List.setIfInBounds_toArray, List.set_cons_zero, List.set_cons_succ])
            iterate 6 (refine doc_not rfl ?_; simp only [Act.put, List.setIfInBounds_toArray, List.set_cons_zero, List.set_cons_succ])
            iterate 2 (refine doc_val rfl (by first | (go_simp; done) | (go_simp; exact ⟨rfl, rfl⟩) | (go_simp; with_reducible rfl)) ?_; simp only [Act.put, List.setIfInBounds_toArray, List.set_cons_zero, List.set_cons_succ])
            refine doc_end (HF.out _ _ ?_)
            clear HF F' J2
            go_wp2_with fail
            go_returns
            rw [HZ.out]
            exact ⟨rfl, HH6.out, ST6.out⟩
          · have HZ := hid (show R = sameN at1 at2 n K1 x3 y3 from by have := HY.out; rw [if_neg (by simp)] at this; exact this.symm)
            clear HY
            iterate 2 (refine doc_val rfl (by first | (go_simp; done) | (go_simp; exact ⟨rfl, rfl⟩) | (go_simp; with_reducible rfl)) ?_; simp only [Act.put, List.setIfInBounds_toArray, List.set_cons_zero, List.set_cons_succ])
            iterate 5 (refine doc_val rfl (by first | (go_simp; done) | (go_simp; exact ⟨rfl, rfl⟩) | (go_simp; with_reducible rfl)) ?_; simp only [Act.put, List.setIfInBounds_toArray, List.set_cons_zero, List.set_cons_succ])
            refine doc_call rfl (by first | (go_simp; done) | (go_simp; exact ⟨rfl, rfl⟩) | (go_simp; with_reducible rfl)) (J2.mono ?_)
            rintro e w7 ⟨rfl, H7, st7⟩
            refine ⟨_, rfl, ?_⟩
            simp only [Act.put, List.setIfInBounds_toArray, List.set_cons_zero, List.set_cons_succ]
            iterate 2 (refine doc_val rfl (by first | (go_simp; done) | (go_simp; exact ⟨rfl, rfl⟩) | (go_simp; with_reducible rfl)) ?_; simp only [Act.put, List.setIfInBounds_toArray, List.set_cons_zero, List.set_cons_succ])
            refine doc_end (HF.out _ _ ?_)
            clear HF F'
            go_wp2_with fail
            go_returns
            rw [HZ.out]
            exact ⟨rfl, H7, ST6.out.trans st7⟩

set_option maxRecDepth 100000 in
set_option maxHeartbeats 4000000 in
theorem same_live {p1 p2 : Nat} {F1 F2 : List Nat} {S1 S2 : Sto} {w : World} (h1 : StoIs w p1 F1 S1) (hW1 : Wf S1) (hf1 : S1.full = false) (h2 : StoIs w p2 F2 S2) (hW2 : Wf S2) (hf2 : S2.full = false) (a b : Int) (n : Nat) (hn : (rightOf S1 a).toNat < n) (r : Bool) (hr : (sameN (atV S1) (atV S2) n [] a b).2 = r) :
    Calls Try.prog 36 #[.pointer (some ⟨p1, 0, none⟩), .int .i64 a, .pointer (some ⟨p2, 0, none⟩), .int .i64 b] w (Pure (.bool r) w) := by
  have hmf : ∀ (fn : Fn) (first cap : Array Value) (w : World), (Instr.makeFunc fn first cap).run Try.prog w = .ok (.func fn first cap) w := fun _ _ _ _ => rfl
  have hmm := @run_makeMap Try.prog
  have hc1 : S1.cap ≠ 0 := by have := hW1.cap2; omega
  have hc2 : S2.cap ≠ 0 := by have := hW2.cap2; omega
  have N1 := fun W (hb : Below w.heap.size w W) => none_not (h1.below hb) hc1 hf1
  have N2 := fun W (hb : Below w.heap.size w W) => none_not (h2.below hb) hc2 hf2
  have H1 := hid h1
  have H2 := hid h2
  have ws := src_live hW1 p1 F1
  have wt := src_live hW2 p2 F2
  have lt1 := h1.lt
  have lt2 := h2.lt
  clear h1 h2 hc1 hc2
  go_enter Try.func36, Try.ntmps36
  go_upto_region 1 with (fail)
  refine wp_gen (fun V hV => ?_)
  have hbV : Below w.heap.size w V := by rw [hV]; ((repeat' (first | (with_reducible exact Below.refl _ _) | (with_reducible refine Below.ext_mk ?_ ?_ _ _) | (with_reducible refine Below.alloc ?_ ?_ _) | (with_reducible refine Below.drew ?_) | (with_reducible refine Below.setCell ?_ ?_ _) | go_size)))
  have zV0 : w.heap.size < V.heap.size := by rw [hV]; first | (simp; done) | (simp; omega)
  have cV0_0 : V.cell? ⟨w.heap.size, 0, none⟩ = some (.pointer (some ⟨p1, 0, none⟩)) := by rw [hV]; first | (go_simp; done) | (rw [World.cell?_alloc_past _ _ _ (by first | (simp; done) | (simp; omega))]; go_simp)
  have zV1 : w.heap.size + 1 < V.heap.size := by rw [hV]; first | (simp; done) | (simp; omega)
  have cV1_0 : V.cell? ⟨w.heap.size + 1, 0, none⟩ = some (.pointer (some ⟨p2, 0, none⟩)) := by rw [hV]; first | (go_simp; done) | (rw [World.cell?_alloc_past _ _ _ (by first | (simp; done) | (simp; omega))]; go_simp)
  clear hV
  have NV := fun W (hb : Below V.heap.size V W) => N1 W (hbV.trans (hb.mono hbV.size))
  have NW := fun W (hb : Below V.heap.size V W) => N2 W (hbV.trans (hb.mono hbV.size))
  clear N1 N2
  refine wp_region_seq (fun F hF => ?_)
  have HF := hid hF; clear hF
  repeat (first
    | (apply text_skip; (focus rfl); simp only [Act.put, List.setIfInBounds_toArray, List.set_cons_zero, List.set_cons_succ])
    | (apply text_val; (focus rfl); (focus (intro _ _; go_simp; with_reducible rfl)); simp only [Act.put, List.setIfInBounds_toArray, List.set_cons_zero, List.set_cons_succ])
    | (apply text_call; (focus rfl); (focus (intro _ _; go_simp; exact ⟨rfl, rfl⟩)); (focus (intro _ _; with_reducible (first | exact NV _ (by (repeat' (first | (with_reducible exact Below.refl _ _) | (with_reducible refine Below.ext_mk ?_ ?_ _ _) | (with_reducible refine Below.alloc ?_ ?_ _) | (with_reducible refine Below.drew ?_) | (with_reducible refine Below.setCell ?_ ?_ _) | go_size))) | exact NW _ (by (repeat' (first | (with_reducible exact Below.refl _ _) | (with_reducible refine Below.ext_mk ?_ ?_ _ _) | (with_reducible refine Below.alloc ?_ ?_ _) | (with_reducible refine Below.drew ?_) | (with_reducible refine Below.setCell ?_ ?_ _) | go_size)))))); simp only [Act.put, List.setIfInBounds_toArray, List.set_cons_zero, List.set_cons_succ])
    | (apply text_if; (focus (first | exact wanted_t rfl rfl | exact wanted_f rfl rfl | exact wanted_gt rfl rfl | exact wanted_gf rfl rfl)); (focus (intro hc _ _; (try simp only [Bool.and_eq_true, Bool.not_eq_true', Bool.true_and] at hc); go_simp; with_reducible rfl)); simp only [Act.put, List.setIfInBounds_toArray, List.set_cons_zero, List.set_cons_succ])
    | (apply text_if_call; (focus (first | exact wanted_t rfl rfl | exact wanted_f rfl rfl | exact wanted_gt rfl rfl | exact wanted_gf rfl rfl)); (focus (intro hc _ _; (try simp only [Bool.and_eq_true, Bool.not_eq_true', Bool.true_and] at hc); go_simp; exact ⟨rfl, rfl⟩)); (focus (intro hc _ _; with_reducible (first | exact NV _ (by (repeat' (first | (with_reducible exact Below.refl _ _) | (with_reducible refine Below.ext_mk ?_ ?_ _ _) | (with_reducible refine Below.alloc ?_ ?_ _) | (with_reducible refine Below.drew ?_) | (with_reducible refine Below.setCell ?_ ?_ _) | go_size))) | exact NW _ (by (repeat' (first | (with_reducible exact Below.refl _ _) | (with_reducible refine Below.ext_mk ?_ ?_ _ _) | (with_reducible refine Below.alloc ?_ ?_ _) | (with_reducible refine Below.drew ?_) | (with_reducible refine Below.setCell ?_ ?_ _) | go_size)))))); simp only [Act.put, List.setIfInBounds_toArray, List.set_cons_zero, List.set_cons_succ]))
  refine text_nil (HF.out _ (fun mx dx => ?_))
  clear HF F
  clear NV NW
  go_upto_region 3 with (fail)
  refine wp_gen (fun U hU => ?_)
  have hbU : Below V.heap.size V U := by rw [hU]; (repeat' (first | (with_reducible exact Below.refl _ _) | (with_reducible refine Below.ext_mk ?_ ?_ _ _) | (with_reducible refine Below.alloc ?_ ?_ _) | (with_reducible refine Below.drew ?_) | (with_reducible refine Below.setCell ?_ ?_ _) | go_size))
  have k3 := (hbU.cell (p := ⟨w.heap.size, 0, none⟩) zV0).trans cV0_0
  have k4 := (hbU.cell (p := ⟨w.heap.size + 1, 0, none⟩) zV1).trans cV1_0
  have y3 := Nat.lt_of_lt_of_le zV0 hbU.size
  have y4 := Nat.lt_of_lt_of_le zV1 hbU.size
  have hbwU : Below w.heap.size w U := hbV.trans (hbU.mono hbV.size)
  clear hU cV0_0 cV1_0 zV0 zV1 hbU hbV
  go_upto_region 6 with (fail)
  refine wp_gen (fun X hX => ?_)
  have hbX : Below U.heap.size U X := by rw [hX]; (repeat' (first | (with_reducible exact Below.refl _ _) | (with_reducible refine Below.ext_mk ?_ ?_ _ _) | (with_reducible refine Below.alloc ?_ ?_ _) | (with_reducible refine Below.drew ?_) | (with_reducible refine Below.setCell ?_ ?_ _) | go_size))
  have zX : U.heap.size + 1 + 1 < X.heap.size := by rw [hX]; simp
  have k2 : X.cell? ⟨U.heap.size + 1, 0, none⟩ = some (.map (some U.heap.size)) := by rw [hX]; go_simp
  have k5 : X.cell? ⟨U.heap.size + 1 + 1, 0, none⟩ = some (.func (.func 96) #[] #[.pointer (some ⟨U.heap.size + 1, 0, none⟩), .pointer (some ⟨w.heap.size, 0, none⟩), .pointer (some ⟨w.heap.size + 1, 0, none⟩), .pointer (some ⟨U.heap.size + 1 + 1, 0, none⟩)]) := by rw [hX]; go_simp
  have kM : MapIs kp X U.heap.size [] := by
    have q1 : MapIs kp (U.alloc (.map #[] 0)) U.heap.size [] := ⟨#[], 0, World.heap_alloc_last U _, rfl⟩
    have hb1 : Below (U.alloc (.map #[] 0)).heap.size (U.alloc (.map #[] 0)) X := by rw [hX]; (repeat' (first | (with_reducible exact Below.refl _ _) | (with_reducible refine Below.ext_mk ?_ ?_ _ _) | (with_reducible refine Below.alloc ?_ ?_ _) | (with_reducible refine Below.drew ?_) | (with_reducible refine Below.setCell ?_ ?_ _) | go_size))
    exact MapIs.keep q1 (hb1.block _ (MapIs.lt q1))
  have hwX : Below w.heap.size w X := hbwU.trans (hbX.mono hbwU.size)
  have hsz := hbwU.size
  have SX : SameW (some ⟨p1, 0, none⟩) (some ⟨p2, 0, none⟩) F1 F2 (fun w => StoIs w p1 F1 S1) (fun w => StoIs w p2 F2 S2) X U.heap.size (U.heap.size + 1) w.heap.size (w.heap.size + 1) (U.heap.size + 1 + 1) [] :=
    { s1 := H1.out.below hwX, s2 := H2.out.below hwX, map := kM
      f1 := fun hm => by have := lt1 _ hm; omega, f2 := fun hm => by have := lt2 _ hm; omega
      z2 := by omega, z3 := by omega, z4 := by omega, z5 := zX
      m2 := by omega, m3 := by omega, m4 := by omega, m5 := by omega
      c2 := k2, c3 := (hbX.cell (p := ⟨w.heap.size, 0, none⟩) y3).trans k3, c4 := (hbX.cell (p := ⟨w.heap.size + 1, 0, none⟩) y4).trans k4, c5 := k5 }
  have C := hid (same1_any ws wt n X [] a b SX hn)
  rw [hr] at C
  have HB := hid (And.intro hwX hsz)
  clear hX k3 k4 kM k2 hbX hbwU hmm hmf SX y3 y4 lt1 lt2
  go_wp2_with ((with_reducible refine (C.out).mono ?_); rintro e w2 ⟨rfl, H3, st3⟩)
  go_returns
  exact Pure.of rfl (HB.out.1.trans (st3.below (fun k hk => by simp only [List.mem_singleton] at hk; have := HB.out.2; omega) HB.out.1.size))
end
end Go.Proofs.Ytboekafmplomhaa
