/-
  The document's example of layer 31: the walk.
-/
import Derived.Test.YtboekafmplomhaaZKnown31
import Derived.Test.YtboekafmplomhaaZCuA
import Derived.Lib.Builder
import Derived.Lib.UnsafeStr
import Derived.Laws.Externs
import Derived.Test.YtboekafmplomhaaZCuD
import Derived.Test.YtboekafmplomhaaZCuF
import Derived.Test.YtboekafmplomhaaZCuC
import Derived.Test.YtboekafmplomhaaZDead
set_option linter.unusedVariables false
set_option linter.unusedSimpArgs false
namespace Go.Proofs.Ytboekafmplomhaa
open Go.RowKit

/-- A row of numbers, written out. -/
theorem lit_ints (w : World) (x : Int) (l : List Int) : Rd (w.alloc (.cells (ints (x :: l)).toArray 3)) 1 (.slice (some ⟨w.heap.size, 0, none⟩) (l.length + 1) (l.length + 1)) (ints (x :: l)) ∨ 9223372036854775807 < l.length + 1 := by
  by_cases hl : 9223372036854775807 < l.length + 1
  · exact .inr hl
  · refine .inl ⟨_, _, _, rfl, Nat.le_refl _, by omega, by simp [ints], fun _ => ⟨w.heap.size, 0, rfl, by simp, fun j u hu => ?_⟩⟩
    have h := (Blk.new w 3 (ints (x :: l))).cell j
    rw [Nat.zero_add, h]
    exact hu
theorem lit_one (w : World) (x : Int) : Rd (w.alloc (.cells #[.int .i64 x] 3)) 1 (.slice (some ⟨w.heap.size, 0, none⟩) 1 1) (ints [x]) := by
  rcases lit_ints w x [] with h | h
  · exact h
  · simp at h
theorem lit_two (w : World) (x y : Int) : Rd (w.alloc (.cells #[.int .i64 x, .int .i64 y] 3)) 1 (.slice (some ⟨w.heap.size, 0, none⟩) 2 2) (ints [x, y]) := by
  rcases lit_ints w x [y] with h | h
  · exact h
  · simp at h

section
variable {w : World} {p : Nat} {F : List Nat} {S : Sto}
theorem exists_lit (h : StoIs w p F S) (hW : Wf S) (hs : Sated S) (x v r : Int) (hr : (bindV orV S x [v]).2 = r) :
    Calls Try.prog 38 #[.pointer (some ⟨p, 0, none⟩), .int .i64 x, .slice (some ⟨w.heap.size, 0, none⟩) 1 1] (w.alloc (.cells #[.int .i64 v] 3)) (fun e w' => e = .returned (.int .i64 r) ∧ Turned w p F (bindV orV S x [v]).1 w') := by
  have hb : Below w.heap.size w (w.alloc (.cells #[.int .i64 v] 3)) := by (repeat' (first | (with_reducible exact Below.refl _ _) | (with_reducible refine Below.ext_mk ?_ ?_ _ _) | (with_reducible refine Below.alloc ?_ ?_ _) | (with_reducible refine Below.drew ?_) | (with_reducible refine Below.setCell ?_ ?_ _) | go_size))
  have M := exists_live (h.below hb) hW hs x [v] _ (lit_one w v) (fun a n cap b off e1 e2 => by
    cases e1; cases e2
    exact fun hm => Nat.lt_irrefl _ (h.lt _ hm))
  unfold Tells at M
  rw [hr] at M
  refine M.mono ?_
  rintro e w' ⟨rfl, F', t1, t2⟩
  exact ⟨rfl, F', t1, (StoStep.of_below hb).trans t2⟩
theorem forall_lit (h : StoIs w p F S) (hW : Wf S) (hs : Sated S) (x v r : Int) (hr : (bindV andV S x [v]).2 = r) :
    Calls Try.prog 39 #[.pointer (some ⟨p, 0, none⟩), .int .i64 x, .slice (some ⟨w.heap.size, 0, none⟩) 1 1] (w.alloc (.cells #[.int .i64 v] 3)) (fun e w' => e = .returned (.int .i64 r) ∧ Turned w p F (bindV andV S x [v]).1 w') := by
  have hb : Below w.heap.size w (w.alloc (.cells #[.int .i64 v] 3)) := by (repeat' (first | (with_reducible exact Below.refl _ _) | (with_reducible refine Below.ext_mk ?_ ?_ _ _) | (with_reducible refine Below.alloc ?_ ?_ _) | (with_reducible refine Below.drew ?_) | (with_reducible refine Below.setCell ?_ ?_ _) | go_size))
  have M := forall_live (h.below hb) hW hs x [v] _ (lit_one w v) (fun a n cap b off e1 e2 => by
    cases e1; cases e2
    exact fun hm => Nat.lt_irrefl _ (h.lt _ hm))
  unfold Tells at M
  rw [hr] at M
  refine M.mono ?_
  rintro e w' ⟨rfl, F', t1, t2⟩
  exact ⟨rfl, F', t1, (StoStep.of_below hb).trans t2⟩

theorem q_a (h : StoIs w p F (newS 20)) : Calls Try.prog 24 #[.pointer (some ⟨p, 0, none⟩), .int .i64 0] w (fun e w' => e = .returned (.int .i64 2) ∧ Turned w p F qA.1 w') := by
  have M := var_call h (newS_wf (by omega) (by omega)) 0
  unfold Tells at M
  rw [show (varV (newS 20) 0).2 = 2 from qA_is] at M
  exact M
theorem q_b (h : StoIs w p F qA.1) : Calls Try.prog 24 #[.pointer (some ⟨p, 0, none⟩), .int .i64 1] w (fun e w' => e = .returned (.int .i64 3) ∧ Turned w p F qB.1 w') := by
  have M := var_call h qA_ok.wf 1
  unfold Tells at M
  rw [show (varV qA.1 1).2 = 3 from qB_is] at M
  exact M
theorem q_c (h : StoIs w p F qB.1) : Calls Try.prog 27 #[.pointer (some ⟨p, 0, none⟩), .int .i64 2, .int .i64 3] w (fun e w' => e = .returned (.int .i64 4) ∧ Turned w p F qC.1 w') := by
  have M := and_call h qB_ok.wf 2 3
  unfold Tells at M
  rw [show (andV qB.1 2 3).2 = 4 from qC_is] at M
  exact M
theorem q_e (h : StoIs w p F qC.1) : Calls Try.prog 38 #[.pointer (some ⟨p, 0, none⟩), .int .i64 4, .slice (some ⟨w.heap.size, 0, none⟩) 1 1] (w.alloc (.cells #[.int .i64 0] 3)) (fun e w' => e = .returned (.int .i64 3) ∧ Turned w p F qE.1 w') := exists_lit h qC_ok.wf qC_ok.sated 4 0 3 qE_is
theorem q_f (h : StoIs w p F qE.1) : Calls Try.prog 39 #[.pointer (some ⟨p, 0, none⟩), .int .i64 4, .slice (some ⟨w.heap.size, 0, none⟩) 1 1] (w.alloc (.cells #[.int .i64 0] 3)) (fun e w' => e = .returned (.int .i64 0) ∧ Turned w p F qF.1 w') := forall_lit h qE_ok.1 qE_ok.2 4 0 0 qF_is
theorem q_s (h : StoIs w p F qF.1) : Calls Try.prog 43 #[.pointer (some ⟨p, 0, none⟩), .int .i64 4] w (fun e w' => ∃ sv, e = .returned sv ∧ Rd w' 1 sv (ints [0, 1]) ∧ Below w.heap.size w w') := by
  have M := support_live h qF_ok.1 qF_full 4
  rw [qF_sup] at M
  exact M
theorem q_g (h : StoIs w p F qF.1) : Calls Try.prog 42 #[.pointer (some ⟨p, 0, none⟩), .int .i64 4, .int .i64 2] w (fun e w' => e = .returned (.bool true) ∧ Turned w p F qG.1 w') := by
  have M := implies_live h qF_ok.1 qF_ok.2 4 2
  rw [show (impliesV qF.1 4 2).2 = true from qG_is] at M
  exact M
theorem q_h (h : StoIs w p F qG.1) : Calls Try.prog 42 #[.pointer (some ⟨p, 0, none⟩), .int .i64 2, .int .i64 4] w (fun e w' => e = .returned (.bool false) ∧ Turned w p F qH.1 w') := by
  have M := implies_live h qG_ok.1 qG_ok.2 2 4
  rw [show (impliesV qG.1 2 4).2 = false from qH_is] at M
  exact M
end

set_option maxHeartbeats 8000000 in
theorem known31 (w : World) : Calls Try.prog 37 #[] w (Pure (.bool true) w) := by
  go_enter Try.func37, Try.ntmps37
  go_upto_region 6 with (first
    | ((with_reducible refine (new_call 20 (by omega) (by omega) _).mono ?_); rintro e w1 ⟨p, F, rfl, hS, hb, hF⟩)
    | ((with_reducible refine (q_a hS).mono ?_); rintro e w2 ⟨rfl, F1, hS1, st1⟩)
    | ((with_reducible refine (q_b hS1).mono ?_); rintro e w3 ⟨rfl, F2, hS2, st2⟩)
    | ((with_reducible refine (q_c hS2).mono ?_); rintro e w4 ⟨rfl, F3, hS3, st3⟩))
  have st := (st1.trans st2).trans st3
  clear st1 st2 st3 hS hS1 hS2
  refine wp_region_doc (fun F' hF0 => ?_)
  have HF := hid hF0
  clear hF0
  repeat (refine doc_val rfl (by first | (go_simp; done) | (go_simp; exact ⟨rfl, rfl⟩) | (go_simp; with_reducible rfl)) ?_; simp only [Act.put, List.setIfInBounds_toArray, List.set_cons_zero, List.set_cons_succ])
  refine doc_call rfl (by first | (go_simp; done) | (go_simp; exact ⟨rfl, rfl⟩) | (go_simp; with_reducible rfl)) ((q_e hS3).mono ?_)
  rintro e w5 ⟨rfl, F5, hS5, st5⟩
  refine ⟨_, rfl, ?_⟩
  simp only [Act.put, List.setIfInBounds_toArray, List.set_cons_zero, List.set_cons_succ]
  clear hS3
  repeat (refine doc_val rfl (by first | (go_simp; done) | (go_simp; exact ⟨rfl, rfl⟩) | (go_simp; with_reducible rfl)) ?_; simp only [Act.put, List.setIfInBounds_toArray, List.set_cons_zero, List.set_cons_succ])
  refine doc_call rfl (by first | (go_simp; done) | (go_simp; exact ⟨rfl, rfl⟩) | (go_simp; with_reducible rfl)) ((q_f hS5).mono ?_)
  rintro e w6 ⟨rfl, F6, hS6, st6⟩
  refine ⟨_, rfl, ?_⟩
  simp only [Act.put, List.setIfInBounds_toArray, List.set_cons_zero, List.set_cons_succ]
  clear hS5
  repeat (refine doc_val rfl (by first | (go_simp; done) | (go_simp; exact ⟨rfl, rfl⟩) | (go_simp; with_reducible rfl)) ?_; simp only [Act.put, List.setIfInBounds_toArray, List.set_cons_zero, List.set_cons_succ])
  refine doc_call rfl (by first | (go_simp; done) | (go_simp; exact ⟨rfl, rfl⟩) | (go_simp; with_reducible rfl)) ((q_s hS6).mono ?_)
  rintro e w7 ⟨sv, rfl, hsv, hb7⟩
  refine ⟨_, rfl, ?_⟩
  simp only [Act.put, List.setIfInBounds_toArray, List.set_cons_zero, List.set_cons_succ]
  have hS7 := hS6.below hb7
  have st7 : StoStep w6 w7 F6 F6 := StoStep.of_below hb7
  clear hS6
  refine doc_val rfl (by first | (go_simp; done) | (go_simp; exact ⟨rfl, rfl⟩) | (go_simp; with_reducible rfl)) ?_
  simp only [Act.put, List.setIfInBounds_toArray, List.set_cons_zero, List.set_cons_succ]
  have hbl : Below w7.heap.size w7 (w7.alloc (.cells #[.int .i64 0, .int .i64 1] 3)) := by (repeat' (first | (with_reducible exact Below.refl _ _) | (with_reducible refine Below.ext_mk ?_ ?_ _ _) | (with_reducible refine Below.alloc ?_ ?_ _) | (with_reducible refine Below.drew ?_) | (with_reducible refine Below.setCell ?_ ?_ _) | go_size))
  refine doc_call rfl (by first | (go_simp; done) | (go_simp; exact ⟨rfl, rfl⟩) | (go_simp; with_reducible rfl)) ((equal_ints (hsv.below hbl) (lit_two w7 0 1)).mono ?_)
  rintro e w8 ⟨rfl, m8, d8, rfl⟩
  refine ⟨_, rfl, ?_⟩
  simp only [Act.put, List.setIfInBounds_toArray, List.set_cons_zero, List.set_cons_succ]
  have hb8 : Below w7.heap.size w7 ((w7.alloc (.cells #[.int .i64 0, .int .i64 1] 3)).ext m8 d8) := by (repeat' (first | (with_reducible exact Below.refl _ _) | (with_reducible refine Below.ext_mk ?_ ?_ _ _) | (with_reducible refine Below.alloc ?_ ?_ _) | (with_reducible refine Below.drew ?_) | (with_reducible refine Below.setCell ?_ ?_ _) | go_size))
  have hS8 := hS7.below hb8
  have st8 : StoStep w7 _ F6 F6 := StoStep.of_below hb8
  clear hS7 hsv hbl hb7 hb8
  generalize (w7.alloc (.cells #[.int .i64 0, .int .i64 1] 3)).ext m8 d8 = w8 at *
  repeat (refine doc_val rfl (by first | (go_simp; done) | (go_simp; exact ⟨rfl, rfl⟩) | (go_simp; with_reducible rfl)) ?_; simp only [Act.put, List.setIfInBounds_toArray, List.set_cons_zero, List.set_cons_succ])
  refine doc_call rfl (by first | (go_simp; done) | (go_simp; exact ⟨rfl, rfl⟩) | (go_simp; with_reducible rfl)) ((q_g hS8).mono ?_)
  rintro e w9 ⟨rfl, F9, hS9, st9⟩
  refine ⟨_, rfl, ?_⟩
  simp only [Act.put, List.setIfInBounds_toArray, List.set_cons_zero, List.set_cons_succ]
  repeat (refine doc_val rfl (by first | (go_simp; done) | (go_simp; exact ⟨rfl, rfl⟩) | (go_simp; with_reducible rfl)) ?_; simp only [Act.put, List.setIfInBounds_toArray, List.set_cons_zero, List.set_cons_succ])
  refine doc_call rfl (by first | (go_simp; done) | (go_simp; exact ⟨rfl, rfl⟩) | (go_simp; with_reducible rfl)) ((q_h hS9).mono ?_)
  rintro e w10 ⟨rfl, F10, hS10, st10⟩
  refine ⟨_, rfl, ?_⟩
  simp only [Act.put, List.setIfInBounds_toArray, List.set_cons_zero, List.set_cons_succ]
  repeat (refine doc_val rfl (by first | (go_simp; done) | (go_simp; exact ⟨rfl, rfl⟩) | (go_simp; with_reducible rfl)) ?_; simp only [Act.put, List.setIfInBounds_toArray, List.set_cons_zero, List.set_cons_succ])
  refine doc_end (HF.out _ _ ?_)
  clear HF F'
  have hB := hb.trans ((st.trans (st5.trans (st6.trans (st7.trans (st8.trans (st9.trans st10)))))).below hF hb.size)
  go_wp2
  go_returns
  exact Pure.of rfl hB
end Go.Proofs.Ytboekafmplomhaa
set_option linter.unusedVariables false
set_option linter.unusedSimpArgs false
namespace Go.Proofs.Ytboekafmplomhaa
open Go.RowKit

/-- The store with j variables asked for. -/
def fS : Nat → Sto
  | 0 => newS 2
  | j + 1 => (varV (fS j) j).1
theorem fS_ok : ∀ j, j ≤ 60 → Wf (fS j) ∧ Sated (fS j)
  | 0, _ => ⟨newS_wf (by omega) (by omega), newS_sated 2⟩
  | j + 1, h => by
    have g := fS_ok j (by omega)
    have O := varV_ok g.1 g.2 (below64 g.1) (j : Int) (by omega)
    exact ⟨O.wf, O.sated⟩
theorem fS_full : (fS 3).full = true := by decide +kernel

set_option maxHeartbeats 8000000 in
set_option maxRecDepth 100000 in
theorem quantNone_any {w : World} (a u v : Int) (l : List Int) (sv : Value) (hl : Rd w 1 sv (ints l)) :
    Calls Try.prog 6 #[.int .i64 a, .int .i64 u, .int .i64 v, sv] w (Pure (.bool true) w) := by
  have hl0 := hid hl
  obtain ⟨sa, cap, rfl, hc, hm⟩ := hl.len
  clear hl
  by_cases h50 : 50 < l.length
  · have h50' : (50 : Int) < (l.length : Int) := by omega
    clear h50
    go_enter Try.func6, Try.ntmps6
    go_wp2_with (go_at_call 37; refine (known31 _).mono ?_; rintro e w1 ⟨rfl, m1, d1, rfl⟩)
    go_returns
    exact Pure.of rfl (by (repeat' (first | (with_reducible exact Below.refl _ _) | (with_reducible refine Below.ext_mk ?_ ?_ _ _) | (with_reducible refine Below.alloc ?_ ?_ _) | (with_reducible refine Below.drew ?_) | (with_reducible refine Below.setCell ?_ ?_ _) | go_size)))
  · have h50' : ¬ (50 : Int) < (l.length : Int) := by omega
    clear h50
    go_enter Try.func6, Try.ntmps6
    go_upto_region 6 with (first
      | ((with_reducible refine (new_call 2 (by omega) (by omega) _).mono ?_); rintro e w1 ⟨p, F, rfl, hS, hb, hF⟩))
    go_wp2_with fail
    go_loopw [28] (fun i wr => ∃ (j : Nat) (F1 : List Nat), j ≤ 3 ∧ i = .int .i64 j ∧ StoIs wr p F1 (fS j) ∧ StoStep w1 wr F F1) (fun i _ => 3 - (intOf i).toNat)
    case atStart => exact ⟨0, F, by omega, rfl, hS, StoStep.refl _ _⟩
    case round =>
      obtain ⟨j, F1, hj, rfl, hS1, st1⟩ := hrel
      by_cases hlt : j < 3
      · have hj1 : (j : Int) < 3 := by omega
        have M := var_call hS1 (fS_ok j (by omega)).1 (j : Int)
        unfold Tells at M
        clear hS hb hF
        go_wp2_with (go_at_call 24; refine M.mono ?_; rintro e w2 ⟨rfl, F2, hS2, st2⟩)
        go_roundw
        case rel => exact ⟨j + 1, F2, by omega, by go_num, hS2, st1.trans st2⟩
        case measure => simp [intOf]; omega
      · obtain rfl : j = 3 := by omega
        have hbw := hb.trans (st1.below hF hb.size)
        have hD := hS1.dead (fS_ok 3 (by omega)).1 fS_full
        clear hS hS1 st1 hF hb hj hlt
        go_wp2_with fail
        refine wp_gen (fun W hW => ?_)
        have hbW : Below wr.heap.size wr W := by rw [hW]; ((repeat' (first | (with_reducible exact Below.refl _ _) | (with_reducible refine Below.ext_mk ?_ ?_ _ _) | (with_reducible refine Below.alloc ?_ ?_ _) | (with_reducible refine Below.drew ?_) | (with_reducible refine Below.setCell ?_ ?_ _) | go_size)))
        have zW0 : wr.heap.size < W.heap.size := by rw [hW]; first | (simp; done) | (simp; omega)
        have cW0_0 : W.cell? ⟨wr.heap.size, 0, none⟩ = some (.pointer none) := by rw [hW]; first | (go_simp; done) | (rw [World.cell?_alloc_past _ _ _ (by first | (simp; done) | (simp; omega))]; go_simp)
        have cW0_1 : W.cell? ⟨wr.heap.size, 1, none⟩ = some (.pointer (some ⟨p, 0, none⟩)) := by rw [hW]; first | (go_simp; done) | (rw [World.cell?_alloc_past _ _ _ (by first | (simp; done) | (simp; omega))]; go_simp)
        clear hW
        have hDW := hD.below hbW
        have hbB := hbw.trans (hbW.mono hbw.size)
        clear hD hbW
        generalize wr.heap.size = g at *
        clear hbw wr
        go_loopw [38] (fun i wr => ∃ k : Nat, k ≤ 2 ∧ i = .int .i64 k ∧ Below W.heap.size W wr) (fun i _ => 2 - (intOf i).toNat)
        case atStart => exact ⟨0, by omega, rfl, Below.refl _ _⟩
        case round =>
          obtain ⟨k, hk, rfl, hbr⟩ := hrel
          have hsr := hbr.size
          by_cases h2 : k < 2
          · obtain ⟨q, hq, hcell⟩ : ∃ q : Option Addr, Dead W q ∧ W.cell? ⟨g, k, none⟩ = some (.pointer q) := by
              rcases (show k = 0 ∨ k = 1 by omega) with rfl | rfl
              · exact ⟨_, NoSto.dead (.inl rfl), cW0_0⟩
              · exact ⟨_, hDW, cW0_1⟩
            have hk1 : (k : Int) < 2 := by omega
            have dcell := (hbr.cell (p := ⟨g, k, none⟩) zW0).trans hcell
            have zg : g < wr.heap.size := by omega
            have D := hid (hq.below hbr)
            have L := hid ((hl0.out.below hbB).below hbr)
            clear hq hDW cW0_0 cW0_1 hcell hbB
            have a1 := fun U (hb : Below wr.heap.size wr U) => exists_dead (D.out.below hb) a l _ (L.out.below hb)
            have a2 := fun U (hb : Below wr.heap.size wr U) => forall_dead (D.out.below hb) a l _ (L.out.below hb)
            have a3 := fun U (hb : Below wr.heap.size wr U) => compose_dead (D.out.below hb) a u v
            have a4 := fun U (hb : Below wr.heap.size wr U) => swap_dead (D.out.below hb) a u v
            have a5 := fun U (hb : Below wr.heap.size wr U) => implies_dead (D.out.below hb) a v
            have a6 := fun U (hb : Below wr.heap.size wr U) => support_dead (D.out.below hb) a
            go_upto_region 14 with (fail)
            refine wp_region_seq (fun F hF => ?_)
            have HF := hid hF; clear hF
            repeat (first
              | (apply text_skip; (focus rfl); simp only [Act.put, List.setIfInBounds_toArray, List.set_cons_zero, List.set_cons_succ])
              | (apply text_val; (focus rfl); (focus (intro _ _; go_simp; with_reducible rfl)); simp only [Act.put, List.setIfInBounds_toArray, List.set_cons_zero, List.set_cons_succ])
              | (apply text_call; (focus rfl); (focus (intro _ _; go_simp; exact ⟨rfl, rfl⟩)); (focus (intro _ _; with_reducible (first | exact a1 _ (by (repeat' (first | (with_reducible exact Below.refl _ _) | (with_reducible refine Below.ext_mk ?_ ?_ _ _) | (with_reducible refine Below.alloc ?_ ?_ _) | (with_reducible refine Below.drew ?_) | (with_reducible refine Below.setCell ?_ ?_ _) | go_size))) | exact a2 _ (by (repeat' (first | (with_reducible exact Below.refl _ _) | (with_reducible refine Below.ext_mk ?_ ?_ _ _) | (with_reducible refine Below.alloc ?_ ?_ _) | (with_reducible refine Below.drew ?_) | (with_reducible refine Below.setCell ?_ ?_ _) | go_size))) | exact a3 _ (by (repeat' (first | (with_reducible exact Below.refl _ _) | (with_reducible refine Below.ext_mk ?_ ?_ _ _) | (with_reducible refine Below.alloc ?_ ?_ _) | (with_reducible refine Below.drew ?_) | (with_reducible refine Below.setCell ?_ ?_ _) | go_size))) | exact a4 _ (by (repeat' (first | (with_reducible exact Below.refl _ _) | (with_reducible refine Below.ext_mk ?_ ?_ _ _) | (with_reducible refine Below.alloc ?_ ?_ _) | (with_reducible refine Below.drew ?_) | (with_reducible refine Below.setCell ?_ ?_ _) | go_size))) | exact a5 _ (by (repeat' (first | (with_reducible exact Below.refl _ _) | (with_reducible refine Below.ext_mk ?_ ?_ _ _) | (with_reducible refine Below.alloc ?_ ?_ _) | (with_reducible refine Below.drew ?_) | (with_reducible refine Below.setCell ?_ ?_ _) | go_size))) | exact a6 _ (by (repeat' (first | (with_reducible exact Below.refl _ _) | (with_reducible refine Below.ext_mk ?_ ?_ _ _) | (with_reducible refine Below.alloc ?_ ?_ _) | (with_reducible refine Below.drew ?_) | (with_reducible refine Below.setCell ?_ ?_ _) | go_size)))))); simp only [Act.put, List.setIfInBounds_toArray, List.set_cons_zero, List.set_cons_succ])
              | (apply text_if; (focus (first | exact wanted_t rfl rfl | exact wanted_f rfl rfl | exact wanted_gt rfl rfl | exact wanted_gf rfl rfl)); (focus (intro hc _ _; (try simp only [Bool.and_eq_true, Bool.not_eq_true', Bool.true_and] at hc); go_simp; with_reducible rfl)); simp only [Act.put, List.setIfInBounds_toArray, List.set_cons_zero, List.set_cons_succ])
              | (apply text_if_call; (focus (first | exact wanted_t rfl rfl | exact wanted_f rfl rfl | exact wanted_gt rfl rfl | exact wanted_gf rfl rfl)); (focus (intro hc _ _; (try simp only [Bool.and_eq_true, Bool.not_eq_true', Bool.true_and] at hc); go_simp; exact ⟨rfl, rfl⟩)); (focus (intro hc _ _; with_reducible (first | exact a1 _ (by (repeat' (first | (with_reducible exact Below.refl _ _) | (with_reducible refine Below.ext_mk ?_ ?_ _ _) | (with_reducible refine Below.alloc ?_ ?_ _) | (with_reducible refine Below.drew ?_) | (with_reducible refine Below.setCell ?_ ?_ _) | go_size))) | exact a2 _ (by (repeat' (first | (with_reducible exact Below.refl _ _) | (with_reducible refine Below.ext_mk ?_ ?_ _ _) | (with_reducible refine Below.alloc ?_ ?_ _) | (with_reducible refine Below.drew ?_) | (with_reducible refine Below.setCell ?_ ?_ _) | go_size))) | exact a3 _ (by (repeat' (first | (with_reducible exact Below.refl _ _) | (with_reducible refine Below.ext_mk ?_ ?_ _ _) | (with_reducible refine Below.alloc ?_ ?_ _) | (with_reducible refine Below.drew ?_) | (with_reducible refine Below.setCell ?_ ?_ _) | go_size))) | exact a4 _ (by (repeat' (first | (with_reducible exact Below.refl _ _) | (with_reducible refine Below.ext_mk ?_ ?_ _ _) | (with_reducible refine Below.alloc ?_ ?_ _) | (with_reducible refine Below.drew ?_) | (with_reducible refine Below.setCell ?_ ?_ _) | go_size))) | exact a5 _ (by (repeat' (first | (with_reducible exact Below.refl _ _) | (with_reducible refine Below.ext_mk ?_ ?_ _ _) | (with_reducible refine Below.alloc ?_ ?_ _) | (with_reducible refine Below.drew ?_) | (with_reducible refine Below.setCell ?_ ?_ _) | go_size))) | exact a6 _ (by (repeat' (first | (with_reducible exact Below.refl _ _) | (with_reducible refine Below.ext_mk ?_ ?_ _ _) | (with_reducible refine Below.alloc ?_ ?_ _) | (with_reducible refine Below.drew ?_) | (with_reducible refine Below.setCell ?_ ?_ _) | go_size)))))); simp only [Act.put, List.setIfInBounds_toArray, List.set_cons_zero, List.set_cons_succ]))
            refine text_nil (HF.out _ (fun mx dx => ?_))
            clear HF F
            clear a1 a2 a3 a4 a5 a6
            go_wp2
            go_roundw
            case rel => exact ⟨k + 1, by omega, by go_num, Below.ext_mk hbr hsr _ _⟩
            case measure => simp [intOf]; omega
          · obtain rfl : k = 2 := by omega
            clear hDW cW0_0 cW0_1
            go_wp2_with (go_at_call 37; refine (known31 _).mono ?_; rintro e w1 ⟨rfl, m1, d1, rfl⟩)
            go_returns
            have hB := hbB.trans (hbr.mono hbB.size)
            exact Pure.of rfl (Below.ext_mk hB hB.size _ _)
end Go.Proofs.Ytboekafmplomhaa
set_option linter.unusedVariables false
set_option linter.unusedSimpArgs false
namespace Go.Proofs.Ytboekafmplomhaa
open Go.RowKit

theorem infoBy_some : (Try.prog.info? 5).isSome = true := by kernel_rfl
noncomputable def infoBy : TypeInfo := (Try.prog.info? 5).get infoBy_some
theorem infoBy_is : Try.prog.info? 5 = some infoBy := (Option.some_get _).symm
theorem infoBy_zero : infoBy.zero = some (.int .u8 0) := by kernel_rfl
theorem infoBy_size : infoBy.size = 1 := by kernel_rfl
theorem infoBy_bytes : infoBy.bytes = 1 := by kernel_rfl
theorem infoBd_some : (Try.prog.info? 137).isSome = true := by kernel_rfl
noncomputable def infoBd : TypeInfo := (Try.prog.info? 137).get infoBd_some
theorem infoBd_is : Try.prog.info? 137 = some infoBd := (Option.some_get _).symm
theorem infoBd_size : infoBd.size = 2 := by kernel_rfl
theorem liesBd : liesAt Try.prog Try.prog.depth 137 (2 / Try.prog.cellsOf 137) 0 137 1 = true := by kernel_rfl

/-- A builder, the bytes that it holds. -/
structure BldIs (w : World) (bb : Nat) (ad : Option Addr) (sv : Value) (G : Option Nat) (l : List UInt8) : Prop where
  b : Blk w bb 137 [.pointer ad, sv]
  row : RowIs w sv G 5 1 l.length (Lib.byteCells l)
  ok : ad = none ∨ ad = some ⟨bb, 0, none⟩

set_option maxRecDepth 100000 in
theorem check_used {w : World} {bb : Nat} (h0 : w.cell? ⟨bb, 0, none⟩ = some (.pointer (some ⟨bb, 0, none⟩))) :
    Calls Try.prog 142 #[.pointer (some ⟨bb, 0, none⟩)] w (fun e w' => e = .returned (.tuple #[]) ∧ w' = w) := by
  go_enter Try.func142, Try.ntmps142
  go_wp2
  rw [Lib.run_neq_ptr_same w _ Try.underlying135 infoBd_is]
  go_wp2
  go_end0
  exact ⟨rfl, rfl⟩

set_option maxRecDepth 100000 in
theorem check_fresh {w : World} {bb : Nat} {sv : Value} (h : Blk w bb 137 [.pointer none, sv]) :
    Calls Try.prog 142 #[.pointer (some ⟨bb, 0, none⟩)] w (fun e w' => e = .returned (.tuple #[]) ∧ w' = w.setCell ⟨bb, 0, none⟩ (.pointer (some ⟨bb, 0, none⟩))) := by
  have h0 := h.cell 0
  have hf := h.free 0
  have hz := h.lt
  have hsh : w.shape? bb = some (137, 2) := by unfold Blk at h; simp [World.shape?, h]
  simp only [List.getElem?_cons_zero] at h0
  go_enter Try.func142, Try.ntmps142
  go_wp2
  rw [Lib.run_to_unsafe w ⟨bb, 0, none⟩ Try.underlying135 Try.underlying171 infoBd_is (by rw [infoBd_size]; decide) hsh (Nat.zero_lt_succ 1)]
  simp only [Result.andThen]
  rw [Oper.upon_value]
  go_wp2
  rw [run_callFunc_extern Try.func156 (by kernel_rfl) (by kernel_rfl) (by kernel_rfl) (e := Extern.AbiNoEscape.same) (by kernel_rfl)]
  rw [Lib.run_noEscape]
  simp only [Result.andThen]
  rw [Oper.upon_value]
  go_wp2
  rw [Lib.run_from_unsafe w ⟨bb, 0, none⟩ Try.underlying171 Try.underlying135 infoBd_is hsh liesBd]
  simp only [Result.andThen]
  rw [Oper.upon_value]
  go_wp2
  go_end0
  exact ⟨rfl, rfl⟩

theorem byteCells_snoc (l : List UInt8) (x : UInt8) : Lib.byteCells (l ++ [x]) = Lib.byteCells l ++ [.int .u8 x.toNat] := by simp [Lib.byteCells]

/-- One more byte in a row of our own. -/
theorem by_one {w : World} {sv : Value} {G : Option Nat} {l : List UInt8} (h : RowIs w sv G 5 1 l.length (Lib.byteCells l)) (hk : l.length ≤ 10000) (x : UInt8) :
    ∃ (v' : Value) (G' : Nat) (w1 : World), (Builtin.append_ #[100, 100] 100 #[sv, .slice (some ⟨w.heap.size, 0, none⟩) 1 1]).run Try.prog (w.alloc (.cells #[.int .u8 x.toNat] 5)) = .ok v' w1 ∧
      RowIs w1 v' (some G') 5 1 (l ++ [x]).length (Lib.byteCells (l ++ [x])) ∧ (G = some G' ∨ (w.heap.size ≤ G' ∧ G' < w1.heap.size)) ∧ (∀ k, k < w.heap.size → G ≠ some k → w1.heap[k]? = w.heap[k]?) ∧
      w1.os = w.os ∧ w1.tape = w.tape ∧ w1.output = w.output ∧ w.heap.size ≤ w1.heap.size := by
  have lit : (w.alloc (.cells #[.int .u8 x.toNat] 5)).heap[w.heap.size]? = some (.cells #[.int .u8 x.toNat] 5 (0, 0)) := World.heap_alloc_last w _
  have row : RowIs (w.alloc (.cells #[.int .u8 x.toNat] 5)) sv G 5 1 l.length (Lib.byteCells l) := RowIs.keep h (fun g' hg => Below.heap_alloc _ _ _ (RowIs.lt h g' hg))
  obtain ⟨v', w1, G', r1, r2, r3, r4⟩ := append_row (P := Try.prog) 100 100 infoBy (.int .u8 0) 1 Try.underlying100 infoBy_is infoBy_zero infoBy_size infoBy_bytes rfl (by omega) row
    ⟨w.heap.size, 0, none⟩ 1 1 [.int .u8 x.toNat] rfl (fun j u hu => by
      rcases j with _ | j
      · simp at hu; subst hu
        show (w.alloc (.cells #[.int .u8 x.toNat] 5)).cell? ⟨w.heap.size, 0, none⟩ = _
        simp only [World.cell?]
        rw [lit]; rfl
      · simp at hu) (by simp [Value.oneCell']) (by omega) (by unfold maxLen; omega) (by omega)
  have e2 : (l ++ [x]).length = l.length + 1 := by simp
  rw [← byteCells_snoc, ← e2] at r2
  refine ⟨v', G', w1, r1, r2, ?_, fun k hk hn => ?_, r3.os, r3.tape, r3.output, by have := r3.size; simp at this; omega⟩
  · rcases r4 with e | ⟨e, e'⟩
    · exact .inl e
    · simp at e; exact .inr ⟨by omega, e'⟩
  · exact (r3.block k (by simp; omega) (fun e => hn e.symm)).trans (Below.heap_alloc _ _ _ hk)

theorem BldIs.gne {w : World} {bb : Nat} {ad : Option Addr} {sv : Value} {G : Option Nat} {l : List UInt8} (h : BldIs w bb ad sv G l) : G ≠ some bb := fun e => by
  obtain ⟨-, ⟨-, -, h2⟩ | ⟨g', cap, cur, -, h2, h3, -⟩⟩ := h.row
  · rw [e] at h2; cases h2
  · rw [e] at h2; cases h2
    have h4 := h.b
    unfold Blk at h4; rw [h4] at h3; cases h3
theorem check_any {w : World} {bb : Nat} {ad : Option Addr} {sv : Value} {G : Option Nat} {l : List UInt8} (h : BldIs w bb ad sv G l) :
    Calls Try.prog 142 #[.pointer (some ⟨bb, 0, none⟩)] w (fun e w' => e = .returned (.tuple #[]) ∧ BldIs w' bb (some ⟨bb, 0, none⟩) sv G l ∧ StoStep w w' [bb] [bb]) := by
  rcases h.ok with rfl | rfl
  · refine (check_fresh h.b).mono ?_
    rintro e w' ⟨rfl, rfl⟩
    exact ⟨rfl, ⟨h.b.set_ 0 _, h.row.keep (fun g hg => Below.heap_setCell _ _ _ _ (fun e => h.gne (by rw [hg]; exact congrArg some e))), .inr rfl⟩, StoStep.set (by simp) 0 _⟩
  · refine (check_used (h.b.cell 0)).mono ?_
    rintro e w' ⟨rfl, rfl⟩
    exact ⟨rfl, h, StoStep.refl _ _⟩

set_option maxHeartbeats 1000000 in
theorem writeByte_any {w : World} {bb : Nat} {ad : Option Addr} {sv : Value} {G : Option Nat} {l : List UInt8} (h : BldIs w bb ad sv G l) (hk : l.length ≤ 10000) (x : UInt8) :
    Calls Try.prog 121 #[.pointer (some ⟨bb, 0, none⟩), .int .u8 x.toNat] w (fun e w' => e = .returned .nilIface ∧ ∃ sv' G', BldIs w' bb (some ⟨bb, 0, none⟩) sv' (some G') (l ++ [x]) ∧ StoStep w w' (bb :: G.toList) [bb, G']) := by
  have K := check_any h
  clear h
  go_enter Try.func121, Try.ntmps121
  go_upto_region 2 with (go_at_call 142; refine K.mono ?_; rintro e w1 ⟨rfl, h1, st1⟩)
  obtain ⟨v', G', w2, r1, r2, r3, r4, ro, rt, rp, rz⟩ := by_one h1.row hk x
  obtain ⟨va, vc, rfl, -⟩ := r2.form
  have hg1 := h1.gne
  have b2 := h1.b.keep (r4 bb h1.b.lt hg1)
  have c1 := h1.b.cell 1
  have z1 := h1.b.lt
  have c2 := b2.cell 1
  have f2 := b2.free 1
  have z2 := b2.lt
  simp only [List.getElem?_cons_zero, List.getElem?_cons_succ] at c1 c2
  have gb : G' ≠ bb := by
    rcases r3 with e | e
    · exact fun e' => hg1 (by rw [e, e'])
    · omega
  have BN : BldIs (w2.setCell ⟨bb, 1, none⟩ (.slice va (l ++ [x]).length vc)) bb (some ⟨bb, 0, none⟩) (.slice va (l ++ [x]).length vc) (some G') (l ++ [x]) :=
    ⟨b2.set_ 1 _, r2.keep (fun g hg => by cases hg; exact Below.heap_setCell _ _ _ _ gb), .inr rfl⟩
  have SN : StoStep w (w2.setCell ⟨bb, 1, none⟩ (.slice va (l ++ [x]).length vc)) (bb :: G.toList) [bb, G'] := by
    have s1 : StoStep w1 w2 (bb :: G.toList) [bb, G'] := ⟨ro, rt, rp, rz, fun k h1 h2 => r4 k h1 (fun e => h2 (by rw [e]; simp)), fun k hk => by
      simp only [List.mem_cons, List.not_mem_nil, or_false] at hk
      rcases hk with rfl | rfl
      · exact .inl (by simp)
      · rcases r3 with e | e
        · exact .inl (by rw [e]; simp)
        · exact .inr e⟩
    have s0 : StoStep w w1 (bb :: G.toList) (bb :: G.toList) := ⟨st1.os, st1.tape, st1.output, st1.size, fun k h1 h2 => st1.block k h1 (fun hm => h2 (by simp only [List.mem_singleton] at hm; simp [hm])), fun k hk => .inl hk⟩
    exact (s0.trans s1).trans (StoStep.set (by simp) 1 _)
  have BH := hid BN
  have SH := hid SN
  clear BN SN r2 r3 r4 ro rt rp rz h1 st1 b2
  refine wp_region_doc (fun F' hF => ?_)
  have HF := hid hF
  clear hF
  iterate 7 (refine doc_val rfl (by first | (go_simp; done) | (go_simp; exact ⟨rfl, rfl⟩) | (go_simp; with_reducible rfl)) ?_; simp only [Act.put, List.setIfInBounds_toArray, List.set_cons_zero, List.set_cons_succ])
  refine doc_val rfl (run_append_op _ _ _ _ _ _ _ _ _ r1) ?_
  simp only [Act.put, List.setIfInBounds_toArray, List.set_cons_zero, List.set_cons_succ]
  iterate 2 (refine doc_val rfl (by first | (go_simp; done) | (go_simp; exact ⟨rfl, rfl⟩) | (go_simp; with_reducible rfl)) ?_; simp only [Act.put, List.setIfInBounds_toArray, List.set_cons_zero, List.set_cons_succ])
  refine doc_skip rfl (by first | (go_simp; done) | (go_simp; exact ⟨rfl, rfl⟩) | (go_simp; with_reducible rfl)) ?_
  simp only [Act.put, List.setIfInBounds_toArray, List.set_cons_zero, List.set_cons_succ]
  refine doc_end (HF.out _ _ ?_)
  clear HF F'
  go_wp2
  go_returns
  have bn := BH.out
  have sn := SH.out
  simp only [List.length_append, List.length_cons, List.length_nil, Nat.zero_add] at bn sn
  exact ⟨rfl, _, G', bn, sn⟩

set_option maxHeartbeats 1000000 in
theorem string_any {w : World} {bb : Nat} {ad : Option Addr} {sv : Value} {G : Option Nat} {l : List UInt8} (h : BldIs w bb ad sv G l) {B : Nat} (hBb : B ≤ bb) (hB : ∀ g, G = some g → B ≤ g) (hw : B ≤ w.heap.size) (hn : G = none ↔ l = []) :
    Calls Try.prog 122 #[.pointer (some ⟨bb, 0, none⟩)] w (fun e w' => e = .returned (.string ⟨l.toArray⟩) ∧ Below B w w') := by
  have c1 := h.b.cell 1
  have z1 := h.b.lt
  simp only [List.getElem?_cons_zero, List.getElem?_cons_succ] at c1
  obtain ⟨-, ⟨rfl, h2, rfl⟩ | ⟨g, cap, cur, rfl, rfl, h3, h4, h5, h6, h7⟩⟩ := h.row
  · have hl : l = [] := hn.1 rfl
    subst hl
    have hSD : ∀ W : World, (Builtin.unsafeSliceData_ #[100] 166 #[.slice none 0 0]).run Try.prog W = .ok (.pointer none) W := fun W => rfl
    have hUS : ∀ W : World, (Builtin.unsafeString_ #[166, 3] 9 #[.pointer none, .int .i64 0]).run Try.prog W = .ok (.string .empty) W := fun W => Lib.run_unsafeString_none W _ _ _ _
    go_enter Try.func122, Try.ntmps122
    go_upto_region 1 with (fail)
    refine wp_region_tail 10 (by kernel_rfl) (by kernel_rfl) (by kernel_rfl) (by kernel_rfl) (by kernel_rfl) (fun F hF => ?_)
    simp only [List.take_succ_cons, List.take_zero, List.drop_succ_cons, List.drop_zero] at hF ⊢
    have HF := hid hF; clear hF
    repeat (first
      | (apply text_skip; (focus rfl); simp only [Act.put, List.setIfInBounds_toArray, List.set_cons_zero, List.set_cons_succ])
      | (apply text_val; (focus rfl); (focus (intro _ _; go_simp; with_reducible rfl)); simp only [Act.put, List.setIfInBounds_toArray, List.set_cons_zero, List.set_cons_succ])
      | (apply text_if; (focus (first | exact wanted_t rfl rfl | exact wanted_f rfl rfl | exact wanted_gt rfl rfl | exact wanted_gf rfl rfl)); (focus (intro hc _ _; (try simp only [Bool.and_eq_true, Bool.not_eq_true', Bool.true_and] at hc); go_simp; with_reducible rfl)); simp only [Act.put, List.setIfInBounds_toArray, List.set_cons_zero, List.set_cons_succ]))
    refine text_nil (HF.out _ (fun mx dx => ?_))
    clear HF F
    go_wp2
    go_returns
    exact ⟨rfl, by (repeat' (first | (with_reducible exact Below.refl _ _) | (with_reducible refine Below.ext_mk ?_ ?_ _ _) | (with_reducible refine Below.alloc ?_ ?_ _) | (with_reducible refine Below.drew ?_) | (with_reducible refine Below.setCell ?_ ?_ _) | go_size))⟩
  · have hl : l ≠ [] := fun e => by cases hn.2 e
    have hl0 : l.length ≠ 0 := by simpa using hl
    have hSD : ∀ W : World, (Builtin.unsafeSliceData_ #[100] 166 #[.slice (some ⟨g, 0, none⟩) l.length cap]).run Try.prog W = .ok (.pointer (some ⟨g, 0, none⟩)) W := fun W => Lib.run_unsafeSliceData_row _ _ _ _ _ _ (by omega)
    have hUS : ∀ (m : Array Obj) (d : Nat), (Builtin.unsafeString_ #[166, 3] 9 #[.pointer (some ⟨g, 0, none⟩), .int .i64 l.length]).run Try.prog (w.ext m d) = .ok (.string ⟨l.toArray⟩) ((w.ext m d).freeze ⟨g, 0, none⟩ l.length) := fun m d => by
      have hgl : g < w.heap.size := (Array.getElem?_eq_some_iff.1 h3).1
      have h3' : (w.ext m d).heap[g]? = some (.cells cur 5 (0, 0)) := (World.heap_ext _ _ _ hgl).trans h3
      refine Lib.run_unsafeString_row (w.ext m d) 166 3 9 5 Try.underlying166 (by kernel_rfl) g cur.size (by simp [World.shape?, h3']) l hl (by omega) (by unfold maxLen at h5; omega) ?_
      intro j x hx
      have hj : (⟨g, 0, none⟩ : Addr).add j = ⟨g, j, none⟩ := by unfold Addr.add; by_cases e : j = 0 <;> simp [e]
      rw [hj]
      have hjl : j < l.length := (List.getElem?_eq_some_iff.1 hx).1
      have h8 : (Lib.byteCells l)[j]? = some (.int .u8 x.toNat) := by simp [Lib.byteCells, hx]
      rw [← h7, List.getElem?_take_of_lt (by omega)] at h8
      simp only [World.cell?, h3']
      simpa using h8
    clear h3 h4 h5 h6 h7 hn hl hl0 h
    go_enter Try.func122, Try.ntmps122
    go_upto_region 1 with (fail)
    refine wp_region_tail 10 (by kernel_rfl) (by kernel_rfl) (by kernel_rfl) (by kernel_rfl) (by kernel_rfl) (fun F hF => ?_)
    simp only [List.take_succ_cons, List.take_zero, List.drop_succ_cons, List.drop_zero] at hF ⊢
    have HF := hid hF; clear hF
    repeat (first
      | (apply text_skip; (focus rfl); simp only [Act.put, List.setIfInBounds_toArray, List.set_cons_zero, List.set_cons_succ])
      | (apply text_val; (focus rfl); (focus (intro _ _; go_simp; with_reducible rfl)); simp only [Act.put, List.setIfInBounds_toArray, List.set_cons_zero, List.set_cons_succ])
      | (apply text_if; (focus (first | exact wanted_t rfl rfl | exact wanted_f rfl rfl | exact wanted_gt rfl rfl | exact wanted_gf rfl rfl)); (focus (intro hc _ _; (try simp only [Bool.and_eq_true, Bool.not_eq_true', Bool.true_and] at hc); go_simp; with_reducible rfl)); simp only [Act.put, List.setIfInBounds_toArray, List.set_cons_zero, List.set_cons_succ]))
    refine text_nil (HF.out _ (fun mx dx => ?_))
    clear HF F
    go_wp2
    go_returns
    exact ⟨rfl, Lib.below_freeze (by (repeat' (first | (with_reducible exact Below.refl _ _) | (with_reducible refine Below.ext_mk ?_ ?_ _ _) | (with_reducible refine Below.alloc ?_ ?_ _) | (with_reducible refine Below.drew ?_) | (with_reducible refine Below.setCell ?_ ?_ _) | go_size))) (p := ⟨g, 0, none⟩) (hB g rfl) _⟩
end Go.Proofs.Ytboekafmplomhaa
set_option linter.unusedVariables false
set_option linter.unusedSimpArgs false
namespace Go.Proofs.Ytboekafmplomhaa
open Go.RowKit

def charL (c : Cu) (v : Nat) : UInt8 := if Nat.testBit c.1 v then (if Nat.testBit c.2 v then 49 else 48) else 42
def cntV (n : Int) : Nat := (max 0 (min n 64)).toNat
def textV (c : Cu) (n : Int) : List UInt8 := if mayC c then (List.range (cntV n)).map (charL c) else []

theorem range_snoc {α : Type} (f : Nat → α) (k : Nat) : (List.range (k + 1)).map f = (List.range k).map f ++ [f k] := by
  rw [List.range_succ]; simp

set_option maxHeartbeats 4000000 in
theorem ctext_any {c : Cu} (hc : CuOk c) (n : Int) (w : World) : Calls Try.prog 68 #[cv c, .int .i64 n] w (Pure (.string ⟨(textV c n).toArray⟩) w) := by
  have M := cmay_any hc
  go_enter Try.func68, Try.ntmps68
  go_upto_region 1 with (fail)
  refine wp_gen (fun V hV => ?_)
  have hbV : Below w.heap.size w V := by rw [hV]; (repeat' (first | (with_reducible exact Below.refl _ _) | (with_reducible refine Below.ext_mk ?_ ?_ _ _) | (with_reducible refine Below.alloc ?_ ?_ _) | (with_reducible refine Below.drew ?_) | (with_reducible refine Below.setCell ?_ ?_ _) | go_size))
  have bV : Blk V w.heap.size 85 [.int .u64 c.1, .int .u64 c.2] := by rw [hV]; exact Blk.new w 85 [.int .u64 c.1, .int .u64 c.2]
  have zV0 := bV.lt
  have cV0_0 := bV.cell 0
  have cV0_1 := bV.cell 1
  have fV0_0 := bV.free 0
  have fV0_1 := bV.free 1
  simp only [List.getElem?_cons_zero, List.getElem?_cons_succ] at cV0_0 cV0_1
  clear hV
  by_cases hm : mayC c = true
  · rw [hm] at M
    have bz : Blk V w.heap.size 85 [.int .u64 c.1, .int .u64 c.2] := bV
    have hT : textV c n = (List.range (cntV n)).map (charL c) := by unfold textV; rw [if_pos hm]
    have HT := hid hT
    clear hT hm
    go_upto_region 4 with (go_at_call 58; refine (M _).mono ?_; rintro e w' ⟨rfl, m1, d1, rfl⟩)
    refine wp_gen (fun X hX => ?_)
    have hbX : Below w.heap.size w X := by rw [hX]; (repeat' (first | (with_reducible exact hbV) | (with_reducible exact Below.refl _ _) | (with_reducible refine Below.ext_mk ?_ ?_ _ _) | (with_reducible refine Below.alloc ?_ ?_ _) | (with_reducible refine Below.drew ?_) | (with_reducible refine Below.setCell ?_ ?_ _) | go_size))
    have zX : w.heap.size + 1 ≤ X.heap.size := by rw [hX]; simp; omega
    obtain ⟨bb, hbb⟩ : ∃ bb, bb = V.heap.size + m1.size := ⟨_, rfl⟩
    have hB0 : BldIs X bb none (.slice none 0 0) none [] := by
      refine ⟨?_, ⟨rfl, .inl ⟨rfl, rfl, rfl⟩⟩, .inl rfl⟩
      rw [hX, hbb]
      have := Blk.new (V.ext m1 d1) 137 [.pointer none, .slice none 0 0]
      simpa using this
    have bzX : Blk X w.heap.size 85 [.int .u64 c.1, .int .u64 c.2] := by
      rw [hX]; exact bz.below (by (repeat' (first | (with_reducible exact Below.refl _ _) | (with_reducible refine Below.ext_mk ?_ ?_ _ _) | (with_reducible refine Below.alloc ?_ ?_ _) | (with_reducible refine Below.drew ?_) | (with_reducible refine Below.setCell ?_ ?_ _) | go_size)))
    have hbw : w.heap.size < bb := by omega
    rw [← hbb]
    clear hbb
    have hX0 : True := trivial
    clear hX bz cV0_0 cV0_1 fV0_0 fV0_1 M
    by_cases h64 : 64 < n
    · have h0 : 0 < n := by omega
      go_wp2
      go_loopw [13] (fun i wr => ∃ (k : Nat) (ad : Option Addr) (sv : Value) (G : Option Nat), k ≤ 64 ∧ i = .int .i64 k ∧ BldIs wr bb ad sv G ((List.range k).map (charL c)) ∧ Below w.heap.size w wr ∧ (∀ g, G = some g → w.heap.size ≤ g) ∧ (G = none ↔ k = 0) ∧ Blk wr w.heap.size 85 [.int .u64 c.1, .int .u64 c.2]) (fun i _ => 64 - (intOf i).toNat)
      case atStart => exact ⟨0, none, _, none, by omega, rfl, hB0, hbX, fun g hg => (by cases hg), by simp, bzX⟩
      case round =>
        obtain ⟨k, ad, sv, G, hk, rfl, hB, hbe, hg, hgn, hC⟩ := hrel
        have hbs := hbe.size
        by_cases hlt : k < 64
        · have hk1 : (k : Int) < 64 := by omega
          have hk0 : (0 : Int) ≤ (k : Int) := by omega
          have hgc : G ≠ some w.heap.size := fun e => by
            obtain ⟨-, ⟨-, -, h2⟩ | ⟨g', cap, cur, -, h2, h3, -⟩⟩ := hB.row
            · rw [e] at h2; cases h2
            · rw [e] at h2; cases h2
              unfold Blk at hC; rw [hC] at h3; cases h3
          have c0 := hC.cell 0
          have c1 := hC.cell 1
          have zc := hC.lt
          simp only [List.getElem?_cons_zero, List.getElem?_cons_succ] at c0 c1
          have g1 := bit_and hc.1 (show k < 64 by omega)
          have g2 := bit_and hc.2 (show k < 64 by omega)
          have hle : ((List.range k).map (charL c)).length ≤ 10000 := by simp; omega
          have W1 := writeByte_any hB hle (charL c k)
          clear hgn hX0
          by_cases t1 : Nat.testBit c.1 k = true
          · rw [if_pos t1] at g1
            by_cases t2 : Nat.testBit c.2 k = true
            · rw [if_pos t2] at g2
              have e : ((charL c k).toNat : Int) = 49 := by unfold charL; rw [if_pos t1, if_pos t2]; rfl
              rw [e] at W1
              clear t1 t2 e
              go_wp2_with (go_at_call 121; refine W1.mono ?_; rintro e w2 ⟨rfl, sv', G', hB2, st2⟩)
              have hbl := hB2.b.lt
              go_roundw
              case rel =>
                refine ⟨k + 1, _, sv', some G', by omega, by go_num, by rw [range_snoc]; exact hB2, ?_, ?_, ?_, ?_⟩
                · exact hbe.trans (st2.below (fun q hq => by
                    simp only [List.mem_cons] at hq
                    rcases hq with rfl | hq
                    · omega
                    · exact hg q (by simpa using hq)) hbs)
                · rintro g' hg'
                  cases hg'
                  rcases st2.fresh G' (by simp) with h5 | h5
                  · simp only [List.mem_cons] at h5
                    rcases h5 with h5 | h5
                    · omega
                    · exact hg G' (by simpa using h5)
                  · omega
                · simp
                · exact hC.keep (st2.block _ hC.lt (fun hm => by
                    simp only [List.mem_cons] at hm
                    rcases hm with h5 | h5
                    · omega
                    · exact hgc (by simpa using h5)))
              case measure => first | (simp [intOf]; done) | (simp [intOf]; omega)
            · rw [if_neg t2] at g2
              have e : ((charL c k).toNat : Int) = 48 := by unfold charL; rw [if_pos t1, if_neg t2]; rfl
              rw [e] at W1
              clear t1 t2 e
              go_wp2_with (go_at_call 121; refine W1.mono ?_; rintro e w2 ⟨rfl, sv', G', hB2, st2⟩)
              have hbl := hB2.b.lt
              go_roundw
              case rel =>
                refine ⟨k + 1, _, sv', some G', by omega, by go_num, by rw [range_snoc]; exact hB2, ?_, ?_, ?_, ?_⟩
                · exact hbe.trans (st2.below (fun q hq => by
                    simp only [List.mem_cons] at hq
                    rcases hq with rfl | hq
                    · omega
                    · exact hg q (by simpa using hq)) hbs)
                · rintro g' hg'
                  cases hg'
                  rcases st2.fresh G' (by simp) with h5 | h5
                  · simp only [List.mem_cons] at h5
                    rcases h5 with h5 | h5
                    · omega
                    · exact hg G' (by simpa using h5)
                  · omega
                · simp
                · exact hC.keep (st2.block _ hC.lt (fun hm => by
                    simp only [List.mem_cons] at hm
                    rcases hm with h5 | h5
                    · omega
                    · exact hgc (by simpa using h5)))
              case measure => first | (simp [intOf]; done) | (simp [intOf]; omega)
          · rw [if_neg t1] at g1
            have e : ((charL c k).toNat : Int) = 42 := by unfold charL; rw [if_neg t1]; rfl
            rw [e] at W1
            clear t1 e
            go_wp2_with (go_at_call 121; refine W1.mono ?_; rintro e w2 ⟨rfl, sv', G', hB2, st2⟩)
            have hbl := hB2.b.lt
            go_roundw
            case rel =>
              refine ⟨k + 1, _, sv', some G', by omega, by go_num, by rw [range_snoc]; exact hB2, ?_, ?_, ?_, ?_⟩
              · exact hbe.trans (st2.below (fun q hq => by
                  simp only [List.mem_cons] at hq
                  rcases hq with rfl | hq
                  · omega
                  · exact hg q (by simpa using hq)) hbs)
              · rintro g' hg'
                cases hg'
                rcases st2.fresh G' (by simp) with h5 | h5
                · simp only [List.mem_cons] at h5
                  rcases h5 with h5 | h5
                  · omega
                  · exact hg G' (by simpa using h5)
                · omega
              · simp
              · exact hC.keep (st2.block _ hC.lt (fun hm => by
                  simp only [List.mem_cons] at hm
                  rcases hm with h5 | h5
                  · omega
                  · exact hgc (by simpa using h5)))
            case measure => first | (simp [intOf]; done) | (simp [intOf]; omega)
        · have hk1 : ¬ (k : Int) < 64 := by omega
          have ek : k = cntV n := by unfold cntV; omega
          have ST := string_any hB (B := w.heap.size) (by omega) hg hbs (by rw [hgn]; simp)
          rw [ek] at ST
          clear hX0 ek
          go_wp2_with (go_at_call 122; refine ST.mono ?_; rintro e w2 ⟨rfl, hb2⟩)
          go_returns
          exact Pure.of (by rw [HT.out]; rfl) (hbe.trans hb2)
    · by_cases h0 : n ≤ 0
      · go_wp2
        go_loopw [13] (fun i wr => ∃ (k : Nat) (ad : Option Addr) (sv : Value) (G : Option Nat), k ≤ 0 ∧ i = .int .i64 k ∧ BldIs wr bb ad sv G ((List.range k).map (charL c)) ∧ Below w.heap.size w wr ∧ (∀ g, G = some g → w.heap.size ≤ g) ∧ (G = none ↔ k = 0) ∧ Blk wr w.heap.size 85 [.int .u64 c.1, .int .u64 c.2]) (fun i _ => 0 - (intOf i).toNat)
        case atStart => exact ⟨0, none, _, none, by omega, rfl, hB0, hbX, fun g hg => (by cases hg), by simp, bzX⟩
        case round =>
          obtain ⟨k, ad, sv, G, hk, rfl, hB, hbe, hg, hgn, hC⟩ := hrel
          have hbs := hbe.size
          have hk1 : ¬ (k : Int) < 0 := by omega
          have ek : k = cntV n := by unfold cntV; omega
          have ST := string_any hB (B := w.heap.size) (by omega) hg hbs (by rw [hgn]; simp)
          rw [ek] at ST
          clear hX0 ek
          go_wp2_with (go_at_call 122; refine ST.mono ?_; rintro e w2 ⟨rfl, hb2⟩)
          go_returns
          exact Pure.of (by rw [HT.out]; rfl) (hbe.trans hb2)
      · obtain ⟨m, rfl⟩ : ∃ m : Nat, n = (m : Int) := ⟨n.toNat, by omega⟩
        go_wp2
        go_loopw [13] (fun i wr => ∃ (k : Nat) (ad : Option Addr) (sv : Value) (G : Option Nat), k ≤ m ∧ i = .int .i64 k ∧ BldIs wr bb ad sv G ((List.range k).map (charL c)) ∧ Below w.heap.size w wr ∧ (∀ g, G = some g → w.heap.size ≤ g) ∧ (G = none ↔ k = 0) ∧ Blk wr w.heap.size 85 [.int .u64 c.1, .int .u64 c.2]) (fun i _ => m - (intOf i).toNat)
        case atStart => exact ⟨0, none, _, none, by omega, rfl, hB0, hbX, fun g hg => (by cases hg), by simp, bzX⟩
        case round =>
          obtain ⟨k, ad, sv, G, hk, rfl, hB, hbe, hg, hgn, hC⟩ := hrel
          have hbs := hbe.size
          by_cases hlt : k < m
          · have hk1 : (k : Int) < m := by omega
            have hk0 : (0 : Int) ≤ (k : Int) := by omega
            have hgc : G ≠ some w.heap.size := fun e => by
              obtain ⟨-, ⟨-, -, h2⟩ | ⟨g', cap, cur, -, h2, h3, -⟩⟩ := hB.row
              · rw [e] at h2; cases h2
              · rw [e] at h2; cases h2
                unfold Blk at hC; rw [hC] at h3; cases h3
            have c0 := hC.cell 0
            have c1 := hC.cell 1
            have zc := hC.lt
            simp only [List.getElem?_cons_zero, List.getElem?_cons_succ] at c0 c1
            have g1 := bit_and hc.1 (show k < 64 by omega)
            have g2 := bit_and hc.2 (show k < 64 by omega)
            have hle : ((List.range k).map (charL c)).length ≤ 10000 := by simp; omega
            have W1 := writeByte_any hB hle (charL c k)
            clear hgn hX0
            by_cases t1 : Nat.testBit c.1 k = true
            · rw [if_pos t1] at g1
              by_cases t2 : Nat.testBit c.2 k = true
              · rw [if_pos t2] at g2
                have e : ((charL c k).toNat : Int) = 49 := by unfold charL; rw [if_pos t1, if_pos t2]; rfl
                rw [e] at W1
                clear t1 t2 e
                go_wp2_with (go_at_call 121; refine W1.mono ?_; rintro e w2 ⟨rfl, sv', G', hB2, st2⟩)
                have hbl := hB2.b.lt
                go_roundw
                case rel =>
                  refine ⟨k + 1, _, sv', some G', by omega, by go_num, by rw [range_snoc]; exact hB2, ?_, ?_, ?_, ?_⟩
                  · exact hbe.trans (st2.below (fun q hq => by
                      simp only [List.mem_cons] at hq
                      rcases hq with rfl | hq
                      · omega
                      · exact hg q (by simpa using hq)) hbs)
                  · rintro g' hg'
                    cases hg'
                    rcases st2.fresh G' (by simp) with h5 | h5
                    · simp only [List.mem_cons] at h5
                      rcases h5 with h5 | h5
                      · omega
                      · exact hg G' (by simpa using h5)
                    · omega
                  · simp
                  · exact hC.keep (st2.block _ hC.lt (fun hm => by
                      simp only [List.mem_cons] at hm
                      rcases hm with h5 | h5
                      · omega
                      · exact hgc (by simpa using h5)))
                case measure => first | (simp [intOf]; done) | (simp [intOf]; omega)
              · rw [if_neg t2] at g2
                have e : ((charL c k).toNat : Int) = 48 := by unfold charL; rw [if_pos t1, if_neg t2]; rfl
                rw [e] at W1
                clear t1 t2 e
                go_wp2_with (go_at_call 121; refine W1.mono ?_; rintro e w2 ⟨rfl, sv', G', hB2, st2⟩)
                have hbl := hB2.b.lt
                go_roundw
                case rel =>
                  refine ⟨k + 1, _, sv', some G', by omega, by go_num, by rw [range_snoc]; exact hB2, ?_, ?_, ?_, ?_⟩
                  · exact hbe.trans (st2.below (fun q hq => by
                      simp only [List.mem_cons] at hq
                      rcases hq with rfl | hq
                      · omega
                      · exact hg q (by simpa using hq)) hbs)
                  · rintro g' hg'
                    cases hg'
                    rcases st2.fresh G' (by simp) with h5 | h5
                    · simp only [List.mem_cons] at h5
                      rcases h5 with h5 | h5
                      · omega
                      · exact hg G' (by simpa using h5)
                    · omega
                  · simp
                  · exact hC.keep (st2.block _ hC.lt (fun hm => by
                      simp only [List.mem_cons] at hm
                      rcases hm with h5 | h5
                      · omega
                      · exact hgc (by simpa using h5)))
                case measure => first | (simp [intOf]; done) | (simp [intOf]; omega)
            · rw [if_neg t1] at g1
              have e : ((charL c k).toNat : Int) = 42 := by unfold charL; rw [if_neg t1]; rfl
              rw [e] at W1
              clear t1 e
              go_wp2_with (go_at_call 121; refine W1.mono ?_; rintro e w2 ⟨rfl, sv', G', hB2, st2⟩)
              have hbl := hB2.b.lt
              go_roundw
              case rel =>
                refine ⟨k + 1, _, sv', some G', by omega, by go_num, by rw [range_snoc]; exact hB2, ?_, ?_, ?_, ?_⟩
                · exact hbe.trans (st2.below (fun q hq => by
                    simp only [List.mem_cons] at hq
                    rcases hq with rfl | hq
                    · omega
                    · exact hg q (by simpa using hq)) hbs)
                · rintro g' hg'
                  cases hg'
                  rcases st2.fresh G' (by simp) with h5 | h5
                  · simp only [List.mem_cons] at h5
                    rcases h5 with h5 | h5
                    · omega
                    · exact hg G' (by simpa using h5)
                  · omega
                · simp
                · exact hC.keep (st2.block _ hC.lt (fun hm => by
                    simp only [List.mem_cons] at hm
                    rcases hm with h5 | h5
                    · omega
                    · exact hgc (by simpa using h5)))
              case measure => first | (simp [intOf]; done) | (simp [intOf]; omega)
          · have hk1 : ¬ (k : Int) < m := by omega
            have ek : k = cntV (m : Int) := by unfold cntV; omega
            have ST := string_any hB (B := w.heap.size) (by omega) hg hbs (by rw [hgn]; simp)
            rw [ek] at ST
            clear hX0 ek
            go_wp2_with (go_at_call 122; refine ST.mono ?_; rintro e w2 ⟨rfl, hb2⟩)
            go_returns
            exact Pure.of (by rw [HT.out]; rfl) (hbe.trans hb2)
  · have hm' : mayC c = false := by simpa using hm
    rw [hm'] at M
    go_wp2_with (go_at_call 58; refine (M _).mono ?_; rintro e w' ⟨rfl, m1, d1, rfl⟩)
    go_returns
    exact Pure.of (by unfold textV; rw [if_neg hm]; rfl) (by (repeat' (first | (with_reducible exact hbV) | (with_reducible exact Below.refl _ _) | (with_reducible refine Below.ext_mk ?_ ?_ _ _) | (with_reducible refine Below.alloc ?_ ?_ _) | (with_reducible refine Below.drew ?_) | (with_reducible refine Below.setCell ?_ ?_ _) | go_size)))
end Go.Proofs.Ytboekafmplomhaa
set_option linter.unusedVariables false
set_option linter.unusedSimpArgs false
namespace Go.Proofs.Ytboekafmplomhaa
open Go.RowKit

def gy (c : Bool) (v y : Value) : Value := if c then v else y
theorem gy_true (v y : Value) : gy true v y = v := rfl
theorem gy_false (v y : Value) : gy false v y = y := rfl
theorem up_other {L : Array Bool} (k j : Nat) (h : k ≠ j) : (L.setIfInBounds k true).getD j false = L.getD j false := getD_set_ne false h

theorem not_upC {ops : Array Oper} {L : Array Bool} {i k : Nat} (hd : Down .any ops L) (hk : k ∈ deps .any ops i) (h : L.getD k true = false) : L.getD i false = false := by
  cases hc : L.getD i false with
  | false => rfl
  | true =>
    have := hd i hc k hk
    rw [getD_false_of h] at this; cases this

/-- The list, one cube longer, at the list's new row. -/
structure CvE (Z : World) (p : Nat) (F : List Nat) (S4 : Sto) (G : Option Nat) (l : List Cu) (lb : Nat) (w : World) (v' : Value) : Prop where
  ex : ∃ (F4 : List Nat) (G' : Nat), StoIs w p F4 S4 ∧ RowIs w v' (some G') 85 2 l.length (cus l) ∧ (G = some G' ∨ (Z.heap.size ≤ G' ∧ G' < w.heap.size)) ∧ G' ∉ F4 ∧ StoStep Z w (F ++ G.toList) (F4 ++ [G'])
  form : ∃ a n c, v' = .slice a n c

/-- The worlds of the round's region. -/
def CvR (Z : World) (p : Nat) (F : List Nat) (S4 : Sto) (x' : Cu) (G : Option Nat) (l : List Cu) (lb : Nat) (b : Nat → Bool) (w : World) (q : Nat) (v' : Value) : Prop :=
  (b 4 = false ∧ b 5 = false ∧ b 6 = false ∧ b 7 = false ∧ Below Z.heap.size Z w) ∨
  (b 4 = true ∧ b 5 = false ∧ b 6 = false ∧ b 7 = false ∧ ∃ F4, StoIs w p F4 S4 ∧ StoStep Z w F F4) ∨
  (b 4 = true ∧ b 5 = true ∧ b 6 = false ∧ b 7 = false ∧ ∃ w1 F4, StoIs w1 p F4 S4 ∧ StoStep Z w1 F F4 ∧ w = w1.alloc (.cells #[.int .u64 x'.1, .int .u64 x'.2] 85) ∧ q = w1.heap.size) ∨
  (b 4 = true ∧ b 5 = true ∧ b 6 = true ∧ b 7 = false ∧ CvE Z p F S4 G l lb w v') ∨
  (b 4 = true ∧ b 5 = true ∧ b 6 = true ∧ b 7 = true ∧ ∃ w1, CvE Z p F S4 G l lb w1 v' ∧ w = w1.setCell ⟨lb, 0, none⟩ v')
theorem CvR.congr {Z : World} {p : Nat} {F : List Nat} {S4 : Sto} {x' : Cu} {G : Option Nat} {l : List Cu} {lb : Nat} {b b' : Nat → Bool} {w : World} {q : Nat} {v' : Value} (h : CvR Z p F S4 x' G l lb b w q v')
    (h4 : b' 4 = b 4) (h5 : b' 5 = b 5) (h6 : b' 6 = b 6) (h7 : b' 7 = b 7) : CvR Z p F S4 x' G l lb b' w q v' := by
  unfold CvR at *
  rw [h4, h5, h6, h7]
  exact h
/-- While the list's box is not turned, what lay beside the store and the row lies. -/
theorem CvR.same {Z : World} {p : Nat} {F : List Nat} {S4 : Sto} {x' : Cu} {G : Option Nat} {l : List Cu} {lb : Nat} {b : Nat → Bool} {w : World} {q : Nat} {v' : Value} (h : CvR Z p F S4 x' G l lb b w q v')
    (h7 : b 7 = false) {k : Nat} (hk : k < Z.heap.size) (hn : k ∉ F) (hg : G ≠ some k) : w.heap[k]? = Z.heap[k]? ∧ k < w.heap.size := by
  rcases h with ⟨-, -, -, -, hb⟩ | ⟨-, -, -, -, F4, -, st⟩ | ⟨-, -, -, -, w1, F4, -, st, rfl, -⟩ | ⟨-, -, -, -, hE⟩ | ⟨-, -, -, h, -⟩
  · exact ⟨hb.block k hk, Nat.lt_of_lt_of_le hk hb.size⟩
  · exact ⟨st.block k hk hn, Nat.lt_of_lt_of_le hk st.size⟩
  · have := st.size
    exact ⟨(Below.heap_alloc _ _ _ (by omega)).trans (st.block k hk hn), by simp; omega⟩
  · obtain ⟨F4, G', -, -, -, -, st⟩ := hE.ex
    refine ⟨st.block k hk (fun hm => ?_), Nat.lt_of_lt_of_le hk st.size⟩
    rcases List.mem_append.1 hm with h1 | h1
    · exact hn h1
    · cases G with
      | none => cases h1
      | some g => simp at h1; exact hg (by rw [h1])
  · rw [h7] at h; cases h

/-- The slots of the round. -/
def cvAct (x0 x1 x2 x3 x4 x5 x6 x7 x8 x9 x10 x11 x12 x13 x14 x15 x16 x17 x18 x19 x20 x21 x22 x23 x24 x25 y26 y27 y28 y29 y30 y31 y32 z33 z34 z35 z36 z37 z38 z39 z40 z41 z42 z43 z44 z45 z46 z47 z48 z49 : Value) (ds : List Deferred) (b : Nat → Bool) (v26 v27 v28 v29 v30 v31 v32 : Value) : Act :=
  { tmps := #[x0, x1, x2, x3, x4, x5, x6, x7, x8, x9, x10, x11, x12, x13, x14, x15, x16, x17, x18, x19, x20, x21, x22, x23, x24, x25, gy (b 0) v26 y26, gy (b 1) v27 y27, gy (b 2) v28 y28, gy (b 3) v29 y29, gy (b 4) v30 y30, gy (b 5) v31 y31, gy (b 6) v32 y32, z33, z34, z35, z36, z37, z38, z39, z40, z41, z42, z43, z44, z45, z46, z47, z48, z49], defers := ds }

/-- What holds while Cover works. -/
structure CvI (w : World) (F : List Nat) (p sb ab lb : Nat) (a : Int) (S1 : Sto) (F1 : List Nat) (l : List Cu) (sv : Value) (G : Option Nat) (Ds : List Nat) (W : World) : Prop where
  st : StoIs W p F1 S1
  gs : Gs S1
  step : StoStep w W F F1
  bs : Blk W sb 23 [.pointer (some ⟨p, 0, none⟩)]
  ba : Blk W ab 3 [.int .i64 a]
  bl : Blk W lb 80 [sv]
  row : RowIs W sv G 85 2 l.length (cus l)
  gold : ∀ g, G = some g → w.heap.size ≤ g
  ns : sb ∉ F1
  na : ab ∉ F1
  nl : lb ∉ F1
  ng : ∀ g, G = some g → g ∉ F1
  nd : Ds.Nodup
  marks : ∀ D ∈ Ds, W.heap[D]? = some (.deferred (some [])) ∧ w.heap.size ≤ D ∧ D ∉ F1
  cu : ∀ c ∈ l, CuOk c
/-- Its own blocks. -/
def CvK (sb ab lb : Nat) (G : Option Nat) (Ds F1 : List Nat) : List Nat := sb :: ab :: lb :: (G.toList ++ (Ds ++ F1))
theorem CvI.lt {w : World} {F : List Nat} {p sb ab lb : Nat} {a : Int} {S1 : Sto} {F1 : List Nat} {l : List Cu} {sv : Value} {G : Option Nat} {Ds : List Nat} {W : World} (h : CvI w F p sb ab lb a S1 F1 l sv G Ds W) :
    ∀ k ∈ CvK sb ab lb G Ds F1, k < W.heap.size := by
  intro k hk
  simp only [CvK, List.mem_cons, List.mem_append] at hk
  rcases hk with rfl | rfl | rfl | hk | hk | hk
  · exact h.bs.lt
  · exact h.ba.lt
  · exact h.bl.lt
  · cases G with
    | none => cases hk
    | some g => simp at hk; subst hk; exact h.row.lt _ rfl
  · exact (Array.getElem?_eq_some_iff.1 (h.marks k hk).1).1
  · exact h.st.lt k hk
/-- Other blocks turn. -/
theorem CvI.keep {w : World} {F : List Nat} {p sb ab lb : Nat} {a : Int} {S1 : Sto} {F1 : List Nat} {l : List Cu} {sv : Value} {G : Option Nat} {Ds : List Nat} {W W' : World} (h : CvI w F p sb ab lb a S1 F1 l sv G Ds W)
    {B B' : List Nat} (st : StoStep W W' B B') (hB : ∀ q ∈ B, w.heap.size ≤ q ∧ q ∉ CvK sb ab lb G Ds F1) : CvI w F p sb ab lb a S1 F1 l sv G Ds W' := by
  have hk : ∀ k ∈ CvK sb ab lb G Ds F1, W'.heap[k]? = W.heap[k]? := fun k hk => st.block k (h.lt k hk) (fun hm => (hB k hm).2 hk)
  have hs := h.step
  refine ⟨h.st.keep (fun k hm => hk k (by simp [CvK, hm])), h.gs, ⟨st.os.trans hs.os, st.tape.trans hs.tape, st.output.trans hs.output, Nat.le_trans hs.size st.size, fun k h1 h2 => ?_, fun k hm => ?_⟩,
    h.bs.keep (hk _ (by simp [CvK])), h.ba.keep (hk _ (by simp [CvK])), h.bl.keep (hk _ (by simp [CvK])), h.row.keep (fun g hg => hk g (by simp [CvK, hg])), h.gold, h.ns, h.na, h.nl, h.ng, h.nd, fun D hD => ⟨(hk D (by simp [CvK, hD])).trans (h.marks D hD).1, (h.marks D hD).2⟩, h.cu⟩
  · exact (st.block k (Nat.lt_of_lt_of_le h1 hs.size) (fun hm => by have := (hB k hm).1; omega)).trans (hs.block k h1 h2)
  · exact (hs.fresh k hm).imp id (fun q => ⟨q.1, Nat.lt_of_lt_of_le q.2 st.size⟩)
/-- A call turns the store. -/
theorem CvI.turn {w : World} {F : List Nat} {p sb ab lb : Nat} {a : Int} {S1 : Sto} {F1 : List Nat} {l : List Cu} {sv : Value} {G : Option Nat} {Ds : List Nat} {W W' : World} (h : CvI w F p sb ab lb a S1 F1 l sv G Ds W)
    {S4 : Sto} {F4 : List Nat} (h4 : StoIs W' p F4 S4) (g4 : Gs S4) (st : StoStep W W' F1 F4) : CvI w F p sb ab lb a S4 F4 l sv G Ds W' := by
  have kk : ∀ k, k < W.heap.size → k ∉ F1 → W'.heap[k]? = W.heap[k]? ∧ k ∉ F4 := fun k h1 h2 => ⟨st.block k h1 h2, st.keeps h1 h2⟩
  exact ⟨h4, g4, h.step.trans st, h.bs.keep (kk _ h.bs.lt h.ns).1, h.ba.keep (kk _ h.ba.lt h.na).1, h.bl.keep (kk _ h.bl.lt h.nl).1, h.row.keep (fun g hg => (kk g (h.row.lt g hg) (h.ng g hg)).1), h.gold,
    (kk _ h.bs.lt h.ns).2, (kk _ h.ba.lt h.na).2, (kk _ h.bl.lt h.nl).2, fun g hg => (kk g (h.row.lt g hg) (h.ng g hg)).2, h.nd, fun D hD => by
      obtain ⟨m1, m2, m3⟩ := h.marks D hD
      have := kk D (Array.getElem?_eq_some_iff.1 m1).1 m3
      exact ⟨this.1.trans m1, m2, this.2⟩, h.cu⟩
/-- One mark more. -/
theorem CvI.mark {w : World} {F : List Nat} {p sb ab lb : Nat} {a : Int} {S1 : Sto} {F1 : List Nat} {l : List Cu} {sv : Value} {G : Option Nat} {Ds : List Nat} {W : World} (h : CvI w F p sb ab lb a S1 F1 l sv G Ds W)
    {D : Nat} (hD : W.heap[D]? = some (.deferred (some []))) (hw : w.heap.size ≤ D) (hn : D ∉ CvK sb ab lb G Ds F1) : CvI w F p sb ab lb a S1 F1 l sv G (D :: Ds) W :=
  ⟨h.st, h.gs, h.step, h.bs, h.ba, h.bl, h.row, h.gold, h.ns, h.na, h.nl, h.ng, List.nodup_cons.2 ⟨fun hm => hn (by simp [CvK, hm]), h.nd⟩, fun E hE => by
    rcases List.mem_cons.1 hE with rfl | hE
    · exact ⟨hD, hw, fun hm => hn (by simp [CvK, hm])⟩
    · exact h.marks E hE, h.cu⟩
theorem pathsN_ne {S : Sto} (hW : Wf S) : ∀ (n : Nat) (a : Int) (c : Cu), S.has a → a ≠ 0 → a < n → pathsN S n a c ≠ []
  | 0, a, c, h, h0, hn => by have := h.1; omega
  | n + 1, a, c, h, h0, hn => by
    have hr : rightOf S a = a := by unfold rightOf; rw [if_neg (by have := h.1; have := h.2; omega)]
    by_cases h2 : a < 2
    · have : a = 1 := by have := h.1; omega
      subst this
      have : (atV S 1).2 = false := by unfold atV; rw [hr]; rfl
      rw [pathsN, this]
      simp
    · obtain ⟨i, m, rfl, hm⟩ := has_node h h2
      have ha : atV S ((i : Int) + 2) = (m, true) := by
        unfold atV
        rw [hr, if_neg h2, show ((i : Int) + 2 - 2).toNat = i by omega, hm]
        rfl
      have hch := hW.child hm
      have ok := hW.node i m hm
      rw [pathsN, ha]
      simp only [↓reduceIte]
      intro he
      obtain ⟨e1, e2⟩ := List.append_eq_nil_iff.1 he
      have hlo := ok.lo
      have hhi := ok.hi
      have hne := ok.ne
      by_cases hz : m.2.1 = 0
      · exact pathsN_ne hW n m.2.2 _ hch.2 (by omega) (by omega) e2
      · exact pathsN_ne hW n m.2.1 _ hch.1 hz (by omega) e1
theorem pathsL_ne {S : Sto} (hW : Wf S) {a : Int} (h : S.has a) (h0 : a ≠ 0) : pathsL S a ≠ [] := pathsN_ne hW _ a _ h h0 (by have := h.2; omega)
theorem CvI.gne {w : World} {F : List Nat} {p sb ab lb : Nat} {a : Int} {S1 : Sto} {F1 : List Nat} {l : List Cu} {sv : Value} {G : Option Nat} {Ds : List Nat} {W : World} (h : CvI w F p sb ab lb a S1 F1 l sv G Ds W) :
    (G ≠ some sb ∧ G ≠ some ab ∧ G ≠ some lb ∧ ∀ D ∈ Ds, G ≠ some D) ∧ (∀ D ∈ Ds, D ≠ sb ∧ D ≠ ab ∧ D ≠ lb) := by
  have hr : ∀ g, G = some g → ∃ cur, W.heap[g]? = some (.cells cur 85 (0, 0)) := fun g hg => by
    obtain ⟨-, ⟨-, -, h2⟩ | ⟨g', cap, cur, -, h2, h3, -⟩⟩ := h.row
    · rw [hg] at h2; cases h2
    · rw [hg] at h2; cases h2; exact ⟨cur, h3⟩
  refine ⟨⟨fun e => ?_, fun e => ?_, fun e => ?_, fun D hD e => ?_⟩, fun D hD => ⟨?_, ?_, ?_⟩⟩
  · obtain ⟨cur, h1⟩ := hr _ e; have h2 := h.bs; unfold Blk at h2; rw [h2] at h1; cases h1
  · obtain ⟨cur, h1⟩ := hr _ e; have h2 := h.ba; unfold Blk at h2; rw [h2] at h1; cases h1
  · obtain ⟨cur, h1⟩ := hr _ e; have h2 := h.bl; unfold Blk at h2; rw [h2] at h1; cases h1
  · obtain ⟨cur, h1⟩ := hr _ e; have h2 := (h.marks D hD).1; rw [h2] at h1; cases h1
  · rintro rfl; have h1 := (h.marks _ hD).1; have h2 := h.bs; unfold Blk at h2; rw [h2] at h1; cases h1
  · rintro rfl; have h1 := (h.marks _ hD).1; have h2 := h.ba; unfold Blk at h2; rw [h2] at h1; cases h1
  · rintro rfl; have h1 := (h.marks _ hD).1; have h2 := h.bl; unfold Blk at h2; rw [h2] at h1; cases h1
/-- One cube more in the list. -/
theorem CvI.append {w : World} {F : List Nat} {p sb ab lb : Nat} {a : Int} {S1 S4 : Sto} {F1 : List Nat} {l : List Cu} {sv : Value} {G : Option Nat} {Ds : List Nat} {W w1 : World} {x' : Cu} {v' : Value} (h : CvI w F p sb ab lb a S1 F1 l sv G Ds W)
    (hE : CvE W p F1 S4 G (l ++ [x']) lb w1 v') (g4 : Gs S4) (hx : CuOk x') (hwl : w.heap.size ≤ lb) (hsl : sb ≠ lb) (hal : ab ≠ lb) :
    ∃ F4 G', CvI w F p sb ab lb a S4 F4 (l ++ [x']) v' (some G') Ds (w1.setCell ⟨lb, 0, none⟩ v') ∧
      ∀ q, q < W.heap.size → q ∉ CvK sb ab lb G Ds F1 → q ∉ CvK sb ab lb (some G') Ds F4 ∧ (w1.setCell ⟨lb, 0, none⟩ v').heap[q]? = W.heap[q]? := by
  obtain ⟨F4, G', h4, row, alt, ng, st⟩ := hE.ex
  obtain ⟨⟨gn1, gn2, gn3, gn4⟩, dn⟩ := h.gne
  have hin : ∀ k, k < W.heap.size → k ∉ F1 → G ≠ some k → w1.heap[k]? = W.heap[k]? ∧ k ∉ F4 ∧ k ≠ G' := fun k h1 h2 h3 => by
    have hk : k ∉ F1 ++ G.toList := fun hm => by
      rcases List.mem_append.1 hm with hm | hm
      · exact h2 hm
      · cases G with
        | none => cases hm
        | some g => simp at hm; exact h3 (by rw [hm])
    have h5 := st.keeps h1 hk
    exact ⟨st.block k h1 hk, fun hm => h5 (by simp [hm]), fun e => h5 (by simp [e])⟩
  have hl := hin lb h.bl.lt h.nl gn3
  have hs := hin sb h.bs.lt h.ns gn1
  have ha := hin ab h.ba.lt h.na gn2
  have hd : ∀ D ∈ Ds, w1.heap[D]? = W.heap[D]? ∧ D ∉ F4 ∧ D ≠ G' := fun D hD => by
    obtain ⟨m1, m2, m3⟩ := h.marks D hD
    exact hin D (Array.getElem?_eq_some_iff.1 m1).1 m3 (gn4 D hD)
  have hws := h.step.size
  have stw : StoStep w w1 F F4 := by
    refine ⟨st.os.trans h.step.os, st.tape.trans h.step.tape, st.output.trans h.step.output, Nat.le_trans hws st.size, fun k h1 h2 => ?_, fun k hm => ?_⟩
    · refine (st.block k (by omega) (fun hm => ?_)).trans (h.step.block k h1 h2)
      rcases List.mem_append.1 hm with hm | hm
      · rcases h.step.fresh k hm with h5 | h5
        · exact h2 h5
        · omega
      · cases G with
        | none => cases hm
        | some g => simp at hm; have := h.gold g rfl; omega
    · rcases st.fresh k (List.mem_append_left _ hm) with h5 | h5
      · rcases List.mem_append.1 h5 with h5 | h5
        · rcases h.step.fresh k h5 with h6 | h6
          · exact .inl h6
          · exact .inr ⟨h6.1, Nat.lt_of_lt_of_le h6.2 st.size⟩
        · cases G with
          | none => cases h5
          | some g =>
            simp at h5
            subst h5
            exact .inr ⟨h.gold k rfl, Nat.lt_of_lt_of_le (h.row.lt k rfl) st.size⟩
      · exact .inr ⟨by omega, h5.2⟩
  refine ⟨F4, G', ⟨h4.poke hl.2.1 0 _, g4, stw.poke hwl 0 _, (h.bs.keep hs.1).far (fun e => hsl e.symm) 0 _, (h.ba.keep ha.1).far (fun e => hal e.symm) 0 _, (h.bl.keep hl.1).set_ 0 _, row.keep (fun g hg => by cases hg; exact Below.heap_setCell _ _ _ _ (fun e => hl.2.2 e.symm)),
    fun g hg => ?_, hs.2.1, ha.2.1, hl.2.1, fun g hg => by cases hg; exact ng, h.nd, fun D hD => ⟨(Below.heap_setCell _ _ _ _ (dn D hD).2.2).trans ((hd D hD).1.trans (h.marks D hD).1), (h.marks D hD).2.1, (hd D hD).2.1⟩, fun c hc => ?_⟩, fun q hq hn => ?_⟩
  · cases hg
    rcases alt with e | e
    · exact h.gold G' e
    · omega
  · rcases List.mem_append.1 hc with hc | hc
    · exact h.cu c hc
    · simp at hc; subst hc; exact hx
  · simp only [CvK, List.mem_cons, List.mem_append, not_or, Option.mem_toList] at hn ⊢
    have hq2 := hin q hq hn.2.2.2.2.2 (fun e => hn.2.2.2.1 e)
    refine ⟨⟨hn.1, hn.2.1, hn.2.2.1, fun e => hq2.2.2 (by cases e; rfl), hn.2.2.2.2.1, hq2.2.1⟩, (Below.heap_setCell _ _ _ _ hn.2.2.1).trans hq2.1⟩
/-- The marks among the deferred calls. -/
def markD (D : Nat) : Deferred := { target := .collected D, args := #[] }
theorem leaves_marks {P : Program} {fn : Func} {tmps : Array Value} {R : Ending → World → Prop} : ∀ (Ds : List Nat) (W : World), Ds.Nodup → (∀ D ∈ Ds, W.heap[D]? = some (.deferred (some []))) →
    (∀ W', StoStep W W' Ds Ds → ∃ v, (results fn tmps).run P W' = .ok v W' ∧ R (.returned v) W') → LeavesInM Fence.wide 1 P fn tmps R (Ds.map markD) .returning W
  | [], W, _, _, h => h W (StoStep.refl _ _)
  | D :: Ds, W, hn, hm, h => by
    obtain ⟨h1, h2⟩ := List.nodup_cons.1 hn
    refine ⟨by simp, .inl ⟨D, _, rfl, run_takeDeferred (hm D (by simp)), leaves_marks Ds _ h2 (fun E hE => ?_) (fun W' st => ?_)⟩⟩
    · exact (World.putObj_heap_other (by rintro rfl; exact h1 hE)).trans (hm E (by simp [hE]))
    · refine h W' ?_
      have s1 : StoStep W (W.putObj D (.deferred none)) (D :: Ds) (D :: Ds) := step_putObj W (by simp) _
      exact ⟨st.os.trans s1.os, st.tape.trans s1.tape, st.output.trans s1.output, Nat.le_trans s1.size st.size, fun k hk hq => (st.block k (by have := s1.size; omega) (fun hm => hq (by simp [hm]))).trans (s1.block k hk hq), fun k hk => .inl hk⟩
end Go.Proofs.Ytboekafmplomhaa
set_option linter.unusedVariables false
set_option linter.unusedSimpArgs false
namespace Go.Proofs.Ytboekafmplomhaa
open Go.RowKit

def coverV (S : Sto) (a most : Int) : Sto × List Cu × Bool :=
  if (coverN a (heldV most) ((heldV most).toNat + 1) (andV S a 1).1 (andV S a 1).2 []).2.2 then
    if (coverN a (heldV most) ((heldV most).toNat + 1) (andV S a 1).1 (andV S a 1).2 []).1.full then ((coverN a (heldV most) ((heldV most).toNat + 1) (andV S a 1).1 (andV S a 1).2 []).1, [], false)
    else coverN a (heldV most) ((heldV most).toNat + 1) (andV S a 1).1 (andV S a 1).2 []
  else coverN a (heldV most) ((heldV most).toNat + 1) (andV S a 1).1 (andV S a 1).2 []

/-- How many cubes may come yet. -/
def covM (H lb : Nat) (w : World) : Nat := match w.cell? ⟨lb, 0, none⟩ with | some (.slice _ n _) => H + 1 - n | _ => 0
theorem covM_is {H lb : Nat} {w : World} {a : Option Addr} {n c : Nat} (h : w.cell? ⟨lb, 0, none⟩ = some (.slice a n c)) : covM H lb w = H + 1 - n := by
  unfold covM
  rw [h]
/-- What Cover tells. -/
def CoverAt (w : World) (p : Nat) (F : List Nat) (R : Sto × List Cu × Bool) (e : Ending) (w' : World) : Prop :=
  ∃ sv G F', e = .returned (.tuple #[sv, .bool R.2.2]) ∧ RowIs w' sv G 85 2 R.2.1.length (cus R.2.1) ∧ (∀ g, G = some g → w.heap.size ≤ g ∧ g ∉ F') ∧ StoIs w' p F' R.1 ∧ Gs R.1 ∧ StoStep w w' F F'

theorem andV_has {S : Sto} (h : Gs S) (x y : Int) : (andV S x y).1.has (andV S x y).2 := (iteV_ok h.1 h.2 (below64 h.1) (by omega) x y 0).has

theorem cover_leave {w W : World} {p : Nat} {F : List Nat} {a : Int} {S1 : Sto} {F1 : List Nat} {l : List Cu} {la : Option Addr} {n lc : Nat} {G : Option Nat} {Ds : List Nat} {b : Bool}
    (C : CvI w F p w.heap.size (w.heap.size + 1) (w.heap.size + 1 + 1) a S1 F1 l (.slice la n lc) G Ds W) (R : Sto × List Cu × Bool) (hR : R = (S1, l, b)) (x0 x1 x2 x3 x4 x5 x8 x9 x10 x11 x12 x13 x14 x15 x16 x17 x18 x19 x20 x21 x22 x23 x24 x25 x26 x27 x28 x29 x30 x31 x32 x33 x34 x35 x36 x37 x38 x39 x40 x41 x42 x43 x44 x45 x46 x47 x48 x49 : Value) :
    bodyPostM Fence.wide 1 Try.prog Try.f55 (CoverAt w p F R) .ret { tmps := #[x0, x1, x2, x3, x4, x5, .pointer (some ⟨w.heap.size + 1 + 1, 0, none⟩), .bool b, x8, x9, x10, x11, x12, x13, x14, x15, x16, x17, x18, x19, x20, x21, x22, x23, x24, x25, x26, x27, x28, x29, x30, x31, x32, x33, x34, x35, x36, x37, x38, x39, x40, x41, x42, x43, x44, x45, x46, x47, x48, x49], defers := Ds.map markD } W := by
  subst hR
  refine leaves_marks Ds W C.nd (fun D hD => (C.marks D hD).1) (fun Z st => ?_)
  have hN : ∀ D ∈ Ds, w.heap.size ≤ D ∧ D ∉ CvK w.heap.size (w.heap.size + 1) (w.heap.size + 1 + 1) G [] F1 := fun D hD => by
    obtain ⟨m1, m2, m3⟩ := C.marks D hD
    refine ⟨m2, fun hm => ?_⟩
    simp only [CvK, List.mem_cons, List.mem_append, List.not_mem_nil, false_or] at hm
    rcases hm with e | e | e | hm | hm
    · have := C.bs; rw [← e] at this; unfold Blk at this; rw [this] at m1; cases m1
    · have := C.ba; rw [← e] at this; unfold Blk at this; rw [this] at m1; cases m1
    · have := C.bl; rw [← e] at this; unfold Blk at this; rw [this] at m1; cases m1
    · obtain ⟨-, ⟨-, -, hg⟩ | ⟨g, cap, cur, -, hg, h3, -⟩⟩ := C.row
      · rw [hg] at hm; cases hm
      · rw [hg] at hm; simp at hm; subst hm; rw [h3] at m1; cases m1
    · exact m3 hm
  have C2 : CvI w F p w.heap.size (w.heap.size + 1) (w.heap.size + 1 + 1) a S1 F1 l (.slice la n lc) G [] Z := CvI.keep ⟨C.st, C.gs, C.step, C.bs, C.ba, C.bl, C.row, C.gold, C.ns, C.na, C.nl, C.ng, List.nodup_nil, (fun D hD => by cases hD), C.cu⟩ st hN
  have c0 := C2.bl.cell 0
  simp only [List.getElem?_cons_zero] at c0
  refine ⟨.tuple #[.slice la n lc, .bool b], ?_, _, G, F1, rfl, C2.row, fun g hg => ⟨C2.gold g hg, C2.ng g hg⟩, C2.st, C2.gs, C2.step⟩
  simp [results, Try.results55, go_sem, c0]

set_option maxHeartbeats 8000000 in
set_option maxRecDepth 4000 in
theorem ccover_live {w : World} {p : Nat} {F : List Nat} {S : Sto} (h : StoIs w p F S) (hG : Gs S) (a most : Int) :
    Calls Try.prog 55 #[.pointer (some ⟨p, 0, none⟩), .int .i64 a, .int .i64 most] w (CoverAt w p F (coverV S a most)) := by
  have hFu := hid (fun W F S (h : StoIs W p F S) (hG : Gs S) => full_any h (by have := hG.1.cap2; omega))
  have hNo := hid (fun W F S (h : StoIs W p F S) (hG : Gs S) (v : Int) => not_call h hG.1 v)
  have hAn := hid (fun W F S (h : StoIs W p F S) (hG : Gs S) (x y : Int) => and_call h hG.1 x y)
  unfold Tells at hNo hAn
  obtain ⟨TGT, hT⟩ : ∃ T, T = coverN a (heldV most) ((heldV most).toNat + 1) (andV S a 1).1 (andV S a 1).2 [] := ⟨_, rfl⟩
  have hC : Hid (coverV S a most = if TGT.2.2 then (if TGT.1.full then (TGT.1, [], false) else TGT) else TGT) := hid (by rw [hT]; rfl)
  refine calls_of_marks Try.func55 rfl ?_
  simp only [Try.ntmps55, List.size_toArray, List.length_cons, List.length_nil, Nat.reduceAdd, Nat.reduceSub, Array.replicate_succ, Array.replicate_zero, List.push_toArray, List.append_toArray, List.nil_append, List.cons_append]
  go_upto_region 1 with (fail)
  refine wp_gen (fun V hV => ?_)
  have hbV : Below w.heap.size w V := by rw [hV]; (repeat' (first | (with_reducible exact Below.refl _ _) | (with_reducible refine Below.ext_mk ?_ ?_ _ _) | (with_reducible refine Below.alloc ?_ ?_ _) | (with_reducible refine Below.drew ?_) | (with_reducible refine Below.setCell ?_ ?_ _) | go_size))
  have bs : Blk V w.heap.size 23 [.pointer (some ⟨p, 0, none⟩)] := by
    rw [hV]; exact (Blk.new w 23 [.pointer (some ⟨p, 0, none⟩)]).below (by (repeat' (first | (with_reducible exact Below.refl _ _) | (with_reducible refine Below.ext_mk ?_ ?_ _ _) | (with_reducible refine Below.alloc ?_ ?_ _) | (with_reducible refine Below.drew ?_) | (with_reducible refine Below.setCell ?_ ?_ _) | go_size)))
  have ba : Blk V (w.heap.size + 1) 3 [.int .i64 a] := by
    rw [hV]
    have := Blk.new (w.alloc (.cells #[.pointer (some ⟨p, 0, none⟩)] 23)) 3 [.int .i64 a]
    rw [World.size_alloc] at this
    exact this.below (by (repeat' (first | (with_reducible exact Below.refl _ _) | (with_reducible refine Below.ext_mk ?_ ?_ _ _) | (with_reducible refine Below.alloc ?_ ?_ _) | (with_reducible refine Below.drew ?_) | (with_reducible refine Below.setCell ?_ ?_ _) | go_size)))
  have bl : Blk V (w.heap.size + 1 + 1) 80 [.slice none 0 0] := by
    rw [hV]
    have := Blk.new ((w.alloc (.cells #[.pointer (some ⟨p, 0, none⟩)] 23)).alloc (.cells #[.int .i64 a] 3)) 80 [.slice none 0 0]
    rw [World.size_alloc, World.size_alloc] at this
    exact this
  clear hV
  have nF : ∀ k, w.heap.size ≤ k → k ∉ F := fun k hk hm => by have := h.lt _ hm; omega
  have s0 := bs.cell 0
  have a0 := ba.cell 0
  simp only [List.getElem?_cons_zero] at s0 a0
  have zs := bs.lt
  have za := ba.lt
  have A1 := hAn.out V F S (h.below hbV) hG a 1
  have G1 := andV_gs hG a 1
  have H1 := andV_has hG a 1
  generalize andV S a 1 = R1 at *
  obtain ⟨S1, r1⟩ := R1
  simp only at A1 G1 H1 hT
  go_wp2_with (go_at_call 27; refine A1.mono ?_; rintro e w1 ⟨rfl, F1, hS1, st1⟩)
  have C0 : CvI w F p w.heap.size (w.heap.size + 1) (w.heap.size + 1 + 1) a S F [] (.slice none 0 0) none [] V :=
    ⟨h.below hbV, hG, StoStep.of_below hbV, bs, ba, bl, ⟨rfl, .inl ⟨rfl, rfl, rfl⟩⟩, fun g hg => (by cases hg), nF _ (by omega), nF _ (by omega), nF _ (by omega), fun g hg => (by cases hg), List.nodup_nil, fun D hD => (by cases hD), fun c hc => (by cases hc)⟩
  have C1 := C0.turn hS1 G1 st1
  have HT := hid hT
  clear hT C0 s0 a0 zs za bs ba bl A1 hS1 st1
  refine wp_loop (fun a' wr => ∃ (u9 u10 u11 u12 u13 u14 u15 u16 u17 u18 u19 u20 u21 u22 u23 u24 u25 u26 u27 u28 u29 u30 u31 u32 u33 u34 u35 u36 u37 u38 u39 u40 u41 u42 u43 u44 u45 u46 u47 u48 u49 : Value) (rest : Int) (S1 : Sto) (F1 : List Nat) (l : List Cu) (sv : Value) (G : Option Nat) (Ds : List Nat) (k : Nat), a' = { tmps := #[.pointer (some ⟨p, 0, none⟩), .int .i64 a, .int .i64 most, .pointer (some ⟨w.heap.size, 0, none⟩), .pointer (some ⟨w.heap.size + 1, 0, none⟩), undef, .pointer (some ⟨w.heap.size + 1 + 1, 0, none⟩), .bool false, .int .i64 rest, u9, u10, u11, u12, u13, u14, u15, u16, u17, u18, u19, u20, u21, u22, u23, u24, u25, u26, u27, u28, u29, u30, u31, u32, u33, u34, u35, u36, u37, u38, u39, u40, u41, u42, u43, u44, u45, u46, u47, u48, u49], defers := Ds.map markD } ∧ CvI w F p w.heap.size (w.heap.size + 1) (w.heap.size + 1 + 1) a S1 F1 l sv G Ds wr ∧ S1.has rest ∧ (l.length : Int) + k = heldV most + 1 ∧ 1 ≤ k ∧ coverN a (heldV most) k S1 rest l = TGT) (fun a' wr => covM (heldV most).toNat (w.heap.size + 1 + 1) wr) ?_ ?_
  · have hh : 0 ≤ heldV most := by unfold heldV; omega
    exact ⟨_, _, _, _, _, _, _, _, _, _, _, _, _, _, _, _, _, _, _, _, _, _, _, _, _, _, _, _, _, _, _, _, _, _, _, _, _, _, _, _, _, r1, S1, F1, [], _, none, [], (heldV most).toNat + 1, rfl, C1, H1, (by simp; omega), (by omega), HT.out.symm⟩
  · rintro a' wr ⟨u9, u10, u11, u12, u13, u14, u15, u16, u17, u18, u19, u20, u21, u22, u23, u24, u25, u26, u27, u28, u29, u30, u31, u32, u33, u34, u35, u36, u37, u38, u39, u40, u41, u42, u43, u44, u45, u46, u47, u48, u49, rest, S1, F1, l, sv, G, Ds, k, rfl, C, hr, hk, hk1, hN⟩
    have HC := hid C
    have HN := hid hN
    clear C1 HT H1 G1 hN
    obtain ⟨la, lc, rfl, hlm⟩ := C.row.form
    have c0 := C.bl.cell 0
    have s0 := C.bs.cell 0
    have a0 := C.ba.cell 0
    simp only [List.getElem?_cons_zero] at c0 s0 a0
    have zl := C.bl.lt
    have zs := C.bs.lt
    have za := C.ba.lt
    have FU := hFu.out _ _ _ C.st C.gs
    have f0 := C.bl.free 0
    have e0 := Blk.same1 C.bl
    clear C
    by_cases h0 : rest = 0
    · subst h0
      have eT : TGT = (S1, l, true) := by rw [← HN.out]; cases k <;> simp [coverN]
      cases hf : S1.full
      · rw [hf] at FU
        have hf' := hid hf
        clear hf
        go_wp2_with (go_at_call 22; refine FU.mono ?_; rintro e w' ⟨rfl, m1, d1, rfl⟩)
        exact cover_leave (HC.out.keep (B := []) (B' := []) (step_below (by (repeat' (first | (with_reducible exact Below.refl _ _) | (with_reducible refine Below.ext_mk ?_ ?_ _ _) | (with_reducible refine Below.alloc ?_ ?_ _) | (with_reducible refine Below.drew ?_) | (with_reducible refine Below.setCell ?_ ?_ _) | go_size))) (fun k hk => by cases hk)) (fun q hq => by cases hq)) _ (by rw [hC.out, eT]; simp [hf'.out]) _ _ _ _ _ _ _ _ _ _ _ _ _ _ _ _ _ _ _ _ _ _ _ _ _ _ _ _ _ _ _ _ _ _ _ _ _ _ _ _ _ _ _ _ _ _ _ _
      · rw [hf] at FU
        have hf' := hid hf
        clear hf
        go_wp2_with (go_at_call 22; refine FU.mono ?_; rintro e w' ⟨rfl, m1, d1, rfl⟩)
        have C := HC.out
        have nD : ∀ D ∈ Ds, D ≠ w.heap.size + 1 + 1 := fun D hD e => by
          have m1 := (C.marks D hD).1
          have := C.bl; rw [← e] at this; unfold Blk at this; rw [this] at m1; cases m1
        have C2 : CvI w F p w.heap.size (w.heap.size + 1) (w.heap.size + 1 + 1) a S1 F1 [] (.slice none 0 0) none Ds (wr.setCell ⟨w.heap.size + 1 + 1, 0, none⟩ (.slice none 0 0)) :=
          ⟨C.st.poke C.nl 0 _, C.gs, C.step.poke (by omega) 0 _, C.bs.far (by omega) 0 _, C.ba.far (by omega) 0 _, C.bl.set_ 0 _, ⟨rfl, .inl ⟨rfl, rfl, rfl⟩⟩, fun g hg => (by cases hg), C.ns, C.na, C.nl, fun g hg => (by cases hg), C.nd,
            fun D hD => ⟨(Below.heap_setCell _ _ _ _ (nD D hD)).trans (C.marks D hD).1, (C.marks D hD).2⟩, fun c hc => (by cases hc)⟩
        exact cover_leave (C2.keep (B := []) (B' := []) (step_below (by (repeat' (first | (with_reducible exact Below.refl _ _) | (with_reducible refine Below.ext_mk ?_ ?_ _ _) | (with_reducible refine Below.alloc ?_ ?_ _) | (with_reducible refine Below.drew ?_) | (with_reducible refine Below.setCell ?_ ?_ _) | go_size))) (fun k hk => by cases hk)) (fun q hq => by cases hq)) _ (by rw [hC.out, eT]; simp [hf'.out]) _ _ _ _ _ _ _ _ _ _ _ _ _ _ _ _ _ _ _ _ _ _ _ _ _ _ _ _ _ _ _ _ _ _ _ _ _ _ _ _ _ _ _ _ _ _ _ _
    · have h0' : (rest != 0) = true := by simpa using h0
      by_cases hl : (l.length : Int) = heldV most
      · have hl' : ((l.length : Int) == heldV most) = true := by simpa using hl
        have eT : TGT = (S1, l, false) := by
          obtain rfl : k = 1 := by omega
          rw [← HN.out, coverN, if_neg h0, if_pos hl]
        clear h0 hl
        go_upto_region 3 with (fail)
        refine wp_region_ext (by kernel_rfl) (by kernel_rfl) (fun F hF => ?_)
        have HF := hid hF; clear hF
        repeat (first
          | (apply text_skip; (focus rfl); simp only [Act.put, List.setIfInBounds_toArray, List.set_cons_zero, List.set_cons_succ])
          | (apply text_val; (focus rfl); (focus (intro _ _; go_simp; with_reducible rfl)); simp only [Act.put, List.setIfInBounds_toArray, List.set_cons_zero, List.set_cons_succ])
          | (apply text_call; (focus rfl); (focus (intro _ _; go_simp; exact ⟨rfl, rfl⟩)); (focus (intro _ _; with_reducible (exact held_any _ _))); simp only [Act.put, List.setIfInBounds_toArray, List.set_cons_zero, List.set_cons_succ])
          | (apply text_if; (focus (first | exact wanted_t rfl rfl | exact wanted_f rfl rfl | exact wanted_gt rfl rfl | exact wanted_gf rfl rfl)); (focus (intro hc _ _; (try simp only [Bool.and_eq_true, Bool.not_eq_true', Bool.true_and] at hc); go_simp; with_reducible rfl)); simp only [Act.put, List.setIfInBounds_toArray, List.set_cons_zero, List.set_cons_succ])
          | (apply text_if_call; (focus (first | exact wanted_t rfl rfl | exact wanted_f rfl rfl | exact wanted_gt rfl rfl | exact wanted_gf rfl rfl)); (focus (intro hc _ _; (try simp only [Bool.and_eq_true, Bool.not_eq_true', Bool.true_and] at hc); go_simp; exact ⟨rfl, rfl⟩)); (focus (intro hc _ _; with_reducible (exact held_any _ _))); simp only [Act.put, List.setIfInBounds_toArray, List.set_cons_zero, List.set_cons_succ]))
        refine text_nil (HF.out _ (fun mx dx => ?_))
        clear HF F
        go_wp2
        exact cover_leave (HC.out.keep (B := []) (B' := []) (step_below (by (repeat' (first | (with_reducible exact Below.refl _ _) | (with_reducible refine Below.ext_mk ?_ ?_ _ _) | (with_reducible refine Below.alloc ?_ ?_ _) | (with_reducible refine Below.drew ?_) | (with_reducible refine Below.setCell ?_ ?_ _) | go_size))) (fun k hk => by cases hk)) (fun q hq => by cases hq)) _ (by rw [hC.out, eT]; simp) _ _ _ _ _ _ _ _ _ _ _ _ _ _ _ _ _ _ _ _ _ _ _ _ _ _ _ _ _ _ _ _ _ _ _ _ _ _ _ _ _ _ _ _ _ _ _ _
      · have hl' : ((l.length : Int) == heldV most) = false := by simpa using hl
        obtain ⟨k, rfl⟩ : ∃ k', k = k' + 1 := ⟨k - 1, by omega⟩
        have hkk : 1 ≤ k := by omega
        have HL := hid (And.intro h0 hl)
        clear h0 hl
        go_upto_region 3 with (fail)
        refine wp_region_ext (by kernel_rfl) (by kernel_rfl) (fun F hF => ?_)
        have HF := hid hF; clear hF
        repeat (first
          | (apply text_skip; (focus rfl); simp only [Act.put, List.setIfInBounds_toArray, List.set_cons_zero, List.set_cons_succ])
          | (apply text_val; (focus rfl); (focus (intro _ _; go_simp; with_reducible rfl)); simp only [Act.put, List.setIfInBounds_toArray, List.set_cons_zero, List.set_cons_succ])
          | (apply text_call; (focus rfl); (focus (intro _ _; go_simp; exact ⟨rfl, rfl⟩)); (focus (intro _ _; with_reducible (exact held_any _ _))); simp only [Act.put, List.setIfInBounds_toArray, List.set_cons_zero, List.set_cons_succ])
          | (apply text_if; (focus (first | exact wanted_t rfl rfl | exact wanted_f rfl rfl | exact wanted_gt rfl rfl | exact wanted_gf rfl rfl)); (focus (intro hc _ _; (try simp only [Bool.and_eq_true, Bool.not_eq_true', Bool.true_and] at hc); go_simp; with_reducible rfl)); simp only [Act.put, List.setIfInBounds_toArray, List.set_cons_zero, List.set_cons_succ])
          | (apply text_if_call; (focus (first | exact wanted_t rfl rfl | exact wanted_f rfl rfl | exact wanted_gt rfl rfl | exact wanted_gf rfl rfl)); (focus (intro hc _ _; (try simp only [Bool.and_eq_true, Bool.not_eq_true', Bool.true_and] at hc); go_simp; exact ⟨rfl, rfl⟩)); (focus (intro hc _ _; with_reducible (exact held_any _ _))); simp only [Act.put, List.setIfInBounds_toArray, List.set_cons_zero, List.set_cons_succ]))
        refine text_nil (HF.out _ (fun mx dx => ?_))
        clear HF F
        go_upto_region 5 with (fail)
        have C0 := HC.out.keep (W' := wr.ext mx dx) (B := []) (B' := []) (step_below (by (repeat' (first | (with_reducible exact Below.refl _ _) | (with_reducible refine Below.ext_mk ?_ ?_ _ _) | (with_reducible refine Below.alloc ?_ ?_ _) | (with_reducible refine Below.drew ?_) | (with_reducible refine Below.setCell ?_ ?_ _) | go_size))) (fun k hk => by cases hk)) (fun q hq => by cases hq)
        clear HC s0 a0 zl zs za f0 e0 FU
        generalize wr.ext mx dx = X0 at *
        have s0 := C0.bs.cell 0
        simp only [List.getElem?_cons_zero] at s0
        have zs := C0.bs.lt
        have H0 := hid C0
        clear C0
        go_wp2_with (go_at_call 115; refine (paths_any _ _ _).mono ?_; rintro e X ⟨rfl, z2, hb2, b1, b2, b3⟩)
        have C := H0.out.keep (B := []) (B' := []) (step_below hb2 (fun k hk => by cases hk)) (fun q hq => by cases hq)
        have hsX : w.heap.size ≤ X.heap.size := C.step.size
        have zX0 := H0.out.step.size
        have zl0 := H0.out.bl.lt
        have KX0 := H0.out.lt
        have PW : PathW X X0.heap.size (X0.heap.size + 2) p F1 S1 := ⟨b1, b3, C.st⟩
        have NE := pathsL_ne C.gs.1 hr HL.out.1
        have CX := hid C
        clear H0
        refine wpIn_wide.1 (wpIn_rangeFunc_b (n := 0) (gf := 141) (lb := #[.pointer (some ⟨X0.heap.size + 2, 0, none⟩), .pointer (some ⟨X0.heap.size + 1, 0, none⟩)]) rfl (fun _ _ => by kernel_rfl)
          (paths_seq C.gs.1 rest (X0.heap.size + 1) X PW b2) (fun q hq => by
            simp only [List.mem_cons] at hq
            rcases hq with rfl | hq
            · exact b2.lt
            · exact PW.lt q hq) (fun _ => rfl)
          (fun pre B W => pre = [] ∧ Below X.heap.size X W ∧ ∀ q ∈ B, X.heap.size ≤ q)
          (fun c pre B W => c = .exit 2 ∧ ∃ x F4 sv' G', pre = [x] ∧ CuOk x ∧ CvI w F p w.heap.size (w.heap.size + 1) (w.heap.size + 1 + 1) a (primeV S1 a x).1 F4 (l ++ [(primeV S1 a x).2]) sv' G' Ds W ∧ ∀ q ∈ B, w.heap.size ≤ q ∧ q ∉ CvK w.heap.size (w.heap.size + 1) (w.heap.size + 1 + 1) G' Ds F4)
          ?abi ?abx ⟨rfl, Below.refl _ _, fun q hq => by cases hq⟩
          (fun pre x B a' W => pre = [] ∧ CuOk x ∧ Below X.heap.size X W ∧ (∀ q ∈ B, X.heap.size ≤ q) ∧ ∃ cb, X.heap.size ≤ cb ∧ cb ∉ B ∧ Blk W cb 85 [.int .u64 x.1, .int .u64 x.2] ∧ a' = { tmps := #[.pointer (some ⟨p, 0, none⟩), .int .i64 a, .int .i64 most, .pointer (some ⟨w.heap.size, 0, none⟩), .pointer (some ⟨w.heap.size + 1, 0, none⟩), undef, .pointer (some ⟨w.heap.size + 1 + 1, 0, none⟩), .bool false, .int .i64 rest, .pointer (some ⟨cb, 0, none⟩), u10, u11, u12, u13, .int .i64 rest, .bool true, .slice la l.length lc, .int .i64 (l.length : Int), .int .i64 most, .int .i64 (heldV most), .bool false, u21, .pointer (some ⟨p, 0, none⟩), .int .i64 rest, .func (.func 141) #[] #[.pointer (some ⟨X0.heap.size + 2, 0, none⟩), .pointer (some ⟨X0.heap.size + 1, 0, none⟩)], cv x, u26, u27, u28, u29, u30, u31, u32, u33, u34, u35, u36, u37, u38, u39, u40, u41, u42, u43, u44, u45, u46, u47, u48, u49], defers := [] })
          ?assign ?body ?done ?stop)
        case abi =>
          rintro pre B B' W W' ⟨rfl, hb, hB⟩ st
          exact ⟨rfl, hb.trans (st.below hB hb.size), fun q hq => by
            rcases st.fresh q hq with h1 | h1
            · exact hB q h1
            · have := hb.size; omega⟩
        case abx =>
          rintro c pre B B' W W' ⟨rfl, x, F4, sv', G', rfl, hx, hC4, hB⟩ st
          refine ⟨rfl, x, F4, sv', G', rfl, hx, hC4.keep st hB, fun q hq => ?_⟩
          rcases st.fresh q hq with h1 | h1
          · exact hB q h1
          · exact ⟨by have := hC4.step.size; omega, fun hm => by have := hC4.lt q hm; omega⟩
        case assign =>
          rintro l' pre B x W K ⟨rfl, hb, hBX⟩ hok hl2 hB hK
          rw [fold_one]
          simp only [List.setIfInBounds_toArray, List.set_cons_succ, List.set_cons_zero]
          refine wpIn_region_doc (by kernel_rfl) (fun F' hF0 => ?_)
          have HF := hid hF0
          clear hF0
          refine doc_val rfl (by first | (go_simp; done) | (go_simp; exact ⟨rfl, rfl⟩) | (go_simp; with_reducible rfl)) ?_
          simp only [Act.put, List.setIfInBounds_toArray, List.set_cons_zero, List.set_cons_succ]
          refine doc_skip rfl (by first | (go_simp; done) | (go_simp; exact ⟨rfl, rfl⟩) | (go_simp; with_reducible rfl)) ?_
          simp only [Act.put, List.setIfInBounds_toArray, List.set_cons_zero, List.set_cons_succ]
          refine doc_end (HF.out _ _ ?_)
          clear HF F'
          simp only [Exit.then]
          refine hK _ _ ?_ ?_
          · exact Kept.of_below (by (repeat' (first | (with_reducible exact Below.refl _ _) | (with_reducible refine Below.ext_mk ?_ ?_ _ _) | (with_reducible refine Below.alloc ?_ ?_ _) | (with_reducible refine Below.drew ?_) | (with_reducible refine Below.setCell ?_ ?_ _) | go_size))) (fun q hq => by
              have := hb.size
              rcases List.mem_append.1 hq with h1 | h1
              · simp only [List.mem_cons] at h1
                rcases h1 with rfl | h1
                · have := b2.lt; omega
                · have := PW.lt q h1; omega
              · exact (hB q h1).2)
          · intro W2 st
            have hs := st.size
            have hsz := hb.size
            simp only [World.size_alloc] at hs
            have hnew : W.heap.size ∉ B := fun hm => by have := (hB _ hm).2; omega
            have hb3 : Below X.heap.size X (W.alloc (.cells #[.int .u64 x.1, .int .u64 x.2] 85)) := hb.trans ((Below.refl _ W).alloc hsz _)
            exact ⟨rfl, hok, hb3.trans (st.below hBX (by simp; omega)), hBX, W.heap.size, hsz, hnew, (Blk.new W 85 [.int .u64 x.1, .int .u64 x.2]).keep (st.block _ (by simp) hnew), rfl⟩
        case body =>
          rintro l' pre B x a' W hl2 hloop hB hTB ⟨rfl, hok, hb, hBX, cb, zcb, ncb, bcb, rfl⟩
          have CW := CX.out.keep (B := []) (B' := []) (step_below hb (fun k hk => by cases hk)) (fun q hq => by cases hq)
          have GN := CW.gne
          have KW := CX.out.lt
          have hsW := hb.size
          have ncK : ∀ k ∈ CvK w.heap.size (w.heap.size + 1) (w.heap.size + 1 + 1) G Ds F1, k < X.heap.size := KW
          have ncF : cb ∉ F1 := fun hm => by have := KW cb (by simp [CvK, hm]); omega
          have ncG : G ≠ some cb := fun e => by have := KW cb (by simp [CvK, e]); omega
          have PR0 := fun W' F' (h : StoIs W' p F' S1) => cprime_live h CW.gs hok a
          have GP := primeV_gs CW.gs a x
          have CP := primeV_cu S1 a hok
          generalize hR4 : primeV S1 a x = R4 at PR0 GP CP
          obtain ⟨S4, x'⟩ := R4
          have HR4 := hid hR4
          clear hR4
          simp only at PR0 GP CP
          have PR := hid PR0
          clear PR0
          have HL5 : heldV most ≤ 4096 := by unfold heldV; omega
          have HL4 : Hid ((l.length : Int) ≤ 4096) := hid (by omega)
          clear HL5
          refine wpIn_block ?_
          apply wpIn_seq_k; intro K1 hK1
          refine wpIn_region_invs (fun L a' w' => ∃ (q : Nat) (v' : Value), a' = cvAct (.pointer (some ⟨p, 0, none⟩)) (.int .i64 a) (.int .i64 most) (.pointer (some ⟨w.heap.size, 0, none⟩)) (.pointer (some ⟨w.heap.size + 1, 0, none⟩)) undef (.pointer (some ⟨w.heap.size + 1 + 1, 0, none⟩)) (.bool false) (.int .i64 rest) (.pointer (some ⟨cb, 0, none⟩)) u10 u11 u12 u13 (.int .i64 rest) (.bool true) (.slice la l.length lc) (.int .i64 (l.length : Int)) (.int .i64 most) (.int .i64 (heldV most)) (.bool false) u21 (.pointer (some ⟨p, 0, none⟩)) (.int .i64 rest) (.func (.func 141) #[] #[.pointer (some ⟨X0.heap.size + 2, 0, none⟩), .pointer (some ⟨X0.heap.size + 1, 0, none⟩)]) (cv x) u26 u27 u28 u29 u30 u31 u32 u33 u34 u35 u36 u37 u38 u39 u40 u41 u42 u43 u44 u45 u46 u47 u48 u49 [] (fun i => L.getD i false) (.slice la l.length lc) (.pointer (some ⟨p, 0, none⟩)) (.int .i64 a) (cv x) (cv x') (.slice (some ⟨q, 0, none⟩) 1 1) v' ∧ CvR W p F1 S4 x' G (l ++ [x']) (w.heap.size + 1 + 1) (fun i => L.getD i false) w' q v') (by kernel_rfl) (by kernel_rfl) (by kernel_rfl) ⟨0, undef, rfl, .inl ⟨rfl, rfl, rfl, rfl, by (repeat' (first | (with_reducible exact Below.refl _ _) | (with_reducible refine Below.ext_mk ?_ ?_ _ _) | (with_reducible refine Below.alloc ?_ ?_ _) | (with_reducible refine Below.drew ?_) | (with_reducible refine Below.setCell ?_ ?_ _) | go_size))⟩⟩ ?_ ?_
          · rintro L a' w' hall ⟨q, v', rfl, hR⟩
            have h7 := hall 7 (by decide)
            obtain ⟨w1, hE, rfl⟩ : ∃ w1, CvE W p F1 S4 G (l ++ [x']) (w.heap.size + 1 + 1) w1 v' ∧ w' = w1.setCell ⟨w.heap.size + 1 + 1, 0, none⟩ v' := by
              rcases hR with ⟨-, -, -, h, -⟩ | ⟨-, -, -, h, -⟩ | ⟨-, -, -, h, -⟩ | ⟨-, -, -, h, -⟩ | ⟨-, -, -, -, h⟩
              · simp only at h; rw [h7] at h; cases h
              · simp only at h; rw [h7] at h; cases h
              · simp only at h; rw [h7] at h; cases h
              · simp only at h; rw [h7] at h; cases h
              · exact h
            obtain ⟨F4, G', C4, hq⟩ := CW.append hE GP CP (by omega) (by omega) (by omega)
            have hBq : ∀ q ∈ B, q < W.heap.size ∧ q ∉ CvK w.heap.size (w.heap.size + 1) (w.heap.size + 1 + 1) G Ds F1 := fun q hq' => ⟨(hB q hq').2, fun hm => by have := KW q hm; have := hBX q hq'; omega⟩
            simp only [Exit.then]
            apply hK1
            refine wpIn_exit ?_
            simp only [Exit.inBlock, postB]
            refine ⟨⟨by have := hE.ex; obtain ⟨F4', G'', -, -, -, -, st⟩ := this; have := st.size; simp; omega, fun q hq' => (hq q (hBq q hq').1 (hBq q hq').2).2⟩, trivial, x, F4, v', some G', by simp, hok, ?_, fun q hq' => ⟨by have := hBX q hq'; omega, (hq q (hBq q hq').1 (hBq q hq').2).1⟩⟩
            rw [HR4.out]
            exact C4
          · refine ⟨fun L a' w' hn hI => ?_, ?_⟩
            · obtain ⟨q, v', rfl, hR⟩ := hI
              have hup := getD_up hn.2.1
              have f7 := not_upC hn.2.2.2 (i := 7) (k := 0) (by decide +kernel) hn.2.1
              have hs := hR.same f7 (CW.bl).lt CW.nl GN.1.2.2.1
              have d0 := (cell_same hs.1 0).trans ((CW.bl).cell 0)
              simp only [List.getElem?_cons_zero, List.getElem?_cons_succ] at d0
              have zz := hs.2
              refine st_val (v := .slice la l.length lc) (W1 := w') rfl (by unfold cvAct; go_simp) ?_
              refine ⟨q, v', ?_, hR.congr (up_other 0 4 (by decide)) (up_other 0 5 (by decide)) (up_other 0 6 (by decide)) (up_other 0 7 (by decide))⟩
              unfold cvAct
              simp only [Act.put, List.setIfInBounds_toArray, List.set_cons_zero, List.set_cons_succ, hup, gy_true, up_other 0 1 (by decide), up_other 0 2 (by decide), up_other 0 3 (by decide), up_other 0 4 (by decide), up_other 0 5 (by decide), up_other 0 6 (by decide), up_other 0 7 (by decide)]
            · refine ⟨fun L a' w' hn hI => ?_, ?_⟩
              · obtain ⟨q, v', rfl, hR⟩ := hI
                have hup := getD_up hn.2.1
                have f7 := not_upC hn.2.2.2 (i := 7) (k := 1) (by decide +kernel) hn.2.1
                have hs := hR.same f7 (CW.bs).lt CW.ns GN.1.1
                have d0 := (cell_same hs.1 0).trans ((CW.bs).cell 0)
                simp only [List.getElem?_cons_zero, List.getElem?_cons_succ] at d0
                have zz := hs.2
                refine st_val (v := .pointer (some ⟨p, 0, none⟩)) (W1 := w') rfl (by unfold cvAct; go_simp) ?_
                refine ⟨q, v', ?_, hR.congr (up_other 1 4 (by decide)) (up_other 1 5 (by decide)) (up_other 1 6 (by decide)) (up_other 1 7 (by decide))⟩
                unfold cvAct
                simp only [Act.put, List.setIfInBounds_toArray, List.set_cons_zero, List.set_cons_succ, hup, gy_true, up_other 1 0 (by decide), up_other 1 2 (by decide), up_other 1 3 (by decide), up_other 1 4 (by decide), up_other 1 5 (by decide), up_other 1 6 (by decide), up_other 1 7 (by decide)]
              · refine ⟨fun L a' w' hn hI => ?_, ?_⟩
                · obtain ⟨q, v', rfl, hR⟩ := hI
                  have hup := getD_up hn.2.1
                  have f7 := not_upC hn.2.2.2 (i := 7) (k := 2) (by decide +kernel) hn.2.1
                  have hs := hR.same f7 (CW.ba).lt CW.na GN.1.2.1
                  have d0 := (cell_same hs.1 0).trans ((CW.ba).cell 0)
                  simp only [List.getElem?_cons_zero, List.getElem?_cons_succ] at d0
                  have zz := hs.2
                  refine st_val (v := .int .i64 a) (W1 := w') rfl (by unfold cvAct; go_simp) ?_
                  refine ⟨q, v', ?_, hR.congr (up_other 2 4 (by decide)) (up_other 2 5 (by decide)) (up_other 2 6 (by decide)) (up_other 2 7 (by decide))⟩
                  unfold cvAct
                  simp only [Act.put, List.setIfInBounds_toArray, List.set_cons_zero, List.set_cons_succ, hup, gy_true, up_other 2 0 (by decide), up_other 2 1 (by decide), up_other 2 3 (by decide), up_other 2 4 (by decide), up_other 2 5 (by decide), up_other 2 6 (by decide), up_other 2 7 (by decide)]
                · refine ⟨fun L a' w' hn hI => ?_, ?_⟩
                  · obtain ⟨q, v', rfl, hR⟩ := hI
                    have hup := getD_up hn.2.1
                    have f7 := not_upC hn.2.2.2 (i := 7) (k := 3) (by decide +kernel) hn.2.1
                    have hs := hR.same f7 (bcb).lt ncF ncG
                    have d0 := (cell_same hs.1 0).trans ((bcb).cell 0)
                    have d1 := (cell_same hs.1 1).trans ((bcb).cell 1)
                    simp only [List.getElem?_cons_zero, List.getElem?_cons_succ] at d0 d1
                    have zz := hs.2
                    refine st_val (v := cv x) (W1 := w') rfl (by unfold cvAct; go_simp) ?_
                    refine ⟨q, v', ?_, hR.congr (up_other 3 4 (by decide)) (up_other 3 5 (by decide)) (up_other 3 6 (by decide)) (up_other 3 7 (by decide))⟩
                    unfold cvAct
                    simp only [Act.put, List.setIfInBounds_toArray, List.set_cons_zero, List.set_cons_succ, hup, gy_true, up_other 3 0 (by decide), up_other 3 1 (by decide), up_other 3 2 (by decide), up_other 3 4 (by decide), up_other 3 5 (by decide), up_other 3 6 (by decide), up_other 3 7 (by decide)]
                  · refine ⟨fun L a' w' hn hI => ?_, ?_⟩
                    · obtain ⟨q, v', rfl, hR⟩ := hI
                      have hup := getD_up hn.2.1
                      have d1 : L.getD 1 false = true := hn.2.2.1 1 (by decide +kernel)
                      have d2 : L.getD 2 false = true := hn.2.2.1 2 (by decide +kernel)
                      have d3 : L.getD 3 false = true := hn.2.2.1 3 (by decide +kernel)
                      have f4 := getD_false_of hn.2.1
                      obtain ⟨g5, g6, g7, hbw⟩ : L.getD 5 false = false ∧ L.getD 6 false = false ∧ L.getD 7 false = false ∧ Below W.heap.size W w' := by
                        rcases hR with ⟨-, h5, h6, h7, hb⟩ | ⟨h4, -⟩ | ⟨h4, -⟩ | ⟨h4, -⟩ | ⟨h4, -⟩
                        · exact ⟨h5, h6, h7, hb⟩
                        all_goals (simp only at h4; rw [f4] at h4; cases h4)
                      refine st_call (f := 61) (args := #[.pointer (some ⟨p, 0, none⟩), .int .i64 a, cv x]) (W1 := w') rfl (by unfold cvAct; simp only [gy_true, d1, d2, d3]; first | (go_simp; done) | (go_simp; exact ⟨rfl, rfl⟩)) ((PR.out w' F1 (CW.st.below hbw)).mono ?_)
                      rintro e w2 ⟨rfl, F4, h4, st4⟩
                      refine ⟨_, rfl, q, v', ?_, .inr (.inl ⟨hup, (up_other 4 5 (by decide)).trans g5, (up_other 4 6 (by decide)).trans g6, (up_other 4 7 (by decide)).trans g7, F4, h4, (StoStep.of_below hbw).trans st4⟩)⟩
                      unfold cvAct
                      simp only [Act.put, List.setIfInBounds_toArray, List.set_cons_zero, List.set_cons_succ, hup, gy_true, up_other 4 0 (by decide), up_other 4 1 (by decide), up_other 4 2 (by decide), up_other 4 3 (by decide), up_other 4 5 (by decide), up_other 4 6 (by decide), up_other 4 7 (by decide)]
                    · refine ⟨fun L a' w' hn hI => ?_, ?_⟩
                      · obtain ⟨q, v', rfl, hR⟩ := hI
                        have hup := getD_up hn.2.1
                        have d4 : L.getD 4 false = true := hn.2.2.1 4 (by decide +kernel)
                        have f5 := getD_false_of hn.2.1
                        obtain ⟨g6, g7, F4, h4, st4⟩ : L.getD 6 false = false ∧ L.getD 7 false = false ∧ ∃ F4, StoIs w' p F4 S4 ∧ StoStep W w' F1 F4 := by
                          rcases hR with ⟨h4, -⟩ | ⟨-, -, h6, h7, h⟩ | ⟨-, h5, -⟩ | ⟨-, h5, -⟩ | ⟨-, h5, -⟩
                          · simp only at h4; rw [d4] at h4; cases h4
                          · exact ⟨h6, h7, h⟩
                          all_goals (simp only at h5; rw [f5] at h5; cases h5)
                        refine st_val (v := .slice (some ⟨w'.heap.size, 0, none⟩) 1 1) (W1 := w'.alloc (.cells #[.int .u64 x'.1, .int .u64 x'.2] 85)) rfl (by unfold cvAct; simp only [gy_true, d4]; go_simp) ?_
                        refine ⟨w'.heap.size, v', ?_, .inr (.inr (.inl ⟨(up_other 5 4 (by decide)).trans d4, hup, (up_other 5 6 (by decide)).trans g6, (up_other 5 7 (by decide)).trans g7, w', F4, h4, st4, rfl, rfl⟩))⟩
                        unfold cvAct
                        simp only [f5, gy_false]
                        simp only [Act.put, List.setIfInBounds_toArray, List.set_cons_zero, List.set_cons_succ, hup, gy_true, gy_false, f5, up_other 5 0 (by decide), up_other 5 1 (by decide), up_other 5 2 (by decide), up_other 5 3 (by decide), up_other 5 4 (by decide), up_other 5 6 (by decide), up_other 5 7 (by decide)]
                      · refine ⟨fun L a' w' hn hI => ?_, ?_⟩
                        · obtain ⟨q, v', rfl, hR⟩ := hI
                          have hup := getD_up hn.2.1
                          have d0 : L.getD 0 false = true := hn.2.2.1 0 (by decide +kernel)
                          have d5 : L.getD 5 false = true := hn.2.2.1 5 (by decide +kernel)
                          have f6 := getD_false_of hn.2.1
                          obtain ⟨g4, g7, w1, F4, h4, st4, rfl, rfl⟩ : L.getD 4 false = true ∧ L.getD 7 false = false ∧ ∃ w1 F4, StoIs w1 p F4 S4 ∧ StoStep W w1 F1 F4 ∧ w' = w1.alloc (.cells #[.int .u64 x'.1, .int .u64 x'.2] 85) ∧ q = w1.heap.size := by
                            rcases hR with ⟨-, h5, -⟩ | ⟨-, h5, -⟩ | ⟨h4, -, -, h7, h⟩ | ⟨-, -, h6, -⟩ | ⟨-, -, h6, -⟩
                            · simp only at h5; rw [d5] at h5; cases h5
                            · simp only at h5; rw [d5] at h5; cases h5
                            · exact ⟨h4, h7, h⟩
                            all_goals (simp only at h6; rw [f6] at h6; cases h6)
                          have row1 : RowIs w1 (.slice la l.length lc) G 85 2 l.length (cus l) := CW.row.keep (fun g hg => st4.block g (CW.row.lt g hg) (CW.ng g hg))
                          obtain ⟨v2, G', w2, r1, r2, r3, r4, ro, rt, rp, rz⟩ := cu_one row1 (by have := HL4.out; omega) x'
                          have zw := st4.size
                          refine st_val (v := v2) (W1 := w2) rfl (by unfold cvAct; simp only [gy_true, d0, d5]; exact run_append_op _ _ _ _ _ _ _ _ _ r1) ?_
                          refine ⟨w1.heap.size, v2, ?_, .inr (.inr (.inr (.inl ⟨(up_other 6 4 (by decide)).trans g4, (up_other 6 5 (by decide)).trans d5, hup, (up_other 6 7 (by decide)).trans g7, ⟨F4, G', ?_, r2, ?_, ?_, ?_⟩, ?_⟩)))⟩
                          · unfold cvAct
                            simp only [f6, gy_false]
                            simp only [Act.put, List.setIfInBounds_toArray, List.set_cons_zero, List.set_cons_succ, hup, gy_true, gy_false, f6, up_other 6 0 (by decide), up_other 6 1 (by decide), up_other 6 2 (by decide), up_other 6 3 (by decide), up_other 6 4 (by decide), up_other 6 5 (by decide), up_other 6 7 (by decide)]
                          · exact h4.keep (fun k hk => r4 k (h4.lt k hk) (fun e => st4.keeps (CW.row.lt k e) (CW.ng k e) hk))
                          · rcases r3 with e | e
                            · exact .inl e
                            · exact .inr ⟨by omega, e.2⟩
                          · rcases r3 with e | e
                            · exact st4.keeps (CW.row.lt _ e) (CW.ng _ e)
                            · exact fun hm => by have := h4.lt _ hm; omega
                          · refine ⟨ro.trans st4.os, rt.trans st4.tape, rp.trans st4.output, by omega, fun k h1 h2 => ?_, fun k hk => ?_⟩
                            · exact (r4 k (by omega) (fun e => h2 (by rw [e]; simp))).trans (st4.block k h1 (fun hm => h2 (by simp [hm])))
                            · rcases List.mem_append.1 hk with hk | hk
                              · rcases st4.fresh k hk with h5 | h5
                                · exact .inl (by simp [h5])
                                · exact .inr ⟨h5.1, by omega⟩
                              · simp at hk
                                subst hk
                                rcases r3 with e | e
                                · exact .inl (by rw [e]; simp)
                                · exact .inr ⟨by omega, e.2⟩
                          · obtain ⟨a1, c1, h5, -⟩ := r2.form
                            exact ⟨a1, _, c1, h5⟩
                        · refine ⟨fun L a' w' hn hI => ?_, ?_⟩
                          · obtain ⟨q, v', rfl, hR⟩ := hI
                            have hup := getD_up hn.2.1
                            have d6 : L.getD 6 false = true := hn.2.2.1 6 (by decide +kernel)
                            have f7 := getD_false_of hn.2.1
                            have hs := hR.same f7 CW.bl.lt CW.nl GN.1.2.2.1
                            have d0 := (cell_same hs.1 0).trans (CW.bl.cell 0)
                            have g0 := (frozen_same hs.1 0).trans (CW.bl.free 0)
                            simp only [List.getElem?_cons_zero] at d0
                            have zz := hs.2
                            obtain ⟨g4, g5, hE⟩ : L.getD 4 false = true ∧ L.getD 5 false = true ∧ CvE W p F1 S4 G (l ++ [x']) (w.heap.size + 1 + 1) w' v' := by
                              rcases hR with ⟨-, -, h6, -⟩ | ⟨-, -, h6, -⟩ | ⟨-, -, h6, -⟩ | ⟨h4, h5, -, -, h⟩ | ⟨-, -, -, h7, -⟩
                              · simp only at h6; rw [d6] at h6; cases h6
                              · simp only at h6; rw [d6] at h6; cases h6
                              · simp only at h6; rw [d6] at h6; cases h6
                              · exact ⟨h4, h5, h⟩
                              · simp only at h7; rw [f7] at h7; cases h7
                            obtain ⟨a1, n1, c1, rfl⟩ := hE.form
                            refine st_skip (W1 := w'.setCell ⟨w.heap.size + 1 + 1, 0, none⟩ (.slice a1 n1 c1)) rfl (by unfold cvAct; simp only [gy_true, d6]; go_simp) ?_
                            refine ⟨q, _, ?_, .inr (.inr (.inr (.inr ⟨(up_other 7 4 (by decide)).trans g4, (up_other 7 5 (by decide)).trans g5, (up_other 7 6 (by decide)).trans d6, hup, w', hE, rfl⟩)))⟩
                            unfold cvAct
                            simp only [Act.put, up_other 7 0 (by decide), up_other 7 1 (by decide), up_other 7 2 (by decide), up_other 7 3 (by decide), up_other 7 4 (by decide), up_other 7 5 (by decide), up_other 7 6 (by decide)]
                          · trivial
        case done =>
          rintro D B xs W hD hDB rfl ⟨e, -, -⟩ hK
          exact absurd e NE
        case stop =>
          rintro D B c pre W hD hDB hpre ⟨rfl, x, F4, sv', G', rfl, hx, C4, hBK⟩ hK
          have ehd : (pathsL S1 rest).headD (0, 0) = x := by
            obtain ⟨t, ht⟩ := hpre
            rw [← ht]; rfl
          have GP := primeV_gs CX.out.gs a x
          have CP := primeV_cu S1 a hx
          have eN : coverN a (heldV most) (k + 1) S1 rest l = coverN a (heldV most) k
              (andV (notV (ofV (primeV S1 a x).1 (primeV S1 a x).2).1 (ofV (primeV S1 a x).1 (primeV S1 a x).2).2).1 rest (notV (ofV (primeV S1 a x).1 (primeV S1 a x).2).1 (ofV (primeV S1 a x).1 (primeV S1 a x).2).2).2).1
              (andV (notV (ofV (primeV S1 a x).1 (primeV S1 a x).2).1 (ofV (primeV S1 a x).1 (primeV S1 a x).2).2).1 rest (notV (ofV (primeV S1 a x).1 (primeV S1 a x).2).1 (ofV (primeV S1 a x).1 (primeV S1 a x).2).2).2).2
              (l ++ [(primeV S1 a x).2]) := by
            rw [coverN, if_neg HL.out.1, if_neg HL.out.2, ehd]
          rw [HN.out] at eN
          have C5 := C4.mark hK (hBK D hDB).1 (hBK D hDB).2
          generalize primeV S1 a x = R4 at *
          obtain ⟨S4, x'⟩ := R4
          simp only at GP CP C4 C5 eN
          have O5 := fun W' F' (h : StoIs W' p F' S4) => cof_live h GP CP
          have G5 := ofV_gs GP x'
          unfold Tells at O5
          generalize ofV S4 x' = R5 at *
          obtain ⟨S5, r5⟩ := R5
          simp only at O5 G5 eN
          have N6 := fun W' F' (h : StoIs W' p F' S5) => hNo.out W' F' S5 h G5 r5
          have G6 := notV_gs G5 r5
          generalize notV S5 r5 = R6 at *
          obtain ⟨S6, r6⟩ := R6
          simp only at N6 G6 eN
          have A7 := fun W' F' (h : StoIs W' p F' S6) => hAn.out W' F' S6 h G6 rest r6
          have G7 := andV_gs G6 rest r6
          have H7 := andV_has G6 rest r6
          generalize andV S6 rest r6 = R7 at *
          obtain ⟨S7, r7⟩ := R7
          simp only at A7 G7 H7 eN
          have EN := hid eN
          clear eN ehd NE C4 hBK hK hpre CX PW b1 b2 b3 C
          obtain ⟨la', lc', rfl, hlm'⟩ := C5.row.form
          obtain ⟨g, cap, e1, rfl, k0, kf0⟩ := C5.row.at (i := l.length) (j := 0) (by simp) (by omega)
          obtain ⟨g', cap', e1', e2', k1, kf1⟩ := C5.row.at (i := l.length) (j := 1) (by simp) (by omega)
          cases e2'
          clear e1'
          obtain ⟨t0, t1⟩ := cus_at (l ++ [x']) l.length x' (by simp)
          rw [Nat.add_zero, t0] at k0
          rw [t1] at k1
          have ela : la' = some ⟨g, 0, none⟩ := by injection e1
          subst ela
          have LC := hid C5
          obtain ⟨n, hn⟩ : ∃ n, n = (l ++ [x']).length := ⟨_, rfl⟩
          have hn2 : n = l.length + 1 := by rw [hn]; simp
          have blW := C5.bl
          have bsW := C5.bs
          rw [← hn] at blW
          have wsub : IntKind.i64.wrap ((n : Int) - 1) = (l.length : Int) := by rw [hn2]; exact (IntWalk.i64_in _ (by unfold maxLen at hlm; omega)).trans (by omega)
          have hlt1 : (l.length : Int) < (n : Int) := by omega
          have hlt0 : (0 : Int) ≤ (l.length : Int) := by omega
          have HN2 := hid (And.intro hn hn2)
          have zg := C5.row.lt g rfl
          have ngF := C5.ng g rfl
          have nsF := C5.ns
          have nlF := C5.nl
          have stI := C5.st
          clear hn hn2 e1 t0 t1 C5 kf0 kf1 hlm
          refine wpIn_wide.2 ?_
          go_upto_region 8 with (fail)
          refine wp_region_stage [8, 9] (StgW W p F4 S4 S5 S6) (by kernel_rfl) (by kernel_rfl) (by kernel_rfl) (by kernel_rfl) ⟨F4, stI.below (by (repeat' (first | (with_reducible exact Below.refl _ _) | (with_reducible refine Below.ext_mk ?_ ?_ _ _) | (with_reducible refine Below.alloc ?_ ?_ _) | (with_reducible refine Below.drew ?_) | (with_reducible refine Below.setCell ?_ ?_ _) | go_size))), StoStep.of_below (by (repeat' (first | (with_reducible exact Below.refl _ _) | (with_reducible refine Below.ext_mk ?_ ?_ _ _) | (with_reducible refine Below.alloc ?_ ?_ _) | (with_reducible refine Below.drew ?_) | (with_reducible refine Below.setCell ?_ ?_ _) | go_size)))⟩ (fun F' hF => ?_)
          have HF := hid hF
          clear hF
          refine sg_read (v := .pointer (some ⟨p, 0, none⟩)) _ _ rfl rfl rfl rfl (fun i W' _ _ hR => ?_) ?_
          · have q := (hR.blk bsW nsF).cell 0
            have zq := (hR.blk bsW nsF).lt
            simp only [List.getElem?_cons_zero, List.getElem?_cons_succ] at q
            clear hR
            go_simp
          simp only [Act.put, List.setIfInBounds_toArray, List.set_cons_zero, List.set_cons_succ]
          refine sg_read (v := .pointer (some ⟨p, 0, none⟩)) _ _ rfl rfl rfl rfl (fun i W' _ _ hR => ?_) ?_
          · have q := (hR.blk bsW nsF).cell 0
            have zq := (hR.blk bsW nsF).lt
            simp only [List.getElem?_cons_zero, List.getElem?_cons_succ] at q
            clear hR
            go_simp
          simp only [Act.put, List.setIfInBounds_toArray, List.set_cons_zero, List.set_cons_succ]
          refine sg_read (v := .slice (some ⟨g, 0, none⟩) n lc') _ _ rfl rfl rfl rfl (fun i W' _ _ hR => ?_) ?_
          · have q := (hR.blk blW nlF).cell 0
            have zq := (hR.blk blW nlF).lt
            simp only [List.getElem?_cons_zero, List.getElem?_cons_succ] at q
            clear hR
            go_simp
          simp only [Act.put, List.setIfInBounds_toArray, List.set_cons_zero, List.set_cons_succ]
          refine sg_read (v := .slice (some ⟨g, 0, none⟩) n lc') _ _ rfl rfl rfl rfl (fun i W' _ _ hR => ?_) ?_
          · have q := (hR.blk blW nlF).cell 0
            have zq := (hR.blk blW nlF).lt
            simp only [List.getElem?_cons_zero, List.getElem?_cons_succ] at q
            clear hR
            go_simp
          simp only [Act.put, List.setIfInBounds_toArray, List.set_cons_zero, List.set_cons_succ]
          (apply sg_any; (focus rfl); (focus rfl); (focus (intro _; go_simp; with_reducible rfl)); simp only [Act.put, List.setIfInBounds_toArray, List.set_cons_zero, List.set_cons_succ])
          (apply sg_any; (focus rfl); (focus rfl); (focus (intro _; go_simp; with_reducible rfl)); simp only [Act.put, List.setIfInBounds_toArray, List.set_cons_zero, List.set_cons_succ])
          (apply sg_any; (focus rfl); (focus rfl); (focus (intro _; go_simp; with_reducible rfl)); simp only [Act.put, List.setIfInBounds_toArray, List.set_cons_zero, List.set_cons_succ])
          refine sg_read (v := cv x') _ _ rfl rfl rfl rfl (fun i W' _ _ hR => ?_) ?_
          · have hs := hR.same zg ngF
            have q0 := (cell_same hs.1 (l.length * 2)).trans k0
            have q1 := (cell_same hs.1 (l.length * 2 + 1)).trans k1
            have zq := hs.2
            clear hR
            go_simp
          simp only [Act.put, List.setIfInBounds_toArray, List.set_cons_zero, List.set_cons_succ]
          refine sg_turn_call 0 (v := .int .i64 r5) (f := 59) (args := #[.pointer (some ⟨p, 0, none⟩), cv x']) rfl rfl (fun _ => by first | (go_simp; done) | (go_simp; exact ⟨rfl, rfl⟩)) (fun W' hR => by
            obtain ⟨Fi, hS, st⟩ := hR
            refine (O5 W' Fi hS).mono ?_
            rintro e w' ⟨rfl, F2, t1, t2⟩
            exact ⟨rfl, F2, t1, st.trans t2⟩) ?_
          simp only [Act.put, List.setIfInBounds_toArray, List.set_cons_zero, List.set_cons_succ]
          refine sg_turn_call 1 (v := .int .i64 r6) (f := 26) (args := #[.pointer (some ⟨p, 0, none⟩), .int .i64 r5]) rfl rfl (fun _ => by first | (go_simp; done) | (go_simp; exact ⟨rfl, rfl⟩)) (fun W' hR => by
            obtain ⟨Fi, hS, st⟩ := hR
            refine (N6 W' Fi hS).mono ?_
            rintro e w' ⟨rfl, F2, t1, t2⟩
            exact ⟨rfl, F2, t1, st.trans t2⟩) ?_
          simp only [Act.put, List.setIfInBounds_toArray, List.set_cons_zero, List.set_cons_succ]
          (apply sg_any; (focus rfl); (focus rfl); (focus (intro _; go_simp; with_reducible rfl)); simp only [Act.put, List.setIfInBounds_toArray, List.set_cons_zero, List.set_cons_succ])
          refine sg_end (HF.out _ (fun w2 hR => ?_))
          obtain ⟨F6, hS6, st6⟩ := hR
          have C6 := LC.out.turn hS6 G6 st6
          clear HF F' k0 k1 blW bsW
          have s6 := C6.bs.cell 0
          simp only [List.getElem?_cons_zero] at s6
          have zs6 := C6.bs.lt
          have A8 := A7 _ _ hS6
          go_wp2_with (go_at_call 27; refine A8.mono ?_; rintro e w7 ⟨rfl, F7, hS7, st7⟩; have C7 := C6.turn hS7 G7 st7; have c7 := C7.bl.cell 0; simp only [List.getElem?_cons_zero] at c7)
          refine ⟨⟨_, _, _, _, _, _, _, _, _, _, _, _, _, _, _, _, _, _, _, _, _, _, _, _, _, _, _, _, _, _, _, _, _, _, _, _, _, _, _, _, _, r7, S7, F7, l ++ [x'], _, some g, D :: Ds, k, rfl, C7, H7, ?_, hkk, EN.out.symm⟩, ?_⟩
          · simp only [List.length_append, List.length_cons, List.length_nil]; omega
          · show covM _ _ w7 < covM _ _ wr
            rw [covM_is c7, covM_is c0]
            simp only [List.length_append, List.length_cons, List.length_nil]
            omega
end Go.Proofs.Ytboekafmplomhaa
set_option linter.unusedVariables false
set_option linter.unusedSimpArgs false
namespace Go.Proofs.Ytboekafmplomhaa
open Go.RowKit

def kO : Sto × Int := orV qB.1 2 3
theorem kO_gs : Gs kO.1 := orV_gs ⟨qB_ok.wf, qB_ok.sated⟩ _ _
theorem kO_is : kO.2 = 4 := by decide +kernel
theorem kO_paths : pathsV kO.1 4 9 = ([(3, 2), (1, 1)], true) := by decide +kernel
theorem kO_cover : (coverV kO.1 4 9).2 = ([(2, 2), (1, 1)], true) := by decide +kernel
theorem kT1 : textV (3, 2) 2 = [48, 49] := by decide +kernel
theorem kT2 : textV (1, 1) 2 = [49, 42] := by decide +kernel
theorem kT3 : textV (2, 2) 2 = [42, 49] := by decide +kernel

section
variable {w : World} {p : Nat} {F : List Nat}
theorem kx_a (h : StoIs w p F (newS 20)) : Calls Try.prog 24 #[.pointer (some ⟨p, 0, none⟩), .int .i64 0] w (fun e w' => e = .returned (.int .i64 2) ∧ Turned w p F qA.1 w') := by
  have M := var_call h (newS_wf (by omega) (by omega)) 0
  unfold Tells at M
  rw [show (varV (newS 20) 0).2 = 2 from qA_is] at M
  exact M
theorem kx_b (h : StoIs w p F qA.1) : Calls Try.prog 24 #[.pointer (some ⟨p, 0, none⟩), .int .i64 1] w (fun e w' => e = .returned (.int .i64 3) ∧ Turned w p F qB.1 w') := by
  have M := var_call h qA_ok.wf 1
  unfold Tells at M
  rw [show (varV qA.1 1).2 = 3 from qB_is] at M
  exact M
theorem kx_o (h : StoIs w p F qB.1) : Calls Try.prog 28 #[.pointer (some ⟨p, 0, none⟩), .int .i64 2, .int .i64 3] w (fun e w' => e = .returned (.int .i64 4) ∧ Turned w p F kO.1 w') := by
  have M := or_call h qB_ok.wf 2 3
  unfold Tells at M
  rw [show (orV qB.1 2 3).2 = 4 from kO_is] at M
  exact M
theorem kx_p (h : StoIs w p F kO.1) : Calls Try.prog 54 #[.pointer (some ⟨p, 0, none⟩), .int .i64 4, .int .i64 9] w (fun e w' => ∃ sv G, e = .returned (.tuple #[sv, .bool true]) ∧
    RowIs w' sv G 85 2 2 (cus [(3, 2), (1, 1)]) ∧ (∀ g, G = some g → w.heap.size ≤ g) ∧ Below w.heap.size w w') := by
  have M := cpaths_live h kO_gs.1 4 9
  rw [kO_paths] at M
  exact M
theorem kx_c (h : StoIs w p F kO.1) : Calls Try.prog 55 #[.pointer (some ⟨p, 0, none⟩), .int .i64 4, .int .i64 9] w (fun e w' => ∃ sv G F', e = .returned (.tuple #[sv, .bool true]) ∧
    RowIs w' sv G 85 2 2 (cus [(2, 2), (1, 1)]) ∧ StoStep w w' F F') := by
  refine (ccover_live h kO_gs 4 9).mono ?_
  rintro e w' ⟨sv, G, F', h1, h2, h3, h4, h5, h6⟩
  rw [kO_cover] at h1 h2
  exact ⟨sv, G, F', h1, h2, h6⟩
end
theorem kx_t1 (w : World) : Calls Try.prog 68 #[.agg #[.int .u64 3, .int .u64 2], .int .i64 2] w (Pure (.string ⟨#[48, 49]⟩) w) := by
  have M := ctext_any (c := (3, 2)) ⟨by decide, by decide⟩ 2 w
  rw [kT1] at M
  exact M
theorem kx_t2 (w : World) : Calls Try.prog 68 #[.agg #[.int .u64 1, .int .u64 1], .int .i64 2] w (Pure (.string ⟨#[49, 42]⟩) w) := by
  have M := ctext_any (c := (1, 1)) ⟨by decide, by decide⟩ 2 w
  rw [kT2] at M
  exact M
theorem kx_t3 (w : World) : Calls Try.prog 68 #[.agg #[.int .u64 2, .int .u64 2], .int .i64 2] w (Pure (.string ⟨#[42, 49]⟩) w) := by
  have M := ctext_any (c := (2, 2)) ⟨by decide, by decide⟩ 2 w
  rw [kT3] at M
  exact M
/-- A row of two cubes. -/
theorem two_cubes {w : World} {sv : Value} {G : Option Nat} {a b : Cu} (h : RowIs w sv G 85 2 2 (cus [a, b])) :
    ∃ g cap, sv = .slice (some ⟨g, 0, none⟩) 2 cap ∧ G = some g ∧ g < w.heap.size ∧ w.cell? ⟨g, 0, none⟩ = some (.int .u64 a.1) ∧ w.cell? ⟨g, 1, none⟩ = some (.int .u64 a.2) ∧ w.cell? ⟨g, 2, none⟩ = some (.int .u64 b.1) ∧ w.cell? ⟨g, 3, none⟩ = some (.int .u64 b.2) := by
  obtain ⟨g, cap, e1, rfl, c0, -⟩ := h.at (i := 0) (j := 0) (by omega) (by omega)
  obtain ⟨g1, cap1, -, e2, c1, -⟩ := h.at (i := 0) (j := 1) (by omega) (by omega)
  obtain ⟨g2, cap2, -, e3, c2, -⟩ := h.at (i := 1) (j := 0) (by omega) (by omega)
  obtain ⟨g3, cap3, -, e4, c3, -⟩ := h.at (i := 1) (j := 1) (by omega) (by omega)
  cases e2; cases e3; cases e4
  exact ⟨g, cap, e1, rfl, h.lt g rfl, c0, c1, c2, c3⟩

set_option maxHeartbeats 8000000 in
set_option maxRecDepth 4000 in
theorem known32 (w : World) : Calls Try.prog 60 #[] w (Pure (.bool true) w) := by
  go_enter Try.func60, Try.ntmps60
  go_upto_region 7 with (first
    | ((with_reducible refine (new_call 20 (by omega) (by omega) _).mono ?_); rintro e w1 ⟨p, F, rfl, hS, hb, hF⟩)
    | ((with_reducible refine (kx_a hS).mono ?_); rintro e w2 ⟨rfl, F1, hS1, st1⟩)
    | ((with_reducible refine (kx_b hS1).mono ?_); rintro e w3 ⟨rfl, F2, hS2, st2⟩)
    | ((with_reducible refine (kx_o hS2).mono ?_); rintro e w4 ⟨rfl, F3, hS3, st3⟩)
    | ((with_reducible refine (kx_p hS3).mono ?_); rintro e w5 ⟨sv1, G1, rfl, r1, g1, b5⟩; have hS5 := hS3.below b5)
    | ((with_reducible refine (kx_c hS5).mono ?_); rintro e w6 ⟨sv2, G2, F6, rfl, r2, st6⟩))
  have r1' := r1.keep (fun g hg => st6.block g (r1.lt g hg) (fun hm => by have := g1 g hg; have := hS3.lt g hm; omega))
  obtain ⟨g, cap, rfl, -, zg, c0, c1, c2, c3⟩ := two_cubes r1'
  obtain ⟨g', cap', rfl, -, zg', d0, d1, d2, d3⟩ := two_cubes r2
  have stA := st1.trans (st2.trans st3)
  have hB := hb.trans ((stA.trans ((StoStep.of_below b5).trans st6)).below hF hb.size)
  have hsB := hB.size
  have t1 := kx_t1
  have t2 := kx_t2
  have t3 := kx_t3
  clear r1 r1' r2 st1 st2 st3 st6 stA hS hS1 hS2 hS3 hS5 hb hF b5 g1
  refine wp_region_doc (fun F' hF => ?_)
  have HF := hid hF
  clear hF
  iterate 13 (refine doc_val rfl (by first | (go_simp; done) | (go_simp; exact ⟨rfl, rfl⟩) | (go_simp; with_reducible rfl)) ?_; simp only [Act.put, List.setIfInBounds_toArray, List.set_cons_zero, List.set_cons_succ])
  refine doc_call rfl (by first | (go_simp; done) | (go_simp; exact ⟨rfl, rfl⟩) | (go_simp; with_reducible rfl)) ((t1 _).mono ?_)
  rintro e W1 ⟨rfl, m1, d1', rfl⟩
  refine ⟨_, rfl, ?_⟩
  simp only [Act.put, List.setIfInBounds_toArray, List.set_cons_zero, List.set_cons_succ]
  iterate 6 (refine doc_val rfl (by first | (go_simp; done) | (go_simp; exact ⟨rfl, rfl⟩) | (go_simp; with_reducible rfl)) ?_; simp only [Act.put, List.setIfInBounds_toArray, List.set_cons_zero, List.set_cons_succ])
  refine doc_call rfl (by first | (go_simp; done) | (go_simp; exact ⟨rfl, rfl⟩) | (go_simp; with_reducible rfl)) ((t2 _).mono ?_)
  rintro e W1 ⟨rfl, m2, d2', rfl⟩
  refine ⟨_, rfl, ?_⟩
  simp only [Act.put, List.setIfInBounds_toArray, List.set_cons_zero, List.set_cons_succ]
  iterate 11 (refine doc_val rfl (by first | (go_simp; done) | (go_simp; exact ⟨rfl, rfl⟩) | (go_simp; with_reducible rfl)) ?_; simp only [Act.put, List.setIfInBounds_toArray, List.set_cons_zero, List.set_cons_succ])
  refine doc_call rfl (by first | (go_simp; done) | (go_simp; exact ⟨rfl, rfl⟩) | (go_simp; with_reducible rfl)) ((t3 _).mono ?_)
  rintro e W1 ⟨rfl, m3, d3', rfl⟩
  refine ⟨_, rfl, ?_⟩
  simp only [Act.put, List.setIfInBounds_toArray, List.set_cons_zero, List.set_cons_succ]
  iterate 6 (refine doc_val rfl (by first | (go_simp; done) | (go_simp; exact ⟨rfl, rfl⟩) | (go_simp; with_reducible rfl)) ?_; simp only [Act.put, List.setIfInBounds_toArray, List.set_cons_zero, List.set_cons_succ])
  refine doc_call rfl (by first | (go_simp; done) | (go_simp; exact ⟨rfl, rfl⟩) | (go_simp; with_reducible rfl)) ((t2 _).mono ?_)
  rintro e W1 ⟨rfl, m4, d4', rfl⟩
  refine ⟨_, rfl, ?_⟩
  simp only [Act.put, List.setIfInBounds_toArray, List.set_cons_zero, List.set_cons_succ]
  iterate 3 (refine doc_val rfl (by first | (go_simp; done) | (go_simp; exact ⟨rfl, rfl⟩) | (go_simp; with_reducible rfl)) ?_; simp only [Act.put, List.setIfInBounds_toArray, List.set_cons_zero, List.set_cons_succ])
  refine doc_end (HF.out _ _ ?_)
  clear HF F'
  go_wp2
  go_returns
  exact Pure.of rfl (by (repeat' (first | (with_reducible exact hB) | (with_reducible exact Below.refl _ _) | (with_reducible refine Below.ext_mk ?_ ?_ _ _) | (with_reducible refine Below.alloc ?_ ?_ _) | (with_reducible refine Below.drew ?_) | (with_reducible refine Below.setCell ?_ ?_ _) | go_size)))
end Go.Proofs.Ytboekafmplomhaa
set_option linter.unusedVariables false
set_option linter.unusedSimpArgs false
namespace Go.Proofs.Ytboekafmplomhaa
open Go.RowKit

section
variable {w : World} {q : Option Addr}
theorem cof_dead (h : Dead w q) {c : Cu} (hc : CuOk c) : Calls Try.prog 59 #[.pointer q, cv c] w (Pure (.int .i64 0) w) := by
  have M := cmay_any hc
  go_enter Try.func59, Try.ntmps59
  go_upto_region 1 with (fail)
  refine wp_gen (fun V hV => ?_)
  have hbV : Below w.heap.size w V := by rw [hV]; ((repeat' (first | (with_reducible exact Below.refl _ _) | (with_reducible refine Below.ext_mk ?_ ?_ _ _) | (with_reducible refine Below.alloc ?_ ?_ _) | (with_reducible refine Below.drew ?_) | (with_reducible refine Below.setCell ?_ ?_ _) | go_size)))
  have zV0 : w.heap.size < V.heap.size := by rw [hV]; first | (simp; done) | (simp; omega)
  have cV0_0 : V.cell? ⟨w.heap.size, 0, none⟩ = some (.int .u64 c.1) := by rw [hV]; first | (go_simp; done) | (rw [World.cell?_alloc_past _ _ _ (by first | (simp; done) | (simp; omega))]; go_simp)
  have cV0_1 : V.cell? ⟨w.heap.size, 1, none⟩ = some (.int .u64 c.2) := by rw [hV]; first | (go_simp; done) | (rw [World.cell?_alloc_past _ _ _ (by first | (simp; done) | (simp; omega))]; go_simp)
  clear hV
  have FU := fun W (hb : Below V.heap.size V W) => h.full W (hbV.trans (hb.mono hbV.size))
  clear h
  have hsV := hbV.size
  by_cases hm : mayC c = true
  · rw [hm] at M
    refine wp_region_doc (fun F hF => ?_)
    have HF := hid hF
    clear hF
    iterate 1 (refine doc_val rfl (by first | (go_simp; done) | (go_simp; exact ⟨rfl, rfl⟩) | (go_simp; with_reducible rfl)) ?_; simp only [Act.put, List.setIfInBounds_toArray, List.set_cons_zero, List.set_cons_succ])
    refine doc_call rfl (by first | (go_simp; done) | (go_simp; exact ⟨rfl, rfl⟩) | (go_simp; with_reducible rfl)) (Calls.mono (M _) ?_)
    rintro _ _ ⟨rfl, mz, dz, rfl⟩
    refine ⟨_, rfl, ?_⟩
    simp only [Act.put, List.setIfInBounds_toArray, List.set_cons_zero, List.set_cons_succ]
    iterate 2 (refine doc_val rfl (by first | (go_simp; done) | (go_simp; exact ⟨rfl, rfl⟩) | (go_simp; with_reducible rfl)) ?_; simp only [Act.put, List.setIfInBounds_toArray, List.set_cons_zero, List.set_cons_succ])
    iterate 1 (refine doc_val rfl (by first | (go_simp; done) | (go_simp; exact ⟨rfl, rfl⟩) | (go_simp; with_reducible rfl)) ?_; simp only [Act.put, List.setIfInBounds_toArray, List.set_cons_zero, List.set_cons_succ])
    refine doc_call rfl (by first | (go_simp; done) | (go_simp; exact ⟨rfl, rfl⟩) | (go_simp; with_reducible rfl)) (Calls.mono (FU _ (by (repeat' (first | (with_reducible exact Below.refl _ _) | (with_reducible refine Below.ext_mk ?_ ?_ _ _) | (with_reducible refine Below.alloc ?_ ?_ _) | (with_reducible refine Below.drew ?_) | (with_reducible refine Below.setCell ?_ ?_ _) | go_size)))) ?_)
    rintro _ _ ⟨rfl, mz, dz, rfl⟩
    refine ⟨_, rfl, ?_⟩
    simp only [Act.put, List.setIfInBounds_toArray, List.set_cons_zero, List.set_cons_succ]
    iterate 1 (refine doc_val rfl (by first | (go_simp; done) | (go_simp; exact ⟨rfl, rfl⟩) | (go_simp; with_reducible rfl)) ?_; simp only [Act.put, List.setIfInBounds_toArray, List.set_cons_zero, List.set_cons_succ])
    refine doc_end (HF.out _ _ ?_)
    clear HF F
    go_wp2
    go_returns
    exact Pure.of rfl (by (repeat' (first | (with_reducible exact hbV) | (with_reducible exact Below.refl _ _) | (with_reducible refine Below.ext_mk ?_ ?_ _ _) | (with_reducible refine Below.alloc ?_ ?_ _) | (with_reducible refine Below.drew ?_) | (with_reducible refine Below.setCell ?_ ?_ _) | go_size)))
  · have hm' : mayC c = false := by simpa using hm
    rw [hm'] at M
    refine wp_region_doc (fun F hF => ?_)
    have HF := hid hF
    clear hF
    iterate 1 (refine doc_val rfl (by first | (go_simp; done) | (go_simp; exact ⟨rfl, rfl⟩) | (go_simp; with_reducible rfl)) ?_; simp only [Act.put, List.setIfInBounds_toArray, List.set_cons_zero, List.set_cons_succ])
    refine doc_call rfl (by first | (go_simp; done) | (go_simp; exact ⟨rfl, rfl⟩) | (go_simp; with_reducible rfl)) (Calls.mono (M _) ?_)
    rintro _ _ ⟨rfl, mz, dz, rfl⟩
    refine ⟨_, rfl, ?_⟩
    simp only [Act.put, List.setIfInBounds_toArray, List.set_cons_zero, List.set_cons_succ]
    iterate 2 (refine doc_val rfl (by first | (go_simp; done) | (go_simp; exact ⟨rfl, rfl⟩) | (go_simp; with_reducible rfl)) ?_; simp only [Act.put, List.setIfInBounds_toArray, List.set_cons_zero, List.set_cons_succ])
    iterate 2 (refine doc_not rfl ?_; simp only [Act.put, List.setIfInBounds_toArray, List.set_cons_zero, List.set_cons_succ])
    iterate 1 (refine doc_val rfl (by first | (go_simp; done) | (go_simp; exact ⟨rfl, rfl⟩) | (go_simp; with_reducible rfl)) ?_; simp only [Act.put, List.setIfInBounds_toArray, List.set_cons_zero, List.set_cons_succ])
    refine doc_end (HF.out _ _ ?_)
    clear HF F
    go_wp2
    go_returns
    exact Pure.of rfl (by (repeat' (first | (with_reducible exact hbV) | (with_reducible exact Below.refl _ _) | (with_reducible refine Below.ext_mk ?_ ?_ _ _) | (with_reducible refine Below.alloc ?_ ?_ _) | (with_reducible refine Below.drew ?_) | (with_reducible refine Below.setCell ?_ ?_ _) | go_size)))

theorem prime1_dead (h : Dead w q) {c : Cu} (hc : CuOk c) {sb ab : Nat} {a : Int} (bs : Blk w sb 23 [.pointer q]) (ba : Blk w ab 3 [.int .i64 a]) :
    Calls Try.prog 117 #[cv c, .pointer (some ⟨sb, 0, none⟩), .pointer (some ⟨ab, 0, none⟩)] w (Pure (.bool false) w) := by
  have O := fun W (hb : Below w.heap.size w W) => cof_dead (h.below hb) hc
  have I := fun W (hb : Below w.heap.size w W) => implies_dead (h.below hb) 0 a
  go_enter Try.func117, Try.ntmps117
  go_upto_region 1 with (fail)
  refine wp_gen (fun V hV => ?_)
  have hbV : Below w.heap.size w V := by rw [hV]; ((repeat' (first | (with_reducible exact Below.refl _ _) | (with_reducible refine Below.ext_mk ?_ ?_ _ _) | (with_reducible refine Below.alloc ?_ ?_ _) | (with_reducible refine Below.drew ?_) | (with_reducible refine Below.setCell ?_ ?_ _) | go_size)))
  have zV0 : w.heap.size < V.heap.size := by rw [hV]; first | (simp; done) | (simp; omega)
  have cV0_0 : V.cell? ⟨w.heap.size, 0, none⟩ = some (.int .u64 c.1) := by rw [hV]; first | (go_simp; done) | (rw [World.cell?_alloc_past _ _ _ (by first | (simp; done) | (simp; omega))]; go_simp)
  have cV0_1 : V.cell? ⟨w.heap.size, 1, none⟩ = some (.int .u64 c.2) := by rw [hV]; first | (go_simp; done) | (rw [World.cell?_alloc_past _ _ _ (by first | (simp; done) | (simp; omega))]; go_simp)
  clear hV
  have s0 := (bs.below hbV).cell 0
  have a0 := (ba.below hbV).cell 0
  simp only [List.getElem?_cons_zero] at s0 a0
  have zs := (bs.below hbV).lt
  have za := (ba.below hbV).lt
  have OV := fun W (hb : Below V.heap.size V W) => O W (hbV.trans (hb.mono hbV.size))
  have IV := fun W (hb : Below V.heap.size V W) => I W (hbV.trans (hb.mono hbV.size))
  clear O I h bs ba
  have hsV := hbV.size
  refine wp_region_ext (by kernel_rfl) (by kernel_rfl) (fun F hF => ?_)
  have HF := hid hF; clear hF
  repeat (first
    | (apply text_skip; (focus rfl); simp only [Act.put, List.setIfInBounds_toArray, List.set_cons_zero, List.set_cons_succ])
    | (apply text_val; (focus rfl); (focus (intro _ _; go_simp; with_reducible rfl)); simp only [Act.put, List.setIfInBounds_toArray, List.set_cons_zero, List.set_cons_succ])
    | (apply text_call; (focus rfl); (focus (intro _ _; go_simp; exact ⟨rfl, rfl⟩)); (focus (intro _ _; with_reducible (first | exact OV _ (by (repeat' (first | (with_reducible exact Below.refl _ _) | (with_reducible refine Below.ext_mk ?_ ?_ _ _) | (with_reducible refine Below.alloc ?_ ?_ _) | (with_reducible refine Below.drew ?_) | (with_reducible refine Below.setCell ?_ ?_ _) | go_size))) | exact IV _ (by (repeat' (first | (with_reducible exact Below.refl _ _) | (with_reducible refine Below.ext_mk ?_ ?_ _ _) | (with_reducible refine Below.alloc ?_ ?_ _) | (with_reducible refine Below.drew ?_) | (with_reducible refine Below.setCell ?_ ?_ _) | go_size)))))); simp only [Act.put, List.setIfInBounds_toArray, List.set_cons_zero, List.set_cons_succ])
    | (apply text_if; (focus (first | exact wanted_t rfl rfl | exact wanted_f rfl rfl | exact wanted_gt rfl rfl | exact wanted_gf rfl rfl)); (focus (intro hc _ _; (try simp only [Bool.and_eq_true, Bool.not_eq_true', Bool.true_and] at hc); go_simp; with_reducible rfl)); simp only [Act.put, List.setIfInBounds_toArray, List.set_cons_zero, List.set_cons_succ])
    | (apply text_if_call; (focus (first | exact wanted_t rfl rfl | exact wanted_f rfl rfl | exact wanted_gt rfl rfl | exact wanted_gf rfl rfl)); (focus (intro hc _ _; (try simp only [Bool.and_eq_true, Bool.not_eq_true', Bool.true_and] at hc); go_simp; exact ⟨rfl, rfl⟩)); (focus (intro hc _ _; with_reducible (first | exact OV _ (by (repeat' (first | (with_reducible exact Below.refl _ _) | (with_reducible refine Below.ext_mk ?_ ?_ _ _) | (with_reducible refine Below.alloc ?_ ?_ _) | (with_reducible refine Below.drew ?_) | (with_reducible refine Below.setCell ?_ ?_ _) | go_size))) | exact IV _ (by (repeat' (first | (with_reducible exact Below.refl _ _) | (with_reducible refine Below.ext_mk ?_ ?_ _ _) | (with_reducible refine Below.alloc ?_ ?_ _) | (with_reducible refine Below.drew ?_) | (with_reducible refine Below.setCell ?_ ?_ _) | go_size)))))); simp only [Act.put, List.setIfInBounds_toArray, List.set_cons_zero, List.set_cons_succ]))
  refine text_nil (HF.out _ (fun mx dx => ?_))
  clear HF F
  go_wp2
  go_returns
  exact Pure.of rfl (by (repeat' (first | (with_reducible exact hbV) | (with_reducible exact Below.refl _ _) | (with_reducible refine Below.ext_mk ?_ ?_ _ _) | (with_reducible refine Below.alloc ?_ ?_ _) | (with_reducible refine Below.drew ?_) | (with_reducible refine Below.setCell ?_ ?_ _) | go_size)))

set_option maxHeartbeats 1000000 in
theorem cpaths_dead (h : Dead w q) (a most : Int) : Calls Try.prog 54 #[.pointer q, .int .i64 a, .int .i64 most] w (Pure (.tuple #[.slice none 0 0, .bool false]) w) := by
  have hFu := fun W (hb : Below w.heap.size w W) => h.full W hb
  refine calls_of_marks Try.func54 rfl ?_
  simp only [Try.ntmps54, List.size_toArray, List.length_cons, List.length_nil, Nat.reduceAdd, Nat.reduceSub, Array.replicate_succ, Array.replicate_zero, List.push_toArray, List.append_toArray, List.nil_append, List.cons_append]
  go_wp2_with (first | (go_at_call 22; refine (hFu _ (by (repeat' (first | (with_reducible exact Below.refl _ _) | (with_reducible refine Below.ext_mk ?_ ?_ _ _) | (with_reducible refine Below.alloc ?_ ?_ _) | (with_reducible refine Below.drew ?_) | (with_reducible refine Below.setCell ?_ ?_ _) | go_size)))).mono ?_; rintro e w' ⟨rfl, m1, d1, rfl⟩))
  simp [bodyPostM, LeavesInM, LeavesIn, settle, results, Try.results54, go_sem]
  exact Pure.of rfl (by (repeat' (first | (with_reducible exact Below.refl _ _) | (with_reducible refine Below.ext_mk ?_ ?_ _ _) | (with_reducible refine Below.alloc ?_ ?_ _) | (with_reducible refine Below.drew ?_) | (with_reducible refine Below.setCell ?_ ?_ _) | go_size)))

set_option maxHeartbeats 1000000 in
theorem ccover_dead (h : Dead w q) (a most : Int) : Calls Try.prog 55 #[.pointer q, .int .i64 a, .int .i64 most] w (Pure (.tuple #[.slice none 0 0, .bool false]) w) := by
  have hFu := fun W (hb : Below w.heap.size w W) => h.full W hb
  have hAn := fun W (hb : Below w.heap.size w W) => and_dead (h.below hb) a 1
  refine calls_of_marks Try.func55 rfl ?_
  simp only [Try.ntmps55, List.size_toArray, List.length_cons, List.length_nil, Nat.reduceAdd, Nat.reduceSub, Array.replicate_succ, Array.replicate_zero, List.push_toArray, List.append_toArray, List.nil_append, List.cons_append]
  go_upto_region 1 with (fail)
  refine wp_gen (fun V hV => ?_)
  have hbV : Below w.heap.size w V := by rw [hV]; (repeat' (first | (with_reducible exact Below.refl _ _) | (with_reducible refine Below.ext_mk ?_ ?_ _ _) | (with_reducible refine Below.alloc ?_ ?_ _) | (with_reducible refine Below.drew ?_) | (with_reducible refine Below.setCell ?_ ?_ _) | go_size))
  have bl : Blk V (w.heap.size + 1 + 1) 80 [.slice none 0 0] := by
    rw [hV]
    have := Blk.new ((w.alloc (.cells #[.pointer q] 23)).alloc (.cells #[.int .i64 a] 3)) 80 [.slice none 0 0]
    rw [World.size_alloc, World.size_alloc] at this
    exact this
  have s0 : V.cell? ⟨w.heap.size, 0, none⟩ = some (.pointer q) := by
    rw [hV]
    exact ((Blk.new w 23 [.pointer q]).below (w' := ((w.alloc (.cells #[.pointer q] 23)).alloc (.cells #[.int .i64 a] 3)).alloc (.cells #[.slice none 0 0] 80)) (by (repeat' (first | (with_reducible exact Below.refl _ _) | (with_reducible refine Below.ext_mk ?_ ?_ _ _) | (with_reducible refine Below.alloc ?_ ?_ _) | (with_reducible refine Below.drew ?_) | (with_reducible refine Below.setCell ?_ ?_ _) | go_size)))).cell 0
  have a0 : V.cell? ⟨w.heap.size + 1, 0, none⟩ = some (.int .i64 a) := by
    rw [hV]
    have := Blk.new (w.alloc (.cells #[.pointer q] 23)) 3 [.int .i64 a]
    rw [World.size_alloc] at this
    exact (this.below (w' := ((w.alloc (.cells #[.pointer q] 23)).alloc (.cells #[.int .i64 a] 3)).alloc (.cells #[.slice none 0 0] 80)) (by (repeat' (first | (with_reducible exact Below.refl _ _) | (with_reducible refine Below.ext_mk ?_ ?_ _ _) | (with_reducible refine Below.alloc ?_ ?_ _) | (with_reducible refine Below.drew ?_) | (with_reducible refine Below.setCell ?_ ?_ _) | go_size)))).cell 0
  clear hV
  have l0 := bl.cell 0
  have f0 := bl.free 0
  have zl := bl.lt
  have zs : w.heap.size < V.heap.size := by omega
  have za : w.heap.size + 1 < V.heap.size := by omega
  have e0 := Blk.same1 bl
  simp only [List.getElem?_cons_zero] at l0
  have AV := fun W (hb : Below V.heap.size V W) => hAn W (hbV.trans (hb.mono hbV.size))
  have FV := fun W (hb : Below V.heap.size V W) => hFu W (hbV.trans (hb.mono hbV.size))
  clear hAn hFu h
  have hsV := hbV.size
  go_wp2_with (go_at_call 27; refine (AV _ (by (repeat' (first | (with_reducible exact Below.refl _ _) | (with_reducible refine Below.ext_mk ?_ ?_ _ _) | (with_reducible refine Below.alloc ?_ ?_ _) | (with_reducible refine Below.drew ?_) | (with_reducible refine Below.setCell ?_ ?_ _) | go_size)))).mono ?_; rintro e w' ⟨rfl, m1, d1, rfl⟩)
  refine wp_loop_once ?_
  go_wp2_with (go_at_call 22; refine (FV _ (by (repeat' (first | (with_reducible exact Below.refl _ _) | (with_reducible refine Below.ext_mk ?_ ?_ _ _) | (with_reducible refine Below.alloc ?_ ?_ _) | (with_reducible refine Below.drew ?_) | (with_reducible refine Below.setCell ?_ ?_ _) | go_size)))).mono ?_; rintro e w' ⟨rfl, m2, d2, rfl⟩)
  simp [bodyPostM, LeavesInM, LeavesIn, settle, results, Try.results55, go_sem, l0, e0, zl]
  exact Pure.of rfl (by (repeat' (first | (with_reducible exact hbV) | (with_reducible exact Below.refl _ _) | (with_reducible refine Below.ext_mk ?_ ?_ _ _) | (with_reducible refine Below.alloc ?_ ?_ _) | (with_reducible refine Below.drew ?_) | (with_reducible refine Below.setCell ?_ ?_ _) | go_size)))
end
end Go.Proofs.Ytboekafmplomhaa
set_option linter.unusedVariables false
set_option linter.unusedSimpArgs false
namespace Go.Proofs.Ytboekafmplomhaa
open Go.RowKit

section
variable {w : World} {q : Option Addr}
set_option maxHeartbeats 2000000 in
theorem cprime_dead (h : Dead w q) {c : Cu} (hc : CuOk c) (a : Int) : Calls Try.prog 61 #[.pointer q, .int .i64 a, cv c] w (Pure (cv c) w) := by
  have hmf : ∀ (fn : Fn) (first cap : Array Value) (w : World), (Instr.makeFunc fn first cap).run Try.prog w = .ok (.func fn first cap) w := fun _ _ _ _ => rfl
  go_enter Try.func61, Try.ntmps61
  go_upto_region 2 with (fail)
  refine wp_gen (fun V hV => ?_)
  have hbV : Below w.heap.size w V := by rw [hV]; (repeat' (first | (with_reducible exact Below.refl _ _) | (with_reducible refine Below.ext_mk ?_ ?_ _ _) | (with_reducible refine Below.alloc ?_ ?_ _) | (with_reducible refine Below.drew ?_) | (with_reducible refine Below.setCell ?_ ?_ _) | go_size))
  have bs : Blk V w.heap.size 23 [.pointer q] := by
    rw [hV]; exact (Blk.new w 23 [.pointer q]).below (by (repeat' (first | (with_reducible exact Below.refl _ _) | (with_reducible refine Below.ext_mk ?_ ?_ _ _) | (with_reducible refine Below.alloc ?_ ?_ _) | (with_reducible refine Below.drew ?_) | (with_reducible refine Below.setCell ?_ ?_ _) | go_size)))
  have ba : Blk V (w.heap.size + 1) 3 [.int .i64 a] := by
    rw [hV]
    have := Blk.new (w.alloc (.cells #[.pointer q] 23)) 3 [.int .i64 a]
    rw [World.size_alloc] at this
    exact this.below (by (repeat' (first | (with_reducible exact Below.refl _ _) | (with_reducible refine Below.ext_mk ?_ ?_ _ _) | (with_reducible refine Below.alloc ?_ ?_ _) | (with_reducible refine Below.drew ?_) | (with_reducible refine Below.setCell ?_ ?_ _) | go_size)))
  have bc : Blk V (w.heap.size + 1 + 1) 85 [.int .u64 c.1, .int .u64 c.2] := by
    rw [hV]
    have := Blk.new ((w.alloc (.cells #[.pointer q] 23)).alloc (.cells #[.int .i64 a] 3)) 85 [.int .u64 c.1, .int .u64 c.2]
    rw [World.size_alloc, World.size_alloc] at this
    exact this.below (by (repeat' (first | (with_reducible exact Below.refl _ _) | (with_reducible refine Below.ext_mk ?_ ?_ _ _) | (with_reducible refine Below.alloc ?_ ?_ _) | (with_reducible refine Below.drew ?_) | (with_reducible refine Below.setCell ?_ ?_ _) | go_size)))
  have br : Blk V (w.heap.size + 1 + 1 + 1) 85 [.int .u64 0, .int .u64 0] := by
    rw [hV]
    have := Blk.new (((w.alloc (.cells #[.pointer q] 23)).alloc (.cells #[.int .i64 a] 3)).alloc (.cells #[.int .u64 c.1, .int .u64 c.2] 85)) 85 [.int .u64 0, .int .u64 0]
    rw [World.size_alloc, World.size_alloc, World.size_alloc] at this
    exact this
  clear hV
  have c0 := bc.cell 0
  have c1 := bc.cell 1
  have r0 := br.cell 0
  have r1 := br.cell 1
  have fr0 := br.free 0
  have fr1 := br.free 1
  simp only [List.getElem?_cons_zero, List.getElem?_cons_succ] at c0 c1 r0 r1
  have zc := bc.lt
  have zr := br.lt
  have hsV := hbV.size
  have P1 := fun W (hb : Below V.heap.size V W) => prime1_dead (a := a) ((h.below hbV).below hb) hc (bs.below hb) (ba.below hb)
  have M := cmay_any hc
  clear h bs ba bc
  by_cases hm : mayC c = true
  · rw [hm] at M
    refine wp_region_doc (fun F hF => ?_)
    have HF := hid hF
    clear hF
    iterate 1 (refine doc_val rfl (by first | (go_simp; done) | (go_simp; exact ⟨rfl, rfl⟩) | (go_simp; with_reducible rfl)) ?_; simp only [Act.put, List.setIfInBounds_toArray, List.set_cons_zero, List.set_cons_succ])
    refine doc_call rfl (by first | (go_simp; done) | (go_simp; exact ⟨rfl, rfl⟩) | (go_simp; with_reducible rfl)) (Calls.mono (M _) ?_)
    rintro _ _ ⟨rfl, mz, dz, rfl⟩
    refine ⟨_, rfl, ?_⟩
    simp only [Act.put, List.setIfInBounds_toArray, List.set_cons_zero, List.set_cons_succ]
    iterate 4 (refine doc_val rfl (by first | (go_simp; done) | (go_simp; exact ⟨rfl, rfl⟩) | (go_simp; with_reducible rfl)) ?_; simp only [Act.put, List.setIfInBounds_toArray, List.set_cons_zero, List.set_cons_succ])
    refine doc_call rfl (by first | (go_simp; done) | (go_simp; exact ⟨rfl, rfl⟩) | (go_simp; with_reducible rfl)) (Calls.mono (P1 _ (by (repeat' (first | (with_reducible exact Below.refl _ _) | (with_reducible refine Below.ext_mk ?_ ?_ _ _) | (with_reducible refine Below.alloc ?_ ?_ _) | (with_reducible refine Below.drew ?_) | (with_reducible refine Below.setCell ?_ ?_ _) | go_size)))) ?_)
    rintro _ _ ⟨rfl, mz, dz, rfl⟩
    refine ⟨_, rfl, ?_⟩
    simp only [Act.put, List.setIfInBounds_toArray, List.set_cons_zero, List.set_cons_succ]
    iterate 2 (refine doc_val rfl (by first | (go_simp; done) | (go_simp; exact ⟨rfl, rfl⟩) | (go_simp; with_reducible rfl)) ?_; simp only [Act.put, List.setIfInBounds_toArray, List.set_cons_zero, List.set_cons_succ])
    refine doc_end (HF.out _ _ ?_)
    clear HF F
    go_wp2
    refine body_gen (fun Z hZ => ?_)
    have bZ : Blk Z (w.heap.size + 1 + 1 + 1) 85 [.int .u64 c.1, .int .u64 c.2] := by rw [hZ]; exact ((br.set_ 0 _).set_ 1 _).ext _ _
    have hbZ : Below w.heap.size w Z := by
      rw [hZ]
      exact Below.ext_mk ((hbV.setCell (p := ⟨w.heap.size + 1 + 1 + 1, 0, none⟩) (by show w.heap.size ≤ w.heap.size + 1 + 1 + 1; omega) _).setCell (p := ⟨w.heap.size + 1 + 1 + 1, 1, none⟩) (by show w.heap.size ≤ w.heap.size + 1 + 1 + 1; omega) _) (by simp; omega) _ _
    have u0 := bZ.cell 0
    have u1 := bZ.cell 1
    simp only [List.getElem?_cons_zero, List.getElem?_cons_succ] at u0 u1
    clear hZ
    refine bodyPost_ret (v := cv c) (by simp [results, Try.results61, go_sem, u0, u1]) rfl ?_
    exact Pure.of rfl hbZ
  · have hm' : mayC c = false := by simpa using hm
    rw [hm'] at M
    refine wp_region_doc (fun F hF => ?_)
    have HF := hid hF
    clear hF
    iterate 1 (refine doc_val rfl (by first | (go_simp; done) | (go_simp; exact ⟨rfl, rfl⟩) | (go_simp; with_reducible rfl)) ?_; simp only [Act.put, List.setIfInBounds_toArray, List.set_cons_zero, List.set_cons_succ])
    refine doc_call rfl (by first | (go_simp; done) | (go_simp; exact ⟨rfl, rfl⟩) | (go_simp; with_reducible rfl)) (Calls.mono (M _) ?_)
    rintro _ _ ⟨rfl, mz, dz, rfl⟩
    refine ⟨_, rfl, ?_⟩
    simp only [Act.put, List.setIfInBounds_toArray, List.set_cons_zero, List.set_cons_succ]
    iterate 2 (refine doc_val rfl (by first | (go_simp; done) | (go_simp; exact ⟨rfl, rfl⟩) | (go_simp; with_reducible rfl)) ?_; simp only [Act.put, List.setIfInBounds_toArray, List.set_cons_zero, List.set_cons_succ])
    iterate 4 (refine doc_not rfl ?_; simp only [Act.put, List.setIfInBounds_toArray, List.set_cons_zero, List.set_cons_succ])
    iterate 1 (refine doc_val rfl (by first | (go_simp; done) | (go_simp; exact ⟨rfl, rfl⟩) | (go_simp; with_reducible rfl)) ?_; simp only [Act.put, List.setIfInBounds_toArray, List.set_cons_zero, List.set_cons_succ])
    refine doc_end (HF.out _ _ ?_)
    clear HF F
    go_wp2
    refine body_gen (fun Z hZ => ?_)
    have bZ : Blk Z (w.heap.size + 1 + 1 + 1) 85 [.int .u64 c.1, .int .u64 c.2] := by rw [hZ]; exact ((br.set_ 0 _).set_ 1 _).ext _ _
    have hbZ : Below w.heap.size w Z := by
      rw [hZ]
      exact Below.ext_mk ((hbV.setCell (p := ⟨w.heap.size + 1 + 1 + 1, 0, none⟩) (by show w.heap.size ≤ w.heap.size + 1 + 1 + 1; omega) _).setCell (p := ⟨w.heap.size + 1 + 1 + 1, 1, none⟩) (by show w.heap.size ≤ w.heap.size + 1 + 1 + 1; omega) _) (by simp; omega) _ _
    have u0 := bZ.cell 0
    have u1 := bZ.cell 1
    simp only [List.getElem?_cons_zero, List.getElem?_cons_succ] at u0 u1
    clear hZ
    refine bodyPost_ret (v := cv c) (by simp [results, Try.results61, go_sem, u0, u1]) rfl ?_
    exact Pure.of rfl hbZ

/-- All of one cube. -/
theorem call_dead (h : Dead w q) {c : Cu} (hc : CuOk c) {g : Nat} (b : Blk w g 85 [.int .u64 c.1, .int .u64 c.2]) :
    Calls Try.prog 56 #[.pointer q, .slice (some ⟨g, 0, none⟩) 1 1] w (Pure (.int .i64 0) w) := by
  have O := fun W (hb : Below w.heap.size w W) => cof_dead (h.below hb) hc
  have R := fun W (hb : Below w.heap.size w W) => or_dead (h.below hb) 0 0
  clear h
  go_enter Try.func56, Try.ntmps56
  go_wp2
  go_loopw [5, 11] (fun a i wr => ∃ k : Nat, k ≤ 1 ∧ a = .int .i64 0 ∧ i = .int .i64 k ∧ Below w.heap.size w wr) (fun _ i _ => 1 - (intOf i).toNat)
  case atStart => exact ⟨0, by omega, rfl, rfl, by (repeat' (first | (with_reducible exact Below.refl _ _) | (with_reducible refine Below.ext_mk ?_ ?_ _ _) | (with_reducible refine Below.alloc ?_ ?_ _) | (with_reducible refine Below.drew ?_) | (with_reducible refine Below.setCell ?_ ?_ _) | go_size))⟩
  case round =>
    obtain ⟨k, hk, rfl, rfl, hb⟩ := hrel
    have hbs := hb.size
    rcases (show k = 0 ∨ k = 1 by omega) with rfl | rfl
    · have c0 := (b.below hb).cell 0
      have c1 := (b.below hb).cell 1
      have zb := (b.below hb).lt
      simp only [List.getElem?_cons_zero, List.getElem?_cons_succ] at c0 c1
      have OW := fun W (hb2 : Below wr.heap.size wr W) => O W (hb.trans (hb2.mono hb.size))
      have RW := fun W (hb2 : Below wr.heap.size wr W) => R W (hb.trans (hb2.mono hb.size))
      clear O R b
      go_wp2_with (first
        | (go_at_call 59; refine (OW _ (by (repeat' (first | (with_reducible exact Below.refl _ _) | (with_reducible refine Below.ext_mk ?_ ?_ _ _) | (with_reducible refine Below.alloc ?_ ?_ _) | (with_reducible refine Below.drew ?_) | (with_reducible refine Below.setCell ?_ ?_ _) | go_size)))).mono ?_; rintro e w' ⟨rfl, m1, d1, rfl⟩)
        | (go_at_call 28; refine (RW _ (by (repeat' (first | (with_reducible exact Below.refl _ _) | (with_reducible refine Below.ext_mk ?_ ?_ _ _) | (with_reducible refine Below.alloc ?_ ?_ _) | (with_reducible refine Below.drew ?_) | (with_reducible refine Below.setCell ?_ ?_ _) | go_size)))).mono ?_; rintro e w' ⟨rfl, m2, d2, rfl⟩))
      go_roundw
      case rel => exact ⟨1, by omega, rfl, by go_num, by (repeat' (first | (with_reducible exact hb) | (with_reducible exact Below.refl _ _) | (with_reducible refine Below.ext_mk ?_ ?_ _ _) | (with_reducible refine Below.alloc ?_ ?_ _) | (with_reducible refine Below.drew ?_) | (with_reducible refine Below.setCell ?_ ?_ _) | go_size))⟩
      case measure => first | (simp [intOf]; done) | (simp [intOf]; omega)
    · clear O R b
      go_wp2
      go_returns
      exact Pure.of rfl (by (repeat' (first | (with_reducible exact hb) | (with_reducible exact Below.refl _ _) | (with_reducible refine Below.ext_mk ?_ ?_ _ _) | (with_reducible refine Below.alloc ?_ ?_ _) | (with_reducible refine Below.drew ?_) | (with_reducible refine Below.setCell ?_ ?_ _) | go_size)))
end
end Go.Proofs.Ytboekafmplomhaa
set_option linter.unusedVariables false
set_option linter.unusedSimpArgs false
namespace Go.Proofs.Ytboekafmplomhaa
open Go.RowKit

def cnAct (x0 x1 x2 x3 x4 x5 x6 x7 x8 x9 x10 x11 x12 x13 x14 x15 x16 x17 x18 x19 x20 x21 x22 x23 x24 x25 x26 x27 x28 x29 x30 x31 x32 x33 x34 x35 x36 x37 x38 x39 x40 x41 x42 x43 x44 x45 x46 x47 x48 x49 x50 x51 x52 x53 y54 y55 y56 y57 y58 y59 y60 y61 y62 y63 y64 y65 y66 y67 y68 y69 y70 y71 y72 y73 y74 y75 y76 y77 y78 y79 y80 y81 y82 y83 y84 y85 y86 z87 z88 : Value) (a most : Int) (q : Option Addr) (c : Cu) (b : Nat → Bool) (sq : Value) : Act :=
  { tmps := #[x0, x1, x2, x3, x4, x5, x6, x7, x8, x9, x10, x11, x12, x13, x14, x15, x16, x17, x18, x19, x20, x21, x22, x23, x24, x25, x26, x27, x28, x29, x30, x31, x32, x33, x34, x35, x36, x37, x38, x39, x40, x41, x42, x43, x44, x45, x46, x47, x48, x49, x50, x51, x52, x53, gy (b 0) (.slice none 0 0) y54, gy (b 1) (.int .i64 0) y55, gy (b 2) (.slice none 0 0) y56, gy (b 3) (.int .i64 0) y57, gy (b 4) (.int .i64 0) y58, gy (b 5) (.bool false) y59, gy (b 6) (.bool false) y60, gy (b 7) (.bool false) y61, gy (b 8) (.bool false) y62, gy (b 9) (.bool false) y63, gy (b 10) (.bool false) y64, gy (b 11) (.bool false) y65, gy (b 12) (.bool false) y66, gy (b 13) (.pointer q) y67, gy (b 14) (cv c) y68, gy (b 15) (.int .i64 0) y69, gy (b 16) (.bool false) y70, gy (b 17) (.bool false) y71, gy (b 18) (.bool false) y72, gy (b 19) (.pointer q) y73, gy (b 20) (cv c) y74, gy (b 21) (sq) y75, gy (b 22) (.int .i64 0) y76, gy (b 23) (.bool false) y77, gy (b 24) (.bool false) y78, gy (b 25) (.bool false) y79, gy (b 26) (.pointer q) y80, gy (b 27) (.int .i64 a) y81, gy (b 28) (cv c) y82, gy (b 29) (cv c) y83, gy (b 30) (cv c) y84, gy (b 31) (.bool false) y85, gy (b 32) (.bool false) y86, z87, z88], defers := [] }

set_option maxHeartbeats 16000000 in
set_option maxRecDepth 100000 in
theorem cubeNone_any {w : World} (a most : Int) {c : Cu} (hc : CuOk c) :
    Calls Try.prog 9 #[.int .i64 a, .int .i64 most, cv c] w (Pure (.bool true) w) := by
  have KN := hid (fun W => known32 W)
  go_enter Try.func9, Try.ntmps9
  go_upto_region 1 with (fail)
  refine wp_gen (fun V hV => ?_)
  have hbV : Below w.heap.size w V := by rw [hV]; (repeat' (first | (with_reducible exact Below.refl _ _) | (with_reducible refine Below.ext_mk ?_ ?_ _ _) | (with_reducible refine Below.alloc ?_ ?_ _) | (with_reducible refine Below.drew ?_) | (with_reducible refine Below.setCell ?_ ?_ _) | go_size))
  have bc : Blk V w.heap.size 85 [.int .u64 c.1, .int .u64 c.2] := by rw [hV]; exact Blk.new w 85 [.int .u64 c.1, .int .u64 c.2]
  clear hV
  obtain ⟨cb, hcb⟩ : ∃ cb, cb = w.heap.size := ⟨_, rfl⟩
  rw [← hcb] at bc ⊢
  clear hcb
  go_upto_region 4 with (first
    | ((with_reducible refine (new_call 2 (by omega) (by omega) _).mono ?_); rintro e w1 ⟨p, F, rfl, hS, hb, hF⟩))
  go_wp2_with fail
  go_loopw [26] (fun i wr => ∃ (j : Nat) (F1 : List Nat), j ≤ 3 ∧ i = .int .i64 j ∧ StoIs wr p F1 (fS j) ∧ StoStep w1 wr F F1) (fun i _ => 3 - (intOf i).toNat)
  case atStart => exact ⟨0, F, by omega, rfl, hS, StoStep.refl _ _⟩
  case round =>
    obtain ⟨j, F1, hj, rfl, hS1, st1⟩ := hrel
    by_cases hlt : j < 3
    · have hj1 : (j : Int) < 3 := by omega
      have M := var_call hS1 (fS_ok j (by omega)).1 (j : Int)
      unfold Tells at M
      clear hS hb hF
      go_wp2_with (go_at_call 24; refine M.mono ?_; rintro e w2 ⟨rfl, F2, hS2, st2⟩)
      go_roundw
      case rel => exact ⟨j + 1, F2, by omega, by go_num, hS2, st1.trans st2⟩
      case measure => first | (simp [intOf]; done) | (simp [intOf]; omega)
    · obtain rfl : j = 3 := by omega
      have hbw := hb.trans (st1.below hF hb.size)
      have hD := hS1.dead (fS_ok 3 (by omega)).1 fS_full
      have bc2 := bc.below hbw
      clear hS hS1 st1 hF hb hj hlt bc
      go_wp2_with fail
      refine wp_gen (fun W hW => ?_)
      have hbW : Below wr.heap.size wr W := by rw [hW]; ((repeat' (first | (with_reducible exact Below.refl _ _) | (with_reducible refine Below.ext_mk ?_ ?_ _ _) | (with_reducible refine Below.alloc ?_ ?_ _) | (with_reducible refine Below.drew ?_) | (with_reducible refine Below.setCell ?_ ?_ _) | go_size)))
      have zW0 : wr.heap.size < W.heap.size := by rw [hW]; first | (simp; done) | (simp; omega)
      have cW0_0 : W.cell? ⟨wr.heap.size, 0, none⟩ = some (.pointer none) := by rw [hW]; first | (go_simp; done) | (rw [World.cell?_alloc_past _ _ _ (by first | (simp; done) | (simp; omega))]; go_simp)
      have cW0_1 : W.cell? ⟨wr.heap.size, 1, none⟩ = some (.pointer (some ⟨p, 0, none⟩)) := by rw [hW]; first | (go_simp; done) | (rw [World.cell?_alloc_past _ _ _ (by first | (simp; done) | (simp; omega))]; go_simp)
      clear hW
      have hDW := hD.below hbW
      have bc3 := bc2.below hbW
      have hbB := hbw.trans (hbW.mono hbw.size)
      clear hD hbW bc2
      generalize wr.heap.size = g at *
      have HBB := hid (hbV.trans (hbB.mono hbV.size))
      clear hbw hbV hbB wr
      go_loopw [36] (fun i wr => ∃ k : Nat, k ≤ 2 ∧ i = .int .i64 k ∧ Below W.heap.size W wr) (fun i _ => 2 - (intOf i).toNat)
      case atStart => exact ⟨0, by omega, rfl, Below.refl _ _⟩
      case round =>
        obtain ⟨k, hk, rfl, hbr⟩ := hrel
        have hsr := hbr.size
        by_cases h2 : k < 2
        · obtain ⟨q, hq, hcell⟩ : ∃ q : Option Addr, Dead W q ∧ W.cell? ⟨g, k, none⟩ = some (.pointer q) := by
            rcases (show k = 0 ∨ k = 1 by omega) with rfl | rfl
            · exact ⟨_, NoSto.dead (.inl rfl), cW0_0⟩
            · exact ⟨_, hDW, cW0_1⟩
          have hk1 : (k : Int) < 2 := by omega
          have dcell := (hbr.cell (p := ⟨g, k, none⟩) zW0).trans hcell
          have zg : g < wr.heap.size := by omega
          have D := hid (hq.below hbr)
          have bcr := bc3.below hbr
          clear hq hDW cW0_0 cW0_1 hcell
          have a1 := fun U (hb : Below wr.heap.size wr U) => cpaths_dead (D.out.below hb) a most
          have a2 := fun U (hb : Below wr.heap.size wr U) => ccover_dead (D.out.below hb) a most
          go_upto_region 14 with (first
            | (go_at_call 54; refine (a1 _ (by (repeat' (first | (with_reducible exact Below.refl _ _) | (with_reducible refine Below.ext_mk ?_ ?_ _ _) | (with_reducible refine Below.alloc ?_ ?_ _) | (with_reducible refine Below.drew ?_) | (with_reducible refine Below.setCell ?_ ?_ _) | go_size)))).mono ?_; rintro e w' ⟨rfl, m1, d1, rfl⟩)
            | (go_at_call 55; refine (a2 _ (by (repeat' (first | (with_reducible exact Below.refl _ _) | (with_reducible refine Below.ext_mk ?_ ?_ _ _) | (with_reducible refine Below.alloc ?_ ?_ _) | (with_reducible refine Below.drew ?_) | (with_reducible refine Below.setCell ?_ ?_ _) | go_size)))).mono ?_; rintro e w' ⟨rfl, m2, d2, rfl⟩))
          refine wp_gen (fun X hX => ?_)
          have hbX : Below wr.heap.size wr X := by rw [hX]; (repeat' (first | (with_reducible exact Below.refl _ _) | (with_reducible refine Below.ext_mk ?_ ?_ _ _) | (with_reducible refine Below.alloc ?_ ?_ _) | (with_reducible refine Below.drew ?_) | (with_reducible refine Below.setCell ?_ ?_ _) | go_size))
          clear hX a1 a2
          have DX := hid (D.out.below hbX)
          have bcX := bcr.below hbX
          clear D bcr
          have w00 : IntKind.i64.wrap 0 = 0 := by decide
          refine wp_region_invs (fun L a' w' => ∃ qb : Nat, a' = cnAct (.int .i64 a) (.int .i64 most) (cv c) undef undef (.pointer (some ⟨cb, 0, none⟩)) u6 (.pointer (some ⟨p, 0, none⟩)) (.int .i64 0) u9 undef (.pointer q) (.slice none 0 0) (.bool false) (.slice none 0 0) (.bool false) (.tuple #[.pointer (some ⟨p, 0, none⟩), .int .i64 0]) (.tuple #[.pointer (some ⟨p, 0, none⟩), .int .i64 0]) (.pointer (some ⟨p, 0, none⟩)) (.int .i64 0) (.pointer (some ⟨p, 0, none⟩)) (.bool false) (.bool false) (.int .i64 0) (.bool false) (.bool false) (.int .i64 3) (.bool false) u28 u29 u30 u31 u32 (.pointer (some ⟨p, 0, none⟩)) (.slice (some ⟨g, 0, none⟩) 2 2) (.int .i64 2) (.int .i64 (k : Int)) (.bool true) (.pointer (some ⟨g, k, none⟩)) (.pointer q) (.tuple #[.slice none 0 0, .bool false]) (.pointer q) (.int .i64 a) (.int .i64 most) (.tuple #[.slice none 0 0, .bool false]) (.slice none 0 0) (.bool false) (.tuple #[.slice none 0 0, .bool false]) (.pointer q) (.int .i64 a) (.int .i64 most) (.tuple #[.slice none 0 0, .bool false]) (.slice none 0 0) (.bool false) u54 u55 u56 u57 u58 u59 u60 u61 u62 u63 u64 u65 u66 u67 u68 u69 u70 u71 u72 u73 u74 u75 u76 u77 u78 u79 u80 u81 u82 u83 u84 u85 u86 u87 undef a most q c (fun i => L.getD i false) (.slice (some ⟨qb, 0, none⟩) 1 1) ∧ Below X.heap.size X w' ∧ (L.getD 21 false = true → Blk w' qb 85 [.int .u64 c.1, .int .u64 c.2])) (by kernel_rfl) (by kernel_rfl) ⟨0, rfl, by (repeat' (first | (with_reducible exact Below.refl _ _) | (with_reducible refine Below.ext_mk ?_ ?_ _ _) | (with_reducible refine Below.alloc ?_ ?_ _) | (with_reducible refine Below.drew ?_) | (with_reducible refine Below.setCell ?_ ?_ _) | go_size)), fun h => by cases h⟩ ?_ ?_
          · rintro L a' w' hall ⟨qb, rfl, hB, -⟩
            have h32 := hall 32 (by decide)
            unfold cnAct
            simp only [hall 0 (by decide), hall 1 (by decide), hall 2 (by decide), hall 3 (by decide), hall 4 (by decide), hall 5 (by decide), hall 6 (by decide), hall 7 (by decide), hall 8 (by decide), hall 9 (by decide), hall 10 (by decide), hall 11 (by decide), hall 12 (by decide), hall 13 (by decide), hall 14 (by decide), hall 15 (by decide), hall 16 (by decide), hall 17 (by decide), hall 18 (by decide), hall 19 (by decide), hall 20 (by decide), hall 21 (by decide), hall 22 (by decide), hall 23 (by decide), hall 24 (by decide), hall 25 (by decide), hall 26 (by decide), hall 27 (by decide), hall 28 (by decide), hall 29 (by decide), hall 30 (by decide), hall 31 (by decide), hall 32 (by decide), gy_true]
            have hBr := hbr.trans ((hbX.trans (hB.mono hbX.size)).mono hbr.size)
            have hBr2 := hbX.trans (hB.mono hbX.size)
            clear hB hall h32
            go_wp2
            refine ⟨?_, ?_⟩
            · repeat (apply Exists.intro)
              refine ⟨⟨k + 1, ?_, ?_, hBr⟩, rfl⟩
              · omega
              · go_num
            · first | (simp [intOf]; done) | (simp [intOf]; omega)
          · refine ⟨fun L a' w' hn hI => ?_, ?_⟩
            · obtain ⟨qb, rfl, hB, hR⟩ := hI
              have hup := getD_up hn.2.1
              refine st_val (v := .slice none 0 0) (W1 := w') rfl (by unfold cnAct; simp only [gy_true]; go_simp) ?_
              refine ⟨qb, ?_, hB, fun h => hR (by rwa [up_other 0 21 (by decide)] at h)⟩
              unfold cnAct
              simp only [Act.put, List.setIfInBounds_toArray, List.set_cons_zero, List.set_cons_succ, hup, gy_true, up_other 0 1 (by decide), up_other 0 2 (by decide), up_other 0 3 (by decide), up_other 0 4 (by decide), up_other 0 5 (by decide), up_other 0 6 (by decide), up_other 0 7 (by decide), up_other 0 8 (by decide), up_other 0 9 (by decide), up_other 0 10 (by decide), up_other 0 11 (by decide), up_other 0 12 (by decide), up_other 0 13 (by decide), up_other 0 14 (by decide), up_other 0 15 (by decide), up_other 0 16 (by decide), up_other 0 17 (by decide), up_other 0 18 (by decide), up_other 0 19 (by decide), up_other 0 20 (by decide), up_other 0 21 (by decide), up_other 0 22 (by decide), up_other 0 23 (by decide), up_other 0 24 (by decide), up_other 0 25 (by decide), up_other 0 26 (by decide), up_other 0 27 (by decide), up_other 0 28 (by decide), up_other 0 29 (by decide), up_other 0 30 (by decide), up_other 0 31 (by decide), up_other 0 32 (by decide)]
            · refine ⟨fun L a' w' hn hI => ?_, ?_⟩
              · obtain ⟨qb, rfl, hB, hR⟩ := hI
                have hup := getD_up hn.2.1
                have d0 : L.getD 0 false = true := hn.2.2.1 0 (by decide +kernel)
                refine st_val (v := .int .i64 0) (W1 := w') rfl (by unfold cnAct; simp only [gy_true, d0]; go_simp) ?_
                refine ⟨qb, ?_, hB, fun h => hR (by rwa [up_other 1 21 (by decide)] at h)⟩
                unfold cnAct
                simp only [Act.put, List.setIfInBounds_toArray, List.set_cons_zero, List.set_cons_succ, hup, gy_true, up_other 1 0 (by decide), up_other 1 2 (by decide), up_other 1 3 (by decide), up_other 1 4 (by decide), up_other 1 5 (by decide), up_other 1 6 (by decide), up_other 1 7 (by decide), up_other 1 8 (by decide), up_other 1 9 (by decide), up_other 1 10 (by decide), up_other 1 11 (by decide), up_other 1 12 (by decide), up_other 1 13 (by decide), up_other 1 14 (by decide), up_other 1 15 (by decide), up_other 1 16 (by decide), up_other 1 17 (by decide), up_other 1 18 (by decide), up_other 1 19 (by decide), up_other 1 20 (by decide), up_other 1 21 (by decide), up_other 1 22 (by decide), up_other 1 23 (by decide), up_other 1 24 (by decide), up_other 1 25 (by decide), up_other 1 26 (by decide), up_other 1 27 (by decide), up_other 1 28 (by decide), up_other 1 29 (by decide), up_other 1 30 (by decide), up_other 1 31 (by decide), up_other 1 32 (by decide)]
              · refine ⟨fun L a' w' hn hI => ?_, ?_⟩
                · obtain ⟨qb, rfl, hB, hR⟩ := hI
                  have hup := getD_up hn.2.1
                  refine st_val (v := .slice none 0 0) (W1 := w') rfl (by unfold cnAct; simp only [gy_true]; go_simp) ?_
                  refine ⟨qb, ?_, hB, fun h => hR (by rwa [up_other 2 21 (by decide)] at h)⟩
                  unfold cnAct
                  simp only [Act.put, List.setIfInBounds_toArray, List.set_cons_zero, List.set_cons_succ, hup, gy_true, up_other 2 0 (by decide), up_other 2 1 (by decide), up_other 2 3 (by decide), up_other 2 4 (by decide), up_other 2 5 (by decide), up_other 2 6 (by decide), up_other 2 7 (by decide), up_other 2 8 (by decide), up_other 2 9 (by decide), up_other 2 10 (by decide), up_other 2 11 (by decide), up_other 2 12 (by decide), up_other 2 13 (by decide), up_other 2 14 (by decide), up_other 2 15 (by decide), up_other 2 16 (by decide), up_other 2 17 (by decide), up_other 2 18 (by decide), up_other 2 19 (by decide), up_other 2 20 (by decide), up_other 2 21 (by decide), up_other 2 22 (by decide), up_other 2 23 (by decide), up_other 2 24 (by decide), up_other 2 25 (by decide), up_other 2 26 (by decide), up_other 2 27 (by decide), up_other 2 28 (by decide), up_other 2 29 (by decide), up_other 2 30 (by decide), up_other 2 31 (by decide), up_other 2 32 (by decide)]
                · refine ⟨fun L a' w' hn hI => ?_, ?_⟩
                  · obtain ⟨qb, rfl, hB, hR⟩ := hI
                    have hup := getD_up hn.2.1
                    have d2 : L.getD 2 false = true := hn.2.2.1 2 (by decide +kernel)
                    refine st_val (v := .int .i64 0) (W1 := w') rfl (by unfold cnAct; simp only [gy_true, d2]; go_simp) ?_
                    refine ⟨qb, ?_, hB, fun h => hR (by rwa [up_other 3 21 (by decide)] at h)⟩
                    unfold cnAct
                    simp only [Act.put, List.setIfInBounds_toArray, List.set_cons_zero, List.set_cons_succ, hup, gy_true, up_other 3 0 (by decide), up_other 3 1 (by decide), up_other 3 2 (by decide), up_other 3 4 (by decide), up_other 3 5 (by decide), up_other 3 6 (by decide), up_other 3 7 (by decide), up_other 3 8 (by decide), up_other 3 9 (by decide), up_other 3 10 (by decide), up_other 3 11 (by decide), up_other 3 12 (by decide), up_other 3 13 (by decide), up_other 3 14 (by decide), up_other 3 15 (by decide), up_other 3 16 (by decide), up_other 3 17 (by decide), up_other 3 18 (by decide), up_other 3 19 (by decide), up_other 3 20 (by decide), up_other 3 21 (by decide), up_other 3 22 (by decide), up_other 3 23 (by decide), up_other 3 24 (by decide), up_other 3 25 (by decide), up_other 3 26 (by decide), up_other 3 27 (by decide), up_other 3 28 (by decide), up_other 3 29 (by decide), up_other 3 30 (by decide), up_other 3 31 (by decide), up_other 3 32 (by decide)]
                  · refine ⟨fun L a' w' hn hI => ?_, ?_⟩
                    · obtain ⟨qb, rfl, hB, hR⟩ := hI
                      have hup := getD_up hn.2.1
                      have d1 : L.getD 1 false = true := hn.2.2.1 1 (by decide +kernel)
                      have d3 : L.getD 3 false = true := hn.2.2.1 3 (by decide +kernel)
                      refine st_val (v := .int .i64 0) (W1 := w') rfl (by unfold cnAct; simp only [gy_true, d1, d3]; go_simp) ?_
                      refine ⟨qb, ?_, hB, fun h => hR (by rwa [up_other 4 21 (by decide)] at h)⟩
                      unfold cnAct
                      simp only [Act.put, List.setIfInBounds_toArray, List.set_cons_zero, List.set_cons_succ, hup, gy_true, up_other 4 0 (by decide), up_other 4 1 (by decide), up_other 4 2 (by decide), up_other 4 3 (by decide), up_other 4 5 (by decide), up_other 4 6 (by decide), up_other 4 7 (by decide), up_other 4 8 (by decide), up_other 4 9 (by decide), up_other 4 10 (by decide), up_other 4 11 (by decide), up_other 4 12 (by decide), up_other 4 13 (by decide), up_other 4 14 (by decide), up_other 4 15 (by decide), up_other 4 16 (by decide), up_other 4 17 (by decide), up_other 4 18 (by decide), up_other 4 19 (by decide), up_other 4 20 (by decide), up_other 4 21 (by decide), up_other 4 22 (by decide), up_other 4 23 (by decide), up_other 4 24 (by decide), up_other 4 25 (by decide), up_other 4 26 (by decide), up_other 4 27 (by decide), up_other 4 28 (by decide), up_other 4 29 (by decide), up_other 4 30 (by decide), up_other 4 31 (by decide), up_other 4 32 (by decide)]
                    · refine ⟨fun L a' w' hn hI => ?_, ?_⟩
                      · obtain ⟨qb, rfl, hB, hR⟩ := hI
                        have hup := getD_up hn.2.1
                        have d4 : L.getD 4 false = true := hn.2.2.1 4 (by decide +kernel)
                        refine st_val (v := .bool false) (W1 := w') rfl (by unfold cnAct; simp only [gy_true, d4]; go_simp) ?_
                        refine ⟨qb, ?_, hB, fun h => hR (by rwa [up_other 5 21 (by decide)] at h)⟩
                        unfold cnAct
                        simp only [Act.put, List.setIfInBounds_toArray, List.set_cons_zero, List.set_cons_succ, hup, gy_true, up_other 5 0 (by decide), up_other 5 1 (by decide), up_other 5 2 (by decide), up_other 5 3 (by decide), up_other 5 4 (by decide), up_other 5 6 (by decide), up_other 5 7 (by decide), up_other 5 8 (by decide), up_other 5 9 (by decide), up_other 5 10 (by decide), up_other 5 11 (by decide), up_other 5 12 (by decide), up_other 5 13 (by decide), up_other 5 14 (by decide), up_other 5 15 (by decide), up_other 5 16 (by decide), up_other 5 17 (by decide), up_other 5 18 (by decide), up_other 5 19 (by decide), up_other 5 20 (by decide), up_other 5 21 (by decide), up_other 5 22 (by decide), up_other 5 23 (by decide), up_other 5 24 (by decide), up_other 5 25 (by decide), up_other 5 26 (by decide), up_other 5 27 (by decide), up_other 5 28 (by decide), up_other 5 29 (by decide), up_other 5 30 (by decide), up_other 5 31 (by decide), up_other 5 32 (by decide)]
                      · refine ⟨fun L a' w' hn hI => ?_, ?_⟩
                        · obtain ⟨qb, rfl, hB, hR⟩ := hI
                          have hup := getD_up hn.2.1
                          have d5 : L.getD 5 false = true := hn.2.2.1 5 (by decide +kernel)
                          refine st_val (v := .bool false) (W1 := w') rfl (by unfold cnAct; simp only [gy_true, d5]; go_simp) ?_
                          refine ⟨qb, ?_, hB, fun h => hR (by rwa [up_other 6 21 (by decide)] at h)⟩
                          unfold cnAct
                          simp only [Act.put, List.setIfInBounds_toArray, List.set_cons_zero, List.set_cons_succ, hup, gy_true, up_other 6 0 (by decide), up_other 6 1 (by decide), up_other 6 2 (by decide), up_other 6 3 (by decide), up_other 6 4 (by decide), up_other 6 5 (by decide), up_other 6 7 (by decide), up_other 6 8 (by decide), up_other 6 9 (by decide), up_other 6 10 (by decide), up_other 6 11 (by decide), up_other 6 12 (by decide), up_other 6 13 (by decide), up_other 6 14 (by decide), up_other 6 15 (by decide), up_other 6 16 (by decide), up_other 6 17 (by decide), up_other 6 18 (by decide), up_other 6 19 (by decide), up_other 6 20 (by decide), up_other 6 21 (by decide), up_other 6 22 (by decide), up_other 6 23 (by decide), up_other 6 24 (by decide), up_other 6 25 (by decide), up_other 6 26 (by decide), up_other 6 27 (by decide), up_other 6 28 (by decide), up_other 6 29 (by decide), up_other 6 30 (by decide), up_other 6 31 (by decide), up_other 6 32 (by decide)]
                        · refine ⟨fun L a' w' hn hI => ?_, ?_⟩
                          · obtain ⟨qb, rfl, hB, hR⟩ := hI
                            have hup := getD_up hn.2.1
                            have d6 : L.getD 6 false = true := hn.2.2.1 6 (by decide +kernel)
                            refine st_val (v := .bool false) (W1 := w') (wanted_f (x := false) rfl (by unfold cnAct; simp only [gy_true, d6]; rfl)) (by unfold cnAct; simp only [gy_true, d6]; go_simp) ?_
                            refine ⟨qb, ?_, hB, fun h => hR (by rwa [up_other 7 21 (by decide)] at h)⟩
                            unfold cnAct
                            simp only [Act.put, List.setIfInBounds_toArray, List.set_cons_zero, List.set_cons_succ, hup, gy_true, up_other 7 0 (by decide), up_other 7 1 (by decide), up_other 7 2 (by decide), up_other 7 3 (by decide), up_other 7 4 (by decide), up_other 7 5 (by decide), up_other 7 6 (by decide), up_other 7 8 (by decide), up_other 7 9 (by decide), up_other 7 10 (by decide), up_other 7 11 (by decide), up_other 7 12 (by decide), up_other 7 13 (by decide), up_other 7 14 (by decide), up_other 7 15 (by decide), up_other 7 16 (by decide), up_other 7 17 (by decide), up_other 7 18 (by decide), up_other 7 19 (by decide), up_other 7 20 (by decide), up_other 7 21 (by decide), up_other 7 22 (by decide), up_other 7 23 (by decide), up_other 7 24 (by decide), up_other 7 25 (by decide), up_other 7 26 (by decide), up_other 7 27 (by decide), up_other 7 28 (by decide), up_other 7 29 (by decide), up_other 7 30 (by decide), up_other 7 31 (by decide), up_other 7 32 (by decide)]
                          · refine ⟨fun L a' w' hn hI => ?_, ?_⟩
                            · obtain ⟨qb, rfl, hB, hR⟩ := hI
                              have hup := getD_up hn.2.1
                              have d6 : L.getD 6 false = true := hn.2.2.1 6 (by decide +kernel)
                              have d7 : L.getD 7 false = true := hn.2.2.1 7 (by decide +kernel)
                              refine st_val (v := .bool false) (W1 := w') rfl (by unfold cnAct; simp only [gy_true, d6, d7]; go_simp) ?_
                              refine ⟨qb, ?_, hB, fun h => hR (by rwa [up_other 8 21 (by decide)] at h)⟩
                              unfold cnAct
                              simp only [Act.put, List.setIfInBounds_toArray, List.set_cons_zero, List.set_cons_succ, hup, gy_true, up_other 8 0 (by decide), up_other 8 1 (by decide), up_other 8 2 (by decide), up_other 8 3 (by decide), up_other 8 4 (by decide), up_other 8 5 (by decide), up_other 8 6 (by decide), up_other 8 7 (by decide), up_other 8 9 (by decide), up_other 8 10 (by decide), up_other 8 11 (by decide), up_other 8 12 (by decide), up_other 8 13 (by decide), up_other 8 14 (by decide), up_other 8 15 (by decide), up_other 8 16 (by decide), up_other 8 17 (by decide), up_other 8 18 (by decide), up_other 8 19 (by decide), up_other 8 20 (by decide), up_other 8 21 (by decide), up_other 8 22 (by decide), up_other 8 23 (by decide), up_other 8 24 (by decide), up_other 8 25 (by decide), up_other 8 26 (by decide), up_other 8 27 (by decide), up_other 8 28 (by decide), up_other 8 29 (by decide), up_other 8 30 (by decide), up_other 8 31 (by decide), up_other 8 32 (by decide)]
                            · refine ⟨fun L a' w' hn hI => ?_, ?_⟩
                              · obtain ⟨qb, rfl, hB, hR⟩ := hI
                                have hup := getD_up hn.2.1
                                have d8 : L.getD 8 false = true := hn.2.2.1 8 (by decide +kernel)
                                refine st_val (v := .bool false) (W1 := w') rfl (by unfold cnAct; simp only [gy_true, d8]; go_simp) ?_
                                refine ⟨qb, ?_, hB, fun h => hR (by rwa [up_other 9 21 (by decide)] at h)⟩
                                unfold cnAct
                                simp only [Act.put, List.setIfInBounds_toArray, List.set_cons_zero, List.set_cons_succ, hup, gy_true, up_other 9 0 (by decide), up_other 9 1 (by decide), up_other 9 2 (by decide), up_other 9 3 (by decide), up_other 9 4 (by decide), up_other 9 5 (by decide), up_other 9 6 (by decide), up_other 9 7 (by decide), up_other 9 8 (by decide), up_other 9 10 (by decide), up_other 9 11 (by decide), up_other 9 12 (by decide), up_other 9 13 (by decide), up_other 9 14 (by decide), up_other 9 15 (by decide), up_other 9 16 (by decide), up_other 9 17 (by decide), up_other 9 18 (by decide), up_other 9 19 (by decide), up_other 9 20 (by decide), up_other 9 21 (by decide), up_other 9 22 (by decide), up_other 9 23 (by decide), up_other 9 24 (by decide), up_other 9 25 (by decide), up_other 9 26 (by decide), up_other 9 27 (by decide), up_other 9 28 (by decide), up_other 9 29 (by decide), up_other 9 30 (by decide), up_other 9 31 (by decide), up_other 9 32 (by decide)]
                              · refine ⟨fun L a' w' hn hI => ?_, ?_⟩
                                · obtain ⟨qb, rfl, hB, hR⟩ := hI
                                  have hup := getD_up hn.2.1
                                  have d9 : L.getD 9 false = true := hn.2.2.1 9 (by decide +kernel)
                                  refine st_val (v := .bool false) (W1 := w') (wanted_f (x := false) rfl (by unfold cnAct; simp only [gy_true, d9]; rfl)) (by unfold cnAct; simp only [gy_true, d9]; go_simp) ?_
                                  refine ⟨qb, ?_, hB, fun h => hR (by rwa [up_other 10 21 (by decide)] at h)⟩
                                  unfold cnAct
                                  simp only [Act.put, List.setIfInBounds_toArray, List.set_cons_zero, List.set_cons_succ, hup, gy_true, up_other 10 0 (by decide), up_other 10 1 (by decide), up_other 10 2 (by decide), up_other 10 3 (by decide), up_other 10 4 (by decide), up_other 10 5 (by decide), up_other 10 6 (by decide), up_other 10 7 (by decide), up_other 10 8 (by decide), up_other 10 9 (by decide), up_other 10 11 (by decide), up_other 10 12 (by decide), up_other 10 13 (by decide), up_other 10 14 (by decide), up_other 10 15 (by decide), up_other 10 16 (by decide), up_other 10 17 (by decide), up_other 10 18 (by decide), up_other 10 19 (by decide), up_other 10 20 (by decide), up_other 10 21 (by decide), up_other 10 22 (by decide), up_other 10 23 (by decide), up_other 10 24 (by decide), up_other 10 25 (by decide), up_other 10 26 (by decide), up_other 10 27 (by decide), up_other 10 28 (by decide), up_other 10 29 (by decide), up_other 10 30 (by decide), up_other 10 31 (by decide), up_other 10 32 (by decide)]
                                · refine ⟨fun L a' w' hn hI => ?_, ?_⟩
                                  · obtain ⟨qb, rfl, hB, hR⟩ := hI
                                    have hup := getD_up hn.2.1
                                    have d9 : L.getD 9 false = true := hn.2.2.1 9 (by decide +kernel)
                                    have d10 : L.getD 10 false = true := hn.2.2.1 10 (by decide +kernel)
                                    refine st_val (v := .bool false) (W1 := w') rfl (by unfold cnAct; simp only [gy_true, d9, d10]; go_simp) ?_
                                    refine ⟨qb, ?_, hB, fun h => hR (by rwa [up_other 11 21 (by decide)] at h)⟩
                                    unfold cnAct
                                    simp only [Act.put, List.setIfInBounds_toArray, List.set_cons_zero, List.set_cons_succ, hup, gy_true, up_other 11 0 (by decide), up_other 11 1 (by decide), up_other 11 2 (by decide), up_other 11 3 (by decide), up_other 11 4 (by decide), up_other 11 5 (by decide), up_other 11 6 (by decide), up_other 11 7 (by decide), up_other 11 8 (by decide), up_other 11 9 (by decide), up_other 11 10 (by decide), up_other 11 12 (by decide), up_other 11 13 (by decide), up_other 11 14 (by decide), up_other 11 15 (by decide), up_other 11 16 (by decide), up_other 11 17 (by decide), up_other 11 18 (by decide), up_other 11 19 (by decide), up_other 11 20 (by decide), up_other 11 21 (by decide), up_other 11 22 (by decide), up_other 11 23 (by decide), up_other 11 24 (by decide), up_other 11 25 (by decide), up_other 11 26 (by decide), up_other 11 27 (by decide), up_other 11 28 (by decide), up_other 11 29 (by decide), up_other 11 30 (by decide), up_other 11 31 (by decide), up_other 11 32 (by decide)]
                                  · refine ⟨fun L a' w' hn hI => ?_, ?_⟩
                                    · obtain ⟨qb, rfl, hB, hR⟩ := hI
                                      have hup := getD_up hn.2.1
                                      have d11 : L.getD 11 false = true := hn.2.2.1 11 (by decide +kernel)
                                      refine st_val (v := .bool false) (W1 := w') rfl (by unfold cnAct; simp only [gy_true, d11]; go_simp) ?_
                                      refine ⟨qb, ?_, hB, fun h => hR (by rwa [up_other 12 21 (by decide)] at h)⟩
                                      unfold cnAct
                                      simp only [Act.put, List.setIfInBounds_toArray, List.set_cons_zero, List.set_cons_succ, hup, gy_true, up_other 12 0 (by decide), up_other 12 1 (by decide), up_other 12 2 (by decide), up_other 12 3 (by decide), up_other 12 4 (by decide), up_other 12 5 (by decide), up_other 12 6 (by decide), up_other 12 7 (by decide), up_other 12 8 (by decide), up_other 12 9 (by decide), up_other 12 10 (by decide), up_other 12 11 (by decide), up_other 12 13 (by decide), up_other 12 14 (by decide), up_other 12 15 (by decide), up_other 12 16 (by decide), up_other 12 17 (by decide), up_other 12 18 (by decide), up_other 12 19 (by decide), up_other 12 20 (by decide), up_other 12 21 (by decide), up_other 12 22 (by decide), up_other 12 23 (by decide), up_other 12 24 (by decide), up_other 12 25 (by decide), up_other 12 26 (by decide), up_other 12 27 (by decide), up_other 12 28 (by decide), up_other 12 29 (by decide), up_other 12 30 (by decide), up_other 12 31 (by decide), up_other 12 32 (by decide)]
                                    · refine ⟨fun L a' w' hn hI => ?_, ?_⟩
                                      · obtain ⟨qb, rfl, hB, hR⟩ := hI
                                        have hup := getD_up hn.2.1
                                        have d12 : L.getD 12 false = true := hn.2.2.1 12 (by decide +kernel)
                                        refine st_val (v := .pointer q) (W1 := w') (wanted_f (x := false) rfl (by unfold cnAct; simp only [gy_true, d12]; rfl)) (by unfold cnAct; simp only [gy_true, d12]; go_simp) ?_
                                        refine ⟨qb, ?_, hB, fun h => hR (by rwa [up_other 13 21 (by decide)] at h)⟩
                                        unfold cnAct
                                        simp only [Act.put, List.setIfInBounds_toArray, List.set_cons_zero, List.set_cons_succ, hup, gy_true, up_other 13 0 (by decide), up_other 13 1 (by decide), up_other 13 2 (by decide), up_other 13 3 (by decide), up_other 13 4 (by decide), up_other 13 5 (by decide), up_other 13 6 (by decide), up_other 13 7 (by decide), up_other 13 8 (by decide), up_other 13 9 (by decide), up_other 13 10 (by decide), up_other 13 11 (by decide), up_other 13 12 (by decide), up_other 13 14 (by decide), up_other 13 15 (by decide), up_other 13 16 (by decide), up_other 13 17 (by decide), up_other 13 18 (by decide), up_other 13 19 (by decide), up_other 13 20 (by decide), up_other 13 21 (by decide), up_other 13 22 (by decide), up_other 13 23 (by decide), up_other 13 24 (by decide), up_other 13 25 (by decide), up_other 13 26 (by decide), up_other 13 27 (by decide), up_other 13 28 (by decide), up_other 13 29 (by decide), up_other 13 30 (by decide), up_other 13 31 (by decide), up_other 13 32 (by decide)]
                                      · refine ⟨fun L a' w' hn hI => ?_, ?_⟩
                                        · obtain ⟨qb, rfl, hB, hR⟩ := hI
                                          have hup := getD_up hn.2.1
                                          have d12 : L.getD 12 false = true := hn.2.2.1 12 (by decide +kernel)
                                          have c0 := (bcX.below hB).cell 0
                                          have c1 := (bcX.below hB).cell 1
                                          have zc := (bcX.below hB).lt
                                          simp only [List.getElem?_cons_zero, List.getElem?_cons_succ] at c0 c1
                                          refine st_val (v := cv c) (W1 := w') (wanted_f (x := false) rfl (by unfold cnAct; simp only [gy_true, d12]; rfl)) (by unfold cnAct; simp only [gy_true, d12]; go_simp) ?_
                                          refine ⟨qb, ?_, hB, fun h => hR (by rwa [up_other 14 21 (by decide)] at h)⟩
                                          unfold cnAct
                                          simp only [Act.put, List.setIfInBounds_toArray, List.set_cons_zero, List.set_cons_succ, hup, gy_true, up_other 14 0 (by decide), up_other 14 1 (by decide), up_other 14 2 (by decide), up_other 14 3 (by decide), up_other 14 4 (by decide), up_other 14 5 (by decide), up_other 14 6 (by decide), up_other 14 7 (by decide), up_other 14 8 (by decide), up_other 14 9 (by decide), up_other 14 10 (by decide), up_other 14 11 (by decide), up_other 14 12 (by decide), up_other 14 13 (by decide), up_other 14 15 (by decide), up_other 14 16 (by decide), up_other 14 17 (by decide), up_other 14 18 (by decide), up_other 14 19 (by decide), up_other 14 20 (by decide), up_other 14 21 (by decide), up_other 14 22 (by decide), up_other 14 23 (by decide), up_other 14 24 (by decide), up_other 14 25 (by decide), up_other 14 26 (by decide), up_other 14 27 (by decide), up_other 14 28 (by decide), up_other 14 29 (by decide), up_other 14 30 (by decide), up_other 14 31 (by decide), up_other 14 32 (by decide)]
                                        · refine ⟨fun L a' w' hn hI => ?_, ?_⟩
                                          · obtain ⟨qb, rfl, hB, hR⟩ := hI
                                            have hup := getD_up hn.2.1
                                            have d13 : L.getD 13 false = true := hn.2.2.1 13 (by decide +kernel)
                                            have d14 : L.getD 14 false = true := hn.2.2.1 14 (by decide +kernel)
                                            have d12 : L.getD 12 false = true := hn.2.2.1 12 (by decide +kernel)
                                            refine st_call (f := 59) (args := #[.pointer q, cv c]) (W1 := w') (wanted_f (x := false) rfl (by unfold cnAct; simp only [gy_true, d13, d14, d12]; rfl)) (by unfold cnAct; simp only [gy_true, d13, d14, d12]; first | (go_simp; done) | (go_simp; exact ⟨rfl, rfl⟩) | (go_simp; with_reducible rfl)) ((cof_dead (DX.out.below hB) hc).mono ?_)
                                            rintro e w2 ⟨rfl, m2, d2, rfl⟩
                                            refine ⟨_, rfl, qb, ?_, Below.ext_mk hB hB.size m2 d2, fun h => (hR (by rwa [up_other 15 21 (by decide)] at h)).ext m2 d2⟩
                                            unfold cnAct
                                            simp only [Act.put, List.setIfInBounds_toArray, List.set_cons_zero, List.set_cons_succ, hup, gy_true, up_other 15 0 (by decide), up_other 15 1 (by decide), up_other 15 2 (by decide), up_other 15 3 (by decide), up_other 15 4 (by decide), up_other 15 5 (by decide), up_other 15 6 (by decide), up_other 15 7 (by decide), up_other 15 8 (by decide), up_other 15 9 (by decide), up_other 15 10 (by decide), up_other 15 11 (by decide), up_other 15 12 (by decide), up_other 15 13 (by decide), up_other 15 14 (by decide), up_other 15 16 (by decide), up_other 15 17 (by decide), up_other 15 18 (by decide), up_other 15 19 (by decide), up_other 15 20 (by decide), up_other 15 21 (by decide), up_other 15 22 (by decide), up_other 15 23 (by decide), up_other 15 24 (by decide), up_other 15 25 (by decide), up_other 15 26 (by decide), up_other 15 27 (by decide), up_other 15 28 (by decide), up_other 15 29 (by decide), up_other 15 30 (by decide), up_other 15 31 (by decide), up_other 15 32 (by decide)]
                                          · refine ⟨fun L a' w' hn hI => ?_, ?_⟩
                                            · obtain ⟨qb, rfl, hB, hR⟩ := hI
                                              have hup := getD_up hn.2.1
                                              have d15 : L.getD 15 false = true := hn.2.2.1 15 (by decide +kernel)
                                              have d12 : L.getD 12 false = true := hn.2.2.1 12 (by decide +kernel)
                                              refine st_val (v := .bool false) (W1 := w') (wanted_f (x := false) rfl (by unfold cnAct; simp only [gy_true, d15, d12]; rfl)) (by unfold cnAct; simp only [gy_true, d15, d12]; go_simp) ?_
                                              refine ⟨qb, ?_, hB, fun h => hR (by rwa [up_other 16 21 (by decide)] at h)⟩
                                              unfold cnAct
                                              simp only [Act.put, List.setIfInBounds_toArray, List.set_cons_zero, List.set_cons_succ, hup, gy_true, up_other 16 0 (by decide), up_other 16 1 (by decide), up_other 16 2 (by decide), up_other 16 3 (by decide), up_other 16 4 (by decide), up_other 16 5 (by decide), up_other 16 6 (by decide), up_other 16 7 (by decide), up_other 16 8 (by decide), up_other 16 9 (by decide), up_other 16 10 (by decide), up_other 16 11 (by decide), up_other 16 12 (by decide), up_other 16 13 (by decide), up_other 16 14 (by decide), up_other 16 15 (by decide), up_other 16 17 (by decide), up_other 16 18 (by decide), up_other 16 19 (by decide), up_other 16 20 (by decide), up_other 16 21 (by decide), up_other 16 22 (by decide), up_other 16 23 (by decide), up_other 16 24 (by decide), up_other 16 25 (by decide), up_other 16 26 (by decide), up_other 16 27 (by decide), up_other 16 28 (by decide), up_other 16 29 (by decide), up_other 16 30 (by decide), up_other 16 31 (by decide), up_other 16 32 (by decide)]
                                            · refine ⟨fun L a' w' hn hI => ?_, ?_⟩
                                              · obtain ⟨qb, rfl, hB, hR⟩ := hI
                                                have hup := getD_up hn.2.1
                                                have d12 : L.getD 12 false = true := hn.2.2.1 12 (by decide +kernel)
                                                have d16 : L.getD 16 false = true := hn.2.2.1 16 (by decide +kernel)
                                                refine st_val (v := .bool false) (W1 := w') rfl (by unfold cnAct; simp only [gy_true, d12, d16]; go_simp) ?_
                                                refine ⟨qb, ?_, hB, fun h => hR (by rwa [up_other 17 21 (by decide)] at h)⟩
                                                unfold cnAct
                                                simp only [Act.put, List.setIfInBounds_toArray, List.set_cons_zero, List.set_cons_succ, hup, gy_true, up_other 17 0 (by decide), up_other 17 1 (by decide), up_other 17 2 (by decide), up_other 17 3 (by decide), up_other 17 4 (by decide), up_other 17 5 (by decide), up_other 17 6 (by decide), up_other 17 7 (by decide), up_other 17 8 (by decide), up_other 17 9 (by decide), up_other 17 10 (by decide), up_other 17 11 (by decide), up_other 17 12 (by decide), up_other 17 13 (by decide), up_other 17 14 (by decide), up_other 17 15 (by decide), up_other 17 16 (by decide), up_other 17 18 (by decide), up_other 17 19 (by decide), up_other 17 20 (by decide), up_other 17 21 (by decide), up_other 17 22 (by decide), up_other 17 23 (by decide), up_other 17 24 (by decide), up_other 17 25 (by decide), up_other 17 26 (by decide), up_other 17 27 (by decide), up_other 17 28 (by decide), up_other 17 29 (by decide), up_other 17 30 (by decide), up_other 17 31 (by decide), up_other 17 32 (by decide)]
                                              · refine ⟨fun L a' w' hn hI => ?_, ?_⟩
                                                · obtain ⟨qb, rfl, hB, hR⟩ := hI
                                                  have hup := getD_up hn.2.1
                                                  have d17 : L.getD 17 false = true := hn.2.2.1 17 (by decide +kernel)
                                                  refine st_val (v := .bool false) (W1 := w') rfl (by unfold cnAct; simp only [gy_true, d17]; go_simp) ?_
                                                  refine ⟨qb, ?_, hB, fun h => hR (by rwa [up_other 18 21 (by decide)] at h)⟩
                                                  unfold cnAct
                                                  simp only [Act.put, List.setIfInBounds_toArray, List.set_cons_zero, List.set_cons_succ, hup, gy_true, up_other 18 0 (by decide), up_other 18 1 (by decide), up_other 18 2 (by decide), up_other 18 3 (by decide), up_other 18 4 (by decide), up_other 18 5 (by decide), up_other 18 6 (by decide), up_other 18 7 (by decide), up_other 18 8 (by decide), up_other 18 9 (by decide), up_other 18 10 (by decide), up_other 18 11 (by decide), up_other 18 12 (by decide), up_other 18 13 (by decide), up_other 18 14 (by decide), up_other 18 15 (by decide), up_other 18 16 (by decide), up_other 18 17 (by decide), up_other 18 19 (by decide), up_other 18 20 (by decide), up_other 18 21 (by decide), up_other 18 22 (by decide), up_other 18 23 (by decide), up_other 18 24 (by decide), up_other 18 25 (by decide), up_other 18 26 (by decide), up_other 18 27 (by decide), up_other 18 28 (by decide), up_other 18 29 (by decide), up_other 18 30 (by decide), up_other 18 31 (by decide), up_other 18 32 (by decide)]
                                                · refine ⟨fun L a' w' hn hI => ?_, ?_⟩
                                                  · obtain ⟨qb, rfl, hB, hR⟩ := hI
                                                    have hup := getD_up hn.2.1
                                                    have d18 : L.getD 18 false = true := hn.2.2.1 18 (by decide +kernel)
                                                    refine st_val (v := .pointer q) (W1 := w') (wanted_f (x := false) rfl (by unfold cnAct; simp only [gy_true, d18]; rfl)) (by unfold cnAct; simp only [gy_true, d18]; go_simp) ?_
                                                    refine ⟨qb, ?_, hB, fun h => hR (by rwa [up_other 19 21 (by decide)] at h)⟩
                                                    unfold cnAct
                                                    simp only [Act.put, List.setIfInBounds_toArray, List.set_cons_zero, List.set_cons_succ, hup, gy_true, up_other 19 0 (by decide), up_other 19 1 (by decide), up_other 19 2 (by decide), up_other 19 3 (by decide), up_other 19 4 (by decide), up_other 19 5 (by decide), up_other 19 6 (by decide), up_other 19 7 (by decide), up_other 19 8 (by decide), up_other 19 9 (by decide), up_other 19 10 (by decide), up_other 19 11 (by decide), up_other 19 12 (by decide), up_other 19 13 (by decide), up_other 19 14 (by decide), up_other 19 15 (by decide), up_other 19 16 (by decide), up_other 19 17 (by decide), up_other 19 18 (by decide), up_other 19 20 (by decide), up_other 19 21 (by decide), up_other 19 22 (by decide), up_other 19 23 (by decide), up_other 19 24 (by decide), up_other 19 25 (by decide), up_other 19 26 (by decide), up_other 19 27 (by decide), up_other 19 28 (by decide), up_other 19 29 (by decide), up_other 19 30 (by decide), up_other 19 31 (by decide), up_other 19 32 (by decide)]
                                                  · refine ⟨fun L a' w' hn hI => ?_, ?_⟩
                                                    · obtain ⟨qb, rfl, hB, hR⟩ := hI
                                                      have hup := getD_up hn.2.1
                                                      have d18 : L.getD 18 false = true := hn.2.2.1 18 (by decide +kernel)
                                                      have c0 := (bcX.below hB).cell 0
                                                      have c1 := (bcX.below hB).cell 1
                                                      have zc := (bcX.below hB).lt
                                                      simp only [List.getElem?_cons_zero, List.getElem?_cons_succ] at c0 c1
                                                      refine st_val (v := cv c) (W1 := w') (wanted_f (x := false) rfl (by unfold cnAct; simp only [gy_true, d18]; rfl)) (by unfold cnAct; simp only [gy_true, d18]; go_simp) ?_
                                                      refine ⟨qb, ?_, hB, fun h => hR (by rwa [up_other 20 21 (by decide)] at h)⟩
                                                      unfold cnAct
                                                      simp only [Act.put, List.setIfInBounds_toArray, List.set_cons_zero, List.set_cons_succ, hup, gy_true, up_other 20 0 (by decide), up_other 20 1 (by decide), up_other 20 2 (by decide), up_other 20 3 (by decide), up_other 20 4 (by decide), up_other 20 5 (by decide), up_other 20 6 (by decide), up_other 20 7 (by decide), up_other 20 8 (by decide), up_other 20 9 (by decide), up_other 20 10 (by decide), up_other 20 11 (by decide), up_other 20 12 (by decide), up_other 20 13 (by decide), up_other 20 14 (by decide), up_other 20 15 (by decide), up_other 20 16 (by decide), up_other 20 17 (by decide), up_other 20 18 (by decide), up_other 20 19 (by decide), up_other 20 21 (by decide), up_other 20 22 (by decide), up_other 20 23 (by decide), up_other 20 24 (by decide), up_other 20 25 (by decide), up_other 20 26 (by decide), up_other 20 27 (by decide), up_other 20 28 (by decide), up_other 20 29 (by decide), up_other 20 30 (by decide), up_other 20 31 (by decide), up_other 20 32 (by decide)]
                                                    · refine ⟨fun L a' w' hn hI => ?_, ?_⟩
                                                      · obtain ⟨qb, rfl, hB, hR⟩ := hI
                                                        have hup := getD_up hn.2.1
                                                        have d20 : L.getD 20 false = true := hn.2.2.1 20 (by decide +kernel)
                                                        have d18 : L.getD 18 false = true := hn.2.2.1 18 (by decide +kernel)
                                                        have f21 := getD_false_of hn.2.1
                                                        refine st_val (v := .slice (some ⟨w'.heap.size, 0, none⟩) 1 1) (W1 := w'.alloc (.cells #[.int .u64 c.1, .int .u64 c.2] 85)) (wanted_f (x := false) rfl (by unfold cnAct; simp only [gy_true, d20, d18]; rfl)) (by unfold cnAct; simp only [gy_true, d20, d18]; go_simp) ?_
                                                        refine ⟨w'.heap.size, ?_, hB.alloc hB.size _, fun _ => Blk.new w' 85 [.int .u64 c.1, .int .u64 c.2]⟩
                                                        unfold cnAct
                                                        simp only [Act.put, List.setIfInBounds_toArray, List.set_cons_zero, List.set_cons_succ, hup, gy_true, gy_false, f21, up_other 21 0 (by decide), up_other 21 1 (by decide), up_other 21 2 (by decide), up_other 21 3 (by decide), up_other 21 4 (by decide), up_other 21 5 (by decide), up_other 21 6 (by decide), up_other 21 7 (by decide), up_other 21 8 (by decide), up_other 21 9 (by decide), up_other 21 10 (by decide), up_other 21 11 (by decide), up_other 21 12 (by decide), up_other 21 13 (by decide), up_other 21 14 (by decide), up_other 21 15 (by decide), up_other 21 16 (by decide), up_other 21 17 (by decide), up_other 21 18 (by decide), up_other 21 19 (by decide), up_other 21 20 (by decide), up_other 21 22 (by decide), up_other 21 23 (by decide), up_other 21 24 (by decide), up_other 21 25 (by decide), up_other 21 26 (by decide), up_other 21 27 (by decide), up_other 21 28 (by decide), up_other 21 29 (by decide), up_other 21 30 (by decide), up_other 21 31 (by decide), up_other 21 32 (by decide)]
                                                      · refine ⟨fun L a' w' hn hI => ?_, ?_⟩
                                                        · obtain ⟨qb, rfl, hB, hR⟩ := hI
                                                          have hup := getD_up hn.2.1
                                                          have d19 : L.getD 19 false = true := hn.2.2.1 19 (by decide +kernel)
                                                          have d21 : L.getD 21 false = true := hn.2.2.1 21 (by decide +kernel)
                                                          have d18 : L.getD 18 false = true := hn.2.2.1 18 (by decide +kernel)
                                                          refine st_call (f := 56) (args := #[.pointer q, .slice (some ⟨qb, 0, none⟩) 1 1]) (W1 := w') (wanted_f (x := false) rfl (by unfold cnAct; simp only [gy_true, d19, d21, d18]; rfl)) (by unfold cnAct; simp only [gy_true, d19, d21, d18]; first | (go_simp; done) | (go_simp; exact ⟨rfl, rfl⟩) | (go_simp; with_reducible rfl)) ((call_dead (DX.out.below hB) hc (hR d21)).mono ?_)
                                                          rintro e w2 ⟨rfl, m2, d2, rfl⟩
                                                          refine ⟨_, rfl, qb, ?_, Below.ext_mk hB hB.size m2 d2, fun h => (hR (by rwa [up_other 22 21 (by decide)] at h)).ext m2 d2⟩
                                                          unfold cnAct
                                                          simp only [Act.put, List.setIfInBounds_toArray, List.set_cons_zero, List.set_cons_succ, hup, gy_true, up_other 22 0 (by decide), up_other 22 1 (by decide), up_other 22 2 (by decide), up_other 22 3 (by decide), up_other 22 4 (by decide), up_other 22 5 (by decide), up_other 22 6 (by decide), up_other 22 7 (by decide), up_other 22 8 (by decide), up_other 22 9 (by decide), up_other 22 10 (by decide), up_other 22 11 (by decide), up_other 22 12 (by decide), up_other 22 13 (by decide), up_other 22 14 (by decide), up_other 22 15 (by decide), up_other 22 16 (by decide), up_other 22 17 (by decide), up_other 22 18 (by decide), up_other 22 19 (by decide), up_other 22 20 (by decide), up_other 22 21 (by decide), up_other 22 23 (by decide), up_other 22 24 (by decide), up_other 22 25 (by decide), up_other 22 26 (by decide), up_other 22 27 (by decide), up_other 22 28 (by decide), up_other 22 29 (by decide), up_other 22 30 (by decide), up_other 22 31 (by decide), up_other 22 32 (by decide)]
                                                        · refine ⟨fun L a' w' hn hI => ?_, ?_⟩
                                                          · obtain ⟨qb, rfl, hB, hR⟩ := hI
                                                            have hup := getD_up hn.2.1
                                                            have d22 : L.getD 22 false = true := hn.2.2.1 22 (by decide +kernel)
                                                            have d18 : L.getD 18 false = true := hn.2.2.1 18 (by decide +kernel)
                                                            refine st_val (v := .bool false) (W1 := w') (wanted_f (x := false) rfl (by unfold cnAct; simp only [gy_true, d22, d18]; rfl)) (by unfold cnAct; simp only [gy_true, d22, d18]; go_simp) ?_
                                                            refine ⟨qb, ?_, hB, fun h => hR (by rwa [up_other 23 21 (by decide)] at h)⟩
                                                            unfold cnAct
                                                            simp only [Act.put, List.setIfInBounds_toArray, List.set_cons_zero, List.set_cons_succ, hup, gy_true, up_other 23 0 (by decide), up_other 23 1 (by decide), up_other 23 2 (by decide), up_other 23 3 (by decide), up_other 23 4 (by decide), up_other 23 5 (by decide), up_other 23 6 (by decide), up_other 23 7 (by decide), up_other 23 8 (by decide), up_other 23 9 (by decide), up_other 23 10 (by decide), up_other 23 11 (by decide), up_other 23 12 (by decide), up_other 23 13 (by decide), up_other 23 14 (by decide), up_other 23 15 (by decide), up_other 23 16 (by decide), up_other 23 17 (by decide), up_other 23 18 (by decide), up_other 23 19 (by decide), up_other 23 20 (by decide), up_other 23 21 (by decide), up_other 23 22 (by decide), up_other 23 24 (by decide), up_other 23 25 (by decide), up_other 23 26 (by decide), up_other 23 27 (by decide), up_other 23 28 (by decide), up_other 23 29 (by decide), up_other 23 30 (by decide), up_other 23 31 (by decide), up_other 23 32 (by decide)]
                                                          · refine ⟨fun L a' w' hn hI => ?_, ?_⟩
                                                            · obtain ⟨qb, rfl, hB, hR⟩ := hI
                                                              have hup := getD_up hn.2.1
                                                              have d18 : L.getD 18 false = true := hn.2.2.1 18 (by decide +kernel)
                                                              have d23 : L.getD 23 false = true := hn.2.2.1 23 (by decide +kernel)
                                                              refine st_val (v := .bool false) (W1 := w') rfl (by unfold cnAct; simp only [gy_true, d18, d23]; go_simp) ?_
                                                              refine ⟨qb, ?_, hB, fun h => hR (by rwa [up_other 24 21 (by decide)] at h)⟩
                                                              unfold cnAct
                                                              simp only [Act.put, List.setIfInBounds_toArray, List.set_cons_zero, List.set_cons_succ, hup, gy_true, up_other 24 0 (by decide), up_other 24 1 (by decide), up_other 24 2 (by decide), up_other 24 3 (by decide), up_other 24 4 (by decide), up_other 24 5 (by decide), up_other 24 6 (by decide), up_other 24 7 (by decide), up_other 24 8 (by decide), up_other 24 9 (by decide), up_other 24 10 (by decide), up_other 24 11 (by decide), up_other 24 12 (by decide), up_other 24 13 (by decide), up_other 24 14 (by decide), up_other 24 15 (by decide), up_other 24 16 (by decide), up_other 24 17 (by decide), up_other 24 18 (by decide), up_other 24 19 (by decide), up_other 24 20 (by decide), up_other 24 21 (by decide), up_other 24 22 (by decide), up_other 24 23 (by decide), up_other 24 25 (by decide), up_other 24 26 (by decide), up_other 24 27 (by decide), up_other 24 28 (by decide), up_other 24 29 (by decide), up_other 24 30 (by decide), up_other 24 31 (by decide), up_other 24 32 (by decide)]
                                                            · refine ⟨fun L a' w' hn hI => ?_, ?_⟩
                                                              · obtain ⟨qb, rfl, hB, hR⟩ := hI
                                                                have hup := getD_up hn.2.1
                                                                have d24 : L.getD 24 false = true := hn.2.2.1 24 (by decide +kernel)
                                                                refine st_val (v := .bool false) (W1 := w') rfl (by unfold cnAct; simp only [gy_true, d24]; go_simp) ?_
                                                                refine ⟨qb, ?_, hB, fun h => hR (by rwa [up_other 25 21 (by decide)] at h)⟩
                                                                unfold cnAct
                                                                simp only [Act.put, List.setIfInBounds_toArray, List.set_cons_zero, List.set_cons_succ, hup, gy_true, up_other 25 0 (by decide), up_other 25 1 (by decide), up_other 25 2 (by decide), up_other 25 3 (by decide), up_other 25 4 (by decide), up_other 25 5 (by decide), up_other 25 6 (by decide), up_other 25 7 (by decide), up_other 25 8 (by decide), up_other 25 9 (by decide), up_other 25 10 (by decide), up_other 25 11 (by decide), up_other 25 12 (by decide), up_other 25 13 (by decide), up_other 25 14 (by decide), up_other 25 15 (by decide), up_other 25 16 (by decide), up_other 25 17 (by decide), up_other 25 18 (by decide), up_other 25 19 (by decide), up_other 25 20 (by decide), up_other 25 21 (by decide), up_other 25 22 (by decide), up_other 25 23 (by decide), up_other 25 24 (by decide), up_other 25 26 (by decide), up_other 25 27 (by decide), up_other 25 28 (by decide), up_other 25 29 (by decide), up_other 25 30 (by decide), up_other 25 31 (by decide), up_other 25 32 (by decide)]
                                                              · refine ⟨fun L a' w' hn hI => ?_, ?_⟩
                                                                · obtain ⟨qb, rfl, hB, hR⟩ := hI
                                                                  have hup := getD_up hn.2.1
                                                                  have d25 : L.getD 25 false = true := hn.2.2.1 25 (by decide +kernel)
                                                                  refine st_val (v := .pointer q) (W1 := w') (wanted_f (x := false) rfl (by unfold cnAct; simp only [gy_true, d25]; rfl)) (by unfold cnAct; simp only [gy_true, d25]; go_simp) ?_
                                                                  refine ⟨qb, ?_, hB, fun h => hR (by rwa [up_other 26 21 (by decide)] at h)⟩
                                                                  unfold cnAct
                                                                  simp only [Act.put, List.setIfInBounds_toArray, List.set_cons_zero, List.set_cons_succ, hup, gy_true, up_other 26 0 (by decide), up_other 26 1 (by decide), up_other 26 2 (by decide), up_other 26 3 (by decide), up_other 26 4 (by decide), up_other 26 5 (by decide), up_other 26 6 (by decide), up_other 26 7 (by decide), up_other 26 8 (by decide), up_other 26 9 (by decide), up_other 26 10 (by decide), up_other 26 11 (by decide), up_other 26 12 (by decide), up_other 26 13 (by decide), up_other 26 14 (by decide), up_other 26 15 (by decide), up_other 26 16 (by decide), up_other 26 17 (by decide), up_other 26 18 (by decide), up_other 26 19 (by decide), up_other 26 20 (by decide), up_other 26 21 (by decide), up_other 26 22 (by decide), up_other 26 23 (by decide), up_other 26 24 (by decide), up_other 26 25 (by decide), up_other 26 27 (by decide), up_other 26 28 (by decide), up_other 26 29 (by decide), up_other 26 30 (by decide), up_other 26 31 (by decide), up_other 26 32 (by decide)]
                                                                · refine ⟨fun L a' w' hn hI => ?_, ?_⟩
                                                                  · obtain ⟨qb, rfl, hB, hR⟩ := hI
                                                                    have hup := getD_up hn.2.1
                                                                    have d25 : L.getD 25 false = true := hn.2.2.1 25 (by decide +kernel)
                                                                    refine st_val (v := .int .i64 a) (W1 := w') (wanted_f (x := false) rfl (by unfold cnAct; simp only [gy_true, d25]; rfl)) (by unfold cnAct; simp only [gy_true, d25]; go_simp) ?_
                                                                    refine ⟨qb, ?_, hB, fun h => hR (by rwa [up_other 27 21 (by decide)] at h)⟩
                                                                    unfold cnAct
                                                                    simp only [Act.put, List.setIfInBounds_toArray, List.set_cons_zero, List.set_cons_succ, hup, gy_true, up_other 27 0 (by decide), up_other 27 1 (by decide), up_other 27 2 (by decide), up_other 27 3 (by decide), up_other 27 4 (by decide), up_other 27 5 (by decide), up_other 27 6 (by decide), up_other 27 7 (by decide), up_other 27 8 (by decide), up_other 27 9 (by decide), up_other 27 10 (by decide), up_other 27 11 (by decide), up_other 27 12 (by decide), up_other 27 13 (by decide), up_other 27 14 (by decide), up_other 27 15 (by decide), up_other 27 16 (by decide), up_other 27 17 (by decide), up_other 27 18 (by decide), up_other 27 19 (by decide), up_other 27 20 (by decide), up_other 27 21 (by decide), up_other 27 22 (by decide), up_other 27 23 (by decide), up_other 27 24 (by decide), up_other 27 25 (by decide), up_other 27 26 (by decide), up_other 27 28 (by decide), up_other 27 29 (by decide), up_other 27 30 (by decide), up_other 27 31 (by decide), up_other 27 32 (by decide)]
                                                                  · refine ⟨fun L a' w' hn hI => ?_, ?_⟩
                                                                    · obtain ⟨qb, rfl, hB, hR⟩ := hI
                                                                      have hup := getD_up hn.2.1
                                                                      have d25 : L.getD 25 false = true := hn.2.2.1 25 (by decide +kernel)
                                                                      have c0 := (bcX.below hB).cell 0
                                                                      have c1 := (bcX.below hB).cell 1
                                                                      have zc := (bcX.below hB).lt
                                                                      simp only [List.getElem?_cons_zero, List.getElem?_cons_succ] at c0 c1
                                                                      refine st_val (v := cv c) (W1 := w') (wanted_f (x := false) rfl (by unfold cnAct; simp only [gy_true, d25]; rfl)) (by unfold cnAct; simp only [gy_true, d25]; go_simp) ?_
                                                                      refine ⟨qb, ?_, hB, fun h => hR (by rwa [up_other 28 21 (by decide)] at h)⟩
                                                                      unfold cnAct
                                                                      simp only [Act.put, List.setIfInBounds_toArray, List.set_cons_zero, List.set_cons_succ, hup, gy_true, up_other 28 0 (by decide), up_other 28 1 (by decide), up_other 28 2 (by decide), up_other 28 3 (by decide), up_other 28 4 (by decide), up_other 28 5 (by decide), up_other 28 6 (by decide), up_other 28 7 (by decide), up_other 28 8 (by decide), up_other 28 9 (by decide), up_other 28 10 (by decide), up_other 28 11 (by decide), up_other 28 12 (by decide), up_other 28 13 (by decide), up_other 28 14 (by decide), up_other 28 15 (by decide), up_other 28 16 (by decide), up_other 28 17 (by decide), up_other 28 18 (by decide), up_other 28 19 (by decide), up_other 28 20 (by decide), up_other 28 21 (by decide), up_other 28 22 (by decide), up_other 28 23 (by decide), up_other 28 24 (by decide), up_other 28 25 (by decide), up_other 28 26 (by decide), up_other 28 27 (by decide), up_other 28 29 (by decide), up_other 28 30 (by decide), up_other 28 31 (by decide), up_other 28 32 (by decide)]
                                                                    · refine ⟨fun L a' w' hn hI => ?_, ?_⟩
                                                                      · obtain ⟨qb, rfl, hB, hR⟩ := hI
                                                                        have hup := getD_up hn.2.1
                                                                        have d26 : L.getD 26 false = true := hn.2.2.1 26 (by decide +kernel)
                                                                        have d27 : L.getD 27 false = true := hn.2.2.1 27 (by decide +kernel)
                                                                        have d28 : L.getD 28 false = true := hn.2.2.1 28 (by decide +kernel)
                                                                        have d25 : L.getD 25 false = true := hn.2.2.1 25 (by decide +kernel)
                                                                        refine st_call (f := 61) (args := #[.pointer q, .int .i64 a, cv c]) (W1 := w') (wanted_f (x := false) rfl (by unfold cnAct; simp only [gy_true, d26, d27, d28, d25]; rfl)) (by unfold cnAct; simp only [gy_true, d26, d27, d28, d25]; first | (go_simp; done) | (go_simp; exact ⟨rfl, rfl⟩) | (go_simp; with_reducible rfl)) ((cprime_dead (DX.out.below hB) hc a).mono ?_)
                                                                        rintro e w2 ⟨rfl, m2, d2, rfl⟩
                                                                        refine ⟨_, rfl, qb, ?_, Below.ext_mk hB hB.size m2 d2, fun h => (hR (by rwa [up_other 29 21 (by decide)] at h)).ext m2 d2⟩
                                                                        unfold cnAct
                                                                        simp only [Act.put, List.setIfInBounds_toArray, List.set_cons_zero, List.set_cons_succ, hup, gy_true, up_other 29 0 (by decide), up_other 29 1 (by decide), up_other 29 2 (by decide), up_other 29 3 (by decide), up_other 29 4 (by decide), up_other 29 5 (by decide), up_other 29 6 (by decide), up_other 29 7 (by decide), up_other 29 8 (by decide), up_other 29 9 (by decide), up_other 29 10 (by decide), up_other 29 11 (by decide), up_other 29 12 (by decide), up_other 29 13 (by decide), up_other 29 14 (by decide), up_other 29 15 (by decide), up_other 29 16 (by decide), up_other 29 17 (by decide), up_other 29 18 (by decide), up_other 29 19 (by decide), up_other 29 20 (by decide), up_other 29 21 (by decide), up_other 29 22 (by decide), up_other 29 23 (by decide), up_other 29 24 (by decide), up_other 29 25 (by decide), up_other 29 26 (by decide), up_other 29 27 (by decide), up_other 29 28 (by decide), up_other 29 30 (by decide), up_other 29 31 (by decide), up_other 29 32 (by decide)]
                                                                      · refine ⟨fun L a' w' hn hI => ?_, ?_⟩
                                                                        · obtain ⟨qb, rfl, hB, hR⟩ := hI
                                                                          have hup := getD_up hn.2.1
                                                                          have d25 : L.getD 25 false = true := hn.2.2.1 25 (by decide +kernel)
                                                                          have c0 := (bcX.below hB).cell 0
                                                                          have c1 := (bcX.below hB).cell 1
                                                                          have zc := (bcX.below hB).lt
                                                                          simp only [List.getElem?_cons_zero, List.getElem?_cons_succ] at c0 c1
                                                                          refine st_val (v := cv c) (W1 := w') (wanted_f (x := false) rfl (by unfold cnAct; simp only [gy_true, d25]; rfl)) (by unfold cnAct; simp only [gy_true, d25]; go_simp) ?_
                                                                          refine ⟨qb, ?_, hB, fun h => hR (by rwa [up_other 30 21 (by decide)] at h)⟩
                                                                          unfold cnAct
                                                                          simp only [Act.put, List.setIfInBounds_toArray, List.set_cons_zero, List.set_cons_succ, hup, gy_true, up_other 30 0 (by decide), up_other 30 1 (by decide), up_other 30 2 (by decide), up_other 30 3 (by decide), up_other 30 4 (by decide), up_other 30 5 (by decide), up_other 30 6 (by decide), up_other 30 7 (by decide), up_other 30 8 (by decide), up_other 30 9 (by decide), up_other 30 10 (by decide), up_other 30 11 (by decide), up_other 30 12 (by decide), up_other 30 13 (by decide), up_other 30 14 (by decide), up_other 30 15 (by decide), up_other 30 16 (by decide), up_other 30 17 (by decide), up_other 30 18 (by decide), up_other 30 19 (by decide), up_other 30 20 (by decide), up_other 30 21 (by decide), up_other 30 22 (by decide), up_other 30 23 (by decide), up_other 30 24 (by decide), up_other 30 25 (by decide), up_other 30 26 (by decide), up_other 30 27 (by decide), up_other 30 28 (by decide), up_other 30 29 (by decide), up_other 30 31 (by decide), up_other 30 32 (by decide)]
                                                                        · refine ⟨fun L a' w' hn hI => ?_, ?_⟩
                                                                          · obtain ⟨qb, rfl, hB, hR⟩ := hI
                                                                            have hup := getD_up hn.2.1
                                                                            have d29 : L.getD 29 false = true := hn.2.2.1 29 (by decide +kernel)
                                                                            have d30 : L.getD 30 false = true := hn.2.2.1 30 (by decide +kernel)
                                                                            have d25 : L.getD 25 false = true := hn.2.2.1 25 (by decide +kernel)
                                                                            refine st_val (v := .bool false) (W1 := w') (wanted_f (x := false) rfl (by unfold cnAct; simp only [gy_true, d29, d30, d25]; rfl)) (by unfold cnAct; simp only [gy_true, d29, d30, d25]; go_simp) ?_
                                                                            refine ⟨qb, ?_, hB, fun h => hR (by rwa [up_other 31 21 (by decide)] at h)⟩
                                                                            unfold cnAct
                                                                            simp only [Act.put, List.setIfInBounds_toArray, List.set_cons_zero, List.set_cons_succ, hup, gy_true, up_other 31 0 (by decide), up_other 31 1 (by decide), up_other 31 2 (by decide), up_other 31 3 (by decide), up_other 31 4 (by decide), up_other 31 5 (by decide), up_other 31 6 (by decide), up_other 31 7 (by decide), up_other 31 8 (by decide), up_other 31 9 (by decide), up_other 31 10 (by decide), up_other 31 11 (by decide), up_other 31 12 (by decide), up_other 31 13 (by decide), up_other 31 14 (by decide), up_other 31 15 (by decide), up_other 31 16 (by decide), up_other 31 17 (by decide), up_other 31 18 (by decide), up_other 31 19 (by decide), up_other 31 20 (by decide), up_other 31 21 (by decide), up_other 31 22 (by decide), up_other 31 23 (by decide), up_other 31 24 (by decide), up_other 31 25 (by decide), up_other 31 26 (by decide), up_other 31 27 (by decide), up_other 31 28 (by decide), up_other 31 29 (by decide), up_other 31 30 (by decide), up_other 31 32 (by decide)]
                                                                          · refine ⟨fun L a' w' hn hI => ?_, ?_⟩
                                                                            · obtain ⟨qb, rfl, hB, hR⟩ := hI
                                                                              have hup := getD_up hn.2.1
                                                                              have d25 : L.getD 25 false = true := hn.2.2.1 25 (by decide +kernel)
                                                                              have d31 : L.getD 31 false = true := hn.2.2.1 31 (by decide +kernel)
                                                                              refine st_val (v := .bool false) (W1 := w') rfl (by unfold cnAct; simp only [gy_true, d25, d31]; go_simp) ?_
                                                                              refine ⟨qb, ?_, hB, fun h => hR (by rwa [up_other 32 21 (by decide)] at h)⟩
                                                                              unfold cnAct
                                                                              simp only [Act.put, List.setIfInBounds_toArray, List.set_cons_zero, List.set_cons_succ, hup, gy_true, up_other 32 0 (by decide), up_other 32 1 (by decide), up_other 32 2 (by decide), up_other 32 3 (by decide), up_other 32 4 (by decide), up_other 32 5 (by decide), up_other 32 6 (by decide), up_other 32 7 (by decide), up_other 32 8 (by decide), up_other 32 9 (by decide), up_other 32 10 (by decide), up_other 32 11 (by decide), up_other 32 12 (by decide), up_other 32 13 (by decide), up_other 32 14 (by decide), up_other 32 15 (by decide), up_other 32 16 (by decide), up_other 32 17 (by decide), up_other 32 18 (by decide), up_other 32 19 (by decide), up_other 32 20 (by decide), up_other 32 21 (by decide), up_other 32 22 (by decide), up_other 32 23 (by decide), up_other 32 24 (by decide), up_other 32 25 (by decide), up_other 32 26 (by decide), up_other 32 27 (by decide), up_other 32 28 (by decide), up_other 32 29 (by decide), up_other 32 30 (by decide), up_other 32 31 (by decide)]
                                                                            · trivial
        · obtain rfl : k = 2 := by omega
          clear hDW cW0_0 cW0_1
          go_wp2_with ((with_reducible refine (KN.out _).mono ?_); rintro e w1 ⟨rfl, m1, d1, rfl⟩)
          go_returns
          have hB := HBB.out.trans (hbr.mono HBB.out.size)
          exact Pure.of rfl (Below.ext_mk hB hB.size _ _)
end Go.Proofs.Ytboekafmplomhaa
