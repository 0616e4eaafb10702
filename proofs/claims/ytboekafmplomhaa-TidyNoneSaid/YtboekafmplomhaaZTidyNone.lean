/-
  The page's example of layer 34.
-/
import Derived.Test.YtboekafmplomhaaZMoveB
import Derived.Test.YtboekafmplomhaaZTSame
import Derived.Test.YtboekafmplomhaaZKnown31B
import Derived.Test.YtboekafmplomhaaZTidyN
import Derived.Test.YtboekafmplomhaaZNew
set_option linter.unusedVariables false
set_option linter.unusedSimpArgs false
namespace Go.Proofs.Ytboekafmplomhaa
open Go.RowKit

def rD : Sto × Int := varV qC.1 2
theorem rD_ok : Wf rD.1 ∧ Sated rD.1 := varV_good qC_ok.wf qC_ok.sated 2
theorem rD_full : rD.1.full = false := by decide +kernel
theorem rD_is : rD.2 = 5 := by decide +kernel
def rX : Sto × List (Int × Int) := (eachL (atV rD.1) 10 [] [] [4]).2.foldl (movS (atV rD.1)) (newS 10, [(1, 1)])
theorem rX_full : rX.1.full = false := by decide +kernel
theorem rX_len : rX.1.nodes.length = 3 := by decide +kernel
theorem rX_map : [4].map (fun a => (aget rX.2 a).getD 0) = [4] := by decide +kernel
theorem rX_live : (eachL (atV rD.1) 10 [] [] [4]).2.length = 2 := by decide +kernel
theorem rX_rk : ∀ a ∈ [4], (rightOf rD.1 a).toNat < 10 := by decide +kernel
theorem rX_rk2 : (rightOf rD.1 2).toNat < 10 := by decide +kernel
theorem rX_same : (sameN (atV rD.1) (atV rX.1) 10 [] 4 4).2 = true := by decide +kernel
theorem rX_same2 : (sameN (atV rD.1) (atV rX.1) 10 [] 2 4).2 = false := by decide +kernel

section
variable {w : World} {p : Nat} {F : List Nat}
theorem r_d (h : StoIs w p F qC.1) : Calls Try.prog 24 #[.pointer (some ⟨p, 0, none⟩), .int .i64 2] w (fun e w' => e = .returned (.int .i64 5) ∧ Turned w p F rD.1 w') := by
  have M := var_call h qC_ok.wf 2
  unfold Tells at M
  rw [show (varV qC.1 2).2 = 5 from rD_is] at M
  exact M
theorem r_tidy (h : StoIs w p F rD.1) : Calls Try.prog 34 #[.pointer (some ⟨p, 0, none⟩), .int .i64 10, .slice (some ⟨w.heap.size, 0, none⟩) 1 1] (w.alloc (.cells #[.int .i64 4] 3))
    (fun e w' => ∃ t s2 Ft', e = .returned (.tuple #[.pointer (some ⟨t, 0, none⟩), s2, .int .i64 0]) ∧ Rd w' 1 s2 (ints [4]) ∧ StoIs w' t Ft' rX.1 ∧ Wf rX.1 ∧ Below w.heap.size w w') := by
  have hb : Below w.heap.size w (w.alloc (.cells #[.int .i64 4] 3)) := by (repeat' (first | (with_reducible exact Below.refl _ _) | (with_reducible refine Below.ext_mk ?_ ?_ _ _) | (with_reducible refine Below.alloc ?_ ?_ _) | (with_reducible refine Below.drew ?_) | (with_reducible refine Below.setCell ?_ ?_ _) | go_size))
  have M := tidy_live (h.below hb) rD_ok.1 rD_full 10 (by omega) (by omega) (lit_one w 4) (by simp) 10 rX_rk rX rfl rX_full
  rw [rX_map] at M
  refine M.mono ?_
  rintro e w' ⟨t, s2, Ft', rfl, h1, h2, h3, h4⟩
  exact ⟨t, s2, Ft', rfl, h1, h2, h3, hb.trans (h4.mono hb.size)⟩
theorem r_live (h : StoIs w p F rD.1) : Calls Try.prog 35 #[.pointer (some ⟨p, 0, none⟩), .slice (some ⟨w.heap.size, 0, none⟩) 1 1] (w.alloc (.cells #[.int .i64 4] 3)) (fun e w' => e = .returned (.int .i64 2) ∧ Below w.heap.size w w') := by
  have hb : Below w.heap.size w (w.alloc (.cells #[.int .i64 4] 3)) := by (repeat' (first | (with_reducible exact Below.refl _ _) | (with_reducible refine Below.ext_mk ?_ ?_ _ _) | (with_reducible refine Below.alloc ?_ ?_ _) | (with_reducible refine Below.drew ?_) | (with_reducible refine Below.setCell ?_ ?_ _) | go_size))
  have M := live_any (src_live rD_ok.1 p F) (h.below hb) (lit_one w 4) 10 rX_rk
  rw [rX_live] at M
  refine M.mono ?_
  rintro e w' ⟨rfl, m, d, rfl⟩
  exact ⟨rfl, by (repeat' (first | (with_reducible exact Below.refl _ _) | (with_reducible refine Below.ext_mk ?_ ?_ _ _) | (with_reducible refine Below.alloc ?_ ?_ _) | (with_reducible refine Below.drew ?_) | (with_reducible refine Below.setCell ?_ ?_ _) | go_size))⟩
end

set_option maxRecDepth 100000 in
set_option maxHeartbeats 8000000 in
theorem known34 (w : World) : Calls Try.prog 32 #[] w (Pure (.bool true) w) := by
  go_enter Try.func32, Try.ntmps32
  go_upto_region 7 with (first
    | ((with_reducible refine (new_call 20 (by omega) (by omega) _).mono ?_); rintro e w1 ⟨p, F, rfl, hS, hb, hF⟩)
    | ((with_reducible refine (q_a hS).mono ?_); rintro e w2 ⟨rfl, F1, hS1, st1⟩)
    | ((with_reducible refine (q_b hS1).mono ?_); rintro e w3 ⟨rfl, F2, hS2, st2⟩)
    | ((with_reducible refine (q_c hS2).mono ?_); rintro e w4 ⟨rfl, F3, hS3, st3⟩)
    | ((with_reducible refine (r_d hS3).mono ?_); rintro e w5 ⟨rfl, F4, hS4, st4⟩))
  have st := (st1.trans st2).trans (st3.trans st4)
  have hB := hb.trans (st.below hF hb.size)
  clear st1 st2 st3 st4 hS hS1 hS2 hS3 st hb hF
  refine wp_region_doc (fun F' hF0 => ?_)
  have HF := hid hF0
  clear hF0
  iterate 3 (refine doc_val rfl (by first | (go_simp; done) | (go_simp; exact ⟨rfl, rfl⟩) | (go_simp; with_reducible rfl)) ?_; simp only [Act.put, List.setIfInBounds_toArray, List.set_cons_zero, List.set_cons_succ])
  refine doc_call rfl (by first | (go_simp; done) | (go_simp; exact ⟨rfl, rfl⟩) | (go_simp; with_reducible rfl)) ((r_tidy hS4).mono ?_)
  rintro e w6 ⟨t, s2, Ft, rfl, hR, hT, hWT, hb6⟩
  refine ⟨_, rfl, ?_⟩
  simp only [Act.put, List.setIfInBounds_toArray, List.set_cons_zero, List.set_cons_succ]
  obtain ⟨sa, sc, rfl, _, _⟩ := hR.len
  repeat (refine doc_val rfl (by first | (go_simp; done) | (go_simp; exact ⟨rfl, rfl⟩) | (go_simp; with_reducible rfl)) ?_; simp only [Act.put, List.setIfInBounds_toArray, List.set_cons_zero, List.set_cons_succ])
  refine doc_end (HF.out _ _ ?_)
  clear HF F'
  have hS6 := hS4.below hb6
  have hB6 := hB.trans (hb6.mono hB.size)
  have HWT := hid hWT
  have HB6 := hid hB6
  clear hS4 hB hb6 hB6 hWT
  go_upto_region 8 with (fail)
  refine wp_region_doc (fun F' hF0 => ?_)
  have HF := hid hF0
  clear hF0
  iterate 6 (refine doc_val rfl (by first | (go_simp; done) | (go_simp; exact ⟨rfl, rfl⟩) | (go_simp; with_reducible rfl)) ?_; simp only [Act.put, List.setIfInBounds_toArray, List.set_cons_zero, List.set_cons_succ])
  refine doc_call rfl (by first | (go_simp; done) | (go_simp; exact ⟨rfl, rfl⟩) | (go_simp; with_reducible rfl)) ((r_live hS6).mono ?_)
  rintro e w7 ⟨rfl, hb7⟩
  refine ⟨_, rfl, ?_⟩
  simp only [Act.put, List.setIfInBounds_toArray, List.set_cons_zero, List.set_cons_succ]
  have hS7 := hS6.below hb7
  have hT7 := hT.below hb7
  have hR7 := hR.below hb7
  have hB7 := HB6.out.trans (hb7.mono HB6.out.size)
  have HB7 := hid hB7
  clear hS6 hT hR hb7 hB7 HB6
  have hc : rX.1.cap ≠ 0 := by have := HWT.out.cap2; omega
  have LN := len_any hT7 hc
  rw [rX_len] at LN
  iterate 8 (refine doc_val rfl (by first | (go_simp; done) | (go_simp; exact ⟨rfl, rfl⟩) | (go_simp; with_reducible rfl)) ?_; simp only [Act.put, List.setIfInBounds_toArray, List.set_cons_zero, List.set_cons_succ])
  refine doc_call rfl (by first | (go_simp; done) | (go_simp; exact ⟨rfl, rfl⟩) | (go_simp; with_reducible rfl)) (LN.mono ?_)
  rintro e _ ⟨rfl, m8, d8, rfl⟩
  refine ⟨_, rfl, ?_⟩
  simp only [Act.put, List.setIfInBounds_toArray, List.set_cons_zero, List.set_cons_succ]
  have hb8 : Below w7.heap.size w7 (w7.ext m8 d8) := Below.ext_mk (Below.refl _ _) (Nat.le_refl _) m8 d8
  have hS8 := hS7.below hb8
  have hT8 := hT7.below hb8
  have hR8 := hR7.below hb8
  have HB8 := hid (HB7.out.trans (hb8.mono HB7.out.size))
  clear hS7 hT7 hR7 hb8 HB7 LN hc
  generalize w7.ext m8 d8 = w8 at *
  obtain ⟨b, off, rfl, zb, cb0⟩ := Rd.intAt hR8 (i := 0) (by simp)
  have cb : w8.cell? ⟨b, off, none⟩ = some (.int .i64 4) := cb0
  clear cb0
  have SM := same_live hS8 rD_ok.1 rD_full hT8 HWT.out rX_full 4 4 10 (rX_rk 4 (by simp)) true rX_same
  iterate 14 (refine doc_val rfl (by first | (go_simp; done) | (go_simp; exact ⟨rfl, rfl⟩) | (go_simp; with_reducible rfl)) ?_; simp only [Act.put, List.setIfInBounds_toArray, List.set_cons_zero, List.set_cons_succ])
  refine doc_call rfl (by first | (go_simp; done) | (go_simp; exact ⟨rfl, rfl⟩) | (go_simp; with_reducible rfl)) (SM.mono ?_)
  rintro e _ ⟨rfl, m9, d9, rfl⟩
  refine ⟨_, rfl, ?_⟩
  simp only [Act.put, List.setIfInBounds_toArray, List.set_cons_zero, List.set_cons_succ]
  have hb9 : Below w8.heap.size w8 (w8.ext m9 d9) := Below.ext_mk (Below.refl _ _) (Nat.le_refl _) m9 d9
  have hS9 := hS8.below hb9
  have hT9 := hT8.below hb9
  have cb9 := (hb9.cell (p := ⟨b, off, none⟩) zb).trans cb
  have zb9 := Nat.lt_of_lt_of_le zb hb9.size
  have HB9 := hid (HB8.out.trans (hb9.mono HB8.out.size))
  clear hS8 hT8 hR8 hb9 HB8 SM cb zb
  generalize w8.ext m9 d9 = w9 at *
  have SM := same_live hS9 rD_ok.1 rD_full hT9 HWT.out rX_full 2 4 10 rX_rk2 false rX_same2
  iterate 8 (refine doc_val rfl (by first | (go_simp; done) | (go_simp; exact ⟨rfl, rfl⟩) | (go_simp; with_reducible rfl)) ?_; simp only [Act.put, List.setIfInBounds_toArray, List.set_cons_zero, List.set_cons_succ])
  refine doc_call rfl (by first | (go_simp; done) | (go_simp; exact ⟨rfl, rfl⟩) | (go_simp; with_reducible rfl)) (SM.mono ?_)
  rintro e _ ⟨rfl, m9, d9, rfl⟩
  refine ⟨_, rfl, ?_⟩
  simp only [Act.put, List.setIfInBounds_toArray, List.set_cons_zero, List.set_cons_succ]
  iterate 3 (refine doc_val rfl (by first | (go_simp; done) | (go_simp; exact ⟨rfl, rfl⟩) | (go_simp; with_reducible rfl)) ?_; simp only [Act.put, List.setIfInBounds_toArray, List.set_cons_zero, List.set_cons_succ])
  refine doc_end (HF.out _ _ ?_)
  clear HF F' SM
  go_wp2
  go_returns
  exact Pure.of rfl (Below.ext_mk HB9.out HB9.out.size _ _)
end Go.Proofs.Ytboekafmplomhaa
set_option linter.unusedVariables false
set_option linter.unusedSimpArgs false
namespace Go.Proofs.Ytboekafmplomhaa
open Go.RowKit

set_option maxRecDepth 100000 in
set_option maxHeartbeats 16000000 in
theorem tidyNone_any {w : World} (a b : Int) {sv : Value} {l : List Int} (hl0 : Rd w 1 sv (ints l)) :
    Calls Try.prog 5 #[.int .i64 a, .int .i64 b, sv] w (Pure (.bool true) w) := by
  have KN := fun W => known34 W
  obtain ⟨la, lc, rfl, hlc, hlm⟩ := hl0.len
  have HL := hid hl0
  clear hl0
  by_cases h20 : (20 : Int) < (l.length : Int)
  · go_enter Try.func5, Try.ntmps5
    go_wp2_with ((with_reducible refine (KN _).mono ?_); rintro e W ⟨rfl, m1, d1, rfl⟩)
    go_returns
    exact Pure.of rfl (by (repeat' (first | (with_reducible exact Below.refl _ _) | (with_reducible refine Below.ext_mk ?_ ?_ _ _) | (with_reducible refine Below.alloc ?_ ?_ _) | (with_reducible refine Below.drew ?_) | (with_reducible refine Below.setCell ?_ ?_ _) | go_size)))
  · go_enter Try.func5, Try.ntmps5
    go_upto_region 4 with (fail)
    refine wp_gen (fun V hV => ?_)
    have hbV : Below w.heap.size w V := by rw [hV]; ((repeat' (first | (with_reducible exact Below.refl _ _) | (with_reducible refine Below.ext_mk ?_ ?_ _ _) | (with_reducible refine Below.alloc ?_ ?_ _) | (with_reducible refine Below.drew ?_) | (with_reducible refine Below.setCell ?_ ?_ _) | go_size)))
    have zV0 : w.heap.size < V.heap.size := by rw [hV]; first | (simp; done) | (simp; omega)
    have cV0_0 : V.cell? ⟨w.heap.size, 0, none⟩ = some (.int .i64 0) := by rw [hV]; first | (go_simp; done) | (rw [World.cell?_alloc_past _ _ _ (by first | (simp; done) | (simp; omega))]; go_simp)
    clear hV
    have hNZ : NoSto V (some ⟨w.heap.size, 0, none⟩) := .inr ⟨w.heap.size, rfl, zV0, cV0_0⟩
    clear zV0 cV0_0
    have HNZ := hid hNZ
    clear hNZ
    obtain ⟨z, hz⟩ : ∃ z, z = w.heap.size := ⟨_, rfl⟩
    rw [← hz] at HNZ ⊢
    clear hz
    go_upto_region 7 with (first
      | ((with_reducible refine (new_call 9 (by omega) (by omega) _).mono ?_); rintro e w1 ⟨p, F, rfl, hS, hb, hF⟩))
    go_wp2_with fail
    refine wp_gen (fun W hW => ?_)
    have hbW : Below w1.heap.size w1 W := by rw [hW]; ((repeat' (first | (with_reducible exact Below.refl _ _) | (with_reducible refine Below.ext_mk ?_ ?_ _ _) | (with_reducible refine Below.alloc ?_ ?_ _) | (with_reducible refine Below.drew ?_) | (with_reducible refine Below.setCell ?_ ?_ _) | go_size)))
    have zW0 : w1.heap.size < W.heap.size := by rw [hW]; first | (simp; done) | (simp; omega)
    have cW0_0 : W.cell? ⟨w1.heap.size, 0, none⟩ = some (.pointer none) := by rw [hW]; first | (go_simp; done) | (rw [World.cell?_alloc_past _ _ _ (by first | (simp; done) | (simp; omega))]; go_simp)
    have cW0_1 : W.cell? ⟨w1.heap.size, 1, none⟩ = some (.pointer (some ⟨z, 0, none⟩)) := by rw [hW]; first | (go_simp; done) | (rw [World.cell?_alloc_past _ _ _ (by first | (simp; done) | (simp; omega))]; go_simp)
    clear hW
    have hbVW := hb.trans (hbW.mono hb.size)
    have HN1 := hid (show NoSto W none from .inl rfl)
    have HN2 := hid (HNZ.out.below hbVW)
    have HS := hid (hS.below hbW)
    have HBW := hid (hbV.trans (hbVW.mono hbV.size))
    clear hb hF hS hbW hbV hbVW HNZ
    generalize w1.heap.size = g at *
    go_loopw [35] (fun i wr => ∃ k : Nat, k ≤ 2 ∧ i = .int .i64 k ∧ Below W.heap.size W wr) (fun i _ => 2 - (intOf i).toNat)
    case atStart => exact ⟨0, by omega, rfl, Below.refl _ _⟩
    case round =>
      obtain ⟨k, hk, rfl, hbr⟩ := hrel
      have hsr := hbr.size
      by_cases h2 : k < 2
      · obtain ⟨q, hq, hcell⟩ : ∃ q : Option Addr, NoSto W q ∧ W.cell? ⟨g, k, none⟩ = some (.pointer q) := by
          rcases (show k = 0 ∨ k = 1 by omega) with rfl | rfl
          · exact ⟨_, HN1.out, cW0_0⟩
          · exact ⟨_, HN2.out, cW0_1⟩
        have hk1 : (k : Int) < 2 := by omega
        have dcell := (hbr.cell (p := ⟨g, k, none⟩) zW0).trans hcell
        have zg : g < wr.heap.size := by omega
        have D := hid (hq.below hbr)
        have L := hid ((HL.out.below HBW.out).below hbr)
        have SS := hid (HS.out.below hbr)
        clear hq hcell cW0_0 cW0_1
        have a1 := fun U (hb : Below wr.heap.size wr U) => move_no1 (D.out.below hb) (some ⟨p, 0, none⟩) (.slice la l.length lc)
        have a2 := fun U (hb : Below wr.heap.size wr U) => move_no2 (SS.out.below hb) (by decide) rfl (D.out.below hb) (.slice la l.length lc)
        have a3 := fun U (hb : Below wr.heap.size wr U) => tidy_no (D.out.below hb) (.int .i64 5) (.slice la l.length lc)
        have a4 := fun U (hb : Below wr.heap.size wr U) => live_no (D.out.below hb) (L.out.below hb)
        have a5 := fun U (hb : Below wr.heap.size wr U) => same_no1 (D.out.below hb) (some ⟨p, 0, none⟩) a b
        have a6 := fun U (hb : Below wr.heap.size wr U) => same_no2 (SS.out.below hb) (by decide) rfl (D.out.below hb) a b
        go_upto_region 10 with (fail)
        refine wp_region_seq (fun F hF => ?_)
        have HF := hid hF; clear hF
        repeat (first
          | (apply text_skip; (focus rfl); simp only [Act.put, List.setIfInBounds_toArray, List.set_cons_zero, List.set_cons_succ])
          | (apply text_val; (focus rfl); (focus (intro _ _; go_simp; with_reducible rfl)); simp only [Act.put, List.setIfInBounds_toArray, List.set_cons_zero, List.set_cons_succ])
          | (apply text_call; (focus rfl); (focus (intro _ _; go_simp; exact ⟨rfl, rfl⟩)); (focus (intro _ _; with_reducible (exact a1 _ (by (repeat' (first | (with_reducible exact Below.refl _ _) | (with_reducible refine Below.ext_mk ?_ ?_ _ _) | (with_reducible refine Below.alloc ?_ ?_ _) | (with_reducible refine Below.drew ?_) | (with_reducible refine Below.setCell ?_ ?_ _) | go_size)))))); simp only [Act.put, List.setIfInBounds_toArray, List.set_cons_zero, List.set_cons_succ])
          | (apply text_if; (focus (first | exact wanted_t rfl rfl | exact wanted_f rfl rfl | exact wanted_gt rfl rfl | exact wanted_gf rfl rfl)); (focus (intro hc _ _; (try simp only [Bool.and_eq_true, Bool.not_eq_true', Bool.true_and] at hc); go_simp; with_reducible rfl)); simp only [Act.put, List.setIfInBounds_toArray, List.set_cons_zero, List.set_cons_succ])
          | (apply text_if_call; (focus (first | exact wanted_t rfl rfl | exact wanted_f rfl rfl | exact wanted_gt rfl rfl | exact wanted_gf rfl rfl)); (focus (intro hc _ _; (try simp only [Bool.and_eq_true, Bool.not_eq_true', Bool.true_and] at hc); go_simp; exact ⟨rfl, rfl⟩)); (focus (intro hc _ _; with_reducible (exact a1 _ (by (repeat' (first | (with_reducible exact Below.refl _ _) | (with_reducible refine Below.ext_mk ?_ ?_ _ _) | (with_reducible refine Below.alloc ?_ ?_ _) | (with_reducible refine Below.drew ?_) | (with_reducible refine Below.setCell ?_ ?_ _) | go_size)))))); simp only [Act.put, List.setIfInBounds_toArray, List.set_cons_zero, List.set_cons_succ]))
        refine text_nil (HF.out _ (fun mx dx => ?_))
        clear HF F
        go_upto_region 11 with (fail)
        refine wp_region_seq (fun F hF => ?_)
        have HF := hid hF; clear hF
        repeat (first
          | (apply text_skip; (focus rfl); simp only [Act.put, List.setIfInBounds_toArray, List.set_cons_zero, List.set_cons_succ])
          | (apply text_val; (focus rfl); (focus (intro _ _; go_simp; with_reducible rfl)); simp only [Act.put, List.setIfInBounds_toArray, List.set_cons_zero, List.set_cons_succ])
          | (apply text_call; (focus rfl); (focus (intro _ _; go_simp; exact ⟨rfl, rfl⟩)); (focus (intro _ _; with_reducible (exact a2 _ (by (repeat' (first | (with_reducible exact Below.refl _ _) | (with_reducible refine Below.ext_mk ?_ ?_ _ _) | (with_reducible refine Below.alloc ?_ ?_ _) | (with_reducible refine Below.drew ?_) | (with_reducible refine Below.setCell ?_ ?_ _) | go_size)))))); simp only [Act.put, List.setIfInBounds_toArray, List.set_cons_zero, List.set_cons_succ])
          | (apply text_if; (focus (first | exact wanted_t rfl rfl | exact wanted_f rfl rfl | exact wanted_gt rfl rfl | exact wanted_gf rfl rfl)); (focus (intro hc _ _; (try simp only [Bool.and_eq_true, Bool.not_eq_true', Bool.true_and] at hc); go_simp; with_reducible rfl)); simp only [Act.put, List.setIfInBounds_toArray, List.set_cons_zero, List.set_cons_succ])
          | (apply text_if_call; (focus (first | exact wanted_t rfl rfl | exact wanted_f rfl rfl | exact wanted_gt rfl rfl | exact wanted_gf rfl rfl)); (focus (intro hc _ _; (try simp only [Bool.and_eq_true, Bool.not_eq_true', Bool.true_and] at hc); go_simp; exact ⟨rfl, rfl⟩)); (focus (intro hc _ _; with_reducible (exact a2 _ (by (repeat' (first | (with_reducible exact Below.refl _ _) | (with_reducible refine Below.ext_mk ?_ ?_ _ _) | (with_reducible refine Below.alloc ?_ ?_ _) | (with_reducible refine Below.drew ?_) | (with_reducible refine Below.setCell ?_ ?_ _) | go_size)))))); simp only [Act.put, List.setIfInBounds_toArray, List.set_cons_zero, List.set_cons_succ]))
        refine text_nil (HF.out _ (fun m2 d2 => ?_))
        clear HF F
        go_upto_region 12 with (fail)
        refine wp_region_seq (fun F hF => ?_)
        have HF := hid hF; clear hF
        repeat (first
          | (apply text_skip; (focus rfl); simp only [Act.put, List.setIfInBounds_toArray, List.set_cons_zero, List.set_cons_succ])
          | (apply text_val; (focus rfl); (focus (intro _ _; go_simp; with_reducible rfl)); simp only [Act.put, List.setIfInBounds_toArray, List.set_cons_zero, List.set_cons_succ])
          | (apply text_call; (focus rfl); (focus (intro _ _; go_simp; exact ⟨rfl, rfl⟩)); (focus (intro _ _; with_reducible (exact a3 _ (by (repeat' (first | (with_reducible exact Below.refl _ _) | (with_reducible refine Below.ext_mk ?_ ?_ _ _) | (with_reducible refine Below.alloc ?_ ?_ _) | (with_reducible refine Below.drew ?_) | (with_reducible refine Below.setCell ?_ ?_ _) | go_size)))))); simp only [Act.put, List.setIfInBounds_toArray, List.set_cons_zero, List.set_cons_succ])
          | (apply text_if; (focus (first | exact wanted_t rfl rfl | exact wanted_f rfl rfl | exact wanted_gt rfl rfl | exact wanted_gf rfl rfl)); (focus (intro hc _ _; (try simp only [Bool.and_eq_true, Bool.not_eq_true', Bool.true_and] at hc); go_simp; with_reducible rfl)); simp only [Act.put, List.setIfInBounds_toArray, List.set_cons_zero, List.set_cons_succ])
          | (apply text_if_call; (focus (first | exact wanted_t rfl rfl | exact wanted_f rfl rfl | exact wanted_gt rfl rfl | exact wanted_gf rfl rfl)); (focus (intro hc _ _; (try simp only [Bool.and_eq_true, Bool.not_eq_true', Bool.true_and] at hc); go_simp; exact ⟨rfl, rfl⟩)); (focus (intro hc _ _; with_reducible (exact a3 _ (by (repeat' (first | (with_reducible exact Below.refl _ _) | (with_reducible refine Below.ext_mk ?_ ?_ _ _) | (with_reducible refine Below.alloc ?_ ?_ _) | (with_reducible refine Below.drew ?_) | (with_reducible refine Below.setCell ?_ ?_ _) | go_size)))))); simp only [Act.put, List.setIfInBounds_toArray, List.set_cons_zero, List.set_cons_succ]))
        refine text_nil (HF.out _ (fun m3 d3 => ?_))
        clear HF F
        go_upto_region 13 with (fail)
        refine wp_region_seq (fun F hF => ?_)
        have HF := hid hF; clear hF
        repeat (first
          | (apply text_skip; (focus rfl); simp only [Act.put, List.setIfInBounds_toArray, List.set_cons_zero, List.set_cons_succ])
          | (apply text_val; (focus rfl); (focus (intro _ _; go_simp; with_reducible rfl)); simp only [Act.put, List.setIfInBounds_toArray, List.set_cons_zero, List.set_cons_succ])
          | (apply text_call; (focus rfl); (focus (intro _ _; go_simp; exact ⟨rfl, rfl⟩)); (focus (intro _ _; with_reducible (first | exact a4 _ (by (repeat' (first | (with_reducible exact Below.refl _ _) | (with_reducible refine Below.ext_mk ?_ ?_ _ _) | (with_reducible refine Below.alloc ?_ ?_ _) | (with_reducible refine Below.drew ?_) | (with_reducible refine Below.setCell ?_ ?_ _) | go_size))) | exact a5 _ (by (repeat' (first | (with_reducible exact Below.refl _ _) | (with_reducible refine Below.ext_mk ?_ ?_ _ _) | (with_reducible refine Below.alloc ?_ ?_ _) | (with_reducible refine Below.drew ?_) | (with_reducible refine Below.setCell ?_ ?_ _) | go_size))) | exact a6 _ (by (repeat' (first | (with_reducible exact Below.refl _ _) | (with_reducible refine Below.ext_mk ?_ ?_ _ _) | (with_reducible refine Below.alloc ?_ ?_ _) | (with_reducible refine Below.drew ?_) | (with_reducible refine Below.setCell ?_ ?_ _) | go_size)))))); simp only [Act.put, List.setIfInBounds_toArray, List.set_cons_zero, List.set_cons_succ])
          | (apply text_if; (focus (first | exact wanted_t rfl rfl | exact wanted_f rfl rfl | exact wanted_gt rfl rfl | exact wanted_gf rfl rfl)); (focus (intro hc _ _; (try simp only [Bool.and_eq_true, Bool.not_eq_true', Bool.true_and] at hc); go_simp; with_reducible rfl)); simp only [Act.put, List.setIfInBounds_toArray, List.set_cons_zero, List.set_cons_succ])
          | (apply text_if_call; (focus (first | exact wanted_t rfl rfl | exact wanted_f rfl rfl | exact wanted_gt rfl rfl | exact wanted_gf rfl rfl)); (focus (intro hc _ _; (try simp only [Bool.and_eq_true, Bool.not_eq_true', Bool.true_and] at hc); go_simp; exact ⟨rfl, rfl⟩)); (focus (intro hc _ _; with_reducible (first | exact a4 _ (by (repeat' (first | (with_reducible exact Below.refl _ _) | (with_reducible refine Below.ext_mk ?_ ?_ _ _) | (with_reducible refine Below.alloc ?_ ?_ _) | (with_reducible refine Below.drew ?_) | (with_reducible refine Below.setCell ?_ ?_ _) | go_size))) | exact a5 _ (by (repeat' (first | (with_reducible exact Below.refl _ _) | (with_reducible refine Below.ext_mk ?_ ?_ _ _) | (with_reducible refine Below.alloc ?_ ?_ _) | (with_reducible refine Below.drew ?_) | (with_reducible refine Below.setCell ?_ ?_ _) | go_size))) | exact a6 _ (by (repeat' (first | (with_reducible exact Below.refl _ _) | (with_reducible refine Below.ext_mk ?_ ?_ _ _) | (with_reducible refine Below.alloc ?_ ?_ _) | (with_reducible refine Below.drew ?_) | (with_reducible refine Below.setCell ?_ ?_ _) | go_size)))))); simp only [Act.put, List.setIfInBounds_toArray, List.set_cons_zero, List.set_cons_succ]))
        refine text_nil (HF.out _ (fun m4 d4 => ?_))
        clear HF F
        clear a1 a2 a3 a4 a5 a6
        go_wp2
        go_roundw
        case rel => exact ⟨k + 1, by omega, by go_num, by (repeat' (first | (with_reducible exact hbr) | (with_reducible exact Below.refl _ _) | (with_reducible refine Below.ext_mk ?_ ?_ _ _) | (with_reducible refine Below.alloc ?_ ?_ _) | (with_reducible refine Below.drew ?_) | (with_reducible refine Below.setCell ?_ ?_ _) | go_size))⟩
        case measure => simp [intOf]; omega
      · obtain rfl : k = 2 := by omega
        clear cW0_0 cW0_1
        go_wp2_with ((with_reducible refine (KN _).mono ?_); rintro e w1 ⟨rfl, m1, d1, rfl⟩)
        go_returns
        have hB := HBW.out.trans (hbr.mono HBW.out.size)
        exact Pure.of rfl (Below.ext_mk hB hB.size _ _)
end Go.Proofs.Ytboekafmplomhaa
