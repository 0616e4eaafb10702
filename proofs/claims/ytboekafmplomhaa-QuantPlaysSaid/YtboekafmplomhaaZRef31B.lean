/-
  quillonref31: Compose, Swap, over the document's store.
-/
import Derived.Test.YtboekafmplomhaaZRef31
set_option linter.unusedVariables false
set_option linter.unusedSimpArgs false
namespace Go.Proofs.Ytboekafmplomhaa
open Go.RowKit

section
variable {w : World} {q : Nat} {F : List Nat} {S : Sto}
set_option maxHeartbeats 4000000 in
theorem rCompose_call (h : RIs w q F (rOf S)) (hW : Wf S) (hs : Sated S) (a v b : Int) :
    RSame 50 #[.pointer (some ⟨q, 0, none⟩), .int .i64 a, .int .i64 v, .int .i64 b] w q F (composeV S a v b) := by
  have H := hid h
  have T := there_any v
  unfold RSame composeV
  cases hv : isVarB v
  · rw [hv] at T
    have RX := fun W (hb : Below w.heap.size w W) => rright_any (H.out.below hb) (wf_len hW) a
    have MD := fun W (hb : Below w.heap.size w W) => rmade_any (H.out.below hb) (rightOf S a)
    rw [rright_sim] at RX
    rw [show (if (rOf S).full = true then 0 else rightOf S a) = qrightN S a from (qrightN_made a).symm] at MD
    simp only [Bool.false_eq_true, if_false]
    clear h hv
    generalize rightOf S a = a' at *
    generalize qrightN S a = r at *
    go_enter Try.func50, Try.ntmps50
    go_wp2_with (first
      | ((with_reducible refine (T _).mono ?_); rintro e w1 ⟨rfl, m1, d1, rfl⟩)
      | ((with_reducible refine (RX _ (by (repeat' (first | (with_reducible exact Below.refl _ _) | (with_reducible refine Below.ext_mk ?_ ?_ _ _) | (with_reducible refine Below.alloc ?_ ?_ _) | (with_reducible refine Below.drew ?_) | (with_reducible refine Below.setCell ?_ ?_ _) | go_size)))).mono ?_); rintro e w1 ⟨rfl, m2, d2, rfl⟩)
      | ((with_reducible refine (MD _ (by (repeat' (first | (with_reducible exact Below.refl _ _) | (with_reducible refine Below.ext_mk ?_ ?_ _ _) | (with_reducible refine Below.alloc ?_ ?_ _) | (with_reducible refine Below.drew ?_) | (with_reducible refine Below.setCell ?_ ?_ _) | go_size)))).mono ?_); rintro e w1 ⟨rfl, m3, d3, rfl⟩))
    go_returns
    exact ⟨rfl, F, H.out.below (by (repeat' (first | (with_reducible exact Below.refl _ _) | (with_reducible refine Below.ext_mk ?_ ?_ _ _) | (with_reducible refine Below.alloc ?_ ?_ _) | (with_reducible refine Below.drew ?_) | (with_reducible refine Below.setCell ?_ ?_ _) | go_size))), StoStep.of_below (by (repeat' (first | (with_reducible exact Below.refl _ _) | (with_reducible refine Below.ext_mk ?_ ?_ _ _) | (with_reducible refine Below.alloc ?_ ?_ _) | (with_reducible refine Below.drew ?_) | (with_reducible refine Below.setCell ?_ ?_ _) | go_size)))⟩
  · rw [hv] at T
    have U1 := fun W (hb : Below w.heap.size w W) => rUnder_call (H.out.below hb) hW hs a v false
    have G1 := underV_good hW hs a v false
    have U2 := fun W F (h : RIs W q F (rOf (underV S a v false).1)) => rUnder_call h G1.1 G1.2 a v true
    have G2 := underV_good G1.1 G1.2 a v true
    have I := fun W F (h : RIs W q F (rOf (underV (underV S a v false).1 a v true).1)) => rIte_call h G2.1 b (underV (underV S a v false).1 a v true).2 (underV S a v false).2
    simp only [if_true]
    unfold partsV
    simp only
    unfold RSame at U1 U2 I
    generalize underV S a v false = R1 at *
    generalize underV R1.1 a v true = R2 at *
    generalize iteV R2.1 b R2.2 R1.2 = R3 at *
    clear h hv hW hs
    go_enter Try.func50, Try.ntmps50
    go_wp2_with (first
      | ((with_reducible refine (T _).mono ?_); rintro e w1 ⟨rfl, m1, d1, rfl⟩)
      | ((with_reducible refine (U1 _ (by (repeat' (first | (with_reducible exact Below.refl _ _) | (with_reducible refine Below.ext_mk ?_ ?_ _ _) | (with_reducible refine Below.alloc ?_ ?_ _) | (with_reducible refine Below.drew ?_) | (with_reducible refine Below.setCell ?_ ?_ _) | go_size)))).mono ?_); rintro e u1 ⟨rfl, F1, hR1, st1⟩)
      | ((with_reducible refine (U2 _ _ hR1).mono ?_); rintro e u2 ⟨rfl, F2, hR2, st2⟩)
      | ((with_reducible refine (I _ _ hR2).mono ?_); rintro e u3 ⟨rfl, F3, hR3, st3⟩))
    go_returns
    exact ⟨rfl, F3, hR3, (StoStep.of_below (by (repeat' (first | (with_reducible exact Below.refl _ _) | (with_reducible refine Below.ext_mk ?_ ?_ _ _) | (with_reducible refine Below.alloc ?_ ?_ _) | (with_reducible refine Below.drew ?_) | (with_reducible refine Below.setCell ?_ ?_ _) | go_size)))).trans (st1.trans (st2.trans st3))⟩

set_option maxHeartbeats 8000000 in
theorem rSwap_call (h : RIs w q F (rOf S)) (hW : Wf S) (hs : Sated S) (a u v : Int) :
    RSame 51 #[.pointer (some ⟨q, 0, none⟩), .int .i64 a, .int .i64 u, .int .i64 v] w q F (swapV S a u v) := by
  have H := hid h
  have T1 := there_any u
  have T2 := there_any v
  unfold RSame
  by_cases hno : u = v ∨ isVarB u = false ∨ isVarB v = false
  · have e0 : swapV S a u v = (S, qrightN S a) := by unfold swapV; rw [if_pos hno]
    rw [e0]
    have RX := fun W (hb : Below w.heap.size w W) => rright_any (H.out.below hb) (wf_len hW) a
    have MD := fun W (hb : Below w.heap.size w W) => rmade_any (H.out.below hb) (rightOf S a)
    rw [rright_sim] at RX
    rw [show (if (rOf S).full = true then 0 else rightOf S a) = qrightN S a from (qrightN_made a).symm] at MD
    clear h e0 hW hs
    simp only
    generalize rightOf S a = a' at *
    generalize qrightN S a = r at *
    by_cases k0 : u = v
    · have k0' : (u == v) = true := by simpa using k0
      clear hno k0
      go_enter Try.func51, Try.ntmps51
      go_upto_region 1 with (fail)
      refine wp_region_doc (fun F hF => ?_)
      have HF := hid hF
      clear hF
      repeat (first
        | (refine doc_not rfl ?_; simp only [Act.put, List.setIfInBounds_toArray, List.set_cons_zero, List.set_cons_succ])
        | (refine doc_val rfl (by first | (go_simp; done) | (go_simp; exact ⟨rfl, rfl⟩) | (go_simp; with_reducible rfl)) ?_; simp only [Act.put, List.setIfInBounds_toArray, List.set_cons_zero, List.set_cons_succ])
        | (refine doc_call rfl (by first | (go_simp; done) | (go_simp; exact ⟨rfl, rfl⟩) | (go_simp; with_reducible rfl)) (Calls.mono (T1 _) ?_); rintro _ _ ⟨rfl, mz, dz, rfl⟩; refine ⟨_, rfl, ?_⟩; simp only [Act.put, List.setIfInBounds_toArray, List.set_cons_zero, List.set_cons_succ])
        | (refine doc_call rfl (by first | (go_simp; done) | (go_simp; exact ⟨rfl, rfl⟩) | (go_simp; with_reducible rfl)) (Calls.mono (T2 _) ?_); rintro _ _ ⟨rfl, mz, dz, rfl⟩; refine ⟨_, rfl, ?_⟩; simp only [Act.put, List.setIfInBounds_toArray, List.set_cons_zero, List.set_cons_succ]))
      refine doc_end (HF.out _ _ ?_)
      clear HF F
      go_wp2_with (first
        | ((with_reducible refine (RX _ (by (repeat' (first | (with_reducible exact Below.refl _ _) | (with_reducible refine Below.ext_mk ?_ ?_ _ _) | (with_reducible refine Below.alloc ?_ ?_ _) | (with_reducible refine Below.drew ?_) | (with_reducible refine Below.setCell ?_ ?_ _) | go_size)))).mono ?_); rintro e w1 ⟨rfl, m2, d2, rfl⟩)
        | ((with_reducible refine (MD _ (by (repeat' (first | (with_reducible exact Below.refl _ _) | (with_reducible refine Below.ext_mk ?_ ?_ _ _) | (with_reducible refine Below.alloc ?_ ?_ _) | (with_reducible refine Below.drew ?_) | (with_reducible refine Below.setCell ?_ ?_ _) | go_size)))).mono ?_); rintro e w1 ⟨rfl, m3, d3, rfl⟩))
      go_returns
      exact ⟨rfl, F, H.out.below (by (repeat' (first | (with_reducible exact Below.refl _ _) | (with_reducible refine Below.ext_mk ?_ ?_ _ _) | (with_reducible refine Below.alloc ?_ ?_ _) | (with_reducible refine Below.drew ?_) | (with_reducible refine Below.setCell ?_ ?_ _) | go_size))), StoStep.of_below (by (repeat' (first | (with_reducible exact Below.refl _ _) | (with_reducible refine Below.ext_mk ?_ ?_ _ _) | (with_reducible refine Below.alloc ?_ ?_ _) | (with_reducible refine Below.drew ?_) | (with_reducible refine Below.setCell ?_ ?_ _) | go_size)))⟩
    · have k0' : (u == v) = false := by simpa using k0
      cases k1 : isVarB u
      · rw [k1] at T1
        clear hno k0 k1
        go_enter Try.func51, Try.ntmps51
        go_upto_region 1 with (fail)
        refine wp_region_doc (fun F hF => ?_)
        have HF := hid hF
        clear hF
        repeat (first
          | (refine doc_not rfl ?_; simp only [Act.put, List.setIfInBounds_toArray, List.set_cons_zero, List.set_cons_succ])
          | (refine doc_val rfl (by first | (go_simp; done) | (go_simp; exact ⟨rfl, rfl⟩) | (go_simp; with_reducible rfl)) ?_; simp only [Act.put, List.setIfInBounds_toArray, List.set_cons_zero, List.set_cons_succ])
          | (refine doc_call rfl (by first | (go_simp; done) | (go_simp; exact ⟨rfl, rfl⟩) | (go_simp; with_reducible rfl)) (Calls.mono (T1 _) ?_); rintro _ _ ⟨rfl, mz, dz, rfl⟩; refine ⟨_, rfl, ?_⟩; simp only [Act.put, List.setIfInBounds_toArray, List.set_cons_zero, List.set_cons_succ])
          | (refine doc_call rfl (by first | (go_simp; done) | (go_simp; exact ⟨rfl, rfl⟩) | (go_simp; with_reducible rfl)) (Calls.mono (T2 _) ?_); rintro _ _ ⟨rfl, mz, dz, rfl⟩; refine ⟨_, rfl, ?_⟩; simp only [Act.put, List.setIfInBounds_toArray, List.set_cons_zero, List.set_cons_succ]))
        refine doc_end (HF.out _ _ ?_)
        clear HF F
        go_wp2_with (first
          | ((with_reducible refine (RX _ (by (repeat' (first | (with_reducible exact Below.refl _ _) | (with_reducible refine Below.ext_mk ?_ ?_ _ _) | (with_reducible refine Below.alloc ?_ ?_ _) | (with_reducible refine Below.drew ?_) | (with_reducible refine Below.setCell ?_ ?_ _) | go_size)))).mono ?_); rintro e w1 ⟨rfl, m2, d2, rfl⟩)
          | ((with_reducible refine (MD _ (by (repeat' (first | (with_reducible exact Below.refl _ _) | (with_reducible refine Below.ext_mk ?_ ?_ _ _) | (with_reducible refine Below.alloc ?_ ?_ _) | (with_reducible refine Below.drew ?_) | (with_reducible refine Below.setCell ?_ ?_ _) | go_size)))).mono ?_); rintro e w1 ⟨rfl, m3, d3, rfl⟩))
        go_returns
        exact ⟨rfl, F, H.out.below (by (repeat' (first | (with_reducible exact Below.refl _ _) | (with_reducible refine Below.ext_mk ?_ ?_ _ _) | (with_reducible refine Below.alloc ?_ ?_ _) | (with_reducible refine Below.drew ?_) | (with_reducible refine Below.setCell ?_ ?_ _) | go_size))), StoStep.of_below (by (repeat' (first | (with_reducible exact Below.refl _ _) | (with_reducible refine Below.ext_mk ?_ ?_ _ _) | (with_reducible refine Below.alloc ?_ ?_ _) | (with_reducible refine Below.drew ?_) | (with_reducible refine Below.setCell ?_ ?_ _) | go_size)))⟩
      · have k2 : isVarB v = false := by
          rcases hno with h | h | h
          · exact absurd h k0
          · rw [k1] at h; cases h
          · exact h
        rw [k1] at T1
        rw [k2] at T2
        clear hno k0 k1 k2
        go_enter Try.func51, Try.ntmps51
        go_upto_region 1 with (fail)
        refine wp_region_doc (fun F hF => ?_)
        have HF := hid hF
        clear hF
        repeat (first
          | (refine doc_not rfl ?_; simp only [Act.put, List.setIfInBounds_toArray, List.set_cons_zero, List.set_cons_succ])
          | (refine doc_val rfl (by first | (go_simp; done) | (go_simp; exact ⟨rfl, rfl⟩) | (go_simp; with_reducible rfl)) ?_; simp only [Act.put, List.setIfInBounds_toArray, List.set_cons_zero, List.set_cons_succ])
          | (refine doc_call rfl (by first | (go_simp; done) | (go_simp; exact ⟨rfl, rfl⟩) | (go_simp; with_reducible rfl)) (Calls.mono (T1 _) ?_); rintro _ _ ⟨rfl, mz, dz, rfl⟩; refine ⟨_, rfl, ?_⟩; simp only [Act.put, List.setIfInBounds_toArray, List.set_cons_zero, List.set_cons_succ])
          | (refine doc_call rfl (by first | (go_simp; done) | (go_simp; exact ⟨rfl, rfl⟩) | (go_simp; with_reducible rfl)) (Calls.mono (T2 _) ?_); rintro _ _ ⟨rfl, mz, dz, rfl⟩; refine ⟨_, rfl, ?_⟩; simp only [Act.put, List.setIfInBounds_toArray, List.set_cons_zero, List.set_cons_succ]))
        refine doc_end (HF.out _ _ ?_)
        clear HF F
        go_wp2_with (first
          | ((with_reducible refine (RX _ (by (repeat' (first | (with_reducible exact Below.refl _ _) | (with_reducible refine Below.ext_mk ?_ ?_ _ _) | (with_reducible refine Below.alloc ?_ ?_ _) | (with_reducible refine Below.drew ?_) | (with_reducible refine Below.setCell ?_ ?_ _) | go_size)))).mono ?_); rintro e w1 ⟨rfl, m2, d2, rfl⟩)
          | ((with_reducible refine (MD _ (by (repeat' (first | (with_reducible exact Below.refl _ _) | (with_reducible refine Below.ext_mk ?_ ?_ _ _) | (with_reducible refine Below.alloc ?_ ?_ _) | (with_reducible refine Below.drew ?_) | (with_reducible refine Below.setCell ?_ ?_ _) | go_size)))).mono ?_); rintro e w1 ⟨rfl, m3, d3, rfl⟩))
        go_returns
        exact ⟨rfl, F, H.out.below (by (repeat' (first | (with_reducible exact Below.refl _ _) | (with_reducible refine Below.ext_mk ?_ ?_ _ _) | (with_reducible refine Below.alloc ?_ ?_ _) | (with_reducible refine Below.drew ?_) | (with_reducible refine Below.setCell ?_ ?_ _) | go_size))), StoStep.of_below (by (repeat' (first | (with_reducible exact Below.refl _ _) | (with_reducible refine Below.ext_mk ?_ ?_ _ _) | (with_reducible refine Below.alloc ?_ ?_ _) | (with_reducible refine Below.drew ?_) | (with_reducible refine Below.setCell ?_ ?_ _) | go_size)))⟩
  · have k0' : (u == v) = false := by simp; exact fun e => hno (.inl e)
    have k1 : isVarB u = true := by cases hu : isVarB u; exact absurd (.inr (.inl hu)) hno; rfl
    have k2 : isVarB v = true := by cases hu : isVarB v; exact absurd (.inr (.inr hu)) hno; rfl
    rw [k1] at T1
    rw [k2] at T2
    unfold swapV
    rw [if_neg hno]
    unfold partsV
    dsimp only
    have U0 := fun W (hb : Below w.heap.size w W) => rUnder_call (H.out.below hb) hW hs a u false
    obtain ⟨A, hA⟩ : ∃ A, underV S a u false = A := ⟨_, rfl⟩
    have GA := underV_good hW hs a u false
    rw [hA] at U0 GA
    have U1 := fun W F (h : RIs W q F (rOf A.1)) => rUnder_call h GA.1 GA.2 a u true
    obtain ⟨B, hB⟩ : ∃ B, underV A.1 a u true = B := ⟨_, rfl⟩
    have GB := underV_good GA.1 GA.2 a u true
    rw [hB] at U1 GB
    have U2 := fun W F (h : RIs W q F (rOf B.1)) => rUnder_call h GB.1 GB.2 A.2 v false
    obtain ⟨C, hC⟩ : ∃ C, underV B.1 A.2 v false = C := ⟨_, rfl⟩
    have GC := underV_good GB.1 GB.2 A.2 v false
    rw [hC] at U2 GC
    have U3 := fun W F (h : RIs W q F (rOf C.1)) => rUnder_call h GC.1 GC.2 A.2 v true
    obtain ⟨D, hD⟩ : ∃ D, underV C.1 A.2 v true = D := ⟨_, rfl⟩
    have GD := underV_good GC.1 GC.2 A.2 v true
    rw [hD] at U3 GD
    have U4 := fun W F (h : RIs W q F (rOf D.1)) => rUnder_call h GD.1 GD.2 B.2 v false
    obtain ⟨E, hE⟩ : ∃ E, underV D.1 B.2 v false = E := ⟨_, rfl⟩
    have GE := underV_good GD.1 GD.2 B.2 v false
    rw [hE] at U4 GE
    have U5 := fun W F (h : RIs W q F (rOf E.1)) => rUnder_call h GE.1 GE.2 B.2 v true
    obtain ⟨G, hG⟩ : ∃ G, underV E.1 B.2 v true = G := ⟨_, rfl⟩
    have GG := underV_good GE.1 GE.2 B.2 v true
    rw [hG] at U5 GG
    have V3 := fun W F (h : RIs W q F (rOf G.1)) => rVar_call h GG.1 u
    obtain ⟨P, hP⟩ : ∃ P, varV G.1 u = P := ⟨_, rfl⟩
    have GP := varV_good GG.1 GG.2 u
    rw [hP] at V3 GP
    have V4 := fun W F (h : RIs W q F (rOf P.1)) => rVar_call h GP.1 v
    obtain ⟨Q, hQ⟩ : ∃ Q, varV P.1 v = Q := ⟨_, rfl⟩
    have GQ := varV_good GP.1 GP.2 v
    rw [hQ] at V4 GQ
    have I1 := fun W F (h : RIs W q F (rOf Q.1)) => rIte_call h GQ.1 Q.2 E.2 C.2
    obtain ⟨L, hL⟩ : ∃ L, iteV Q.1 Q.2 E.2 C.2 = L := ⟨_, rfl⟩
    have GL := iteV_good GQ.1 GQ.2 Q.2 E.2 C.2
    rw [hL] at I1 GL
    have I2 := fun W F (h : RIs W q F (rOf L.1)) => rIte_call h GL.1 Q.2 G.2 D.2
    obtain ⟨K, hK⟩ : ∃ K, iteV L.1 Q.2 G.2 D.2 = K := ⟨_, rfl⟩
    have GK := iteV_good GL.1 GL.2 Q.2 G.2 D.2
    rw [hK] at I2 GK
    have I3 := fun W F (h : RIs W q F (rOf K.1)) => rIte_call h GK.1 P.2 K.2 L.2
    simp only [hA, hB, hC, hD, hE, hG, hP, hQ, hL, hK]
    unfold RSame at U0 U1 U2 U3 U4 U5 V3 V4 I1 I2 I3
    clear hA hB hC hD hE hG hP hQ hL hK h hno k1 k2 GA GB GC GD GE GG GP GQ GL GK hW hs
    go_enter Try.func51, Try.ntmps51
    go_upto_region 1 with (fail)
    refine wp_region_doc (fun F hF => ?_)
    have HF := hid hF
    clear hF
    repeat (first
      | (refine doc_not rfl ?_; simp only [Act.put, List.setIfInBounds_toArray, List.set_cons_zero, List.set_cons_succ])
      | (refine doc_val rfl (by first | (go_simp; done) | (go_simp; exact ⟨rfl, rfl⟩) | (go_simp; with_reducible rfl)) ?_; simp only [Act.put, List.setIfInBounds_toArray, List.set_cons_zero, List.set_cons_succ])
      | (refine doc_call rfl (by first | (go_simp; done) | (go_simp; exact ⟨rfl, rfl⟩) | (go_simp; with_reducible rfl)) (Calls.mono (T1 _) ?_); rintro _ _ ⟨rfl, mz, dz, rfl⟩; refine ⟨_, rfl, ?_⟩; simp only [Act.put, List.setIfInBounds_toArray, List.set_cons_zero, List.set_cons_succ])
      | (refine doc_call rfl (by first | (go_simp; done) | (go_simp; exact ⟨rfl, rfl⟩) | (go_simp; with_reducible rfl)) (Calls.mono (T2 _) ?_); rintro _ _ ⟨rfl, mz, dz, rfl⟩; refine ⟨_, rfl, ?_⟩; simp only [Act.put, List.setIfInBounds_toArray, List.set_cons_zero, List.set_cons_succ]))
    refine doc_end (HF.out _ _ ?_)
    clear HF F
    go_wp2_with (first
      | ((with_reducible refine (U0 _ (by (repeat' (first | (with_reducible exact Below.refl _ _) | (with_reducible refine Below.ext_mk ?_ ?_ _ _) | (with_reducible refine Below.alloc ?_ ?_ _) | (with_reducible refine Below.drew ?_) | (with_reducible refine Below.setCell ?_ ?_ _) | go_size)))).mono ?_); rintro e w0 ⟨rfl, F0, hS0, st0⟩)
      | ((with_reducible refine (U1 _ _ hS0).mono ?_); rintro e w1 ⟨rfl, F1, hS1, st1⟩)
      | ((with_reducible refine (U2 _ _ hS1).mono ?_); rintro e w2 ⟨rfl, F2, hS2, st2⟩)
      | ((with_reducible refine (U3 _ _ hS2).mono ?_); rintro e w3 ⟨rfl, F3, hS3, st3⟩)
      | ((with_reducible refine (U4 _ _ hS3).mono ?_); rintro e w4 ⟨rfl, F4, hS4, st4⟩)
      | ((with_reducible refine (U5 _ _ hS4).mono ?_); rintro e w5 ⟨rfl, F5, hS5, st5⟩)
      | ((with_reducible refine (V3 _ _ hS5).mono ?_); rintro e w6 ⟨rfl, F6, hS6, st6⟩)
      | ((with_reducible refine (V4 _ _ hS6).mono ?_); rintro e w7 ⟨rfl, F7, hS7, st7⟩)
      | ((with_reducible refine (I1 _ _ hS7).mono ?_); rintro e w8 ⟨rfl, F8, hS8, st8⟩)
      | ((with_reducible refine (I2 _ _ hS8).mono ?_); rintro e w9 ⟨rfl, F9, hS9, st9⟩)
      | ((with_reducible refine (I3 _ _ hS9).mono ?_); rintro e wz ⟨rfl, Fz, hSz, stz⟩))
    go_returns
    exact ⟨rfl, Fz, hSz, (StoStep.of_below (by (repeat' (first | (with_reducible exact Below.refl _ _) | (with_reducible refine Below.ext_mk ?_ ?_ _ _) | (with_reducible refine Below.alloc ?_ ?_ _) | (with_reducible refine Below.drew ?_) | (with_reducible refine Below.setCell ?_ ?_ _) | go_size)))).trans (st0.trans (st1.trans (st2.trans (st3.trans (st4.trans (st5.trans (st6.trans (st7.trans (st8.trans (st9.trans stz))))))))))⟩

end
end Go.Proofs.Ytboekafmplomhaa
