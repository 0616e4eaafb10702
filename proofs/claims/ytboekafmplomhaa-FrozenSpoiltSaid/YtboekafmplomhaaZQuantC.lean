/-
  Package quant over a live store: parts, Compose, Swap.
-/
import Derived.Test.YtboekafmplomhaaZQuantL
set_option linter.unusedVariables false
set_option linter.unusedSimpArgs false
namespace Go.Proofs.Ytboekafmplomhaa
open Go.RowKit

/-- A diagram under a variable's bit false, and true. -/
def partsV (S : Sto) (a v : Int) : Sto × Int × Int := ((underV (underV S a v false).1 a v true).1, (underV S a v false).2, (underV (underV S a v false).1 a v true).2)
def composeV (S : Sto) (a v b : Int) : Sto × Int := if isVarB v then iteV (partsV S a v).1 b (partsV S a v).2.2 (partsV S a v).2.1 else (S, qrightN S a)
def swapV (S : Sto) (a u v : Int) : Sto × Int :=
  if u = v ∨ isVarB u = false ∨ isVarB v = false then (S, qrightN S a) else
    let X := partsV S a u
    let Y := partsV X.1 X.2.1 v
    let Z := partsV Y.1 X.2.2 v
    let P := varV Z.1 u
    let Q := varV P.1 v
    let L := iteV Q.1 Q.2 Z.2.1 Y.2.1
    let H := iteV L.1 Q.2 Z.2.2 Y.2.2
    iteV H.1 P.2 H.2 L.2
theorem varV_good {S : Sto} (hW : Wf S) (hs : Sated S) (v : Int) : Wf (varV S v).1 ∧ Sated (varV S v).1 := by
  have O := varV_ok (V := 64) hW hs (below64 hW) v (by omega)
  exact ⟨O.wf, O.sated⟩
theorem partsV_good {S : Sto} (hW : Wf S) (hs : Sated S) (a v : Int) : Wf (partsV S a v).1 ∧ Sated (partsV S a v).1 := by
  have G1 := underV_good hW hs a v false
  exact underV_good G1.1 G1.2 a v true

set_option maxHeartbeats 1000000 in
theorem parts_live {w : World} {p : Nat} {F : List Nat} {S : Sto} (h : StoIs w p F S) (hW : Wf S) (hs : Sated S) (a v : Int) :
    Calls Try.prog 100 #[.pointer (some ⟨p, 0, none⟩), .int .i64 a, .int .i64 v] w
      (fun e w' => e = .returned (.tuple #[.int .i64 (partsV S a v).2.1, .int .i64 (partsV S a v).2.2]) ∧ Turned w p F (partsV S a v).1 w') := by
  have U1 := under_call h hW hs a v false
  have G1 := underV_good hW hs a v false
  have U2 := fun W F (h : StoIs W p F (underV S a v false).1) => under_call h G1.1 G1.2 a v true
  unfold Tells at U1 U2
  unfold partsV
  generalize underV S a v false = R1 at *
  generalize underV R1.1 a v true = R2 at *
  go_enter Try.func100, Try.ntmps100
  go_wp2_with (first
    | ((with_reducible refine U1.mono ?_); rintro e w2 ⟨rfl, F2, hS2, st2⟩)
    | ((with_reducible refine (U2 _ _ hS2).mono ?_); rintro e w3 ⟨rfl, F3, hS3, st3⟩))
  go_returns
  exact ⟨rfl, F3, hS3, st2.trans st3⟩

set_option maxHeartbeats 1000000 in
theorem compose_live {w : World} {p : Nat} {F : List Nat} {S : Sto} (h : StoIs w p F S) (hW : Wf S) (hs : Sated S) (a v b : Int) :
    Tells 40 #[.pointer (some ⟨p, 0, none⟩), .int .i64 a, .int .i64 v, .int .i64 b] w p F (composeV S a v b) := by
  have V := isVar_any v
  unfold Tells composeV
  cases hv : isVarB v
  · rw [hv] at V
    have H := hid h
    have R := fun m d => qright_live (H.out.ext m d) hW a
    clear hv
    go_enter Try.func40, Try.ntmps40
    go_wp2_with (first
      | ((with_reducible refine (V _).mono ?_); rintro e w2 ⟨rfl, m2, d2, rfl⟩)
      | ((with_reducible refine (R _ (by (repeat' (first | (with_reducible exact Below.refl _ _) | (with_reducible refine Below.ext_mk ?_ ?_ _ _) | (with_reducible refine Below.alloc ?_ ?_ _) | (with_reducible refine Below.drew ?_) | (with_reducible refine Below.setCell ?_ ?_ _) | go_size)))).mono ?_); rintro e w2 ⟨rfl, m3, d3, rfl⟩))
    go_returns
    exact ⟨rfl, F, H.out.below (by (repeat' (first | (with_reducible exact Below.refl _ _) | (with_reducible refine Below.ext_mk ?_ ?_ _ _) | (with_reducible refine Below.alloc ?_ ?_ _) | (with_reducible refine Below.drew ?_) | (with_reducible refine Below.setCell ?_ ?_ _) | go_size))), StoStep.of_below (by (repeat' (first | (with_reducible exact Below.refl _ _) | (with_reducible refine Below.ext_mk ?_ ?_ _ _) | (with_reducible refine Below.alloc ?_ ?_ _) | (with_reducible refine Below.drew ?_) | (with_reducible refine Below.setCell ?_ ?_ _) | go_size)))⟩
  · rw [hv] at V
    have P := fun m d => parts_live (h.ext m d) hW hs a v
    have G1 := partsV_good hW hs a v
    have I := fun W F (h : StoIs W p F (partsV S a v).1) => ite_call h G1.1 b (partsV S a v).2.2 (partsV S a v).2.1
    unfold Tells at I
    generalize partsV S a v = R1 at *
    clear hv
    go_enter Try.func40, Try.ntmps40
    go_wp2_with (first
      | ((with_reducible refine (V _).mono ?_); rintro e w2 ⟨rfl, m2, d2, rfl⟩)
      | ((with_reducible refine (P _ _).mono ?_); rintro e w2 ⟨rfl, F2, hS2, st2⟩)
      | ((with_reducible refine (I _ _ hS2).mono ?_); rintro e w2 ⟨rfl, F3, hS3, st3⟩))
    go_returns
    exact ⟨rfl, F3, hS3, (StoStep.of_below (Below.ext_mk (Below.refl _ _) (Nat.le_refl _) _ _)).trans (st2.trans st3)⟩

set_option maxHeartbeats 4000000 in
theorem swap_live {w : World} {p : Nat} {F : List Nat} {S : Sto} (h : StoIs w p F S) (hW : Wf S) (hs : Sated S) (a u v : Int) :
    Tells 41 #[.pointer (some ⟨p, 0, none⟩), .int .i64 a, .int .i64 u, .int .i64 v] w p F (swapV S a u v) := by
  have V1 := isVar_any u
  have V2 := isVar_any v
  unfold Tells
  have H := hid h
  have R := fun W (hb : Below w.heap.size w W) => qright_live (H.out.below hb) hW a
  by_cases huv : u = v
  · have huv' : (u == v) = true := by simpa using huv
    have e : swapV S a u v = (S, qrightN S a) := by unfold swapV; rw [if_pos (.inl huv)]
    rw [e]
    clear e huv
    go_enter Try.func41, Try.ntmps41
    go_upto_region 1 with (fail)
    refine wp_region_doc (fun F hF => ?_)
    have HF := hid hF
    clear hF
    repeat (first
      | (refine doc_not rfl ?_; simp only [Act.put, List.setIfInBounds_toArray, List.set_cons_zero, List.set_cons_succ])
      | (refine doc_val rfl (by first | (go_simp; done) | (go_simp; exact ⟨rfl, rfl⟩) | (go_simp; with_reducible rfl)) ?_; simp only [Act.put, List.setIfInBounds_toArray, List.set_cons_zero, List.set_cons_succ]))
    refine doc_end (HF.out _ _ ?_)
    clear HF F
    go_wp2_with (first
      | ((with_reducible refine (R _ (by (repeat' (first | (with_reducible exact Below.refl _ _) | (with_reducible refine Below.ext_mk ?_ ?_ _ _) | (with_reducible refine Below.alloc ?_ ?_ _) | (with_reducible refine Below.drew ?_) | (with_reducible refine Below.setCell ?_ ?_ _) | go_size)))).mono ?_); rintro e w2 ⟨rfl, m3, d3, rfl⟩))
    go_returns
    exact ⟨rfl, F, H.out.below (by (repeat' (first | (with_reducible exact Below.refl _ _) | (with_reducible refine Below.ext_mk ?_ ?_ _ _) | (with_reducible refine Below.alloc ?_ ?_ _) | (with_reducible refine Below.drew ?_) | (with_reducible refine Below.setCell ?_ ?_ _) | go_size))), StoStep.of_below (by (repeat' (first | (with_reducible exact Below.refl _ _) | (with_reducible refine Below.ext_mk ?_ ?_ _ _) | (with_reducible refine Below.alloc ?_ ?_ _) | (with_reducible refine Below.drew ?_) | (with_reducible refine Below.setCell ?_ ?_ _) | go_size)))⟩
  · have huv' : (u == v) = false := by simpa using huv
    cases hu : isVarB u
    · have e : swapV S a u v = (S, qrightN S a) := by unfold swapV; rw [if_pos (.inr (.inl hu))]
      rw [e]
      rw [hu] at V1
      clear e huv hu
      go_enter Try.func41, Try.ntmps41
      go_upto_region 1 with (fail)
      refine wp_region_doc (fun F hF => ?_)
      have HF := hid hF
      clear hF
      repeat (first
        | (refine doc_not rfl ?_; simp only [Act.put, List.setIfInBounds_toArray, List.set_cons_zero, List.set_cons_succ])
        | (refine doc_val rfl (by first | (go_simp; done) | (go_simp; exact ⟨rfl, rfl⟩) | (go_simp; with_reducible rfl)) ?_; simp only [Act.put, List.setIfInBounds_toArray, List.set_cons_zero, List.set_cons_succ])
        | (refine doc_call rfl (by first | (go_simp; done) | (go_simp; exact ⟨rfl, rfl⟩) | (go_simp; with_reducible rfl)) (Calls.mono (V1 _) ?_); rintro _ _ ⟨rfl, mz, dz, rfl⟩; refine ⟨_, rfl, ?_⟩; simp only [Act.put, List.setIfInBounds_toArray, List.set_cons_zero, List.set_cons_succ]))
      refine doc_end (HF.out _ _ ?_)
      clear HF F
      go_wp2_with (first
        | ((with_reducible refine (R _ (by (repeat' (first | (with_reducible exact Below.refl _ _) | (with_reducible refine Below.ext_mk ?_ ?_ _ _) | (with_reducible refine Below.alloc ?_ ?_ _) | (with_reducible refine Below.drew ?_) | (with_reducible refine Below.setCell ?_ ?_ _) | go_size)))).mono ?_); rintro e w2 ⟨rfl, m3, d3, rfl⟩))
      go_returns
      exact ⟨rfl, F, H.out.below (by (repeat' (first | (with_reducible exact Below.refl _ _) | (with_reducible refine Below.ext_mk ?_ ?_ _ _) | (with_reducible refine Below.alloc ?_ ?_ _) | (with_reducible refine Below.drew ?_) | (with_reducible refine Below.setCell ?_ ?_ _) | go_size))), StoStep.of_below (by (repeat' (first | (with_reducible exact Below.refl _ _) | (with_reducible refine Below.ext_mk ?_ ?_ _ _) | (with_reducible refine Below.alloc ?_ ?_ _) | (with_reducible refine Below.drew ?_) | (with_reducible refine Below.setCell ?_ ?_ _) | go_size)))⟩
    · cases hv : isVarB v
      · have e : swapV S a u v = (S, qrightN S a) := by unfold swapV; rw [if_pos (.inr (.inr hv))]
        rw [e]
        rw [hu] at V1
        rw [hv] at V2
        clear e huv hu hv
        go_enter Try.func41, Try.ntmps41
        go_upto_region 1 with (fail)
        refine wp_region_doc (fun F hF => ?_)
        have HF := hid hF
        clear hF
        repeat (first
          | (refine doc_not rfl ?_; simp only [Act.put, List.setIfInBounds_toArray, List.set_cons_zero, List.set_cons_succ])
          | (refine doc_val rfl (by first | (go_simp; done) | (go_simp; exact ⟨rfl, rfl⟩) | (go_simp; with_reducible rfl)) ?_; simp only [Act.put, List.setIfInBounds_toArray, List.set_cons_zero, List.set_cons_succ])
          | (refine doc_call rfl (by first | (go_simp; done) | (go_simp; exact ⟨rfl, rfl⟩) | (go_simp; with_reducible rfl)) (Calls.mono (V1 _) ?_); rintro _ _ ⟨rfl, mz, dz, rfl⟩; refine ⟨_, rfl, ?_⟩; simp only [Act.put, List.setIfInBounds_toArray, List.set_cons_zero, List.set_cons_succ])
          | (refine doc_call rfl (by first | (go_simp; done) | (go_simp; exact ⟨rfl, rfl⟩) | (go_simp; with_reducible rfl)) (Calls.mono (V2 _) ?_); rintro _ _ ⟨rfl, mz, dz, rfl⟩; refine ⟨_, rfl, ?_⟩; simp only [Act.put, List.setIfInBounds_toArray, List.set_cons_zero, List.set_cons_succ]))
        refine doc_end (HF.out _ _ ?_)
        clear HF F
        go_wp2_with (first
          | ((with_reducible refine (R _ (by (repeat' (first | (with_reducible exact Below.refl _ _) | (with_reducible refine Below.ext_mk ?_ ?_ _ _) | (with_reducible refine Below.alloc ?_ ?_ _) | (with_reducible refine Below.drew ?_) | (with_reducible refine Below.setCell ?_ ?_ _) | go_size)))).mono ?_); rintro e w2 ⟨rfl, m3, d3, rfl⟩))
        go_returns
        exact ⟨rfl, F, H.out.below (by (repeat' (first | (with_reducible exact Below.refl _ _) | (with_reducible refine Below.ext_mk ?_ ?_ _ _) | (with_reducible refine Below.alloc ?_ ?_ _) | (with_reducible refine Below.drew ?_) | (with_reducible refine Below.setCell ?_ ?_ _) | go_size))), StoStep.of_below (by (repeat' (first | (with_reducible exact Below.refl _ _) | (with_reducible refine Below.ext_mk ?_ ?_ _ _) | (with_reducible refine Below.alloc ?_ ?_ _) | (with_reducible refine Below.drew ?_) | (with_reducible refine Below.setCell ?_ ?_ _) | go_size)))⟩
      · have hno : ¬ (u = v ∨ isVarB u = false ∨ isVarB v = false) := by rw [hu, hv]; simp [huv]
        rw [hu] at V1
        rw [hv] at V2
        unfold swapV
        rw [if_neg hno]
        clear R hno huv hu hv
        have P0 := fun m d => parts_live (h.ext m d) hW hs a u
        obtain ⟨X, hX⟩ : ∃ X, partsV S a u = X := ⟨_, rfl⟩
        have GX := partsV_good hW hs a u
        rw [hX] at P0 GX
        have P1 := fun W F (h : StoIs W p F X.1) => parts_live h GX.1 GX.2 X.2.1 v
        obtain ⟨Y, hY⟩ : ∃ Y, partsV X.1 X.2.1 v = Y := ⟨_, rfl⟩
        have GY := partsV_good GX.1 GX.2 X.2.1 v
        rw [hY] at P1 GY
        have P2 := fun W F (h : StoIs W p F Y.1) => parts_live h GY.1 GY.2 X.2.2 v
        obtain ⟨Z, hZ⟩ : ∃ Z, partsV Y.1 X.2.2 v = Z := ⟨_, rfl⟩
        have GZ := partsV_good GY.1 GY.2 X.2.2 v
        rw [hZ] at P2 GZ
        have V3 := fun W F (h : StoIs W p F Z.1) => var_call h GZ.1 u
        obtain ⟨P, hP⟩ : ∃ P, varV Z.1 u = P := ⟨_, rfl⟩
        have GP := varV_good GZ.1 GZ.2 u
        rw [hP] at V3 GP
        have V4 := fun W F (h : StoIs W p F P.1) => var_call h GP.1 v
        obtain ⟨Q, hQ⟩ : ∃ Q, varV P.1 v = Q := ⟨_, rfl⟩
        have GQ := varV_good GP.1 GP.2 v
        rw [hQ] at V4 GQ
        have I1 := fun W F (h : StoIs W p F Q.1) => ite_call h GQ.1 Q.2 Z.2.1 Y.2.1
        obtain ⟨L, hL⟩ : ∃ L, iteV Q.1 Q.2 Z.2.1 Y.2.1 = L := ⟨_, rfl⟩
        have GL := iteV_good GQ.1 GQ.2 Q.2 Z.2.1 Y.2.1
        rw [hL] at I1 GL
        have I2 := fun W F (h : StoIs W p F L.1) => ite_call h GL.1 Q.2 Z.2.2 Y.2.2
        obtain ⟨K, hH⟩ : ∃ H, iteV L.1 Q.2 Z.2.2 Y.2.2 = H := ⟨_, rfl⟩
        have GH := iteV_good GL.1 GL.2 Q.2 Z.2.2 Y.2.2
        rw [hH] at I2 GH
        have I3 := fun W F (h : StoIs W p F K.1) => ite_call h GH.1 P.2 K.2 L.2
        simp only [hX, hY, hZ, hP, hQ, hL, hH]
        unfold Tells at V3 V4 I1 I2 I3
        clear hX hY hZ hP hQ hL hH
        go_enter Try.func41, Try.ntmps41
        go_upto_region 1 with (fail)
        refine wp_region_doc (fun F hF => ?_)
        have HF := hid hF
        clear hF
        repeat (first
          | (refine doc_not rfl ?_; simp only [Act.put, List.setIfInBounds_toArray, List.set_cons_zero, List.set_cons_succ])
          | (refine doc_val rfl (by first | (go_simp; done) | (go_simp; exact ⟨rfl, rfl⟩) | (go_simp; with_reducible rfl)) ?_; simp only [Act.put, List.setIfInBounds_toArray, List.set_cons_zero, List.set_cons_succ])
          | (refine doc_call rfl (by first | (go_simp; done) | (go_simp; exact ⟨rfl, rfl⟩) | (go_simp; with_reducible rfl)) (Calls.mono (V1 _) ?_); rintro _ _ ⟨rfl, mz, dz, rfl⟩; refine ⟨_, rfl, ?_⟩; simp only [Act.put, List.setIfInBounds_toArray, List.set_cons_zero, List.set_cons_succ])
          | (refine doc_call rfl (by first | (go_simp; done) | (go_simp; exact ⟨rfl, rfl⟩) | (go_simp; with_reducible rfl)) (Calls.mono (V2 _) ?_); rintro _ _ ⟨rfl, mz, dz, rfl⟩; refine ⟨_, rfl, ?_⟩; simp only [Act.put, List.setIfInBounds_toArray, List.set_cons_zero, List.set_cons_succ]))
        refine doc_end (HF.out _ _ ?_)
        clear HF F
        go_wp2_with (first
          | ((with_reducible refine (P0 _ _).mono ?_); rintro e w1 ⟨rfl, F1, hS1, st1⟩)
          | ((with_reducible refine (P1 _ _ hS1).mono ?_); rintro e w2 ⟨rfl, F2, hS2, st2⟩)
          | ((with_reducible refine (P2 _ _ hS2).mono ?_); rintro e w3 ⟨rfl, F3, hS3, st3⟩)
          | ((with_reducible refine (V3 _ _ hS3).mono ?_); rintro e w4 ⟨rfl, F4, hS4, st4⟩)
          | ((with_reducible refine (V4 _ _ hS4).mono ?_); rintro e w5 ⟨rfl, F5, hS5, st5⟩)
          | ((with_reducible refine (I1 _ _ hS5).mono ?_); rintro e w6 ⟨rfl, F6, hS6, st6⟩)
          | ((with_reducible refine (I2 _ _ hS6).mono ?_); rintro e w7 ⟨rfl, F7, hS7, st7⟩)
          | ((with_reducible refine (I3 _ _ hS7).mono ?_); rintro e w8 ⟨rfl, F8, hS8, st8⟩))
        go_returns
        exact ⟨rfl, F8, hS8, (StoStep.of_below (Below.ext_mk (Below.refl _ _) (Nat.le_refl _) _ _)).trans (st1.trans (st2.trans (st3.trans (st4.trans (st5.trans (st6.trans (st7.trans st8)))))))⟩
end Go.Proofs.Ytboekafmplomhaa
