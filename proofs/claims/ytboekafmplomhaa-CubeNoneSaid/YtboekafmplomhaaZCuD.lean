/-
  Package cube: Of, All over a live store.
-/
import Derived.Test.YtboekafmplomhaaZCuC
set_option linter.unusedVariables false
set_option linter.unusedSimpArgs false
namespace Go.Proofs.Ytboekafmplomhaa
open Go.RowKit

theorem bit_and {n k : Nat} (hn : n < 18446744073709551616) (hk : k < 64) : bits .and .u64 ((n : Int) / 2 ^ k) 1 = if Nat.testBit n k = true then 1 else 0 := by
  have e : ((n : Int) / 2 ^ k) = ((n / 2 ^ k : Nat) : Int) := by simp
  have h := bits_and_u64_nat (n / 2 ^ k) 1 (Nat.lt_of_le_of_lt (Nat.div_le_self _ _) hn) (by omega)
  rw [e, show (1 : Int) = ((1 : Nat) : Int) from rfl, h, Nat.testBit_eq_decide_div_mod_eq]
  rw [Nat.and_one_is_mod]
  by_cases h1 : n / 2 ^ k % 2 = 1
  · simp [h1]
  · have h0 : n / 2 ^ k % 2 = 0 := by omega
    simp [h0]

set_option maxHeartbeats 2000000 in
theorem cof_live {w : World} {p : Nat} {F : List Nat} {S : Sto} (h : StoIs w p F S) (hG : Gs S) {c : Cu} (hc : CuOk c) :
    Tells 59 #[.pointer (some ⟨p, 0, none⟩), cv c] w p F (ofV S c) := by
  have hFu := fun W F S (h : StoIs W p F S) (hG : Gs S) => full_any h (by have := hG.1.cap2; omega)
  have hVa := fun W F S (h : StoIs W p F S) (hG : Gs S) (v : Int) => var_call h hG.1 v
  have hNo := fun W F S (h : StoIs W p F S) (hG : Gs S) (v : Int) => not_call h hG.1 v
  have hAn := fun W F S (h : StoIs W p F S) (hG : Gs S) (x y : Int) => and_call h hG.1 x y
  unfold Tells at hVa hNo hAn ⊢
  go_enter Try.func59, Try.ntmps59
  go_upto_region 1 with (fail)
  refine wp_gen (fun V hV => ?_)
  have hbV : Below w.heap.size w V := by rw [hV]; (repeat' (first | (with_reducible exact Below.refl _ _) | (with_reducible refine Below.ext_mk ?_ ?_ _ _) | (with_reducible refine Below.alloc ?_ ?_ _) | (with_reducible refine Below.drew ?_) | (with_reducible refine Below.setCell ?_ ?_ _) | go_size))
  have bz : Blk V w.heap.size 85 [.int .u64 c.1, .int .u64 c.2] := by rw [hV]; exact Blk.new w 85 [.int .u64 c.1, .int .u64 c.2]
  clear hV
  have zz := bz.lt
  have c0 := bz.cell 0
  have c1 := bz.cell 1
  simp only [List.getElem?_cons_zero, List.getElem?_cons_succ] at c0 c1
  have hV := h.below hbV
  have zF : w.heap.size ∉ F := fun hm => Nat.lt_irrefl _ (h.lt _ hm)
  have stV : StoStep w V F F := StoStep.of_below hbV
  by_cases hm : mayC c = true
  · have M := cmay_any hc
    rw [hm] at M
    by_cases hf : S.full = true
    · have FU := fun W (hb : Below V.heap.size V W) => hFu W F S (hV.below hb) hG
      rw [hf] at FU
      refine wp_region_doc (fun F hF => ?_)
      have HF := hid hF
      clear hF
      iterate 1 (refine doc_val rfl (by first | (go_simp; done) | (go_simp; exact ⟨rfl, rfl⟩) | (go_simp; with_reducible rfl)) ?_; simp only [Act.put, List.setIfInBounds_toArray, List.set_cons_zero, List.set_cons_succ])
      refine doc_call rfl (by first | (go_simp; done) | (go_simp; exact ⟨rfl, rfl⟩) | (go_simp; with_reducible rfl)) (Calls.mono (M _) ?_)
      rintro _ _ ⟨rfl, mz, dz, rfl⟩
      refine ⟨_, rfl, ?_⟩
      simp only [Act.put, List.setIfInBounds_toArray, List.set_cons_zero, List.set_cons_succ]
      iterate 2 (refine doc_val rfl (by first | (go_simp; done) | (go_simp; exact ⟨rfl, rfl⟩) | (go_simp; with_reducible rfl)) ?_; simp only [Act.put, List.setIfInBounds_toArray, List.set_cons_zero, List.set_cons_succ])
      iterate 1 (refine doc_val rfl (by first | (go_simp; done) | (go_simp; exact ⟨rfl, rfl⟩) | (go_simp; with_reducible rfl)) ?_; simp only [Act.put, List.setIfInBounds_toArray, List.set_cons_zero, List.set_cons_succ])
      refine doc_call rfl (by first | (go_simp; done) | (go_simp; exact ⟨rfl, rfl⟩) | (go_simp; with_reducible rfl)) (Calls.mono (FU _ (by (repeat' (first | (with_reducible exact Below.refl _ _) | (with_reducible refine Below.ext_mk ?_ ?_ _ _) | (with_reducible refine Below.alloc ?_ ?_ _) | (with_reducible refine Below.drew ?_) | (with_reducible refine Below.setCell ?_ ?_ _) | go_size)))) ?_)
      rintro _ _ ⟨rfl, mz, dz, rfl⟩
      refine ⟨_, rfl, ?_⟩
      simp only [Act.put, List.setIfInBounds_toArray, List.set_cons_zero, List.set_cons_succ]
      iterate 1 (refine doc_val rfl (by first | (go_simp; done) | (go_simp; exact ⟨rfl, rfl⟩) | (go_simp; with_reducible rfl)) ?_; simp only [Act.put, List.setIfInBounds_toArray, List.set_cons_zero, List.set_cons_succ])
      refine doc_end (HF.out _ _ ?_)
      clear HF F
      go_wp2
      go_returns
      have e : ofV S c = (S, 0) := by unfold ofV; rw [if_pos (.inr hf)]
      rw [e]
      exact ⟨rfl, F, hV.below (by (repeat' (first | (with_reducible exact Below.refl _ _) | (with_reducible refine Below.ext_mk ?_ ?_ _ _) | (with_reducible refine Below.alloc ?_ ?_ _) | (with_reducible refine Below.drew ?_) | (with_reducible refine Below.setCell ?_ ?_ _) | go_size))), stV.trans (StoStep.of_below (by (repeat' (first | (with_reducible exact Below.refl _ _) | (with_reducible refine Below.ext_mk ?_ ?_ _ _) | (with_reducible refine Below.alloc ?_ ?_ _) | (with_reducible refine Below.drew ?_) | (with_reducible refine Below.setCell ?_ ?_ _) | go_size))))⟩
    · have hf' : S.full = false := by simpa using hf
      have FU := fun W (hb : Below V.heap.size V W) => hFu W F S (hV.below hb) hG
      rw [hf'] at FU
      refine wp_region_doc (fun F hF => ?_)
      have HF := hid hF
      clear hF
      iterate 1 (refine doc_val rfl (by first | (go_simp; done) | (go_simp; exact ⟨rfl, rfl⟩) | (go_simp; with_reducible rfl)) ?_; simp only [Act.put, List.setIfInBounds_toArray, List.set_cons_zero, List.set_cons_succ])
      refine doc_call rfl (by first | (go_simp; done) | (go_simp; exact ⟨rfl, rfl⟩) | (go_simp; with_reducible rfl)) (Calls.mono (M _) ?_)
      rintro _ _ ⟨rfl, mz, dz, rfl⟩
      refine ⟨_, rfl, ?_⟩
      simp only [Act.put, List.setIfInBounds_toArray, List.set_cons_zero, List.set_cons_succ]
      iterate 2 (refine doc_val rfl (by first | (go_simp; done) | (go_simp; exact ⟨rfl, rfl⟩) | (go_simp; with_reducible rfl)) ?_; simp only [Act.put, List.setIfInBounds_toArray, List.set_cons_zero, List.set_cons_succ])
      iterate 1 (refine doc_val rfl (by first | (go_simp; done) | (go_simp; exact ⟨rfl, rfl⟩) | (go_simp; with_reducible rfl)) ?_; simp only [Act.put, List.setIfInBounds_toArray, List.set_cons_zero, List.set_cons_succ])
      refine doc_call rfl (by first | (go_simp; done) | (go_simp; exact ⟨rfl, rfl⟩) | (go_simp; with_reducible rfl)) (Calls.mono (FU _ (by (repeat' (first | (with_reducible exact Below.refl _ _) | (with_reducible refine Below.ext_mk ?_ ?_ _ _) | (with_reducible refine Below.alloc ?_ ?_ _) | (with_reducible refine Below.drew ?_) | (with_reducible refine Below.setCell ?_ ?_ _) | go_size)))) ?_)
      rintro _ _ ⟨rfl, mz, dz, rfl⟩
      refine ⟨_, rfl, ?_⟩
      simp only [Act.put, List.setIfInBounds_toArray, List.set_cons_zero, List.set_cons_succ]
      iterate 1 (refine doc_val rfl (by first | (go_simp; done) | (go_simp; exact ⟨rfl, rfl⟩) | (go_simp; with_reducible rfl)) ?_; simp only [Act.put, List.setIfInBounds_toArray, List.set_cons_zero, List.set_cons_succ])
      refine doc_end (HF.out _ _ ?_)
      clear HF F
      have eO : ofV S c = if (ofN c 64 S 1).1.full then ((ofN c 64 S 1).1, 0) else ofN c 64 S 1 := by
        unfold ofV; rw [if_neg (by rw [hm, hf']; simp)]
      have EO := hid eO
      clear eO M FU hm hf hf'
      go_wp2
      go_loopw [5, 6] (fun a v wr => ∃ (x : Int) (k : Nat) (S1 : Sto) (F1 : List Nat), k ≤ 64 ∧ a = .int .i64 x ∧ v = .int .i64 ((k : Int) - 1) ∧ StoIs wr p F1 S1 ∧ Gs S1 ∧ StoStep V wr F F1 ∧ ofN c k S1 x = ofN c 64 S 1) (fun _ v _ => (intOf v + 1).toNat)
      case atStart => exact ⟨_, 64, S, F, by omega, rfl, rfl, hV.below (by (repeat' (first | (with_reducible exact Below.refl _ _) | (with_reducible refine Below.ext_mk ?_ ?_ _ _) | (with_reducible refine Below.alloc ?_ ?_ _) | (with_reducible refine Below.drew ?_) | (with_reducible refine Below.setCell ?_ ?_ _) | go_size))), hG, StoStep.of_below (by (repeat' (first | (with_reducible exact Below.refl _ _) | (with_reducible refine Below.ext_mk ?_ ?_ _ _) | (with_reducible refine Below.alloc ?_ ?_ _) | (with_reducible refine Below.drew ?_) | (with_reducible refine Below.setCell ?_ ?_ _) | go_size))), rfl⟩
      case round =>
        obtain ⟨x, k, S1, F1, hk, rfl, rfl, hS1, hG1, st1, hof⟩ := hrel
        have HO := hid hof
        clear hof
        have eb := st1.block _ zz zF
        have b1 := bz.keep eb
        have zz1 := b1.lt
        have d0 := b1.cell 0
        have d1 := b1.cell 1
        simp only [List.getElem?_cons_zero, List.getElem?_cons_succ] at d0 d1
        rcases k with _ | k
        · have FU := hFu _ _ _ hS1 hG1
          have e1 : (((0 : Nat) : Int) - 1) = -1 := by omega
          rw [e1]
          clear e1
          by_cases hf : S1.full = true
          · rw [hf] at FU
            go_wp2_with (go_at_call 22; refine FU.mono ?_; rintro e w' ⟨rfl, m1, d1, rfl⟩)
            go_returns
            rw [EO.out, ← HO.out]
            simp only [ofN, hf, ↓reduceIte]
            exact ⟨rfl, F1, hS1.ext _ _, stV.trans (st1.trans (StoStep.of_below (by (repeat' (first | (with_reducible exact Below.refl _ _) | (with_reducible refine Below.ext_mk ?_ ?_ _ _) | (with_reducible refine Below.alloc ?_ ?_ _) | (with_reducible refine Below.drew ?_) | (with_reducible refine Below.setCell ?_ ?_ _) | go_size)))))⟩
          · have hf' : S1.full = false := by simpa using hf
            rw [hf'] at FU
            go_wp2_with (go_at_call 22; refine FU.mono ?_; rintro e w' ⟨rfl, m1, d1, rfl⟩)
            go_returns
            rw [EO.out, ← HO.out]
            simp only [ofN, hf', Bool.false_eq_true, ↓reduceIte]
            exact ⟨rfl, F1, hS1.ext _ _, stV.trans (st1.trans (StoStep.of_below (by (repeat' (first | (with_reducible exact Below.refl _ _) | (with_reducible refine Below.ext_mk ?_ ?_ _ _) | (with_reducible refine Below.alloc ?_ ?_ _) | (with_reducible refine Below.drew ?_) | (with_reducible refine Below.setCell ?_ ?_ _) | go_size)))))⟩
        · have e1 : (((k + 1 : Nat) : Int) - 1) = (k : Int) := by omega
          rw [e1]
          clear e1
          have hk0 : (0 : Int) ≤ (k : Int) := by omega
          have g1 := bit_and hc.1 (show k < 64 by omega)
          have g2 := bit_and hc.2 (show k < 64 by omega)
          by_cases t1 : Nat.testBit c.1 k = true
          · rw [if_pos t1] at g1
            obtain ⟨R1, hR1⟩ : ∃ R, R = varV S1 (k : Int) := ⟨_, rfl⟩
            have V1 := hVa _ _ _ hS1 hG1 (k : Int)
            have G1 := varV_gs hG1 (k : Int)
            rw [← hR1] at V1 G1
            by_cases t2 : Nat.testBit c.2 k = true
            · rw [if_pos t2] at g2
              obtain ⟨R3, hR3⟩ : ∃ R, R = andV R1.1 R1.2 x := ⟨_, rfl⟩
              have A3 := fun W F (h : StoIs W p F R1.1) => hAn W F _ h G1 R1.2 x
              have G3 := andV_gs G1 R1.2 x
              rw [← hR3] at A3 G3
              have HE : Hid (ofN c (k + 1) S1 x = ofN c k R3.1 R3.2) := hid (by rw [ofN, if_pos t1, if_pos t2, ← hR1, ← hR3])
              clear hR1 hR3 t1 t2 hVa hNo hAn hFu
              go_wp2_with (first
                | (go_at_call 24; refine V1.mono ?_; rintro e w2 ⟨rfl, F2, hS2, st2⟩; have b2 := bz.keep ((st1.trans st2).block _ zz zF); have d3 := b2.cell 1; simp only [List.getElem?_cons_zero, List.getElem?_cons_succ] at d3; have zz2 := b2.lt)
                | (go_at_call 27; refine (A3 _ _ hS2).mono ?_; rintro e w3 ⟨rfl, F3, hS3, st3⟩))
              go_roundw
              case rel => exact ⟨R3.2, k, R3.1, F3, by omega, rfl, by go_num, hS3, G3, (st1.trans st2).trans st3, HE.out.symm.trans HO.out⟩
              case measure => first | (simp [intOf]; done) | (simp [intOf]; omega)
            · rw [if_neg t2] at g2
              obtain ⟨R2, hR2⟩ : ∃ R, R = notV R1.1 R1.2 := ⟨_, rfl⟩
              have N2 := fun W F (h : StoIs W p F R1.1) => hNo W F _ h G1 R1.2
              have G2 := notV_gs G1 R1.2
              rw [← hR2] at N2 G2
              obtain ⟨R3, hR3⟩ : ∃ R, R = andV R2.1 R2.2 x := ⟨_, rfl⟩
              have A3 := fun W F (h : StoIs W p F R2.1) => hAn W F _ h G2 R2.2 x
              have G3 := andV_gs G2 R2.2 x
              rw [← hR3] at A3 G3
              have HE : Hid (ofN c (k + 1) S1 x = ofN c k R3.1 R3.2) := hid (by rw [ofN, if_pos t1, if_neg t2, ← hR1, ← hR2, ← hR3])
              clear hR1 hR2 hR3 t1 t2 hVa hNo hAn hFu
              go_wp2_with (first
                | (go_at_call 24; refine V1.mono ?_; rintro e w2 ⟨rfl, F2, hS2, st2⟩; have b2 := bz.keep ((st1.trans st2).block _ zz zF); have d3 := b2.cell 1; simp only [List.getElem?_cons_zero, List.getElem?_cons_succ] at d3; have zz2 := b2.lt)
                | (go_at_call 26; refine (N2 _ _ hS2).mono ?_; rintro e w4 ⟨rfl, F4, hS4, st4⟩)
                | (go_at_call 27; refine (A3 _ _ hS4).mono ?_; rintro e w3 ⟨rfl, F3, hS3, st3⟩))
              go_roundw
              case rel => exact ⟨R3.2, k, R3.1, F3, by omega, rfl, by go_num, hS3, G3, ((st1.trans st2).trans st4).trans st3, HE.out.symm.trans HO.out⟩
              case measure => first | (simp [intOf]; done) | (simp [intOf]; omega)
          · rw [if_neg t1] at g1
            have HE : Hid (ofN c (k + 1) S1 x = ofN c k S1 x) := hid (by rw [ofN, if_neg t1])
            clear t1
            go_wp2
            go_roundw
            case rel => exact ⟨x, k, S1, F1, by omega, rfl, by go_num, hS1, hG1, st1, HE.out.symm.trans HO.out⟩
            case measure => first | (simp [intOf]; done) | (simp [intOf]; omega)
  · have hm' : mayC c = false := by simpa using hm
    have M := cmay_any hc
    rw [hm'] at M
    refine wp_region_doc (fun F hF => ?_)
    have HF := hid hF
    clear hF
    iterate 1 (refine doc_val rfl (by first | (go_simp; done) | (go_simp; exact ⟨rfl, rfl⟩) | (go_simp; with_reducible rfl)) ?_; simp only [Act.put, List.setIfInBounds_toArray, List.set_cons_zero, List.set_cons_succ])
    refine doc_call rfl (by first | (go_simp; done) | (go_simp; exact ⟨rfl, rfl⟩) | (go_simp; with_reducible rfl)) (Calls.mono (M _) ?_)
    rintro _ _ ⟨rfl, mz, dz, rfl⟩
    refine ⟨_, rfl, ?_⟩
    simp only [Act.put, List.setIfInBounds_toArray, List.set_cons_zero, List.set_cons_succ]
    iterate 2 (refine doc_val rfl (by first | (go_simp; done) | (go_simp; exact ⟨rfl, rfl⟩) | (go_simp; with_reducible rfl)) ?_; simp only [Act.put, List.setIfInBounds_toArray, List.set_cons_zero, List.set_cons_succ])
    iterate 2 (refine doc_not rfl ?_; simp only [Act.put, List.setIfInBounds_toArray, List.set_cons_zero, List.set_cons_succ])
    iterate 1 (refine doc_val rfl (by first | (go_simp; done) | (go_simp; exact ⟨rfl, rfl⟩) | (go_simp; with_reducible rfl)) ?_; simp only [Act.put, List.setIfInBounds_toArray, List.set_cons_zero, List.set_cons_succ])
    refine doc_end (HF.out _ _ ?_)
    clear HF F
    go_wp2
    go_returns
    have e : ofV S c = (S, 0) := by unfold ofV; rw [if_pos (.inl hm')]
    rw [e]
    exact ⟨rfl, F, hV.below (by (repeat' (first | (with_reducible exact Below.refl _ _) | (with_reducible refine Below.ext_mk ?_ ?_ _ _) | (with_reducible refine Below.alloc ?_ ?_ _) | (with_reducible refine Below.drew ?_) | (with_reducible refine Below.setCell ?_ ?_ _) | go_size))), stV.trans (StoStep.of_below (by (repeat' (first | (with_reducible exact Below.refl _ _) | (with_reducible refine Below.ext_mk ?_ ?_ _ _) | (with_reducible refine Below.alloc ?_ ?_ _) | (with_reducible refine Below.drew ?_) | (with_reducible refine Below.setCell ?_ ?_ _) | go_size))))⟩
end Go.Proofs.Ytboekafmplomhaa
