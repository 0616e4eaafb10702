/-
  BddNone: of a store that is not there, or was not made, nothing is told.
-/
import Derived.Test.YtboekafmplomhaaKnown15
set_option linter.unusedVariables false
set_option linter.unusedSimpArgs false
namespace Go.Proofs.Ytboekafmplomhaa
open Go.RowKit

set_option maxHeartbeats 1000000 in
set_option maxRecDepth 100000 in
theorem bddNone_any (x y : Int) (w : World) : Calls Try.prog 4 #[.int .i64 x, .int .i64 y] w (Pure (.bool true) w) := by
  go_enter Try.func4, Try.ntmps4
  go_wp2
  refine wp_gen (fun W hW => ?_)
  have hbW : Below w.heap.size w W := by rw [hW]; ((repeat' (first | (with_reducible exact Below.refl _ _) | (with_reducible refine Below.ext_mk ?_ ?_ _ _) | (with_reducible refine Below.alloc ?_ ?_ _) | (with_reducible refine Below.drew ?_) | (with_reducible refine Below.setCell ?_ ?_ _) | go_size)))
  have zW0 : w.heap.size < W.heap.size := by rw [hW]; first | (simp; done) | (simp; omega)
  have cW0_0 : W.cell? ⟨w.heap.size, 0, none⟩ = some (.int .i64 0) := by rw [hW]; first | (go_simp; done) | (rw [World.cell?_alloc_past _ _ _ (by first | (simp; done) | (simp; omega))]; go_simp)
  have zW1 : w.heap.size + 1 < W.heap.size := by rw [hW]; first | (simp; done) | (simp; omega)
  have cW1_0 : W.cell? ⟨w.heap.size + 1, 0, none⟩ = some (.pointer none) := by rw [hW]; first | (go_simp; done) | (rw [World.cell?_alloc_past _ _ _ (by first | (simp; done) | (simp; omega))]; go_simp)
  have cW1_1 : W.cell? ⟨w.heap.size + 1, 1, none⟩ = some (.pointer (some ⟨w.heap.size, 0, none⟩)) := by rw [hW]; first | (go_simp; done) | (rw [World.cell?_alloc_past _ _ _ (by first | (simp; done) | (simp; omega))]; go_simp)
  clear hW
  go_loopw [14] (fun i wr => ∃ k : Nat, k ≤ 2 ∧ i = .int .i64 k ∧ Ext W wr) (fun i _ => 2 - (intOf i).toNat)
  case atStart => exact ⟨0, by omega, rfl, Ext.refl W⟩
  case round =>
    obtain ⟨k, hk, rfl, m, d, rfl⟩ := hrel
    have hD : ∀ q, (q = none ∨ q = some ⟨w.heap.size, 0, none⟩) → NoSto W q := fun q hq => by
      rcases hq with rfl | rfl
      · exact .inl rfl
      · exact .inr ⟨_, rfl, zW0, cW0_0⟩
    by_cases h2 : k < 2
    · obtain ⟨q, hq, hcell⟩ : ∃ q : Option Addr, NoSto W q ∧ W.cell? ⟨w.heap.size + 1, k, none⟩ = some (.pointer q) := by
        rcases (show k = 0 ∨ k = 1 by omega) with rfl | rfl
        · exact ⟨_, hD _ (.inl rfl), cW1_0⟩
        · exact ⟨_, hD _ (.inr rfl), cW1_1⟩
      have hk1 : (k : Int) < 2 := by omega
      clear hD cW1_0 cW1_1 cW0_0
      have D := hid hq
      clear hq
      have a1 := fun V (hb : Below W.heap.size W V) => least_no (D.out.below hb) x y
      have a2 := fun V (hb : Below W.heap.size W V) => at_no (D.out.below hb) x
      go_upto_region 7 with (first
        | (go_at_call 23; refine (a1 _ (by (repeat' (first | (with_reducible exact Below.refl _ _) | (with_reducible refine Below.ext_mk ?_ ?_ _ _) | (with_reducible refine Below.alloc ?_ ?_ _) | (with_reducible refine Below.drew ?_) | (with_reducible refine Below.setCell ?_ ?_ _) | go_size)))).mono ?_; rintro e w1 ⟨rfl, m1, d1, rfl⟩)
        | (go_at_call 21; refine (a2 _ (by (repeat' (first | (with_reducible exact Below.refl _ _) | (with_reducible refine Below.ext_mk ?_ ?_ _ _) | (with_reducible refine Below.alloc ?_ ?_ _) | (with_reducible refine Below.drew ?_) | (with_reducible refine Below.setCell ?_ ?_ _) | go_size)))).mono ?_; rintro e w2 ⟨rfl, m2, d2, rfl⟩))
      clear a1 a2
      refine wp_gen (fun V hV => ?_)
      have hbV : Below W.heap.size W V := by rw [hV]; (repeat' (first | (with_reducible exact Below.refl _ _) | (with_reducible refine Below.ext_mk ?_ ?_ _ _) | (with_reducible refine Below.alloc ?_ ?_ _) | (with_reducible refine Below.drew ?_) | (with_reducible refine Below.setCell ?_ ?_ _) | go_size))
      clear hV
      have D2 := D.out.below hbV
      have b1 := fun U (hb : Below V.heap.size V U) => var_dead ((D2.below hb).dead) x
      have b2 := fun U (hb : Below V.heap.size V U) => ite_dead ((D2.below hb).dead) x y 1
      have b3 := fun U (hb : Below V.heap.size V U) => not_dead ((D2.below hb).dead) x
      have b4 := fun U (hb : Below V.heap.size V U) => and_dead ((D2.below hb).dead) x y
      have b5 := fun U (hb : Below V.heap.size V U) => or_dead ((D2.below hb).dead) x y
      have b6 := fun U (hb : Below V.heap.size V U) => xor_dead ((D2.below hb).dead) x y
      have b7 := fun U (hb : Below V.heap.size V U) => under_dead ((D2.below hb).dead) x y true
      have b8 := fun U (hb : Below V.heap.size V U) => size_no (D2.below hb) x
      have b9 := fun U (hb : Below V.heap.size V U) => len_no (D2.below hb)
      have c1 := fun U (hb : Below V.heap.size V U) => holds_no (D2.below hb) x (.slice none 0 0)
      have c2 := fun U (hb : Below V.heap.size V U) => full_no (D2.below hb)
      clear D2 D
      refine wp_region_seq (fun F hF => ?_)
      have HF := hid hF; clear hF
      repeat (first
        | (apply text_skip; (focus rfl); simp only [Act.put, List.setIfInBounds_toArray, List.set_cons_zero, List.set_cons_succ])
        | (apply text_val; (focus rfl); (focus (intro _ _; go_simp; with_reducible rfl)); simp only [Act.put, List.setIfInBounds_toArray, List.set_cons_zero, List.set_cons_succ])
        | (apply text_call; (focus rfl); (focus (intro _ _; go_simp; exact ⟨rfl, rfl⟩)); (focus (intro _ _; with_reducible (first | exact b1 _ (by (repeat' (first | (with_reducible exact Below.refl _ _) | (with_reducible refine Below.ext_mk ?_ ?_ _ _) | (with_reducible refine Below.alloc ?_ ?_ _) | (with_reducible refine Below.drew ?_) | (with_reducible refine Below.setCell ?_ ?_ _) | go_size))) | exact b2 _ (by (repeat' (first | (with_reducible exact Below.refl _ _) | (with_reducible refine Below.ext_mk ?_ ?_ _ _) | (with_reducible refine Below.alloc ?_ ?_ _) | (with_reducible refine Below.drew ?_) | (with_reducible refine Below.setCell ?_ ?_ _) | go_size))) | exact b3 _ (by (repeat' (first | (with_reducible exact Below.refl _ _) | (with_reducible refine Below.ext_mk ?_ ?_ _ _) | (with_reducible refine Below.alloc ?_ ?_ _) | (with_reducible refine Below.drew ?_) | (with_reducible refine Below.setCell ?_ ?_ _) | go_size))) | exact b4 _ (by (repeat' (first | (with_reducible exact Below.refl _ _) | (with_reducible refine Below.ext_mk ?_ ?_ _ _) | (with_reducible refine Below.alloc ?_ ?_ _) | (with_reducible refine Below.drew ?_) | (with_reducible refine Below.setCell ?_ ?_ _) | go_size))) | exact b5 _ (by (repeat' (first | (with_reducible exact Below.refl _ _) | (with_reducible refine Below.ext_mk ?_ ?_ _ _) | (with_reducible refine Below.alloc ?_ ?_ _) | (with_reducible refine Below.drew ?_) | (with_reducible refine Below.setCell ?_ ?_ _) | go_size))) | exact b6 _ (by (repeat' (first | (with_reducible exact Below.refl _ _) | (with_reducible refine Below.ext_mk ?_ ?_ _ _) | (with_reducible refine Below.alloc ?_ ?_ _) | (with_reducible refine Below.drew ?_) | (with_reducible refine Below.setCell ?_ ?_ _) | go_size))) | exact b7 _ (by (repeat' (first | (with_reducible exact Below.refl _ _) | (with_reducible refine Below.ext_mk ?_ ?_ _ _) | (with_reducible refine Below.alloc ?_ ?_ _) | (with_reducible refine Below.drew ?_) | (with_reducible refine Below.setCell ?_ ?_ _) | go_size))) | exact b8 _ (by (repeat' (first | (with_reducible exact Below.refl _ _) | (with_reducible refine Below.ext_mk ?_ ?_ _ _) | (with_reducible refine Below.alloc ?_ ?_ _) | (with_reducible refine Below.drew ?_) | (with_reducible refine Below.setCell ?_ ?_ _) | go_size))) | exact b9 _ (by (repeat' (first | (with_reducible exact Below.refl _ _) | (with_reducible refine Below.ext_mk ?_ ?_ _ _) | (with_reducible refine Below.alloc ?_ ?_ _) | (with_reducible refine Below.drew ?_) | (with_reducible refine Below.setCell ?_ ?_ _) | go_size))) | exact c1 _ (by (repeat' (first | (with_reducible exact Below.refl _ _) | (with_reducible refine Below.ext_mk ?_ ?_ _ _) | (with_reducible refine Below.alloc ?_ ?_ _) | (with_reducible refine Below.drew ?_) | (with_reducible refine Below.setCell ?_ ?_ _) | go_size))) | exact c2 _ (by (repeat' (first | (with_reducible exact Below.refl _ _) | (with_reducible refine Below.ext_mk ?_ ?_ _ _) | (with_reducible refine Below.alloc ?_ ?_ _) | (with_reducible refine Below.drew ?_) | (with_reducible refine Below.setCell ?_ ?_ _) | go_size)))))); simp only [Act.put, List.setIfInBounds_toArray, List.set_cons_zero, List.set_cons_succ])
        | (apply text_if; (focus (first | exact wanted_t rfl rfl | exact wanted_f rfl rfl | exact wanted_gt rfl rfl | exact wanted_gf rfl rfl)); (focus (intro hc _ _; (try simp only [Bool.and_eq_true, Bool.not_eq_true', Bool.true_and] at hc); go_simp; with_reducible rfl)); simp only [Act.put, List.setIfInBounds_toArray, List.set_cons_zero, List.set_cons_succ])
        | (apply text_if_call; (focus (first | exact wanted_t rfl rfl | exact wanted_f rfl rfl | exact wanted_gt rfl rfl | exact wanted_gf rfl rfl)); (focus (intro hc _ _; (try simp only [Bool.and_eq_true, Bool.not_eq_true', Bool.true_and] at hc); go_simp; exact ⟨rfl, rfl⟩)); (focus (intro hc _ _; with_reducible (first | exact b1 _ (by (repeat' (first | (with_reducible exact Below.refl _ _) | (with_reducible refine Below.ext_mk ?_ ?_ _ _) | (with_reducible refine Below.alloc ?_ ?_ _) | (with_reducible refine Below.drew ?_) | (with_reducible refine Below.setCell ?_ ?_ _) | go_size))) | exact b2 _ (by (repeat' (first | (with_reducible exact Below.refl _ _) | (with_reducible refine Below.ext_mk ?_ ?_ _ _) | (with_reducible refine Below.alloc ?_ ?_ _) | (with_reducible refine Below.drew ?_) | (with_reducible refine Below.setCell ?_ ?_ _) | go_size))) | exact b3 _ (by (repeat' (first | (with_reducible exact Below.refl _ _) | (with_reducible refine Below.ext_mk ?_ ?_ _ _) | (with_reducible refine Below.alloc ?_ ?_ _) | (with_reducible refine Below.drew ?_) | (with_reducible refine Below.setCell ?_ ?_ _) | go_size))) | exact b4 _ (by (repeat' (first | (with_reducible exact Below.refl _ _) | (with_reducible refine Below.ext_mk ?_ ?_ _ _) | (with_reducible refine Below.alloc ?_ ?_ _) | (with_reducible refine Below.drew ?_) | (with_reducible refine Below.setCell ?_ ?_ _) | go_size))) | exact b5 _ (by (repeat' (first | (with_reducible exact Below.refl _ _) | (with_reducible refine Below.ext_mk ?_ ?_ _ _) | (with_reducible refine Below.alloc ?_ ?_ _) | (with_reducible refine Below.drew ?_) | (with_reducible refine Below.setCell ?_ ?_ _) | go_size))) | exact b6 _ (by (repeat' (first | (with_reducible exact Below.refl _ _) | (with_reducible refine Below.ext_mk ?_ ?_ _ _) | (with_reducible refine Below.alloc ?_ ?_ _) | (with_reducible refine Below.drew ?_) | (with_reducible refine Below.setCell ?_ ?_ _) | go_size))) | exact b7 _ (by (repeat' (first | (with_reducible exact Below.refl _ _) | (with_reducible refine Below.ext_mk ?_ ?_ _ _) | (with_reducible refine Below.alloc ?_ ?_ _) | (with_reducible refine Below.drew ?_) | (with_reducible refine Below.setCell ?_ ?_ _) | go_size))) | exact b8 _ (by (repeat' (first | (with_reducible exact Below.refl _ _) | (with_reducible refine Below.ext_mk ?_ ?_ _ _) | (with_reducible refine Below.alloc ?_ ?_ _) | (with_reducible refine Below.drew ?_) | (with_reducible refine Below.setCell ?_ ?_ _) | go_size))) | exact b9 _ (by (repeat' (first | (with_reducible exact Below.refl _ _) | (with_reducible refine Below.ext_mk ?_ ?_ _ _) | (with_reducible refine Below.alloc ?_ ?_ _) | (with_reducible refine Below.drew ?_) | (with_reducible refine Below.setCell ?_ ?_ _) | go_size))) | exact c1 _ (by (repeat' (first | (with_reducible exact Below.refl _ _) | (with_reducible refine Below.ext_mk ?_ ?_ _ _) | (with_reducible refine Below.alloc ?_ ?_ _) | (with_reducible refine Below.drew ?_) | (with_reducible refine Below.setCell ?_ ?_ _) | go_size))) | exact c2 _ (by (repeat' (first | (with_reducible exact Below.refl _ _) | (with_reducible refine Below.ext_mk ?_ ?_ _ _) | (with_reducible refine Below.alloc ?_ ?_ _) | (with_reducible refine Below.drew ?_) | (with_reducible refine Below.setCell ?_ ?_ _) | go_size)))))); simp only [Act.put, List.setIfInBounds_toArray, List.set_cons_zero, List.set_cons_succ]))
      refine text_nil (HF.out _ (fun mx dx => ?_))
      clear HF F
      clear b1 b2 b3 b4 b5 b6 b7 b8 b9 c1 c2
      go_wp2
      go_roundw
      case rel =>
        have hE : Ext W V := Below.to_ext hbV
        exact ⟨k + 1, by omega, by go_num, hE.ext _ _⟩
      case measure => simp [intOf]; omega
    · have h2' : k = 2 := by omega
      subst h2'
      clear hD cW1_0 cW1_1 cW0_0
      go_wp2_with (go_at_call 16; refine (known15 _).mono ?_; rintro e w1 ⟨rfl, m1, d1, rfl⟩)
      go_returns
      exact Pure.of rfl (Below.ext_mk hbW hbW.size _ _)
end Go.Proofs.Ytboekafmplomhaa
