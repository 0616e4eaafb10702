/-
  QuantNone: of a store that is not there, or is full, all is 0, and nothing is told.
-/
import Derived.Test.YtboekafmplomhaaKnown31B
set_option linter.unusedVariables false
set_option linter.unusedSimpArgs false
namespace Go.Proofs.Ytboekafmplomhaa
open Go.RowKit

/-- The store with j variables asked for. -/
def fS : Nat → Sto
  | 0 => newS 2
  | j + 1 => (varV (fS j) j).1
theorem fS_ok : ∀ j, j ≤ 60 → Wf (fS j) ∧ Sated (fS j)
  | 0, _ => ⟨newS_wf (by omega) (by omega), newS_sated 2⟩
  | j + 1, h => by
    have g := fS_ok j (by omega)
    have O := varV_ok g.1 g.2 (below64 g.1) (j : Int) (by omega)
    exact ⟨O.wf, O.sated⟩
theorem fS_full : (fS 3).full = true := by decide +kernel

set_option maxHeartbeats 8000000 in
set_option maxRecDepth 100000 in
theorem quantNone_any {w : World} (a u v : Int) (l : List Int) (sv : Value) (hl : Rd w 1 sv (ints l)) :
    Calls Try.prog 6 #[.int .i64 a, .int .i64 u, .int .i64 v, sv] w (Pure (.bool true) w) := by
  have hl0 := hid hl
  obtain ⟨sa, cap, rfl, hc, hm⟩ := hl.len
  clear hl
  by_cases h50 : 50 < l.length
  · have h50' : (50 : Int) < (l.length : Int) := by omega
    clear h50
    go_enter Try.func6, Try.ntmps6
    go_wp2_with (go_at_call 37; refine (known31 _).mono ?_; rintro e w1 ⟨rfl, m1, d1, rfl⟩)
    go_returns
    exact Pure.of rfl (by (repeat' (first | (with_reducible exact Below.refl _ _) | (with_reducible refine Below.ext_mk ?_ ?_ _ _) | (with_reducible refine Below.alloc ?_ ?_ _) | (with_reducible refine Below.drew ?_) | (with_reducible refine Below.setCell ?_ ?_ _) | go_size)))
  · have h50' : ¬ (50 : Int) < (l.length : Int) := by omega
    clear h50
    go_enter Try.func6, Try.ntmps6
    go_upto_region 6 with (first
      | ((with_reducible refine (new_call 2 (by omega) (by omega) _).mono ?_); rintro e w1 ⟨p, F, rfl, hS, hb, hF⟩))
    go_wp2_with fail
    go_loopw [28] (fun i wr => ∃ (j : Nat) (F1 : List Nat), j ≤ 3 ∧ i = .int .i64 j ∧ StoIs wr p F1 (fS j) ∧ StoStep w1 wr F F1) (fun i _ => 3 - (intOf i).toNat)
    case atStart => exact ⟨0, F, by omega, rfl, hS, StoStep.refl _ _⟩
    case round =>
      obtain ⟨j, F1, hj, rfl, hS1, st1⟩ := hrel
      by_cases hlt : j < 3
      · have hj1 : (j : Int) < 3 := by omega
        have M := var_call hS1 (fS_ok j (by omega)).1 (j : Int)
        unfold Tells at M
        clear hS hb hF
        go_wp2_with (go_at_call 24; refine M.mono ?_; rintro e w2 ⟨rfl, F2, hS2, st2⟩)
        go_roundw
        case rel => exact ⟨j + 1, F2, by omega, by go_num, hS2, st1.trans st2⟩
        case measure => simp [intOf]; omega
      · obtain rfl : j = 3 := by omega
        have hbw := hb.trans (st1.below hF hb.size)
        have hD := hS1.dead (fS_ok 3 (by omega)).1 fS_full
        clear hS hS1 st1 hF hb hj hlt
        go_wp2_with fail
        refine wp_gen (fun W hW => ?_)
        have hbW : Below wr.heap.size wr W := by rw [hW]; ((repeat' (first | (with_reducible exact Below.refl _ _) | (with_reducible refine Below.ext_mk ?_ ?_ _ _) | (with_reducible refine Below.alloc ?_ ?_ _) | (with_reducible refine Below.drew ?_) | (with_reducible refine Below.setCell ?_ ?_ _) | go_size)))
        have zW0 : wr.heap.size < W.heap.size := by rw [hW]; first | (simp; done) | (simp; omega)
        have cW0_0 : W.cell? ⟨wr.heap.size, 0, none⟩ = some (.pointer none) := by rw [hW]; first | (go_simp; done) | (rw [World.cell?_alloc_past _ _ _ (by first | (simp; done) | (simp; omega))]; go_simp)
        have cW0_1 : W.cell? ⟨wr.heap.size, 1, none⟩ = some (.pointer (some ⟨p, 0, none⟩)) := by rw [hW]; first | (go_simp; done) | (rw [World.cell?_alloc_past _ _ _ (by first | (simp; done) | (simp; omega))]; go_simp)
        clear hW
        have hDW := hD.below hbW
        have hbB := hbw.trans (hbW.mono hbw.size)
        clear hD hbW
        generalize wr.heap.size = g at *
        clear hbw wr
        go_loopw [38] (fun i wr => ∃ k : Nat, k ≤ 2 ∧ i = .int .i64 k ∧ Below W.heap.size W wr) (fun i _ => 2 - (intOf i).toNat)
        case atStart => exact ⟨0, by omega, rfl, Below.refl _ _⟩
        case round =>
          obtain ⟨k, hk, rfl, hbr⟩ := hrel
          have hsr := hbr.size
          by_cases h2 : k < 2
          · obtain ⟨q, hq, hcell⟩ : ∃ q : Option Addr, Dead W q ∧ W.cell? ⟨g, k, none⟩ = some (.pointer q) := by
              rcases (show k = 0 ∨ k = 1 by omega) with rfl | rfl
              · exact ⟨_, NoSto.dead (.inl rfl), cW0_0⟩
              · exact ⟨_, hDW, cW0_1⟩
            have hk1 : (k : Int) < 2 := by omega
            have dcell := (hbr.cell (p := ⟨g, k, none⟩) zW0).trans hcell
            have zg : g < wr.heap.size := by omega
            have D := hid (hq.below hbr)
            have L := hid ((hl0.out.below hbB).below hbr)
            clear hq hDW cW0_0 cW0_1 hcell hbB
            have a1 := fun U (hb : Below wr.heap.size wr U) => exists_dead (D.out.below hb) a l _ (L.out.below hb)
            have a2 := fun U (hb : Below wr.heap.size wr U) => forall_dead (D.out.below hb) a l _ (L.out.below hb)
            have a3 := fun U (hb : Below wr.heap.size wr U) => compose_dead (D.out.below hb) a u v
            have a4 := fun U (hb : Below wr.heap.size wr U) => swap_dead (D.out.below hb) a u v
            have a5 := fun U (hb : Below wr.heap.size wr U) => implies_dead (D.out.below hb) a v
            have a6 := fun U (hb : Below wr.heap.size wr U) => support_dead (D.out.below hb) a
            go_upto_region 14 with (fail)
            refine wp_region_seq (fun F hF => ?_)
            have HF := hid hF; clear hF
            repeat (first
              | (apply text_skip; (focus rfl); simp only [Act.put, List.setIfInBounds_toArray, List.set_cons_zero, List.set_cons_succ])
              | (apply text_val; (focus rfl); (focus (intro _ _; go_simp; with_reducible rfl)); simp only [Act.put, List.setIfInBounds_toArray, List.set_cons_zero, List.set_cons_succ])
              | (apply text_call; (focus rfl); (focus (intro _ _; go_simp; exact ⟨rfl, rfl⟩)); (focus (intro _ _; with_reducible (first | exact a1 _ (by (repeat' (first | (with_reducible exact Below.refl _ _) | (with_reducible refine Below.ext_mk ?_ ?_ _ _) | (with_reducible refine Below.alloc ?_ ?_ _) | (with_reducible refine Below.drew ?_) | (with_reducible refine Below.setCell ?_ ?_ _) | go_size))) | exact a2 _ (by (repeat' (first | (with_reducible exact Below.refl _ _) | (with_reducible refine Below.ext_mk ?_ ?_ _ _) | (with_reducible refine Below.alloc ?_ ?_ _) | (with_reducible refine Below.drew ?_) | (with_reducible refine Below.setCell ?_ ?_ _) | go_size))) | exact a3 _ (by (repeat' (first | (with_reducible exact Below.refl _ _) | (with_reducible refine Below.ext_mk ?_ ?_ _ _) | (with_reducible refine Below.alloc ?_ ?_ _) | (with_reducible refine Below.drew ?_) | (with_reducible refine Below.setCell ?_ ?_ _) | go_size))) | exact a4 _ (by (repeat' (first | (with_reducible exact Below.refl _ _) | (with_reducible refine Below.ext_mk ?_ ?_ _ _) | (with_reducible refine Below.alloc ?_ ?_ _) | (with_reducible refine Below.drew ?_) | (with_reducible refine Below.setCell ?_ ?_ _) | go_size))) | exact a5 _ (by (repeat' (first | (with_reducible exact Below.refl _ _) | (with_reducible refine Below.ext_mk ?_ ?_ _ _) | (with_reducible refine Below.alloc ?_ ?_ _) | (with_reducible refine Below.drew ?_) | (with_reducible refine Below.setCell ?_ ?_ _) | go_size))) | exact a6 _ (by (repeat' (first | (with_reducible exact Below.refl _ _) | (with_reducible refine Below.ext_mk ?_ ?_ _ _) | (with_reducible refine Below.alloc ?_ ?_ _) | (with_reducible refine Below.drew ?_) | (with_reducible refine Below.setCell ?_ ?_ _) | go_size)))))); simp only [Act.put, List.setIfInBounds_toArray, List.set_cons_zero, List.set_cons_succ])
              | (apply text_if; (focus (first | exact wanted_t rfl rfl | exact wanted_f rfl rfl | exact wanted_gt rfl rfl | exact wanted_gf rfl rfl)); (focus (intro hc _ _; (try simp only [Bool.and_eq_true, Bool.not_eq_true', Bool.true_and] at hc); go_simp; with_reducible rfl)); simp only [Act.put, List.setIfInBounds_toArray, List.set_cons_zero, List.set_cons_succ])
              | (apply text_if_call; (focus (first | exact wanted_t rfl rfl | exact wanted_f rfl rfl | exact wanted_gt rfl rfl | exact wanted_gf rfl rfl)); (focus (intro hc _ _; (try simp only [Bool.and_eq_true, Bool.not_eq_true', Bool.true_and] at hc); go_simp; exact ⟨rfl, rfl⟩)); (focus (intro hc _ _; with_reducible (first | exact a1 _ (by (repeat' (first | (with_reducible exact Below.refl _ _) | (with_reducible refine Below.ext_mk ?_ ?_ _ _) | (with_reducible refine Below.alloc ?_ ?_ _) | (with_reducible refine Below.drew ?_) | (with_reducible refine Below.setCell ?_ ?_ _) | go_size))) | exact a2 _ (by (repeat' (first | (with_reducible exact Below.refl _ _) | (with_reducible refine Below.ext_mk ?_ ?_ _ _) | (with_reducible refine Below.alloc ?_ ?_ _) | (with_reducible refine Below.drew ?_) | (with_reducible refine Below.setCell ?_ ?_ _) | go_size))) | exact a3 _ (by (repeat' (first | (with_reducible exact Below.refl _ _) | (with_reducible refine Below.ext_mk ?_ ?_ _ _) | (with_reducible refine Below.alloc ?_ ?_ _) | (with_reducible refine Below.drew ?_) | (with_reducible refine Below.setCell ?_ ?_ _) | go_size))) | exact a4 _ (by (repeat' (first | (with_reducible exact Below.refl _ _) | (with_reducible refine Below.ext_mk ?_ ?_ _ _) | (with_reducible refine Below.alloc ?_ ?_ _) | (with_reducible refine Below.drew ?_) | (with_reducible refine Below.setCell ?_ ?_ _) | go_size))) | exact a5 _ (by (repeat' (first | (with_reducible exact Below.refl _ _) | (with_reducible refine Below.ext_mk ?_ ?_ _ _) | (with_reducible refine Below.alloc ?_ ?_ _) | (with_reducible refine Below.drew ?_) | (with_reducible refine Below.setCell ?_ ?_ _) | go_size))) | exact a6 _ (by (repeat' (first | (with_reducible exact Below.refl _ _) | (with_reducible refine Below.ext_mk ?_ ?_ _ _) | (with_reducible refine Below.alloc ?_ ?_ _) | (with_reducible refine Below.drew ?_) | (with_reducible refine Below.setCell ?_ ?_ _) | go_size)))))); simp only [Act.put, List.setIfInBounds_toArray, List.set_cons_zero, List.set_cons_succ]))
            refine text_nil (HF.out _ (fun mx dx => ?_))
            clear HF F
            clear a1 a2 a3 a4 a5 a6
            go_wp2
            go_roundw
            case rel => exact ⟨k + 1, by omega, by go_num, Below.ext_mk hbr hsr _ _⟩
            case measure => simp [intOf]; omega
          · obtain rfl : k = 2 := by omega
            clear hDW cW0_0 cW0_1
            go_wp2_with (go_at_call 37; refine (known31 _).mono ?_; rintro e w1 ⟨rfl, m1, d1, rfl⟩)
            go_returns
            have hB := hbB.trans (hbr.mono hbB.size)
            exact Pure.of rfl (Below.ext_mk hB hB.size _ _)
end Go.Proofs.Ytboekafmplomhaa
