/-
  MatchOrder: the walk.
-/
import Derived.Test.YtooadmagjpaieaaOrderP
set_option linter.unusedVariables false
set_option linter.unusedSimpArgs false
namespace Go.Proofs.Ytooadmagjpaieaa
open Go.RowKit

set_option maxHeartbeats 2000000 in
set_option maxRecDepth 100000 in
theorem order_any (av am bv bm cv cm n : BitVec 128) (u : Int) (h1 : -9223372036854775808 ≤ u) (h2 : u ≤ 9223372036854775807) (w : World) :
    Calls Try.prog 3 #[pv av am, pv bv bm, pv cv cm, nv n, .int .i64 u] w (Pure (.bool true) w) := by
  obtain ⟨pa, pb, pc, hv⟩ := madeV_form n am u
  have cm1 : ∀ w, Calls Try.prog 10 #[nv n, nv am, .int .i64 u] w (Pure (.tuple #[pv pa pb, .int .i64 pc]) w) := fun w => hv ▸ masked_any n am u h1 h2 w
  have Hv := hid hv; clear hv
  go_enter Try.func3, Try.ntmps3
  go_upto_region 1 with (fail)
  refine wp_gen (fun W hW => ?_)
  have hbW : Below w.heap.size w W := by rw [hW]; ((repeat' (first | (with_reducible exact Below.refl _ _) | (with_reducible refine Below.ext_mk ?_ ?_ _ _) | (with_reducible refine Below.alloc ?_ ?_ _) | (with_reducible refine Below.drew ?_) | (with_reducible refine Below.setCell ?_ ?_ _) | go_size)))
  have zW0 : w.heap.size < W.heap.size := by rw [hW]; first | (simp; done) | (simp; omega)
  have cW0_0 : W.cell? ⟨w.heap.size, 0, none⟩ = some (.int .u64 (hi av)) := by rw [hW]; first | (go_simp; done) | (rw [World.cell?_alloc_past _ _ _ (by first | (simp; done) | (simp; omega))]; go_simp)
  have cW0_1 : W.cell? ⟨w.heap.size, 1, none⟩ = some (.int .u64 (lo av)) := by rw [hW]; first | (go_simp; done) | (rw [World.cell?_alloc_past _ _ _ (by first | (simp; done) | (simp; omega))]; go_simp)
  have cW0_2 : W.cell? ⟨w.heap.size, 2, none⟩ = some (.int .u64 (hi am)) := by rw [hW]; first | (go_simp; done) | (rw [World.cell?_alloc_past _ _ _ (by first | (simp; done) | (simp; omega))]; go_simp)
  have cW0_3 : W.cell? ⟨w.heap.size, 3, none⟩ = some (.int .u64 (lo am)) := by rw [hW]; first | (go_simp; done) | (rw [World.cell?_alloc_past _ _ _ (by first | (simp; done) | (simp; omega))]; go_simp)
  have zW1 : w.heap.size + 1 < W.heap.size := by rw [hW]; first | (simp; done) | (simp; omega)
  have cW1_0 : W.cell? ⟨w.heap.size + 1, 0, none⟩ = some (.int .u64 (hi bv)) := by rw [hW]; first | (go_simp; done) | (rw [World.cell?_alloc_past _ _ _ (by first | (simp; done) | (simp; omega))]; go_simp)
  have cW1_1 : W.cell? ⟨w.heap.size + 1, 1, none⟩ = some (.int .u64 (lo bv)) := by rw [hW]; first | (go_simp; done) | (rw [World.cell?_alloc_past _ _ _ (by first | (simp; done) | (simp; omega))]; go_simp)
  have cW1_2 : W.cell? ⟨w.heap.size + 1, 2, none⟩ = some (.int .u64 (hi bm)) := by rw [hW]; first | (go_simp; done) | (rw [World.cell?_alloc_past _ _ _ (by first | (simp; done) | (simp; omega))]; go_simp)
  have cW1_3 : W.cell? ⟨w.heap.size + 1, 3, none⟩ = some (.int .u64 (lo bm)) := by rw [hW]; first | (go_simp; done) | (rw [World.cell?_alloc_past _ _ _ (by first | (simp; done) | (simp; omega))]; go_simp)
  have zW2 : w.heap.size + 1 + 1 < W.heap.size := by rw [hW]; first | (simp; done) | (simp; omega)
  have cW2_0 : W.cell? ⟨w.heap.size + 1 + 1, 0, none⟩ = some (.int .u64 (hi cv)) := by rw [hW]; first | (go_simp; done) | (rw [World.cell?_alloc_past _ _ _ (by first | (simp; done) | (simp; omega))]; go_simp)
  have cW2_1 : W.cell? ⟨w.heap.size + 1 + 1, 1, none⟩ = some (.int .u64 (lo cv)) := by rw [hW]; first | (go_simp; done) | (rw [World.cell?_alloc_past _ _ _ (by first | (simp; done) | (simp; omega))]; go_simp)
  have cW2_2 : W.cell? ⟨w.heap.size + 1 + 1, 2, none⟩ = some (.int .u64 (hi cm)) := by rw [hW]; first | (go_simp; done) | (rw [World.cell?_alloc_past _ _ _ (by first | (simp; done) | (simp; omega))]; go_simp)
  have cW2_3 : W.cell? ⟨w.heap.size + 1 + 1, 3, none⟩ = some (.int .u64 (lo cm)) := by rw [hW]; first | (go_simp; done) | (rw [World.cell?_alloc_past _ _ _ (by first | (simp; done) | (simp; omega))]; go_simp)
  have zW3 : w.heap.size + 1 + 1 + 1 < W.heap.size := by rw [hW]; first | (simp; done) | (simp; omega)
  have cW3_0 : W.cell? ⟨w.heap.size + 1 + 1 + 1, 0, none⟩ = some (.int .u64 (hi n)) := by rw [hW]; first | (go_simp; done) | (rw [World.cell?_alloc_past _ _ _ (by first | (simp; done) | (simp; omega))]; go_simp)
  have cW3_1 : W.cell? ⟨w.heap.size + 1 + 1 + 1, 1, none⟩ = some (.int .u64 (lo n)) := by rw [hW]; first | (go_simp; done) | (rw [World.cell?_alloc_past _ _ _ (by first | (simp; done) | (simp; omega))]; go_simp)
  clear hW
  refine wp_region_seq (fun F hF => ?_)
  have HF := hid hF; clear hF
  repeat (first
    | (apply text_skip; (focus rfl); simp only [Act.put, List.setIfInBounds_toArray, List.set_cons_zero, List.set_cons_succ])
    | (apply text_val; (focus rfl); (focus (intro _ _; go_simp; with_reducible rfl)); simp only [Act.put, List.setIfInBounds_toArray, List.set_cons_zero, List.set_cons_succ])
    | (apply text_call; (focus rfl); (focus (intro _ _; go_simp; exact ⟨rfl, rfl⟩)); (focus (intro _ _; with_reducible (exact within_any _ _ _ _ _ h1 h2 _))); simp only [Act.put, List.setIfInBounds_toArray, List.set_cons_zero, List.set_cons_succ])
    | (apply text_if; (focus (first | exact wanted_t rfl rfl | exact wanted_f rfl rfl | exact wanted_gt rfl rfl | exact wanted_gf rfl rfl)); (focus (intro hc _ _; (try simp only [Bool.and_eq_true, Bool.not_eq_true', Bool.true_and] at hc); go_simp; with_reducible rfl)); simp only [Act.put, List.setIfInBounds_toArray, List.set_cons_zero, List.set_cons_succ])
    | (apply text_if_call; (focus (first | exact wanted_t rfl rfl | exact wanted_f rfl rfl | exact wanted_gt rfl rfl | exact wanted_gf rfl rfl)); (focus (intro hc _ _; (try simp only [Bool.and_eq_true, Bool.not_eq_true', Bool.true_and] at hc); go_simp; exact ⟨rfl, rfl⟩)); (focus (intro hc _ _; with_reducible (exact within_any _ _ _ _ _ h1 h2 _))); simp only [Act.put, List.setIfInBounds_toArray, List.set_cons_zero, List.set_cons_succ]))
  refine text_nil (HF.out _ (fun mx dx => ?_))
  clear HF F
  go_upto_if 16 with (fail)
  go_cut [] (fun wx => Ext W wx)
  case first =>
    go_upto_region 2 with (fail)
    · refine wp_region_seq (fun F hF => ?_)
      have HF := hid hF; clear hF
      repeat (first
        | (apply text_skip; (focus rfl); simp only [Act.put, List.setIfInBounds_toArray, List.set_cons_zero, List.set_cons_succ])
        | (apply text_val; (focus rfl); (focus (intro _ _; go_simp; with_reducible rfl)); simp only [Act.put, List.setIfInBounds_toArray, List.set_cons_zero, List.set_cons_succ])
        | (apply text_call; (focus rfl); (focus (intro _ _; go_simp; exact ⟨rfl, rfl⟩)); (focus (intro _ _; with_reducible (exact within_any _ _ _ _ _ h1 h2 _))); simp only [Act.put, List.setIfInBounds_toArray, List.set_cons_zero, List.set_cons_succ])
        | (apply text_call; (focus rfl); (focus (intro _ _; go_simp; exact ⟨rfl, rfl⟩)); (focus (intro _ _; with_reducible (exact meet_any _ _ _ _ _ h1 h2 _))); simp only [Act.put, List.setIfInBounds_toArray, List.set_cons_zero, List.set_cons_succ])
        | (apply text_call; (focus rfl); (focus (intro _ _; go_simp; exact ⟨rfl, rfl⟩)); (focus (intro _ _; with_reducible (exact agrees_any _ _ _ _))); simp only [Act.put, List.setIfInBounds_toArray, List.set_cons_zero, List.set_cons_succ])
        | (apply text_if; (focus (first | exact wanted_t rfl rfl | exact wanted_f rfl rfl | exact wanted_gt rfl rfl | exact wanted_gf rfl rfl)); (focus (intro hc _ _; (try simp only [Bool.and_eq_true, Bool.not_eq_true', Bool.true_and] at hc); go_simp; with_reducible rfl)); simp only [Act.put, List.setIfInBounds_toArray, List.set_cons_zero, List.set_cons_succ])
        | (apply text_if_call; (focus (first | exact wanted_t rfl rfl | exact wanted_f rfl rfl | exact wanted_gt rfl rfl | exact wanted_gf rfl rfl)); (focus (intro hc _ _; (try simp only [Bool.and_eq_true, Bool.not_eq_true', Bool.true_and] at hc); go_simp; exact ⟨rfl, rfl⟩)); (focus (intro hc _ _; with_reducible (exact within_any _ _ _ _ _ h1 h2 _))); simp only [Act.put, List.setIfInBounds_toArray, List.set_cons_zero, List.set_cons_succ])
        | (apply text_if_call; (focus (first | exact wanted_t rfl rfl | exact wanted_f rfl rfl | exact wanted_gt rfl rfl | exact wanted_gf rfl rfl)); (focus (intro hc _ _; (try simp only [Bool.and_eq_true, Bool.not_eq_true', Bool.true_and] at hc); go_simp; exact ⟨rfl, rfl⟩)); (focus (intro hc _ _; with_reducible (exact meet_any _ _ _ _ _ h1 h2 _))); simp only [Act.put, List.setIfInBounds_toArray, List.set_cons_zero, List.set_cons_succ])
        | (apply text_if_call; (focus (first | exact wanted_t rfl rfl | exact wanted_f rfl rfl | exact wanted_gt rfl rfl | exact wanted_gf rfl rfl)); (focus (intro hc _ _; (try simp only [Bool.and_eq_true, Bool.not_eq_true', Bool.true_and] at hc); go_simp; exact ⟨rfl, rfl⟩)); (focus (intro hc _ _; with_reducible (exact agrees_any _ _ _ _))); simp only [Act.put, List.setIfInBounds_toArray, List.set_cons_zero, List.set_cons_succ]))
      refine text_nil (HF.out _ (fun mx dx => ?_))
      clear HF F
      go_wp2_with fail
      · exact (order_step1 ‹_› ‹_›).elim
      · go_meet
        case rel => (repeat' (first | exact Ext.refl _ | apply Ext.ext))
    · go_meet
      case rel => (repeat' (first | exact Ext.refl _ | apply Ext.ext))
  case rest =>
    obtain ⟨m3, d3, rfl⟩ := hcut
    go_upto_region 4 with (fail)
    refine wp_region_seq (fun F hF => ?_)
    have HF := hid hF; clear hF
    repeat (first
      | (apply text_skip; (focus rfl); simp only [Act.put, List.setIfInBounds_toArray, List.set_cons_zero, List.set_cons_succ])
      | (apply text_val; (focus rfl); (focus (intro _ _; go_simp; with_reducible rfl)); simp only [Act.put, List.setIfInBounds_toArray, List.set_cons_zero, List.set_cons_succ])
      | (apply text_call; (focus rfl); (focus (intro _ _; go_simp; exact ⟨rfl, rfl⟩)); (focus (intro _ _; with_reducible (exact may_any _ _ _ h1 h2 _))); simp only [Act.put, List.setIfInBounds_toArray, List.set_cons_zero, List.set_cons_succ])
      | (apply text_call; (focus rfl); (focus (intro _ _; go_simp; exact ⟨rfl, rfl⟩)); (focus (intro _ _; with_reducible (exact meet_any _ _ _ _ _ h1 h2 _))); simp only [Act.put, List.setIfInBounds_toArray, List.set_cons_zero, List.set_cons_succ])
      | (apply text_call; (focus rfl); (focus (intro _ _; go_simp; exact ⟨rfl, rfl⟩)); (focus (intro _ _; with_reducible (exact agrees_any _ _ _ _))); simp only [Act.put, List.setIfInBounds_toArray, List.set_cons_zero, List.set_cons_succ])
      | (apply text_if; (focus (first | exact wanted_t rfl rfl | exact wanted_f rfl rfl | exact wanted_gt rfl rfl | exact wanted_gf rfl rfl)); (focus (intro hc _ _; (try simp only [Bool.and_eq_true, Bool.not_eq_true', Bool.true_and] at hc); go_simp; with_reducible rfl)); simp only [Act.put, List.setIfInBounds_toArray, List.set_cons_zero, List.set_cons_succ])
      | (apply text_if_call; (focus (first | exact wanted_t rfl rfl | exact wanted_f rfl rfl | exact wanted_gt rfl rfl | exact wanted_gf rfl rfl)); (focus (intro hc _ _; (try simp only [Bool.and_eq_true, Bool.not_eq_true', Bool.true_and] at hc); go_simp; exact ⟨rfl, rfl⟩)); (focus (intro hc _ _; with_reducible (exact may_any _ _ _ h1 h2 _))); simp only [Act.put, List.setIfInBounds_toArray, List.set_cons_zero, List.set_cons_succ])
      | (apply text_if_call; (focus (first | exact wanted_t rfl rfl | exact wanted_f rfl rfl | exact wanted_gt rfl rfl | exact wanted_gf rfl rfl)); (focus (intro hc _ _; (try simp only [Bool.and_eq_true, Bool.not_eq_true', Bool.true_and] at hc); go_simp; exact ⟨rfl, rfl⟩)); (focus (intro hc _ _; with_reducible (exact meet_any _ _ _ _ _ h1 h2 _))); simp only [Act.put, List.setIfInBounds_toArray, List.set_cons_zero, List.set_cons_succ])
      | (apply text_if_call; (focus (first | exact wanted_t rfl rfl | exact wanted_f rfl rfl | exact wanted_gt rfl rfl | exact wanted_gf rfl rfl)); (focus (intro hc _ _; (try simp only [Bool.and_eq_true, Bool.not_eq_true', Bool.true_and] at hc); go_simp; exact ⟨rfl, rfl⟩)); (focus (intro hc _ _; with_reducible (exact agrees_any _ _ _ _))); simp only [Act.put, List.setIfInBounds_toArray, List.set_cons_zero, List.set_cons_succ]))
    refine text_nil (HF.out _ (fun mx dx => ?_))
    clear HF F
    go_upto_if 85 with (fail)
    go_cut [] (fun wx => Ext W wx)
    case first =>
      go_wp2_with fail
      · exact (order_step2 ‹_›).elim
      · go_meet
        case rel => (repeat' (first | exact Ext.refl _ | apply Ext.ext))
    case rest =>
      obtain ⟨m4, d4, rfl⟩ := hcut
      go_upto_region 7 with (first | ((with_reducible refine (cm1 _).mono ?_); rintro e w' ⟨rfl, m5, d5, rfl⟩))
      refine wp_gen (fun V hV => ?_)
      have hbV : Below W.heap.size W V := by rw [hV]; ((repeat' (first | (with_reducible exact Below.refl _ _) | (with_reducible refine Below.ext_mk ?_ ?_ _ _) | (with_reducible refine Below.alloc ?_ ?_ _) | (with_reducible refine Below.drew ?_) | (with_reducible refine Below.setCell ?_ ?_ _) | go_size)))
      have zV0 : w.heap.size < V.heap.size := by rw [hV]; first | (simp; done) | (simp; omega)
      have cV0_0 : V.cell? ⟨w.heap.size, 0, none⟩ = some (.int .u64 (hi av)) := by rw [hV]; first | (go_simp; done) | (rw [World.cell?_alloc_past _ _ _ (by first | (simp; done) | (simp; omega))]; go_simp)
      have cV0_1 : V.cell? ⟨w.heap.size, 1, none⟩ = some (.int .u64 (lo av)) := by rw [hV]; first | (go_simp; done) | (rw [World.cell?_alloc_past _ _ _ (by first | (simp; done) | (simp; omega))]; go_simp)
      have cV0_2 : V.cell? ⟨w.heap.size, 2, none⟩ = some (.int .u64 (hi am)) := by rw [hV]; first | (go_simp; done) | (rw [World.cell?_alloc_past _ _ _ (by first | (simp; done) | (simp; omega))]; go_simp)
      have cV0_3 : V.cell? ⟨w.heap.size, 3, none⟩ = some (.int .u64 (lo am)) := by rw [hV]; first | (go_simp; done) | (rw [World.cell?_alloc_past _ _ _ (by first | (simp; done) | (simp; omega))]; go_simp)
      have zV1 : w.heap.size + 1 + 1 + 1 < V.heap.size := by rw [hV]; first | (simp; done) | (simp; omega)
      have cV1_0 : V.cell? ⟨w.heap.size + 1 + 1 + 1, 0, none⟩ = some (.int .u64 (hi n)) := by rw [hV]; first | (go_simp; done) | (rw [World.cell?_alloc_past _ _ _ (by first | (simp; done) | (simp; omega))]; go_simp)
      have cV1_1 : V.cell? ⟨w.heap.size + 1 + 1 + 1, 1, none⟩ = some (.int .u64 (lo n)) := by rw [hV]; first | (go_simp; done) | (rw [World.cell?_alloc_past _ _ _ (by first | (simp; done) | (simp; omega))]; go_simp)
      have zV2 : W.heap.size + (m4.size + m5.size) < V.heap.size := by rw [hV]; first | (simp; done) | (simp; omega)
      have cV2_0 : V.cell? ⟨W.heap.size + (m4.size + m5.size), 0, none⟩ = some (.int .u64 (hi pa)) := by rw [hV]; first | (go_simp; done) | (rw [World.cell?_alloc_past _ _ _ (by first | (simp; done) | (simp; omega))]; go_simp)
      have cV2_1 : V.cell? ⟨W.heap.size + (m4.size + m5.size), 1, none⟩ = some (.int .u64 (lo pa)) := by rw [hV]; first | (go_simp; done) | (rw [World.cell?_alloc_past _ _ _ (by first | (simp; done) | (simp; omega))]; go_simp)
      have cV2_2 : V.cell? ⟨W.heap.size + (m4.size + m5.size), 2, none⟩ = some (.int .u64 (hi pb)) := by rw [hV]; first | (go_simp; done) | (rw [World.cell?_alloc_past _ _ _ (by first | (simp; done) | (simp; omega))]; go_simp)
      have cV2_3 : V.cell? ⟨W.heap.size + (m4.size + m5.size), 3, none⟩ = some (.int .u64 (lo pb)) := by rw [hV]; first | (go_simp; done) | (rw [World.cell?_alloc_past _ _ _ (by first | (simp; done) | (simp; omega))]; go_simp)
      clear hV
      refine wp_region_seq (fun F hF => ?_)
      have HF := hid hF; clear hF
      repeat (first
        | (apply text_skip; (focus rfl); simp only [Act.put, List.setIfInBounds_toArray, List.set_cons_zero, List.set_cons_succ])
        | (apply text_val; (focus rfl); (focus (intro _ _; go_simp; with_reducible rfl)); simp only [Act.put, List.setIfInBounds_toArray, List.set_cons_zero, List.set_cons_succ])
        | (apply text_call; (focus rfl); (focus (intro _ _; go_simp; exact ⟨rfl, rfl⟩)); (focus (intro _ _; with_reducible (exact may_any _ _ _ h1 h2 _))); simp only [Act.put, List.setIfInBounds_toArray, List.set_cons_zero, List.set_cons_succ])
        | (apply text_call; (focus rfl); (focus (intro _ _; go_simp; exact ⟨rfl, rfl⟩)); (focus (intro _ _; with_reducible (exact agrees_any _ _ _ _))); simp only [Act.put, List.setIfInBounds_toArray, List.set_cons_zero, List.set_cons_succ])
        | (apply text_call; (focus rfl); (focus (intro _ _; go_simp; exact ⟨rfl, rfl⟩)); (focus (intro _ _; with_reducible (exact within_any _ _ _ _ _ h1 h2 _))); simp only [Act.put, List.setIfInBounds_toArray, List.set_cons_zero, List.set_cons_succ])
        | (apply text_call; (focus rfl); (focus (intro _ _; go_simp; exact ⟨rfl, rfl⟩)); (focus (intro _ _; with_reducible (exact meet_any _ _ _ _ _ h1 h2 _))); simp only [Act.put, List.setIfInBounds_toArray, List.set_cons_zero, List.set_cons_succ])
        | (apply text_call; (focus rfl); (focus (intro _ _; go_simp; exact ⟨rfl, rfl⟩)); (focus (intro _ _; with_reducible (exact known_any _))); simp only [Act.put, List.setIfInBounds_toArray, List.set_cons_zero, List.set_cons_succ])
        | (apply text_if; (focus (first | exact wanted_t rfl rfl | exact wanted_f rfl rfl | exact wanted_gt rfl rfl | exact wanted_gf rfl rfl)); (focus (intro hc _ _; (try simp only [Bool.and_eq_true, Bool.not_eq_true', Bool.true_and] at hc); go_simp; with_reducible rfl)); simp only [Act.put, List.setIfInBounds_toArray, List.set_cons_zero, List.set_cons_succ])
        | (apply text_if_call; (focus (first | exact wanted_t rfl rfl | exact wanted_f rfl rfl | exact wanted_gt rfl rfl | exact wanted_gf rfl rfl)); (focus (intro hc _ _; (try simp only [Bool.and_eq_true, Bool.not_eq_true', Bool.true_and] at hc); go_simp; exact ⟨rfl, rfl⟩)); (focus (intro hc _ _; with_reducible (exact may_any _ _ _ h1 h2 _))); simp only [Act.put, List.setIfInBounds_toArray, List.set_cons_zero, List.set_cons_succ])
        | (apply text_if_call; (focus (first | exact wanted_t rfl rfl | exact wanted_f rfl rfl | exact wanted_gt rfl rfl | exact wanted_gf rfl rfl)); (focus (intro hc _ _; (try simp only [Bool.and_eq_true, Bool.not_eq_true', Bool.true_and] at hc); go_simp; exact ⟨rfl, rfl⟩)); (focus (intro hc _ _; with_reducible (exact agrees_any _ _ _ _))); simp only [Act.put, List.setIfInBounds_toArray, List.set_cons_zero, List.set_cons_succ])
        | (apply text_if_call; (focus (first | exact wanted_t rfl rfl | exact wanted_f rfl rfl | exact wanted_gt rfl rfl | exact wanted_gf rfl rfl)); (focus (intro hc _ _; (try simp only [Bool.and_eq_true, Bool.not_eq_true', Bool.true_and] at hc); go_simp; exact ⟨rfl, rfl⟩)); (focus (intro hc _ _; with_reducible (exact within_any _ _ _ _ _ h1 h2 _))); simp only [Act.put, List.setIfInBounds_toArray, List.set_cons_zero, List.set_cons_succ])
        | (apply text_if_call; (focus (first | exact wanted_t rfl rfl | exact wanted_f rfl rfl | exact wanted_gt rfl rfl | exact wanted_gf rfl rfl)); (focus (intro hc _ _; (try simp only [Bool.and_eq_true, Bool.not_eq_true', Bool.true_and] at hc); go_simp; exact ⟨rfl, rfl⟩)); (focus (intro hc _ _; with_reducible (exact meet_any _ _ _ _ _ h1 h2 _))); simp only [Act.put, List.setIfInBounds_toArray, List.set_cons_zero, List.set_cons_succ])
        | (apply text_if_call; (focus (first | exact wanted_t rfl rfl | exact wanted_f rfl rfl | exact wanted_gt rfl rfl | exact wanted_gf rfl rfl)); (focus (intro hc _ _; (try simp only [Bool.and_eq_true, Bool.not_eq_true', Bool.true_and] at hc); go_simp; exact ⟨rfl, rfl⟩)); (focus (intro hc _ _; with_reducible (exact known_any _))); simp only [Act.put, List.setIfInBounds_toArray, List.set_cons_zero, List.set_cons_succ]))
      refine text_nil (HF.out _ (fun mx dx => ?_))
      clear HF F
      go_wp2_with fail
      go_returns
      exact Pure.of (congrArg Value.bool (order_last Hv.out)) (Below.ext_mk (hbW.trans (hbV.mono (by omega))) (by omega) _ _)

end Go.Proofs.Ytooadmagjpaieaa
