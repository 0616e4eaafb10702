/-
  The document's Length: the walk.
-/
import Derived.Test.YtooadmagjpaieaaRefM4
set_option linter.unusedVariables false
set_option linter.unusedSimpArgs false
namespace Go.Proofs.Ytooadmagjpaieaa
open Go.RowKit

set_option maxHeartbeats 8000000 in
theorem rlength_any (v m : BitVec 128) (u : Int) (w : World) : Calls Try.prog 22 #[pv v m, .int .i64 u] w (Pure (rlen v m u) w) := by
  have gA := rmay_any v m u
  cases hA : rmay v m u
  · have HR : Hid (rlen v m u = .tuple #[.int .i64 0, .bool false]) := hid (by unfold rlen; rw [hA]; rfl)
    rw [hA] at gA
    clear hA
    go_enter Try.func22, Try.ntmps22
    go_upto_region 1 with (fail)
    refine wp_region_seq (fun F hF => ?_)
    have HF := hid hF; clear hF
    repeat (first
      | (apply text_skip; (focus rfl); simp only [Act.put, List.setIfInBounds_toArray, List.set_cons_zero, List.set_cons_succ])
      | (apply text_val; (focus rfl); (focus (intro _ _; go_simp; with_reducible rfl)); simp only [Act.put, List.setIfInBounds_toArray, List.set_cons_zero, List.set_cons_succ])
      | (apply text_call; (focus rfl); (focus (intro _ _; go_simp; exact ⟨rfl, rfl⟩)); (focus (intro _ _; with_reducible (exact gA _))); simp only [Act.put, List.setIfInBounds_toArray, List.set_cons_zero, List.set_cons_succ])
      | (apply text_if; (focus (first | exact wanted_t rfl rfl | exact wanted_f rfl rfl | exact wanted_gt rfl rfl | exact wanted_gf rfl rfl)); (focus (intro hc _ _; (try simp only [Bool.and_eq_true, Bool.not_eq_true', Bool.true_and] at hc); go_simp; with_reducible rfl)); simp only [Act.put, List.setIfInBounds_toArray, List.set_cons_zero, List.set_cons_succ])
      | (apply text_if_call; (focus (first | exact wanted_t rfl rfl | exact wanted_f rfl rfl | exact wanted_gt rfl rfl | exact wanted_gf rfl rfl)); (focus (intro hc _ _; (try simp only [Bool.and_eq_true, Bool.not_eq_true', Bool.true_and] at hc); go_simp; exact ⟨rfl, rfl⟩)); (focus (intro hc _ _; with_reducible (exact gA _))); simp only [Act.put, List.setIfInBounds_toArray, List.set_cons_zero, List.set_cons_succ]))
    refine text_nil (HF.out _ (fun mx dx => ?_))
    clear HF F
    go_wp2_with fail
    go_returns
    exact Pure.of HR.out.symm (by (repeat' (first | (with_reducible exact Below.refl _ _) | (with_reducible refine Below.ext_mk ?_ ?_ _ _) | (with_reducible refine Below.alloc ?_ ?_ _) | (with_reducible refine Below.drew ?_) | (with_reducible refine Below.setCell ?_ ?_ _) | go_size)))
  · obtain ⟨hu1, hu2⟩ := rmay_pos' hA
    have HR : Hid (rlen v m u = lenV (isTop m u.toNat) (u.toNat + 1)) := hid (by unfold rlen; rw [hA, if_pos rfl])
    rw [hA] at gA
    clear hA
    obtain ⟨U, rfl⟩ : ∃ U : Nat, u = (U : Int) := ⟨u.toNat, by omega⟩
    simp only [Int.toNat_natCast] at HR
    go_enter Try.func22, Try.ntmps22
    go_upto_region 1 with (fail)
    refine wp_region_seq (fun F hF => ?_)
    have HF := hid hF; clear hF
    repeat (first
      | (apply text_skip; (focus rfl); simp only [Act.put, List.setIfInBounds_toArray, List.set_cons_zero, List.set_cons_succ])
      | (apply text_val; (focus rfl); (focus (intro _ _; go_simp; with_reducible rfl)); simp only [Act.put, List.setIfInBounds_toArray, List.set_cons_zero, List.set_cons_succ])
      | (apply text_call; (focus rfl); (focus (intro _ _; go_simp; exact ⟨rfl, rfl⟩)); (focus (intro _ _; with_reducible (exact gA _))); simp only [Act.put, List.setIfInBounds_toArray, List.set_cons_zero, List.set_cons_succ])
      | (apply text_if; (focus (first | exact wanted_t rfl rfl | exact wanted_f rfl rfl | exact wanted_gt rfl rfl | exact wanted_gf rfl rfl)); (focus (intro hc _ _; (try simp only [Bool.and_eq_true, Bool.not_eq_true', Bool.true_and] at hc); go_simp; with_reducible rfl)); simp only [Act.put, List.setIfInBounds_toArray, List.set_cons_zero, List.set_cons_succ])
      | (apply text_if_call; (focus (first | exact wanted_t rfl rfl | exact wanted_f rfl rfl | exact wanted_gt rfl rfl | exact wanted_gf rfl rfl)); (focus (intro hc _ _; (try simp only [Bool.and_eq_true, Bool.not_eq_true', Bool.true_and] at hc); go_simp; exact ⟨rfl, rfl⟩)); (focus (intro hc _ _; with_reducible (exact gA _))); simp only [Act.put, List.setIfInBounds_toArray, List.set_cons_zero, List.set_cons_succ]))
    refine text_nil (HF.out _ (fun mx dx => ?_))
    clear HF F
    go_upto_region 3 with (fail)
    refine wp_gen (fun V hV => ?_)
    have hbV : Below w.heap.size w V := by rw [hV]; ((repeat' (first | (with_reducible exact Below.refl _ _) | (with_reducible refine Below.ext_mk ?_ ?_ _ _) | (with_reducible refine Below.alloc ?_ ?_ _) | (with_reducible refine Below.drew ?_) | (with_reducible refine Below.setCell ?_ ?_ _) | go_size)))
    have zV0 : w.heap.size < V.heap.size := by rw [hV]; first | (simp; done) | (simp; omega)
    have cV0_0 : V.cell? ⟨w.heap.size, 0, none⟩ = some (.int .u64 (hi v)) := by rw [hV]; first | (go_simp; done) | (rw [World.cell?_alloc_past _ _ _ (by first | (simp; done) | (simp; omega))]; go_simp)
    have cV0_1 : V.cell? ⟨w.heap.size, 1, none⟩ = some (.int .u64 (lo v)) := by rw [hV]; first | (go_simp; done) | (rw [World.cell?_alloc_past _ _ _ (by first | (simp; done) | (simp; omega))]; go_simp)
    have cV0_2 : V.cell? ⟨w.heap.size, 2, none⟩ = some (.int .u64 (hi m)) := by rw [hV]; first | (go_simp; done) | (rw [World.cell?_alloc_past _ _ _ (by first | (simp; done) | (simp; omega))]; go_simp)
    have cV0_3 : V.cell? ⟨w.heap.size, 3, none⟩ = some (.int .u64 (lo m)) := by rw [hV]; first | (go_simp; done) | (rw [World.cell?_alloc_past _ _ _ (by first | (simp; done) | (simp; omega))]; go_simp)
    clear hV
    go_wp2
    go_loopw [6] (fun i wr => ∃ j : Nat, j ≤ U ∧ i = .int .i64 j ∧ Below V.heap.size V wr ∧ Hid (∀ k, k < j → bt m (U - 1 - k) = true)) (fun i _ => U - (intOf i).toNat)
    case atStart => exact ⟨0, by omega, rfl, by (repeat' (first | (with_reducible exact Below.refl _ _) | (with_reducible refine Below.ext_mk ?_ ?_ _ _) | (with_reducible refine Below.alloc ?_ ?_ _) | (with_reducible refine Below.drew ?_) | (with_reducible refine Below.setCell ?_ ?_ _) | go_size)), hid (fun k hk => absurd hk (by omega))⟩
    case round =>
      obtain ⟨j, hj, rfl, hb, HJ⟩ := hrel
      have q0 := hb.cell (p := ⟨w.heap.size, 0, none⟩) zV0
      have q1 := hb.cell (p := ⟨w.heap.size, 1, none⟩) zV0
      have q2 := hb.cell (p := ⟨w.heap.size, 2, none⟩) zV0
      have q3 := hb.cell (p := ⟨w.heap.size, 3, none⟩) zV0
      rw [cV0_0] at q0
      rw [cV0_1] at q1
      rw [cV0_2] at q2
      rw [cV0_3] at q3
      have hbs := hb.size
      have zr : w.heap.size < wr.heap.size := by omega
      have gb : j < U → ∀ w, Calls Try.prog 33 #[nv m, .int .i64 (IntKind.i64.wrap (IntKind.i64.wrap ((U : Int) - 1) - j))] w (Pure (.bool (bt m (U - 1 - j))) w) := fun h => rbit_topw hu2 h
      have HS := hid (notTop (m := m) hj HJ.out)
      by_cases hlt : j < U
      · have hj1 : (j : Int) < (U : Int) := by omega
        replace gb := gb hlt
        cases hB : bt m (U - 1 - j)
        · have HT := hid (HS.out (fun _ => hB))
          rw [hB] at gb
          clear hB
          go_upto_region 4 with (fail)
          refine wp_region_seq (fun F hF => ?_)
          have HF := hid hF; clear hF
          repeat (first
            | (apply text_skip; (focus rfl); simp only [Act.put, List.setIfInBounds_toArray, List.set_cons_zero, List.set_cons_succ])
            | (apply text_val; (focus rfl); (focus (intro _ _; go_simp; with_reducible rfl)); simp only [Act.put, List.setIfInBounds_toArray, List.set_cons_zero, List.set_cons_succ])
            | (apply text_call; (focus rfl); (focus (intro _ _; go_simp; exact ⟨rfl, rfl⟩)); (focus (intro _ _; with_reducible (exact gb _))); simp only [Act.put, List.setIfInBounds_toArray, List.set_cons_zero, List.set_cons_succ])
            | (apply text_if; (focus (first | exact wanted_t rfl rfl | exact wanted_f rfl rfl | exact wanted_gt rfl rfl | exact wanted_gf rfl rfl)); (focus (intro hc _ _; (try simp only [Bool.and_eq_true, Bool.not_eq_true', Bool.true_and] at hc); go_simp; with_reducible rfl)); simp only [Act.put, List.setIfInBounds_toArray, List.set_cons_zero, List.set_cons_succ])
            | (apply text_if_call; (focus (first | exact wanted_t rfl rfl | exact wanted_f rfl rfl | exact wanted_gt rfl rfl | exact wanted_gf rfl rfl)); (focus (intro hc _ _; (try simp only [Bool.and_eq_true, Bool.not_eq_true', Bool.true_and] at hc); go_simp; exact ⟨rfl, rfl⟩)); (focus (intro hc _ _; with_reducible (exact gb _))); simp only [Act.put, List.setIfInBounds_toArray, List.set_cons_zero, List.set_cons_succ]))
          refine text_nil (HF.out _ (fun mx dx => ?_))
          clear HF F
          go_upto_region 6 with (fail)
          refine wp_gen (fun X hX => ?_)
          have hbX : Below V.heap.size V X := by rw [hX]; first | exact Below.ext_mk hb (by omega) _ _ | exact hb
          clear hX
          have hbXs := hbX.size
          go_wp2
          go_loopw [7] (fun i wr2 => ∃ k : Nat, j ≤ k ∧ k ≤ U ∧ i = .int .i64 k ∧ Below V.heap.size V wr2 ∧ Hid (∀ i, j ≤ i → i < k → bt m (U - 1 - i) = false)) (fun i _ => U - (intOf i).toNat)
          case atStart => exact ⟨j, by omega, by omega, rfl, hbX, hid (fun i h h' => absurd h' (by omega))⟩
          case round =>
            obtain ⟨k, hk1, hk2, rfl, hb2, HK⟩ := hrel
            have r0 := hb2.cell (p := ⟨w.heap.size, 0, none⟩) zV0
            have r1 := hb2.cell (p := ⟨w.heap.size, 1, none⟩) zV0
            have r2 := hb2.cell (p := ⟨w.heap.size, 2, none⟩) zV0
            have r3 := hb2.cell (p := ⟨w.heap.size, 3, none⟩) zV0
            rw [cV0_0] at r0
            rw [cV0_1] at r1
            rw [cV0_2] at r2
            rw [cV0_3] at r3
            have hbs2 := hb2.size
            have zr2 : w.heap.size < wr.heap.size := by omega
            by_cases hlt2 : k < U
            · have hk3 : (k : Int) < (U : Int) := by omega
              have gk : ∀ w, Calls Try.prog 33 #[nv m, .int .i64 (IntKind.i64.wrap (IntKind.i64.wrap ((U : Int) - 1) - k))] w (Pure (.bool (bt m (U - 1 - k))) w) := rbit_topw hu2 hlt2
              cases hC : bt m (U - 1 - k)
              · rw [hC] at gk
                have HC := hid hC
                clear hC
                go_upto_region 9 with (fail)
                refine wp_region_seq (fun F hF => ?_)
                have HF := hid hF; clear hF
                repeat (first
                  | (apply text_skip; (focus rfl); simp only [Act.put, List.setIfInBounds_toArray, List.set_cons_zero, List.set_cons_succ])
                  | (apply text_val; (focus rfl); (focus (intro _ _; go_simp; with_reducible rfl)); simp only [Act.put, List.setIfInBounds_toArray, List.set_cons_zero, List.set_cons_succ])
                  | (apply text_call; (focus rfl); (focus (intro _ _; go_simp; exact ⟨rfl, rfl⟩)); (focus (intro _ _; with_reducible (exact gk _))); simp only [Act.put, List.setIfInBounds_toArray, List.set_cons_zero, List.set_cons_succ])
                  | (apply text_if; (focus (first | exact wanted_t rfl rfl | exact wanted_f rfl rfl | exact wanted_gt rfl rfl | exact wanted_gf rfl rfl)); (focus (intro hc _ _; (try simp only [Bool.and_eq_true, Bool.not_eq_true', Bool.true_and] at hc); go_simp; with_reducible rfl)); simp only [Act.put, List.setIfInBounds_toArray, List.set_cons_zero, List.set_cons_succ])
                  | (apply text_if_call; (focus (first | exact wanted_t rfl rfl | exact wanted_f rfl rfl | exact wanted_gt rfl rfl | exact wanted_gf rfl rfl)); (focus (intro hc _ _; (try simp only [Bool.and_eq_true, Bool.not_eq_true', Bool.true_and] at hc); go_simp; exact ⟨rfl, rfl⟩)); (focus (intro hc _ _; with_reducible (exact gk _))); simp only [Act.put, List.setIfInBounds_toArray, List.set_cons_zero, List.set_cons_succ]))
                refine text_nil (HF.out _ (fun mx dx => ?_))
                clear HF F
                go_wp2_with fail
                go_roundw
                case rel => exact ⟨k + 1, by omega, by omega, by go_num, by first | exact Below.ext_mk hb2 (by omega) _ _ | exact Below.ext_mk (Below.ext_mk hb2 (by omega) _ _) (by simp; omega) _ _, hid (from_bit HK.out HC.out)⟩
                case measure => simp [intOf]; omega
              · rw [hC] at gk
                have HC := hid hC
                clear hC
                go_upto_region 9 with (fail)
                refine wp_region_seq (fun F hF => ?_)
                have HF := hid hF; clear hF
                repeat (first
                  | (apply text_skip; (focus rfl); simp only [Act.put, List.setIfInBounds_toArray, List.set_cons_zero, List.set_cons_succ])
                  | (apply text_val; (focus rfl); (focus (intro _ _; go_simp; with_reducible rfl)); simp only [Act.put, List.setIfInBounds_toArray, List.set_cons_zero, List.set_cons_succ])
                  | (apply text_call; (focus rfl); (focus (intro _ _; go_simp; exact ⟨rfl, rfl⟩)); (focus (intro _ _; with_reducible (exact gk _))); simp only [Act.put, List.setIfInBounds_toArray, List.set_cons_zero, List.set_cons_succ])
                  | (apply text_if; (focus (first | exact wanted_t rfl rfl | exact wanted_f rfl rfl | exact wanted_gt rfl rfl | exact wanted_gf rfl rfl)); (focus (intro hc _ _; (try simp only [Bool.and_eq_true, Bool.not_eq_true', Bool.true_and] at hc); go_simp; with_reducible rfl)); simp only [Act.put, List.setIfInBounds_toArray, List.set_cons_zero, List.set_cons_succ])
                  | (apply text_if_call; (focus (first | exact wanted_t rfl rfl | exact wanted_f rfl rfl | exact wanted_gt rfl rfl | exact wanted_gf rfl rfl)); (focus (intro hc _ _; (try simp only [Bool.and_eq_true, Bool.not_eq_true', Bool.true_and] at hc); go_simp; exact ⟨rfl, rfl⟩)); (focus (intro hc _ _; with_reducible (exact gk _))); simp only [Act.put, List.setIfInBounds_toArray, List.set_cons_zero, List.set_cons_succ]))
                refine text_nil (HF.out _ (fun mx dx => ?_))
                clear HF F
                go_wp2_with fail
                go_returns
                exact Pure.of (by rw [HR.out, lenV_none (len_none HT.out hk1 hlt2 HC.out)]; rfl) (hbV.trans (Below.mono (by first | exact Below.ext_mk hb2 (by omega) _ _ | exact Below.ext_mk (Below.ext_mk hb2 (by omega) _ _) (by simp; omega) _ _) hbV.size))
            · have e2 : k = U := by omega
              subst e2
              go_wp2
              go_returns
              exact Pure.of (by rw [HR.out, lenV_some (isTop_done HJ.out HK.out) (fun l hl => isTop_small hj HJ.out hl) (by omega)]; rfl) (hbV.trans (hb2.mono hbV.size))
        · rw [hB] at gb
          have HB := hid hB
          clear hB
          go_upto_region 4 with (fail)
          refine wp_region_seq (fun F hF => ?_)
          have HF := hid hF; clear hF
          repeat (first
            | (apply text_skip; (focus rfl); simp only [Act.put, List.setIfInBounds_toArray, List.set_cons_zero, List.set_cons_succ])
            | (apply text_val; (focus rfl); (focus (intro _ _; go_simp; with_reducible rfl)); simp only [Act.put, List.setIfInBounds_toArray, List.set_cons_zero, List.set_cons_succ])
            | (apply text_call; (focus rfl); (focus (intro _ _; go_simp; exact ⟨rfl, rfl⟩)); (focus (intro _ _; with_reducible (exact gb _))); simp only [Act.put, List.setIfInBounds_toArray, List.set_cons_zero, List.set_cons_succ])
            | (apply text_if; (focus (first | exact wanted_t rfl rfl | exact wanted_f rfl rfl | exact wanted_gt rfl rfl | exact wanted_gf rfl rfl)); (focus (intro hc _ _; (try simp only [Bool.and_eq_true, Bool.not_eq_true', Bool.true_and] at hc); go_simp; with_reducible rfl)); simp only [Act.put, List.setIfInBounds_toArray, List.set_cons_zero, List.set_cons_succ])
            | (apply text_if_call; (focus (first | exact wanted_t rfl rfl | exact wanted_f rfl rfl | exact wanted_gt rfl rfl | exact wanted_gf rfl rfl)); (focus (intro hc _ _; (try simp only [Bool.and_eq_true, Bool.not_eq_true', Bool.true_and] at hc); go_simp; exact ⟨rfl, rfl⟩)); (focus (intro hc _ _; with_reducible (exact gb _))); simp only [Act.put, List.setIfInBounds_toArray, List.set_cons_zero, List.set_cons_succ]))
          refine text_nil (HF.out _ (fun mx dx => ?_))
          clear HF F
          go_wp2_with fail
          go_roundw
          case rel => exact ⟨j + 1, by omega, by go_num, by first | exact Below.ext_mk hb (by omega) _ _ | exact Below.ext_mk (Below.ext_mk hb (by omega) _ _) (by simp; omega) _ _, hid (upto_bit HJ.out HB.out)⟩
          case measure => simp [intOf]; omega
      · have hj2 : ¬ ((j : Int) < (U : Int)) := by omega
        have HT := hid (HS.out (fun h => absurd h hlt))
        clear gb
        go_upto_region 4 with (fail)
        refine wp_region_seq (fun F hF => ?_)
        have HF := hid hF; clear hF
        repeat (first
          | (apply text_skip; (focus rfl); simp only [Act.put, List.setIfInBounds_toArray, List.set_cons_zero, List.set_cons_succ])
          | (apply text_val; (focus rfl); (focus (intro _ _; go_simp; with_reducible rfl)); simp only [Act.put, List.setIfInBounds_toArray, List.set_cons_zero, List.set_cons_succ])
          | (apply text_if; (focus (first | exact wanted_t rfl rfl | exact wanted_f rfl rfl | exact wanted_gt rfl rfl | exact wanted_gf rfl rfl)); (focus (intro hc _ _; (try simp only [Bool.and_eq_true, Bool.not_eq_true', Bool.true_and] at hc); go_simp; with_reducible rfl)); simp only [Act.put, List.setIfInBounds_toArray, List.set_cons_zero, List.set_cons_succ]))
        refine text_nil (HF.out _ (fun mx dx => ?_))
        clear HF F
        go_upto_region 6 with (fail)
        refine wp_gen (fun X hX => ?_)
        have hbX : Below V.heap.size V X := by rw [hX]; first | exact Below.ext_mk hb (by omega) _ _ | exact hb
        clear hX
        have hbXs := hbX.size
        go_wp2
        go_loopw [7] (fun i wr2 => ∃ k : Nat, j ≤ k ∧ k ≤ U ∧ i = .int .i64 k ∧ Below V.heap.size V wr2 ∧ Hid (∀ i, j ≤ i → i < k → bt m (U - 1 - i) = false)) (fun i _ => U - (intOf i).toNat)
        case atStart => exact ⟨j, by omega, by omega, rfl, hbX, hid (fun i h h' => absurd h' (by omega))⟩
        case round =>
          obtain ⟨k, hk1, hk2, rfl, hb2, HK⟩ := hrel
          have r0 := hb2.cell (p := ⟨w.heap.size, 0, none⟩) zV0
          have r1 := hb2.cell (p := ⟨w.heap.size, 1, none⟩) zV0
          have r2 := hb2.cell (p := ⟨w.heap.size, 2, none⟩) zV0
          have r3 := hb2.cell (p := ⟨w.heap.size, 3, none⟩) zV0
          rw [cV0_0] at r0
          rw [cV0_1] at r1
          rw [cV0_2] at r2
          rw [cV0_3] at r3
          have hbs2 := hb2.size
          have zr2 : w.heap.size < wr.heap.size := by omega
          by_cases hlt2 : k < U
          · have hk3 : (k : Int) < (U : Int) := by omega
            have gk : ∀ w, Calls Try.prog 33 #[nv m, .int .i64 (IntKind.i64.wrap (IntKind.i64.wrap ((U : Int) - 1) - k))] w (Pure (.bool (bt m (U - 1 - k))) w) := rbit_topw hu2 hlt2
            cases hC : bt m (U - 1 - k)
            · rw [hC] at gk
              have HC := hid hC
              clear hC
              go_upto_region 9 with (fail)
              refine wp_region_seq (fun F hF => ?_)
              have HF := hid hF; clear hF
              repeat (first
                | (apply text_skip; (focus rfl); simp only [Act.put, List.setIfInBounds_toArray, List.set_cons_zero, List.set_cons_succ])
                | (apply text_val; (focus rfl); (focus (intro _ _; go_simp; with_reducible rfl)); simp only [Act.put, List.setIfInBounds_toArray, List.set_cons_zero, List.set_cons_succ])
                | (apply text_call; (focus rfl); (focus (intro _ _; go_simp; exact ⟨rfl, rfl⟩)); (focus (intro _ _; with_reducible (exact gk _))); simp only [Act.put, List.setIfInBounds_toArray, List.set_cons_zero, List.set_cons_succ])
                | (apply text_if; (focus (first | exact wanted_t rfl rfl | exact wanted_f rfl rfl | exact wanted_gt rfl rfl | exact wanted_gf rfl rfl)); (focus (intro hc _ _; (try simp only [Bool.and_eq_true, Bool.not_eq_true', Bool.true_and] at hc); go_simp; with_reducible rfl)); simp only [Act.put, List.setIfInBounds_toArray, List.set_cons_zero, List.set_cons_succ])
                | (apply text_if_call; (focus (first | exact wanted_t rfl rfl | exact wanted_f rfl rfl | exact wanted_gt rfl rfl | exact wanted_gf rfl rfl)); (focus (intro hc _ _; (try simp only [Bool.and_eq_true, Bool.not_eq_true', Bool.true_and] at hc); go_simp; exact ⟨rfl, rfl⟩)); (focus (intro hc _ _; with_reducible (exact gk _))); simp only [Act.put, List.setIfInBounds_toArray, List.set_cons_zero, List.set_cons_succ]))
              refine text_nil (HF.out _ (fun mx dx => ?_))
              clear HF F
              go_wp2_with fail
              go_roundw
              case rel => exact ⟨k + 1, by omega, by omega, by go_num, by first | exact Below.ext_mk hb2 (by omega) _ _ | exact Below.ext_mk (Below.ext_mk hb2 (by omega) _ _) (by simp; omega) _ _, hid (from_bit HK.out HC.out)⟩
              case measure => simp [intOf]; omega
            · rw [hC] at gk
              have HC := hid hC
              clear hC
              go_upto_region 9 with (fail)
              refine wp_region_seq (fun F hF => ?_)
              have HF := hid hF; clear hF
              repeat (first
                | (apply text_skip; (focus rfl); simp only [Act.put, List.setIfInBounds_toArray, List.set_cons_zero, List.set_cons_succ])
                | (apply text_val; (focus rfl); (focus (intro _ _; go_simp; with_reducible rfl)); simp only [Act.put, List.setIfInBounds_toArray, List.set_cons_zero, List.set_cons_succ])
                | (apply text_call; (focus rfl); (focus (intro _ _; go_simp; exact ⟨rfl, rfl⟩)); (focus (intro _ _; with_reducible (exact gk _))); simp only [Act.put, List.setIfInBounds_toArray, List.set_cons_zero, List.set_cons_succ])
                | (apply text_if; (focus (first | exact wanted_t rfl rfl | exact wanted_f rfl rfl | exact wanted_gt rfl rfl | exact wanted_gf rfl rfl)); (focus (intro hc _ _; (try simp only [Bool.and_eq_true, Bool.not_eq_true', Bool.true_and] at hc); go_simp; with_reducible rfl)); simp only [Act.put, List.setIfInBounds_toArray, List.set_cons_zero, List.set_cons_succ])
                | (apply text_if_call; (focus (first | exact wanted_t rfl rfl | exact wanted_f rfl rfl | exact wanted_gt rfl rfl | exact wanted_gf rfl rfl)); (focus (intro hc _ _; (try simp only [Bool.and_eq_true, Bool.not_eq_true', Bool.true_and] at hc); go_simp; exact ⟨rfl, rfl⟩)); (focus (intro hc _ _; with_reducible (exact gk _))); simp only [Act.put, List.setIfInBounds_toArray, List.set_cons_zero, List.set_cons_succ]))
              refine text_nil (HF.out _ (fun mx dx => ?_))
              clear HF F
              go_wp2_with fail
              go_returns
              exact Pure.of (by rw [HR.out, lenV_none (len_none HT.out hk1 hlt2 HC.out)]; rfl) (hbV.trans (Below.mono (by first | exact Below.ext_mk hb2 (by omega) _ _ | exact Below.ext_mk (Below.ext_mk hb2 (by omega) _ _) (by simp; omega) _ _) hbV.size))
          · have e2 : k = U := by omega
            subst e2
            go_wp2
            go_returns
            exact Pure.of (by rw [HR.out, lenV_some (isTop_done HJ.out HK.out) (fun l hl => isTop_small hj HJ.out hl) (by omega)]; rfl) (hbV.trans (hb2.mono hbV.size))

end Go.Proofs.Ytooadmagjpaieaa
