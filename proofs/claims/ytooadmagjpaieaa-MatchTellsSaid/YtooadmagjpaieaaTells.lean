/-
  MatchTells: the walk.
-/
import Derived.Test.YtooadmagjpaieaaTellsQ
import Derived.Test.YtooadmagjpaieaaLaw11
import Derived.Test.YtooadmagjpaieaaRefM5
set_option linter.unusedVariables false
set_option linter.unusedSimpArgs false
namespace Go.Proofs.Ytooadmagjpaieaa
open Go.RowKit

theorem prefixV_form (n : BitVec 128) (l u : Int) : ∃ a b c, prefixV n l u = .tuple #[pv a b, .int .i64 c] := by
  unfold prefixV
  split
  · exact ⟨_, _, _, rfl⟩
  · exact madeV_form _ _ _
theorem mlen_form (v m : BitVec 128) (u : Int) : ∃ x b, mlen v m u = .tuple #[.int .i64 x, .bool b] := by
  unfold mlen
  split
  · exact lenV_form _ _
  · exact ⟨_, _, rfl⟩

set_option maxHeartbeats 8000000 in
set_option maxRecDepth 100000 in
theorem tells_any (av am bv bm n m : BitVec 128) (l u : Int) (l1 : -9223372036854775808 ≤ l) (l2 : l ≤ 9223372036854775807) (h1 : -9223372036854775808 ≤ u) (h2 : u ≤ 9223372036854775807) (w : World) :
    Calls Try.prog 5 #[pv av am, pv bv bm, nv n, nv m, .int .i64 l, .int .i64 u] w (Pure (.bool true) w) := by
  have g1 := may_any av am u h1 h2
  have r1 := rmay_any av am u
  rw [mayB_rmay] at r1
  generalize mayB av am u = x1 at g1 r1
  have g2 := agrees_any av am n
  have r2 := ragrees_any av am n
  rw [agrees_ragrees] at r2
  generalize agreesB av am n = x2 at g2 r2
  have g3 := within_any av am bv bm u h1 h2
  have r3 := rwithin_any av am bv bm u
  rw [within_rwithin] at r3
  generalize (mayB av am u && mayB bv bm u && withinB av am bv bm) = x3 at g3 r3
  have g4 := meet_any av am bv bm u h1 h2
  have r4 := rmeet_any av am bv bm u
  rw [meet_rmeet] at r4
  generalize (mayB av am u && mayB bv bm u && meetB av am bv bm) = x4 at g4 r4
  obtain ⟨pa, pb, pc, hv⟩ := madeV_form n (maskOf u) u
  have g5 := exact_any n u h1 h2
  have r5 := rexact_any n u
  rw [rexact_made] at r5
  rw [hv] at g5 r5
  clear hv
  obtain ⟨qa, qb, qc, hv⟩ := prefixV_form n l u
  have g6 := prefix_any n l u l1 l2 h1 h2
  have r6 := rprefix_any n l u
  rw [rprefix_prefix] at r6
  rw [hv] at g6 r6
  clear hv
  obtain ⟨sa, sb, sc, hv⟩ := madeV_form n m u
  have g7 := masked_any n m u h1 h2
  have r7 := rmasked_any n m u
  rw [rmasked_made] at r7
  rw [hv] at g7 r7
  clear hv
  obtain ⟨x, ok, hv⟩ := mlen_form av am u
  have g8 := mlength_any av am u h1 h2
  have r8 := rlength_any av am u
  rw [len_rlen] at r8
  rw [hv] at g8 r8
  clear hv
  have g9 := ahead_any (.int .i64 0) (.slice none 0 0) (.int .i64 0) (.slice none 0 0) (.int .i64 0) (.slice none 0 0) (.int .i64 0) (.slice none 0 0) u l l u
  have r9 := rahead_any (.int .i64 0) (.slice none 0 0) (.int .i64 0) (.slice none 0 0) (.int .i64 0) (.slice none 0 0) (.int .i64 0) (.slice none 0 0) u l l u
  generalize (decide (u < l) || decide (l = u) && decide (l < u)) = x9 at g9 r9
  go_enter Try.func5, Try.ntmps5
  go_upto_region 1 with (fail)
  refine wp_gen (fun V2 hV2 => ?_)
  have hbV2 : Below w.heap.size w V2 := by rw [hV2]; ((repeat' (first | (with_reducible exact Below.refl _ _) | (with_reducible refine Below.ext_mk ?_ ?_ _ _) | (with_reducible refine Below.alloc ?_ ?_ _) | (with_reducible refine Below.drew ?_) | (with_reducible refine Below.setCell ?_ ?_ _) | go_size)))
  have zV20 : w.heap.size < V2.heap.size := by rw [hV2]; first | (simp; done) | (simp; omega)
  have cV20_0 : V2.cell? ⟨w.heap.size, 0, none⟩ = some (.int .u64 (hi av)) := by rw [hV2]; first | (go_simp; done) | (rw [World.cell?_alloc_past _ _ _ (by first | (simp; done) | (simp; omega))]; go_simp)
  have cV20_1 : V2.cell? ⟨w.heap.size, 1, none⟩ = some (.int .u64 (lo av)) := by rw [hV2]; first | (go_simp; done) | (rw [World.cell?_alloc_past _ _ _ (by first | (simp; done) | (simp; omega))]; go_simp)
  have cV20_2 : V2.cell? ⟨w.heap.size, 2, none⟩ = some (.int .u64 (hi am)) := by rw [hV2]; first | (go_simp; done) | (rw [World.cell?_alloc_past _ _ _ (by first | (simp; done) | (simp; omega))]; go_simp)
  have cV20_3 : V2.cell? ⟨w.heap.size, 3, none⟩ = some (.int .u64 (lo am)) := by rw [hV2]; first | (go_simp; done) | (rw [World.cell?_alloc_past _ _ _ (by first | (simp; done) | (simp; omega))]; go_simp)
  have zV21 : w.heap.size + 1 < V2.heap.size := by rw [hV2]; first | (simp; done) | (simp; omega)
  have cV21_0 : V2.cell? ⟨w.heap.size + 1, 0, none⟩ = some (.int .u64 (hi bv)) := by rw [hV2]; first | (go_simp; done) | (rw [World.cell?_alloc_past _ _ _ (by first | (simp; done) | (simp; omega))]; go_simp)
  have cV21_1 : V2.cell? ⟨w.heap.size + 1, 1, none⟩ = some (.int .u64 (lo bv)) := by rw [hV2]; first | (go_simp; done) | (rw [World.cell?_alloc_past _ _ _ (by first | (simp; done) | (simp; omega))]; go_simp)
  have cV21_2 : V2.cell? ⟨w.heap.size + 1, 2, none⟩ = some (.int .u64 (hi bm)) := by rw [hV2]; first | (go_simp; done) | (rw [World.cell?_alloc_past _ _ _ (by first | (simp; done) | (simp; omega))]; go_simp)
  have cV21_3 : V2.cell? ⟨w.heap.size + 1, 3, none⟩ = some (.int .u64 (lo bm)) := by rw [hV2]; first | (go_simp; done) | (rw [World.cell?_alloc_past _ _ _ (by first | (simp; done) | (simp; omega))]; go_simp)
  have zV22 : w.heap.size + 1 + 1 < V2.heap.size := by rw [hV2]; first | (simp; done) | (simp; omega)
  have cV22_0 : V2.cell? ⟨w.heap.size + 1 + 1, 0, none⟩ = some (.int .u64 (hi n)) := by rw [hV2]; first | (go_simp; done) | (rw [World.cell?_alloc_past _ _ _ (by first | (simp; done) | (simp; omega))]; go_simp)
  have cV22_1 : V2.cell? ⟨w.heap.size + 1 + 1, 1, none⟩ = some (.int .u64 (lo n)) := by rw [hV2]; first | (go_simp; done) | (rw [World.cell?_alloc_past _ _ _ (by first | (simp; done) | (simp; omega))]; go_simp)
  have zV23 : w.heap.size + 1 + 1 + 1 < V2.heap.size := by rw [hV2]; first | (simp; done) | (simp; omega)
  have cV23_0 : V2.cell? ⟨w.heap.size + 1 + 1 + 1, 0, none⟩ = some (.int .u64 (hi m)) := by rw [hV2]; first | (go_simp; done) | (rw [World.cell?_alloc_past _ _ _ (by first | (simp; done) | (simp; omega))]; go_simp)
  have cV23_1 : V2.cell? ⟨w.heap.size + 1 + 1 + 1, 1, none⟩ = some (.int .u64 (lo m)) := by rw [hV2]; first | (go_simp; done) | (rw [World.cell?_alloc_past _ _ _ (by first | (simp; done) | (simp; omega))]; go_simp)
  clear hV2
  refine wp_region_ext (by kernel_rfl) (by kernel_rfl) (fun F hF => ?_)
  have HF := hid hF; clear hF
  repeat (first
    | (apply text_skip; (focus rfl); simp only [Act.put, List.setIfInBounds_toArray, List.set_cons_zero, List.set_cons_succ])
    | (apply text_val; (focus rfl); (focus (intro _ _; go_simp; with_reducible rfl)); simp only [Act.put, List.setIfInBounds_toArray, List.set_cons_zero, List.set_cons_succ])
    | (apply text_call; (focus rfl); (focus (intro _ _; go_simp; exact ⟨rfl, rfl⟩)); (focus (intro _ _; with_reducible (exact g1 _))); simp only [Act.put, List.setIfInBounds_toArray, List.set_cons_zero, List.set_cons_succ])
    | (apply text_call; (focus rfl); (focus (intro _ _; go_simp; exact ⟨rfl, rfl⟩)); (focus (intro _ _; with_reducible (exact r1 _))); simp only [Act.put, List.setIfInBounds_toArray, List.set_cons_zero, List.set_cons_succ])
    | (apply text_call; (focus rfl); (focus (intro _ _; go_simp; exact ⟨rfl, rfl⟩)); (focus (intro _ _; with_reducible (exact g2 _))); simp only [Act.put, List.setIfInBounds_toArray, List.set_cons_zero, List.set_cons_succ])
    | (apply text_call; (focus rfl); (focus (intro _ _; go_simp; exact ⟨rfl, rfl⟩)); (focus (intro _ _; with_reducible (exact r2 _))); simp only [Act.put, List.setIfInBounds_toArray, List.set_cons_zero, List.set_cons_succ])
    | (apply text_call; (focus rfl); (focus (intro _ _; go_simp; exact ⟨rfl, rfl⟩)); (focus (intro _ _; with_reducible (exact g3 _))); simp only [Act.put, List.setIfInBounds_toArray, List.set_cons_zero, List.set_cons_succ])
    | (apply text_call; (focus rfl); (focus (intro _ _; go_simp; exact ⟨rfl, rfl⟩)); (focus (intro _ _; with_reducible (exact r3 _))); simp only [Act.put, List.setIfInBounds_toArray, List.set_cons_zero, List.set_cons_succ])
    | (apply text_call; (focus rfl); (focus (intro _ _; go_simp; exact ⟨rfl, rfl⟩)); (focus (intro _ _; with_reducible (exact g4 _))); simp only [Act.put, List.setIfInBounds_toArray, List.set_cons_zero, List.set_cons_succ])
    | (apply text_call; (focus rfl); (focus (intro _ _; go_simp; exact ⟨rfl, rfl⟩)); (focus (intro _ _; with_reducible (exact r4 _))); simp only [Act.put, List.setIfInBounds_toArray, List.set_cons_zero, List.set_cons_succ])
    | (apply text_if; (focus (first | exact wanted_t rfl rfl | exact wanted_f rfl rfl | exact wanted_gt rfl rfl | exact wanted_gf rfl rfl)); (focus (intro hc _ _; (try simp only [Bool.and_eq_true, Bool.not_eq_true', Bool.true_and] at hc); go_simp; with_reducible rfl)); simp only [Act.put, List.setIfInBounds_toArray, List.set_cons_zero, List.set_cons_succ])
    | (apply text_if_call; (focus (first | exact wanted_t rfl rfl | exact wanted_f rfl rfl | exact wanted_gt rfl rfl | exact wanted_gf rfl rfl)); (focus (intro hc _ _; (try simp only [Bool.and_eq_true, Bool.not_eq_true', Bool.true_and] at hc); go_simp; exact ⟨rfl, rfl⟩)); (focus (intro hc _ _; with_reducible (exact g1 _))); simp only [Act.put, List.setIfInBounds_toArray, List.set_cons_zero, List.set_cons_succ])
    | (apply text_if_call; (focus (first | exact wanted_t rfl rfl | exact wanted_f rfl rfl | exact wanted_gt rfl rfl | exact wanted_gf rfl rfl)); (focus (intro hc _ _; (try simp only [Bool.and_eq_true, Bool.not_eq_true', Bool.true_and] at hc); go_simp; exact ⟨rfl, rfl⟩)); (focus (intro hc _ _; with_reducible (exact r1 _))); simp only [Act.put, List.setIfInBounds_toArray, List.set_cons_zero, List.set_cons_succ])
    | (apply text_if_call; (focus (first | exact wanted_t rfl rfl | exact wanted_f rfl rfl | exact wanted_gt rfl rfl | exact wanted_gf rfl rfl)); (focus (intro hc _ _; (try simp only [Bool.and_eq_true, Bool.not_eq_true', Bool.true_and] at hc); go_simp; exact ⟨rfl, rfl⟩)); (focus (intro hc _ _; with_reducible (exact g2 _))); simp only [Act.put, List.setIfInBounds_toArray, List.set_cons_zero, List.set_cons_succ])
    | (apply text_if_call; (focus (first | exact wanted_t rfl rfl | exact wanted_f rfl rfl | exact wanted_gt rfl rfl | exact wanted_gf rfl rfl)); (focus (intro hc _ _; (try simp only [Bool.and_eq_true, Bool.not_eq_true', Bool.true_and] at hc); go_simp; exact ⟨rfl, rfl⟩)); (focus (intro hc _ _; with_reducible (exact r2 _))); simp only [Act.put, List.setIfInBounds_toArray, List.set_cons_zero, List.set_cons_succ])
    | (apply text_if_call; (focus (first | exact wanted_t rfl rfl | exact wanted_f rfl rfl | exact wanted_gt rfl rfl | exact wanted_gf rfl rfl)); (focus (intro hc _ _; (try simp only [Bool.and_eq_true, Bool.not_eq_true', Bool.true_and] at hc); go_simp; exact ⟨rfl, rfl⟩)); (focus (intro hc _ _; with_reducible (exact g3 _))); simp only [Act.put, List.setIfInBounds_toArray, List.set_cons_zero, List.set_cons_succ])
    | (apply text_if_call; (focus (first | exact wanted_t rfl rfl | exact wanted_f rfl rfl | exact wanted_gt rfl rfl | exact wanted_gf rfl rfl)); (focus (intro hc _ _; (try simp only [Bool.and_eq_true, Bool.not_eq_true', Bool.true_and] at hc); go_simp; exact ⟨rfl, rfl⟩)); (focus (intro hc _ _; with_reducible (exact r3 _))); simp only [Act.put, List.setIfInBounds_toArray, List.set_cons_zero, List.set_cons_succ])
    | (apply text_if_call; (focus (first | exact wanted_t rfl rfl | exact wanted_f rfl rfl | exact wanted_gt rfl rfl | exact wanted_gf rfl rfl)); (focus (intro hc _ _; (try simp only [Bool.and_eq_true, Bool.not_eq_true', Bool.true_and] at hc); go_simp; exact ⟨rfl, rfl⟩)); (focus (intro hc _ _; with_reducible (exact g4 _))); simp only [Act.put, List.setIfInBounds_toArray, List.set_cons_zero, List.set_cons_succ])
    | (apply text_if_call; (focus (first | exact wanted_t rfl rfl | exact wanted_f rfl rfl | exact wanted_gt rfl rfl | exact wanted_gf rfl rfl)); (focus (intro hc _ _; (try simp only [Bool.and_eq_true, Bool.not_eq_true', Bool.true_and] at hc); go_simp; exact ⟨rfl, rfl⟩)); (focus (intro hc _ _; with_reducible (exact r4 _))); simp only [Act.put, List.setIfInBounds_toArray, List.set_cons_zero, List.set_cons_succ]))
  refine text_nil (HF.out _ (fun mx dx => ?_))
  clear HF F
  go_upto_region 3 with (fail)
  refine wp_gen (fun U2 hU2 => ?_)
  have hbU2 : Below V2.heap.size V2 U2 := by rw [hU2]; first | exact Below.ext_mk (Below.refl _ _) (Nat.le_refl _) _ _ | exact Below.refl _ _
  clear hU2
  have hbA : Below w.heap.size w U2 := hbV2.trans (hbU2.mono hbV2.size)
  have k0_0 := hbU2.cell (p := ⟨w.heap.size, 0, none⟩) zV20
  rw [cV20_0] at k0_0
  have k0_1 := hbU2.cell (p := ⟨w.heap.size, 1, none⟩) zV20
  rw [cV20_1] at k0_1
  have k0_2 := hbU2.cell (p := ⟨w.heap.size, 2, none⟩) zV20
  rw [cV20_2] at k0_2
  have k0_3 := hbU2.cell (p := ⟨w.heap.size, 3, none⟩) zV20
  rw [cV20_3] at k0_3
  have y0 : w.heap.size < U2.heap.size := Nat.lt_of_lt_of_le zV20 hbU2.size
  have k2_0 := hbU2.cell (p := ⟨w.heap.size + 1 + 1, 0, none⟩) zV22
  rw [cV22_0] at k2_0
  have k2_1 := hbU2.cell (p := ⟨w.heap.size + 1 + 1, 1, none⟩) zV22
  rw [cV22_1] at k2_1
  have y2 : w.heap.size + 1 + 1 < U2.heap.size := Nat.lt_of_lt_of_le zV22 hbU2.size
  have k3_0 := hbU2.cell (p := ⟨w.heap.size + 1 + 1 + 1, 0, none⟩) zV23
  rw [cV23_0] at k3_0
  have k3_1 := hbU2.cell (p := ⟨w.heap.size + 1 + 1 + 1, 1, none⟩) zV23
  rw [cV23_1] at k3_1
  have y3 : w.heap.size + 1 + 1 + 1 < U2.heap.size := Nat.lt_of_lt_of_le zV23 hbU2.size
  clear hbU2 hbV2
  go_upto_region 4 with (first | ((with_reducible refine (g5 _).mono ?_); rintro e w1 ⟨rfl, m1, d1, rfl⟩))
  refine wp_gen (fun V3 hV3 => ?_)
  have hbV3 : Below U2.heap.size U2 V3 := by rw [hV3]; ((repeat' (first | (with_reducible exact Below.refl _ _) | (with_reducible refine Below.ext_mk ?_ ?_ _ _) | (with_reducible refine Below.alloc ?_ ?_ _) | (with_reducible refine Below.drew ?_) | (with_reducible refine Below.setCell ?_ ?_ _) | go_size)))
  have zV30 : w.heap.size < V3.heap.size := by rw [hV3]; first | (simp; done) | (simp; omega)
  have cV30_0 : V3.cell? ⟨w.heap.size, 0, none⟩ = some (.int .u64 (hi av)) := by rw [hV3]; first | (go_simp; done) | (rw [World.cell?_alloc_past _ _ _ (by first | (simp; done) | (simp; omega))]; go_simp)
  have cV30_1 : V3.cell? ⟨w.heap.size, 1, none⟩ = some (.int .u64 (lo av)) := by rw [hV3]; first | (go_simp; done) | (rw [World.cell?_alloc_past _ _ _ (by first | (simp; done) | (simp; omega))]; go_simp)
  have cV30_2 : V3.cell? ⟨w.heap.size, 2, none⟩ = some (.int .u64 (hi am)) := by rw [hV3]; first | (go_simp; done) | (rw [World.cell?_alloc_past _ _ _ (by first | (simp; done) | (simp; omega))]; go_simp)
  have cV30_3 : V3.cell? ⟨w.heap.size, 3, none⟩ = some (.int .u64 (lo am)) := by rw [hV3]; first | (go_simp; done) | (rw [World.cell?_alloc_past _ _ _ (by first | (simp; done) | (simp; omega))]; go_simp)
  have zV31 : w.heap.size + 1 + 1 < V3.heap.size := by rw [hV3]; first | (simp; done) | (simp; omega)
  have cV31_0 : V3.cell? ⟨w.heap.size + 1 + 1, 0, none⟩ = some (.int .u64 (hi n)) := by rw [hV3]; first | (go_simp; done) | (rw [World.cell?_alloc_past _ _ _ (by first | (simp; done) | (simp; omega))]; go_simp)
  have cV31_1 : V3.cell? ⟨w.heap.size + 1 + 1, 1, none⟩ = some (.int .u64 (lo n)) := by rw [hV3]; first | (go_simp; done) | (rw [World.cell?_alloc_past _ _ _ (by first | (simp; done) | (simp; omega))]; go_simp)
  have zV32 : w.heap.size + 1 + 1 + 1 < V3.heap.size := by rw [hV3]; first | (simp; done) | (simp; omega)
  have cV32_0 : V3.cell? ⟨w.heap.size + 1 + 1 + 1, 0, none⟩ = some (.int .u64 (hi m)) := by rw [hV3]; first | (go_simp; done) | (rw [World.cell?_alloc_past _ _ _ (by first | (simp; done) | (simp; omega))]; go_simp)
  have cV32_1 : V3.cell? ⟨w.heap.size + 1 + 1 + 1, 1, none⟩ = some (.int .u64 (lo m)) := by rw [hV3]; first | (go_simp; done) | (rw [World.cell?_alloc_past _ _ _ (by first | (simp; done) | (simp; omega))]; go_simp)
  have zV33 : U2.heap.size + m1.size < V3.heap.size := by rw [hV3]; first | (simp; done) | (simp; omega)
  have cV33_0 : V3.cell? ⟨U2.heap.size + m1.size, 0, none⟩ = some (.int .u64 (hi pa)) := by rw [hV3]; first | (go_simp; done) | (rw [World.cell?_alloc_past _ _ _ (by first | (simp; done) | (simp; omega))]; go_simp)
  have cV33_1 : V3.cell? ⟨U2.heap.size + m1.size, 1, none⟩ = some (.int .u64 (lo pa)) := by rw [hV3]; first | (go_simp; done) | (rw [World.cell?_alloc_past _ _ _ (by first | (simp; done) | (simp; omega))]; go_simp)
  have cV33_2 : V3.cell? ⟨U2.heap.size + m1.size, 2, none⟩ = some (.int .u64 (hi pb)) := by rw [hV3]; first | (go_simp; done) | (rw [World.cell?_alloc_past _ _ _ (by first | (simp; done) | (simp; omega))]; go_simp)
  have cV33_3 : V3.cell? ⟨U2.heap.size + m1.size, 3, none⟩ = some (.int .u64 (lo pb)) := by rw [hV3]; first | (go_simp; done) | (rw [World.cell?_alloc_past _ _ _ (by first | (simp; done) | (simp; omega))]; go_simp)
  clear hV3
  have hb3a : Below w.heap.size w V3 := hbA.trans (hbV3.mono hbA.size)
  generalize U2.heap.size + m1.size = B3 at *
  go_upto_region 5 with (first | ((with_reducible refine (r5 _).mono ?_); rintro e w1 ⟨rfl, m1, d1, rfl⟩))
  refine wp_gen (fun V4 hV4 => ?_)
  have hbV4 : Below V3.heap.size V3 V4 := by rw [hV4]; ((repeat' (first | (with_reducible exact Below.refl _ _) | (with_reducible refine Below.ext_mk ?_ ?_ _ _) | (with_reducible refine Below.alloc ?_ ?_ _) | (with_reducible refine Below.drew ?_) | (with_reducible refine Below.setCell ?_ ?_ _) | go_size)))
  have zV40 : w.heap.size < V4.heap.size := by rw [hV4]; first | (simp; done) | (simp; omega)
  have cV40_0 : V4.cell? ⟨w.heap.size, 0, none⟩ = some (.int .u64 (hi av)) := by rw [hV4]; first | (go_simp; done) | (rw [World.cell?_alloc_past _ _ _ (by first | (simp; done) | (simp; omega))]; go_simp)
  have cV40_1 : V4.cell? ⟨w.heap.size, 1, none⟩ = some (.int .u64 (lo av)) := by rw [hV4]; first | (go_simp; done) | (rw [World.cell?_alloc_past _ _ _ (by first | (simp; done) | (simp; omega))]; go_simp)
  have cV40_2 : V4.cell? ⟨w.heap.size, 2, none⟩ = some (.int .u64 (hi am)) := by rw [hV4]; first | (go_simp; done) | (rw [World.cell?_alloc_past _ _ _ (by first | (simp; done) | (simp; omega))]; go_simp)
  have cV40_3 : V4.cell? ⟨w.heap.size, 3, none⟩ = some (.int .u64 (lo am)) := by rw [hV4]; first | (go_simp; done) | (rw [World.cell?_alloc_past _ _ _ (by first | (simp; done) | (simp; omega))]; go_simp)
  have zV41 : w.heap.size + 1 + 1 < V4.heap.size := by rw [hV4]; first | (simp; done) | (simp; omega)
  have cV41_0 : V4.cell? ⟨w.heap.size + 1 + 1, 0, none⟩ = some (.int .u64 (hi n)) := by rw [hV4]; first | (go_simp; done) | (rw [World.cell?_alloc_past _ _ _ (by first | (simp; done) | (simp; omega))]; go_simp)
  have cV41_1 : V4.cell? ⟨w.heap.size + 1 + 1, 1, none⟩ = some (.int .u64 (lo n)) := by rw [hV4]; first | (go_simp; done) | (rw [World.cell?_alloc_past _ _ _ (by first | (simp; done) | (simp; omega))]; go_simp)
  have zV42 : w.heap.size + 1 + 1 + 1 < V4.heap.size := by rw [hV4]; first | (simp; done) | (simp; omega)
  have cV42_0 : V4.cell? ⟨w.heap.size + 1 + 1 + 1, 0, none⟩ = some (.int .u64 (hi m)) := by rw [hV4]; first | (go_simp; done) | (rw [World.cell?_alloc_past _ _ _ (by first | (simp; done) | (simp; omega))]; go_simp)
  have cV42_1 : V4.cell? ⟨w.heap.size + 1 + 1 + 1, 1, none⟩ = some (.int .u64 (lo m)) := by rw [hV4]; first | (go_simp; done) | (rw [World.cell?_alloc_past _ _ _ (by first | (simp; done) | (simp; omega))]; go_simp)
  have zV43 : B3 < V4.heap.size := by rw [hV4]; first | (simp; done) | (simp; omega)
  have cV43_0 : V4.cell? ⟨B3, 0, none⟩ = some (.int .u64 (hi pa)) := by rw [hV4]; first | (go_simp; done) | (rw [World.cell?_alloc_past _ _ _ (by first | (simp; done) | (simp; omega))]; go_simp)
  have cV43_1 : V4.cell? ⟨B3, 1, none⟩ = some (.int .u64 (lo pa)) := by rw [hV4]; first | (go_simp; done) | (rw [World.cell?_alloc_past _ _ _ (by first | (simp; done) | (simp; omega))]; go_simp)
  have cV43_2 : V4.cell? ⟨B3, 2, none⟩ = some (.int .u64 (hi pb)) := by rw [hV4]; first | (go_simp; done) | (rw [World.cell?_alloc_past _ _ _ (by first | (simp; done) | (simp; omega))]; go_simp)
  have cV43_3 : V4.cell? ⟨B3, 3, none⟩ = some (.int .u64 (lo pb)) := by rw [hV4]; first | (go_simp; done) | (rw [World.cell?_alloc_past _ _ _ (by first | (simp; done) | (simp; omega))]; go_simp)
  have zV44 : V3.heap.size + m1.size < V4.heap.size := by rw [hV4]; first | (simp; done) | (simp; omega)
  have cV44_0 : V4.cell? ⟨V3.heap.size + m1.size, 0, none⟩ = some (.int .u64 (hi pa)) := by rw [hV4]; first | (go_simp; done) | (rw [World.cell?_alloc_past _ _ _ (by first | (simp; done) | (simp; omega))]; go_simp)
  have cV44_1 : V4.cell? ⟨V3.heap.size + m1.size, 1, none⟩ = some (.int .u64 (lo pa)) := by rw [hV4]; first | (go_simp; done) | (rw [World.cell?_alloc_past _ _ _ (by first | (simp; done) | (simp; omega))]; go_simp)
  have cV44_2 : V4.cell? ⟨V3.heap.size + m1.size, 2, none⟩ = some (.int .u64 (hi pb)) := by rw [hV4]; first | (go_simp; done) | (rw [World.cell?_alloc_past _ _ _ (by first | (simp; done) | (simp; omega))]; go_simp)
  have cV44_3 : V4.cell? ⟨V3.heap.size + m1.size, 3, none⟩ = some (.int .u64 (lo pb)) := by rw [hV4]; first | (go_simp; done) | (rw [World.cell?_alloc_past _ _ _ (by first | (simp; done) | (simp; omega))]; go_simp)
  clear hV4
  have hb4a : Below w.heap.size w V4 := hb3a.trans (hbV4.mono hb3a.size)
  generalize V3.heap.size + m1.size = B4 at *
  go_upto_region 6 with (first | ((with_reducible refine (g6 _).mono ?_); rintro e w1 ⟨rfl, m1, d1, rfl⟩))
  refine wp_gen (fun V5 hV5 => ?_)
  have hbV5 : Below V4.heap.size V4 V5 := by rw [hV5]; ((repeat' (first | (with_reducible exact Below.refl _ _) | (with_reducible refine Below.ext_mk ?_ ?_ _ _) | (with_reducible refine Below.alloc ?_ ?_ _) | (with_reducible refine Below.drew ?_) | (with_reducible refine Below.setCell ?_ ?_ _) | go_size)))
  have zV50 : w.heap.size < V5.heap.size := by rw [hV5]; first | (simp; done) | (simp; omega)
  have cV50_0 : V5.cell? ⟨w.heap.size, 0, none⟩ = some (.int .u64 (hi av)) := by rw [hV5]; first | (go_simp; done) | (rw [World.cell?_alloc_past _ _ _ (by first | (simp; done) | (simp; omega))]; go_simp)
  have cV50_1 : V5.cell? ⟨w.heap.size, 1, none⟩ = some (.int .u64 (lo av)) := by rw [hV5]; first | (go_simp; done) | (rw [World.cell?_alloc_past _ _ _ (by first | (simp; done) | (simp; omega))]; go_simp)
  have cV50_2 : V5.cell? ⟨w.heap.size, 2, none⟩ = some (.int .u64 (hi am)) := by rw [hV5]; first | (go_simp; done) | (rw [World.cell?_alloc_past _ _ _ (by first | (simp; done) | (simp; omega))]; go_simp)
  have cV50_3 : V5.cell? ⟨w.heap.size, 3, none⟩ = some (.int .u64 (lo am)) := by rw [hV5]; first | (go_simp; done) | (rw [World.cell?_alloc_past _ _ _ (by first | (simp; done) | (simp; omega))]; go_simp)
  have zV51 : w.heap.size + 1 + 1 < V5.heap.size := by rw [hV5]; first | (simp; done) | (simp; omega)
  have cV51_0 : V5.cell? ⟨w.heap.size + 1 + 1, 0, none⟩ = some (.int .u64 (hi n)) := by rw [hV5]; first | (go_simp; done) | (rw [World.cell?_alloc_past _ _ _ (by first | (simp; done) | (simp; omega))]; go_simp)
  have cV51_1 : V5.cell? ⟨w.heap.size + 1 + 1, 1, none⟩ = some (.int .u64 (lo n)) := by rw [hV5]; first | (go_simp; done) | (rw [World.cell?_alloc_past _ _ _ (by first | (simp; done) | (simp; omega))]; go_simp)
  have zV52 : w.heap.size + 1 + 1 + 1 < V5.heap.size := by rw [hV5]; first | (simp; done) | (simp; omega)
  have cV52_0 : V5.cell? ⟨w.heap.size + 1 + 1 + 1, 0, none⟩ = some (.int .u64 (hi m)) := by rw [hV5]; first | (go_simp; done) | (rw [World.cell?_alloc_past _ _ _ (by first | (simp; done) | (simp; omega))]; go_simp)
  have cV52_1 : V5.cell? ⟨w.heap.size + 1 + 1 + 1, 1, none⟩ = some (.int .u64 (lo m)) := by rw [hV5]; first | (go_simp; done) | (rw [World.cell?_alloc_past _ _ _ (by first | (simp; done) | (simp; omega))]; go_simp)
  have zV53 : B3 < V5.heap.size := by rw [hV5]; first | (simp; done) | (simp; omega)
  have cV53_0 : V5.cell? ⟨B3, 0, none⟩ = some (.int .u64 (hi pa)) := by rw [hV5]; first | (go_simp; done) | (rw [World.cell?_alloc_past _ _ _ (by first | (simp; done) | (simp; omega))]; go_simp)
  have cV53_1 : V5.cell? ⟨B3, 1, none⟩ = some (.int .u64 (lo pa)) := by rw [hV5]; first | (go_simp; done) | (rw [World.cell?_alloc_past _ _ _ (by first | (simp; done) | (simp; omega))]; go_simp)
  have cV53_2 : V5.cell? ⟨B3, 2, none⟩ = some (.int .u64 (hi pb)) := by rw [hV5]; first | (go_simp; done) | (rw [World.cell?_alloc_past _ _ _ (by first | (simp; done) | (simp; omega))]; go_simp)
  have cV53_3 : V5.cell? ⟨B3, 3, none⟩ = some (.int .u64 (lo pb)) := by rw [hV5]; first | (go_simp; done) | (rw [World.cell?_alloc_past _ _ _ (by first | (simp; done) | (simp; omega))]; go_simp)
  have zV54 : B4 < V5.heap.size := by rw [hV5]; first | (simp; done) | (simp; omega)
  have cV54_0 : V5.cell? ⟨B4, 0, none⟩ = some (.int .u64 (hi pa)) := by rw [hV5]; first | (go_simp; done) | (rw [World.cell?_alloc_past _ _ _ (by first | (simp; done) | (simp; omega))]; go_simp)
  have cV54_1 : V5.cell? ⟨B4, 1, none⟩ = some (.int .u64 (lo pa)) := by rw [hV5]; first | (go_simp; done) | (rw [World.cell?_alloc_past _ _ _ (by first | (simp; done) | (simp; omega))]; go_simp)
  have cV54_2 : V5.cell? ⟨B4, 2, none⟩ = some (.int .u64 (hi pb)) := by rw [hV5]; first | (go_simp; done) | (rw [World.cell?_alloc_past _ _ _ (by first | (simp; done) | (simp; omega))]; go_simp)
  have cV54_3 : V5.cell? ⟨B4, 3, none⟩ = some (.int .u64 (lo pb)) := by rw [hV5]; first | (go_simp; done) | (rw [World.cell?_alloc_past _ _ _ (by first | (simp; done) | (simp; omega))]; go_simp)
  have zV55 : V4.heap.size + m1.size < V5.heap.size := by rw [hV5]; first | (simp; done) | (simp; omega)
  have cV55_0 : V5.cell? ⟨V4.heap.size + m1.size, 0, none⟩ = some (.int .u64 (hi qa)) := by rw [hV5]; first | (go_simp; done) | (rw [World.cell?_alloc_past _ _ _ (by first | (simp; done) | (simp; omega))]; go_simp)
  have cV55_1 : V5.cell? ⟨V4.heap.size + m1.size, 1, none⟩ = some (.int .u64 (lo qa)) := by rw [hV5]; first | (go_simp; done) | (rw [World.cell?_alloc_past _ _ _ (by first | (simp; done) | (simp; omega))]; go_simp)
  have cV55_2 : V5.cell? ⟨V4.heap.size + m1.size, 2, none⟩ = some (.int .u64 (hi qb)) := by rw [hV5]; first | (go_simp; done) | (rw [World.cell?_alloc_past _ _ _ (by first | (simp; done) | (simp; omega))]; go_simp)
  have cV55_3 : V5.cell? ⟨V4.heap.size + m1.size, 3, none⟩ = some (.int .u64 (lo qb)) := by rw [hV5]; first | (go_simp; done) | (rw [World.cell?_alloc_past _ _ _ (by first | (simp; done) | (simp; omega))]; go_simp)
  clear hV5
  have hb5a : Below w.heap.size w V5 := hb4a.trans (hbV5.mono hb4a.size)
  generalize V4.heap.size + m1.size = B5 at *
  go_upto_region 7 with (first | ((with_reducible refine (r6 _).mono ?_); rintro e w1 ⟨rfl, m1, d1, rfl⟩))
  refine wp_gen (fun V6 hV6 => ?_)
  have hbV6 : Below V5.heap.size V5 V6 := by rw [hV6]; ((repeat' (first | (with_reducible exact Below.refl _ _) | (with_reducible refine Below.ext_mk ?_ ?_ _ _) | (with_reducible refine Below.alloc ?_ ?_ _) | (with_reducible refine Below.drew ?_) | (with_reducible refine Below.setCell ?_ ?_ _) | go_size)))
  have zV60 : w.heap.size < V6.heap.size := by rw [hV6]; first | (simp; done) | (simp; omega)
  have cV60_0 : V6.cell? ⟨w.heap.size, 0, none⟩ = some (.int .u64 (hi av)) := by rw [hV6]; first | (go_simp; done) | (rw [World.cell?_alloc_past _ _ _ (by first | (simp; done) | (simp; omega))]; go_simp)
  have cV60_1 : V6.cell? ⟨w.heap.size, 1, none⟩ = some (.int .u64 (lo av)) := by rw [hV6]; first | (go_simp; done) | (rw [World.cell?_alloc_past _ _ _ (by first | (simp; done) | (simp; omega))]; go_simp)
  have cV60_2 : V6.cell? ⟨w.heap.size, 2, none⟩ = some (.int .u64 (hi am)) := by rw [hV6]; first | (go_simp; done) | (rw [World.cell?_alloc_past _ _ _ (by first | (simp; done) | (simp; omega))]; go_simp)
  have cV60_3 : V6.cell? ⟨w.heap.size, 3, none⟩ = some (.int .u64 (lo am)) := by rw [hV6]; first | (go_simp; done) | (rw [World.cell?_alloc_past _ _ _ (by first | (simp; done) | (simp; omega))]; go_simp)
  have zV61 : w.heap.size + 1 + 1 < V6.heap.size := by rw [hV6]; first | (simp; done) | (simp; omega)
  have cV61_0 : V6.cell? ⟨w.heap.size + 1 + 1, 0, none⟩ = some (.int .u64 (hi n)) := by rw [hV6]; first | (go_simp; done) | (rw [World.cell?_alloc_past _ _ _ (by first | (simp; done) | (simp; omega))]; go_simp)
  have cV61_1 : V6.cell? ⟨w.heap.size + 1 + 1, 1, none⟩ = some (.int .u64 (lo n)) := by rw [hV6]; first | (go_simp; done) | (rw [World.cell?_alloc_past _ _ _ (by first | (simp; done) | (simp; omega))]; go_simp)
  have zV62 : w.heap.size + 1 + 1 + 1 < V6.heap.size := by rw [hV6]; first | (simp; done) | (simp; omega)
  have cV62_0 : V6.cell? ⟨w.heap.size + 1 + 1 + 1, 0, none⟩ = some (.int .u64 (hi m)) := by rw [hV6]; first | (go_simp; done) | (rw [World.cell?_alloc_past _ _ _ (by first | (simp; done) | (simp; omega))]; go_simp)
  have cV62_1 : V6.cell? ⟨w.heap.size + 1 + 1 + 1, 1, none⟩ = some (.int .u64 (lo m)) := by rw [hV6]; first | (go_simp; done) | (rw [World.cell?_alloc_past _ _ _ (by first | (simp; done) | (simp; omega))]; go_simp)
  have zV63 : B3 < V6.heap.size := by rw [hV6]; first | (simp; done) | (simp; omega)
  have cV63_0 : V6.cell? ⟨B3, 0, none⟩ = some (.int .u64 (hi pa)) := by rw [hV6]; first | (go_simp; done) | (rw [World.cell?_alloc_past _ _ _ (by first | (simp; done) | (simp; omega))]; go_simp)
  have cV63_1 : V6.cell? ⟨B3, 1, none⟩ = some (.int .u64 (lo pa)) := by rw [hV6]; first | (go_simp; done) | (rw [World.cell?_alloc_past _ _ _ (by first | (simp; done) | (simp; omega))]; go_simp)
  have cV63_2 : V6.cell? ⟨B3, 2, none⟩ = some (.int .u64 (hi pb)) := by rw [hV6]; first | (go_simp; done) | (rw [World.cell?_alloc_past _ _ _ (by first | (simp; done) | (simp; omega))]; go_simp)
  have cV63_3 : V6.cell? ⟨B3, 3, none⟩ = some (.int .u64 (lo pb)) := by rw [hV6]; first | (go_simp; done) | (rw [World.cell?_alloc_past _ _ _ (by first | (simp; done) | (simp; omega))]; go_simp)
  have zV64 : B4 < V6.heap.size := by rw [hV6]; first | (simp; done) | (simp; omega)
  have cV64_0 : V6.cell? ⟨B4, 0, none⟩ = some (.int .u64 (hi pa)) := by rw [hV6]; first | (go_simp; done) | (rw [World.cell?_alloc_past _ _ _ (by first | (simp; done) | (simp; omega))]; go_simp)
  have cV64_1 : V6.cell? ⟨B4, 1, none⟩ = some (.int .u64 (lo pa)) := by rw [hV6]; first | (go_simp; done) | (rw [World.cell?_alloc_past _ _ _ (by first | (simp; done) | (simp; omega))]; go_simp)
  have cV64_2 : V6.cell? ⟨B4, 2, none⟩ = some (.int .u64 (hi pb)) := by rw [hV6]; first | (go_simp; done) | (rw [World.cell?_alloc_past _ _ _ (by first | (simp; done) | (simp; omega))]; go_simp)
  have cV64_3 : V6.cell? ⟨B4, 3, none⟩ = some (.int .u64 (lo pb)) := by rw [hV6]; first | (go_simp; done) | (rw [World.cell?_alloc_past _ _ _ (by first | (simp; done) | (simp; omega))]; go_simp)
  have zV65 : B5 < V6.heap.size := by rw [hV6]; first | (simp; done) | (simp; omega)
  have cV65_0 : V6.cell? ⟨B5, 0, none⟩ = some (.int .u64 (hi qa)) := by rw [hV6]; first | (go_simp; done) | (rw [World.cell?_alloc_past _ _ _ (by first | (simp; done) | (simp; omega))]; go_simp)
  have cV65_1 : V6.cell? ⟨B5, 1, none⟩ = some (.int .u64 (lo qa)) := by rw [hV6]; first | (go_simp; done) | (rw [World.cell?_alloc_past _ _ _ (by first | (simp; done) | (simp; omega))]; go_simp)
  have cV65_2 : V6.cell? ⟨B5, 2, none⟩ = some (.int .u64 (hi qb)) := by rw [hV6]; first | (go_simp; done) | (rw [World.cell?_alloc_past _ _ _ (by first | (simp; done) | (simp; omega))]; go_simp)
  have cV65_3 : V6.cell? ⟨B5, 3, none⟩ = some (.int .u64 (lo qb)) := by rw [hV6]; first | (go_simp; done) | (rw [World.cell?_alloc_past _ _ _ (by first | (simp; done) | (simp; omega))]; go_simp)
  have zV66 : V5.heap.size + m1.size < V6.heap.size := by rw [hV6]; first | (simp; done) | (simp; omega)
  have cV66_0 : V6.cell? ⟨V5.heap.size + m1.size, 0, none⟩ = some (.int .u64 (hi qa)) := by rw [hV6]; first | (go_simp; done) | (rw [World.cell?_alloc_past _ _ _ (by first | (simp; done) | (simp; omega))]; go_simp)
  have cV66_1 : V6.cell? ⟨V5.heap.size + m1.size, 1, none⟩ = some (.int .u64 (lo qa)) := by rw [hV6]; first | (go_simp; done) | (rw [World.cell?_alloc_past _ _ _ (by first | (simp; done) | (simp; omega))]; go_simp)
  have cV66_2 : V6.cell? ⟨V5.heap.size + m1.size, 2, none⟩ = some (.int .u64 (hi qb)) := by rw [hV6]; first | (go_simp; done) | (rw [World.cell?_alloc_past _ _ _ (by first | (simp; done) | (simp; omega))]; go_simp)
  have cV66_3 : V6.cell? ⟨V5.heap.size + m1.size, 3, none⟩ = some (.int .u64 (lo qb)) := by rw [hV6]; first | (go_simp; done) | (rw [World.cell?_alloc_past _ _ _ (by first | (simp; done) | (simp; omega))]; go_simp)
  clear hV6
  have hb6a : Below w.heap.size w V6 := hb5a.trans (hbV6.mono hb5a.size)
  generalize V5.heap.size + m1.size = B6 at *
  go_upto_region 8 with (first | ((with_reducible refine (g7 _).mono ?_); rintro e w1 ⟨rfl, m1, d1, rfl⟩))
  refine wp_gen (fun V7 hV7 => ?_)
  have hbV7 : Below V6.heap.size V6 V7 := by rw [hV7]; ((repeat' (first | (with_reducible exact Below.refl _ _) | (with_reducible refine Below.ext_mk ?_ ?_ _ _) | (with_reducible refine Below.alloc ?_ ?_ _) | (with_reducible refine Below.drew ?_) | (with_reducible refine Below.setCell ?_ ?_ _) | go_size)))
  have zV70 : w.heap.size < V7.heap.size := by rw [hV7]; first | (simp; done) | (simp; omega)
  have cV70_0 : V7.cell? ⟨w.heap.size, 0, none⟩ = some (.int .u64 (hi av)) := by rw [hV7]; first | (go_simp; done) | (rw [World.cell?_alloc_past _ _ _ (by first | (simp; done) | (simp; omega))]; go_simp)
  have cV70_1 : V7.cell? ⟨w.heap.size, 1, none⟩ = some (.int .u64 (lo av)) := by rw [hV7]; first | (go_simp; done) | (rw [World.cell?_alloc_past _ _ _ (by first | (simp; done) | (simp; omega))]; go_simp)
  have cV70_2 : V7.cell? ⟨w.heap.size, 2, none⟩ = some (.int .u64 (hi am)) := by rw [hV7]; first | (go_simp; done) | (rw [World.cell?_alloc_past _ _ _ (by first | (simp; done) | (simp; omega))]; go_simp)
  have cV70_3 : V7.cell? ⟨w.heap.size, 3, none⟩ = some (.int .u64 (lo am)) := by rw [hV7]; first | (go_simp; done) | (rw [World.cell?_alloc_past _ _ _ (by first | (simp; done) | (simp; omega))]; go_simp)
  have zV71 : w.heap.size + 1 + 1 < V7.heap.size := by rw [hV7]; first | (simp; done) | (simp; omega)
  have cV71_0 : V7.cell? ⟨w.heap.size + 1 + 1, 0, none⟩ = some (.int .u64 (hi n)) := by rw [hV7]; first | (go_simp; done) | (rw [World.cell?_alloc_past _ _ _ (by first | (simp; done) | (simp; omega))]; go_simp)
  have cV71_1 : V7.cell? ⟨w.heap.size + 1 + 1, 1, none⟩ = some (.int .u64 (lo n)) := by rw [hV7]; first | (go_simp; done) | (rw [World.cell?_alloc_past _ _ _ (by first | (simp; done) | (simp; omega))]; go_simp)
  have zV72 : w.heap.size + 1 + 1 + 1 < V7.heap.size := by rw [hV7]; first | (simp; done) | (simp; omega)
  have cV72_0 : V7.cell? ⟨w.heap.size + 1 + 1 + 1, 0, none⟩ = some (.int .u64 (hi m)) := by rw [hV7]; first | (go_simp; done) | (rw [World.cell?_alloc_past _ _ _ (by first | (simp; done) | (simp; omega))]; go_simp)
  have cV72_1 : V7.cell? ⟨w.heap.size + 1 + 1 + 1, 1, none⟩ = some (.int .u64 (lo m)) := by rw [hV7]; first | (go_simp; done) | (rw [World.cell?_alloc_past _ _ _ (by first | (simp; done) | (simp; omega))]; go_simp)
  have zV73 : B3 < V7.heap.size := by rw [hV7]; first | (simp; done) | (simp; omega)
  have cV73_0 : V7.cell? ⟨B3, 0, none⟩ = some (.int .u64 (hi pa)) := by rw [hV7]; first | (go_simp; done) | (rw [World.cell?_alloc_past _ _ _ (by first | (simp; done) | (simp; omega))]; go_simp)
  have cV73_1 : V7.cell? ⟨B3, 1, none⟩ = some (.int .u64 (lo pa)) := by rw [hV7]; first | (go_simp; done) | (rw [World.cell?_alloc_past _ _ _ (by first | (simp; done) | (simp; omega))]; go_simp)
  have cV73_2 : V7.cell? ⟨B3, 2, none⟩ = some (.int .u64 (hi pb)) := by rw [hV7]; first | (go_simp; done) | (rw [World.cell?_alloc_past _ _ _ (by first | (simp; done) | (simp; omega))]; go_simp)
  have cV73_3 : V7.cell? ⟨B3, 3, none⟩ = some (.int .u64 (lo pb)) := by rw [hV7]; first | (go_simp; done) | (rw [World.cell?_alloc_past _ _ _ (by first | (simp; done) | (simp; omega))]; go_simp)
  have zV74 : B4 < V7.heap.size := by rw [hV7]; first | (simp; done) | (simp; omega)
  have cV74_0 : V7.cell? ⟨B4, 0, none⟩ = some (.int .u64 (hi pa)) := by rw [hV7]; first | (go_simp; done) | (rw [World.cell?_alloc_past _ _ _ (by first | (simp; done) | (simp; omega))]; go_simp)
  have cV74_1 : V7.cell? ⟨B4, 1, none⟩ = some (.int .u64 (lo pa)) := by rw [hV7]; first | (go_simp; done) | (rw [World.cell?_alloc_past _ _ _ (by first | (simp; done) | (simp; omega))]; go_simp)
  have cV74_2 : V7.cell? ⟨B4, 2, none⟩ = some (.int .u64 (hi pb)) := by rw [hV7]; first | (go_simp; done) | (rw [World.cell?_alloc_past _ _ _ (by first | (simp; done) | (simp; omega))]; go_simp)
  have cV74_3 : V7.cell? ⟨B4, 3, none⟩ = some (.int .u64 (lo pb)) := by rw [hV7]; first | (go_simp; done) | (rw [World.cell?_alloc_past _ _ _ (by first | (simp; done) | (simp; omega))]; go_simp)
  have zV75 : B5 < V7.heap.size := by rw [hV7]; first | (simp; done) | (simp; omega)
  have cV75_0 : V7.cell? ⟨B5, 0, none⟩ = some (.int .u64 (hi qa)) := by rw [hV7]; first | (go_simp; done) | (rw [World.cell?_alloc_past _ _ _ (by first | (simp; done) | (simp; omega))]; go_simp)
  have cV75_1 : V7.cell? ⟨B5, 1, none⟩ = some (.int .u64 (lo qa)) := by rw [hV7]; first | (go_simp; done) | (rw [World.cell?_alloc_past _ _ _ (by first | (simp; done) | (simp; omega))]; go_simp)
  have cV75_2 : V7.cell? ⟨B5, 2, none⟩ = some (.int .u64 (hi qb)) := by rw [hV7]; first | (go_simp; done) | (rw [World.cell?_alloc_past _ _ _ (by first | (simp; done) | (simp; omega))]; go_simp)
  have cV75_3 : V7.cell? ⟨B5, 3, none⟩ = some (.int .u64 (lo qb)) := by rw [hV7]; first | (go_simp; done) | (rw [World.cell?_alloc_past _ _ _ (by first | (simp; done) | (simp; omega))]; go_simp)
  have zV76 : B6 < V7.heap.size := by rw [hV7]; first | (simp; done) | (simp; omega)
  have cV76_0 : V7.cell? ⟨B6, 0, none⟩ = some (.int .u64 (hi qa)) := by rw [hV7]; first | (go_simp; done) | (rw [World.cell?_alloc_past _ _ _ (by first | (simp; done) | (simp; omega))]; go_simp)
  have cV76_1 : V7.cell? ⟨B6, 1, none⟩ = some (.int .u64 (lo qa)) := by rw [hV7]; first | (go_simp; done) | (rw [World.cell?_alloc_past _ _ _ (by first | (simp; done) | (simp; omega))]; go_simp)
  have cV76_2 : V7.cell? ⟨B6, 2, none⟩ = some (.int .u64 (hi qb)) := by rw [hV7]; first | (go_simp; done) | (rw [World.cell?_alloc_past _ _ _ (by first | (simp; done) | (simp; omega))]; go_simp)
  have cV76_3 : V7.cell? ⟨B6, 3, none⟩ = some (.int .u64 (lo qb)) := by rw [hV7]; first | (go_simp; done) | (rw [World.cell?_alloc_past _ _ _ (by first | (simp; done) | (simp; omega))]; go_simp)
  have zV77 : V6.heap.size + m1.size < V7.heap.size := by rw [hV7]; first | (simp; done) | (simp; omega)
  have cV77_0 : V7.cell? ⟨V6.heap.size + m1.size, 0, none⟩ = some (.int .u64 (hi sa)) := by rw [hV7]; first | (go_simp; done) | (rw [World.cell?_alloc_past _ _ _ (by first | (simp; done) | (simp; omega))]; go_simp)
  have cV77_1 : V7.cell? ⟨V6.heap.size + m1.size, 1, none⟩ = some (.int .u64 (lo sa)) := by rw [hV7]; first | (go_simp; done) | (rw [World.cell?_alloc_past _ _ _ (by first | (simp; done) | (simp; omega))]; go_simp)
  have cV77_2 : V7.cell? ⟨V6.heap.size + m1.size, 2, none⟩ = some (.int .u64 (hi sb)) := by rw [hV7]; first | (go_simp; done) | (rw [World.cell?_alloc_past _ _ _ (by first | (simp; done) | (simp; omega))]; go_simp)
  have cV77_3 : V7.cell? ⟨V6.heap.size + m1.size, 3, none⟩ = some (.int .u64 (lo sb)) := by rw [hV7]; first | (go_simp; done) | (rw [World.cell?_alloc_past _ _ _ (by first | (simp; done) | (simp; omega))]; go_simp)
  clear hV7
  have hb7a : Below w.heap.size w V7 := hb6a.trans (hbV7.mono hb6a.size)
  generalize V6.heap.size + m1.size = B7 at *
  go_upto_region 9 with (first | ((with_reducible refine (r7 _).mono ?_); rintro e w1 ⟨rfl, m1, d1, rfl⟩))
  refine wp_gen (fun V8 hV8 => ?_)
  have hbV8 : Below V7.heap.size V7 V8 := by rw [hV8]; ((repeat' (first | (with_reducible exact Below.refl _ _) | (with_reducible refine Below.ext_mk ?_ ?_ _ _) | (with_reducible refine Below.alloc ?_ ?_ _) | (with_reducible refine Below.drew ?_) | (with_reducible refine Below.setCell ?_ ?_ _) | go_size)))
  have zV80 : w.heap.size < V8.heap.size := by rw [hV8]; first | (simp; done) | (simp; omega)
  have cV80_0 : V8.cell? ⟨w.heap.size, 0, none⟩ = some (.int .u64 (hi av)) := by rw [hV8]; first | (go_simp; done) | (rw [World.cell?_alloc_past _ _ _ (by first | (simp; done) | (simp; omega))]; go_simp)
  have cV80_1 : V8.cell? ⟨w.heap.size, 1, none⟩ = some (.int .u64 (lo av)) := by rw [hV8]; first | (go_simp; done) | (rw [World.cell?_alloc_past _ _ _ (by first | (simp; done) | (simp; omega))]; go_simp)
  have cV80_2 : V8.cell? ⟨w.heap.size, 2, none⟩ = some (.int .u64 (hi am)) := by rw [hV8]; first | (go_simp; done) | (rw [World.cell?_alloc_past _ _ _ (by first | (simp; done) | (simp; omega))]; go_simp)
  have cV80_3 : V8.cell? ⟨w.heap.size, 3, none⟩ = some (.int .u64 (lo am)) := by rw [hV8]; first | (go_simp; done) | (rw [World.cell?_alloc_past _ _ _ (by first | (simp; done) | (simp; omega))]; go_simp)
  have zV81 : w.heap.size + 1 + 1 < V8.heap.size := by rw [hV8]; first | (simp; done) | (simp; omega)
  have cV81_0 : V8.cell? ⟨w.heap.size + 1 + 1, 0, none⟩ = some (.int .u64 (hi n)) := by rw [hV8]; first | (go_simp; done) | (rw [World.cell?_alloc_past _ _ _ (by first | (simp; done) | (simp; omega))]; go_simp)
  have cV81_1 : V8.cell? ⟨w.heap.size + 1 + 1, 1, none⟩ = some (.int .u64 (lo n)) := by rw [hV8]; first | (go_simp; done) | (rw [World.cell?_alloc_past _ _ _ (by first | (simp; done) | (simp; omega))]; go_simp)
  have zV82 : w.heap.size + 1 + 1 + 1 < V8.heap.size := by rw [hV8]; first | (simp; done) | (simp; omega)
  have cV82_0 : V8.cell? ⟨w.heap.size + 1 + 1 + 1, 0, none⟩ = some (.int .u64 (hi m)) := by rw [hV8]; first | (go_simp; done) | (rw [World.cell?_alloc_past _ _ _ (by first | (simp; done) | (simp; omega))]; go_simp)
  have cV82_1 : V8.cell? ⟨w.heap.size + 1 + 1 + 1, 1, none⟩ = some (.int .u64 (lo m)) := by rw [hV8]; first | (go_simp; done) | (rw [World.cell?_alloc_past _ _ _ (by first | (simp; done) | (simp; omega))]; go_simp)
  have zV83 : B3 < V8.heap.size := by rw [hV8]; first | (simp; done) | (simp; omega)
  have cV83_0 : V8.cell? ⟨B3, 0, none⟩ = some (.int .u64 (hi pa)) := by rw [hV8]; first | (go_simp; done) | (rw [World.cell?_alloc_past _ _ _ (by first | (simp; done) | (simp; omega))]; go_simp)
  have cV83_1 : V8.cell? ⟨B3, 1, none⟩ = some (.int .u64 (lo pa)) := by rw [hV8]; first | (go_simp; done) | (rw [World.cell?_alloc_past _ _ _ (by first | (simp; done) | (simp; omega))]; go_simp)
  have cV83_2 : V8.cell? ⟨B3, 2, none⟩ = some (.int .u64 (hi pb)) := by rw [hV8]; first | (go_simp; done) | (rw [World.cell?_alloc_past _ _ _ (by first | (simp; done) | (simp; omega))]; go_simp)
  have cV83_3 : V8.cell? ⟨B3, 3, none⟩ = some (.int .u64 (lo pb)) := by rw [hV8]; first | (go_simp; done) | (rw [World.cell?_alloc_past _ _ _ (by first | (simp; done) | (simp; omega))]; go_simp)
  have zV84 : B4 < V8.heap.size := by rw [hV8]; first | (simp; done) | (simp; omega)
  have cV84_0 : V8.cell? ⟨B4, 0, none⟩ = some (.int .u64 (hi pa)) := by rw [hV8]; first | (go_simp; done) | (rw [World.cell?_alloc_past _ _ _ (by first | (simp; done) | (simp; omega))]; go_simp)
  have cV84_1 : V8.cell? ⟨B4, 1, none⟩ = some (.int .u64 (lo pa)) := by rw [hV8]; first | (go_simp; done) | (rw [World.cell?_alloc_past _ _ _ (by first | (simp; done) | (simp; omega))]; go_simp)
  have cV84_2 : V8.cell? ⟨B4, 2, none⟩ = some (.int .u64 (hi pb)) := by rw [hV8]; first | (go_simp; done) | (rw [World.cell?_alloc_past _ _ _ (by first | (simp; done) | (simp; omega))]; go_simp)
  have cV84_3 : V8.cell? ⟨B4, 3, none⟩ = some (.int .u64 (lo pb)) := by rw [hV8]; first | (go_simp; done) | (rw [World.cell?_alloc_past _ _ _ (by first | (simp; done) | (simp; omega))]; go_simp)
  have zV85 : B5 < V8.heap.size := by rw [hV8]; first | (simp; done) | (simp; omega)
  have cV85_0 : V8.cell? ⟨B5, 0, none⟩ = some (.int .u64 (hi qa)) := by rw [hV8]; first | (go_simp; done) | (rw [World.cell?_alloc_past _ _ _ (by first | (simp; done) | (simp; omega))]; go_simp)
  have cV85_1 : V8.cell? ⟨B5, 1, none⟩ = some (.int .u64 (lo qa)) := by rw [hV8]; first | (go_simp; done) | (rw [World.cell?_alloc_past _ _ _ (by first | (simp; done) | (simp; omega))]; go_simp)
  have cV85_2 : V8.cell? ⟨B5, 2, none⟩ = some (.int .u64 (hi qb)) := by rw [hV8]; first | (go_simp; done) | (rw [World.cell?_alloc_past _ _ _ (by first | (simp; done) | (simp; omega))]; go_simp)
  have cV85_3 : V8.cell? ⟨B5, 3, none⟩ = some (.int .u64 (lo qb)) := by rw [hV8]; first | (go_simp; done) | (rw [World.cell?_alloc_past _ _ _ (by first | (simp; done) | (simp; omega))]; go_simp)
  have zV86 : B6 < V8.heap.size := by rw [hV8]; first | (simp; done) | (simp; omega)
  have cV86_0 : V8.cell? ⟨B6, 0, none⟩ = some (.int .u64 (hi qa)) := by rw [hV8]; first | (go_simp; done) | (rw [World.cell?_alloc_past _ _ _ (by first | (simp; done) | (simp; omega))]; go_simp)
  have cV86_1 : V8.cell? ⟨B6, 1, none⟩ = some (.int .u64 (lo qa)) := by rw [hV8]; first | (go_simp; done) | (rw [World.cell?_alloc_past _ _ _ (by first | (simp; done) | (simp; omega))]; go_simp)
  have cV86_2 : V8.cell? ⟨B6, 2, none⟩ = some (.int .u64 (hi qb)) := by rw [hV8]; first | (go_simp; done) | (rw [World.cell?_alloc_past _ _ _ (by first | (simp; done) | (simp; omega))]; go_simp)
  have cV86_3 : V8.cell? ⟨B6, 3, none⟩ = some (.int .u64 (lo qb)) := by rw [hV8]; first | (go_simp; done) | (rw [World.cell?_alloc_past _ _ _ (by first | (simp; done) | (simp; omega))]; go_simp)
  have zV87 : B7 < V8.heap.size := by rw [hV8]; first | (simp; done) | (simp; omega)
  have cV87_0 : V8.cell? ⟨B7, 0, none⟩ = some (.int .u64 (hi sa)) := by rw [hV8]; first | (go_simp; done) | (rw [World.cell?_alloc_past _ _ _ (by first | (simp; done) | (simp; omega))]; go_simp)
  have cV87_1 : V8.cell? ⟨B7, 1, none⟩ = some (.int .u64 (lo sa)) := by rw [hV8]; first | (go_simp; done) | (rw [World.cell?_alloc_past _ _ _ (by first | (simp; done) | (simp; omega))]; go_simp)
  have cV87_2 : V8.cell? ⟨B7, 2, none⟩ = some (.int .u64 (hi sb)) := by rw [hV8]; first | (go_simp; done) | (rw [World.cell?_alloc_past _ _ _ (by first | (simp; done) | (simp; omega))]; go_simp)
  have cV87_3 : V8.cell? ⟨B7, 3, none⟩ = some (.int .u64 (lo sb)) := by rw [hV8]; first | (go_simp; done) | (rw [World.cell?_alloc_past _ _ _ (by first | (simp; done) | (simp; omega))]; go_simp)
  have zV88 : V7.heap.size + m1.size < V8.heap.size := by rw [hV8]; first | (simp; done) | (simp; omega)
  have cV88_0 : V8.cell? ⟨V7.heap.size + m1.size, 0, none⟩ = some (.int .u64 (hi sa)) := by rw [hV8]; first | (go_simp; done) | (rw [World.cell?_alloc_past _ _ _ (by first | (simp; done) | (simp; omega))]; go_simp)
  have cV88_1 : V8.cell? ⟨V7.heap.size + m1.size, 1, none⟩ = some (.int .u64 (lo sa)) := by rw [hV8]; first | (go_simp; done) | (rw [World.cell?_alloc_past _ _ _ (by first | (simp; done) | (simp; omega))]; go_simp)
  have cV88_2 : V8.cell? ⟨V7.heap.size + m1.size, 2, none⟩ = some (.int .u64 (hi sb)) := by rw [hV8]; first | (go_simp; done) | (rw [World.cell?_alloc_past _ _ _ (by first | (simp; done) | (simp; omega))]; go_simp)
  have cV88_3 : V8.cell? ⟨V7.heap.size + m1.size, 3, none⟩ = some (.int .u64 (lo sb)) := by rw [hV8]; first | (go_simp; done) | (rw [World.cell?_alloc_past _ _ _ (by first | (simp; done) | (simp; omega))]; go_simp)
  clear hV8
  have hb8a : Below w.heap.size w V8 := hb7a.trans (hbV8.mono hb7a.size)
  generalize V7.heap.size + m1.size = B8 at *
  go_upto_region 11 with (first | ((with_reducible refine (g8 _).mono ?_); rintro e w1 ⟨rfl, m1, d1, rfl⟩) | ((with_reducible refine (r8 _).mono ?_); rintro e w1 ⟨rfl, m2, d2, rfl⟩))
  refine wp_gen (fun V10 hV10 => ?_)
  have hbV10 : Below V8.heap.size V8 V10 := by rw [hV10]; ((repeat' (first | (with_reducible exact Below.refl _ _) | (with_reducible refine Below.ext_mk ?_ ?_ _ _) | (with_reducible refine Below.alloc ?_ ?_ _) | (with_reducible refine Below.drew ?_) | (with_reducible refine Below.setCell ?_ ?_ _) | go_size)))
  have zV100 : B3 < V10.heap.size := by rw [hV10]; first | (simp; done) | (simp; omega)
  have cV100_0 : V10.cell? ⟨B3, 0, none⟩ = some (.int .u64 (hi pa)) := by rw [hV10]; first | (go_simp; done) | (rw [World.cell?_alloc_past _ _ _ (by first | (simp; done) | (simp; omega))]; go_simp)
  have cV100_1 : V10.cell? ⟨B3, 1, none⟩ = some (.int .u64 (lo pa)) := by rw [hV10]; first | (go_simp; done) | (rw [World.cell?_alloc_past _ _ _ (by first | (simp; done) | (simp; omega))]; go_simp)
  have cV100_2 : V10.cell? ⟨B3, 2, none⟩ = some (.int .u64 (hi pb)) := by rw [hV10]; first | (go_simp; done) | (rw [World.cell?_alloc_past _ _ _ (by first | (simp; done) | (simp; omega))]; go_simp)
  have cV100_3 : V10.cell? ⟨B3, 3, none⟩ = some (.int .u64 (lo pb)) := by rw [hV10]; first | (go_simp; done) | (rw [World.cell?_alloc_past _ _ _ (by first | (simp; done) | (simp; omega))]; go_simp)
  have zV101 : B4 < V10.heap.size := by rw [hV10]; first | (simp; done) | (simp; omega)
  have cV101_0 : V10.cell? ⟨B4, 0, none⟩ = some (.int .u64 (hi pa)) := by rw [hV10]; first | (go_simp; done) | (rw [World.cell?_alloc_past _ _ _ (by first | (simp; done) | (simp; omega))]; go_simp)
  have cV101_1 : V10.cell? ⟨B4, 1, none⟩ = some (.int .u64 (lo pa)) := by rw [hV10]; first | (go_simp; done) | (rw [World.cell?_alloc_past _ _ _ (by first | (simp; done) | (simp; omega))]; go_simp)
  have cV101_2 : V10.cell? ⟨B4, 2, none⟩ = some (.int .u64 (hi pb)) := by rw [hV10]; first | (go_simp; done) | (rw [World.cell?_alloc_past _ _ _ (by first | (simp; done) | (simp; omega))]; go_simp)
  have cV101_3 : V10.cell? ⟨B4, 3, none⟩ = some (.int .u64 (lo pb)) := by rw [hV10]; first | (go_simp; done) | (rw [World.cell?_alloc_past _ _ _ (by first | (simp; done) | (simp; omega))]; go_simp)
  have zV102 : B5 < V10.heap.size := by rw [hV10]; first | (simp; done) | (simp; omega)
  have cV102_0 : V10.cell? ⟨B5, 0, none⟩ = some (.int .u64 (hi qa)) := by rw [hV10]; first | (go_simp; done) | (rw [World.cell?_alloc_past _ _ _ (by first | (simp; done) | (simp; omega))]; go_simp)
  have cV102_1 : V10.cell? ⟨B5, 1, none⟩ = some (.int .u64 (lo qa)) := by rw [hV10]; first | (go_simp; done) | (rw [World.cell?_alloc_past _ _ _ (by first | (simp; done) | (simp; omega))]; go_simp)
  have cV102_2 : V10.cell? ⟨B5, 2, none⟩ = some (.int .u64 (hi qb)) := by rw [hV10]; first | (go_simp; done) | (rw [World.cell?_alloc_past _ _ _ (by first | (simp; done) | (simp; omega))]; go_simp)
  have cV102_3 : V10.cell? ⟨B5, 3, none⟩ = some (.int .u64 (lo qb)) := by rw [hV10]; first | (go_simp; done) | (rw [World.cell?_alloc_past _ _ _ (by first | (simp; done) | (simp; omega))]; go_simp)
  have zV103 : B6 < V10.heap.size := by rw [hV10]; first | (simp; done) | (simp; omega)
  have cV103_0 : V10.cell? ⟨B6, 0, none⟩ = some (.int .u64 (hi qa)) := by rw [hV10]; first | (go_simp; done) | (rw [World.cell?_alloc_past _ _ _ (by first | (simp; done) | (simp; omega))]; go_simp)
  have cV103_1 : V10.cell? ⟨B6, 1, none⟩ = some (.int .u64 (lo qa)) := by rw [hV10]; first | (go_simp; done) | (rw [World.cell?_alloc_past _ _ _ (by first | (simp; done) | (simp; omega))]; go_simp)
  have cV103_2 : V10.cell? ⟨B6, 2, none⟩ = some (.int .u64 (hi qb)) := by rw [hV10]; first | (go_simp; done) | (rw [World.cell?_alloc_past _ _ _ (by first | (simp; done) | (simp; omega))]; go_simp)
  have cV103_3 : V10.cell? ⟨B6, 3, none⟩ = some (.int .u64 (lo qb)) := by rw [hV10]; first | (go_simp; done) | (rw [World.cell?_alloc_past _ _ _ (by first | (simp; done) | (simp; omega))]; go_simp)
  have zV104 : B7 < V10.heap.size := by rw [hV10]; first | (simp; done) | (simp; omega)
  have cV104_0 : V10.cell? ⟨B7, 0, none⟩ = some (.int .u64 (hi sa)) := by rw [hV10]; first | (go_simp; done) | (rw [World.cell?_alloc_past _ _ _ (by first | (simp; done) | (simp; omega))]; go_simp)
  have cV104_1 : V10.cell? ⟨B7, 1, none⟩ = some (.int .u64 (lo sa)) := by rw [hV10]; first | (go_simp; done) | (rw [World.cell?_alloc_past _ _ _ (by first | (simp; done) | (simp; omega))]; go_simp)
  have cV104_2 : V10.cell? ⟨B7, 2, none⟩ = some (.int .u64 (hi sb)) := by rw [hV10]; first | (go_simp; done) | (rw [World.cell?_alloc_past _ _ _ (by first | (simp; done) | (simp; omega))]; go_simp)
  have cV104_3 : V10.cell? ⟨B7, 3, none⟩ = some (.int .u64 (lo sb)) := by rw [hV10]; first | (go_simp; done) | (rw [World.cell?_alloc_past _ _ _ (by first | (simp; done) | (simp; omega))]; go_simp)
  have zV105 : B8 < V10.heap.size := by rw [hV10]; first | (simp; done) | (simp; omega)
  have cV105_0 : V10.cell? ⟨B8, 0, none⟩ = some (.int .u64 (hi sa)) := by rw [hV10]; first | (go_simp; done) | (rw [World.cell?_alloc_past _ _ _ (by first | (simp; done) | (simp; omega))]; go_simp)
  have cV105_1 : V10.cell? ⟨B8, 1, none⟩ = some (.int .u64 (lo sa)) := by rw [hV10]; first | (go_simp; done) | (rw [World.cell?_alloc_past _ _ _ (by first | (simp; done) | (simp; omega))]; go_simp)
  have cV105_2 : V10.cell? ⟨B8, 2, none⟩ = some (.int .u64 (hi sb)) := by rw [hV10]; first | (go_simp; done) | (rw [World.cell?_alloc_past _ _ _ (by first | (simp; done) | (simp; omega))]; go_simp)
  have cV105_3 : V10.cell? ⟨B8, 3, none⟩ = some (.int .u64 (lo sb)) := by rw [hV10]; first | (go_simp; done) | (rw [World.cell?_alloc_past _ _ _ (by first | (simp; done) | (simp; omega))]; go_simp)
  clear hV10
  have hb10a : Below w.heap.size w V10 := hb8a.trans (hbV10.mono hb8a.size)
  go_upto_region 12 with (fail)
  refine wp_gen (fun V11 hV11 => ?_)
  have hbV11 : Below V10.heap.size V10 V11 := by rw [hV11]; ((repeat' (first | (with_reducible exact Below.refl _ _) | (with_reducible refine Below.ext_mk ?_ ?_ _ _) | (with_reducible refine Below.alloc ?_ ?_ _) | (with_reducible refine Below.drew ?_) | (with_reducible refine Below.setCell ?_ ?_ _) | go_size)))
  have zV110 : B3 < V11.heap.size := by rw [hV11]; first | (simp; done) | (simp; omega)
  have cV110_0 : V11.cell? ⟨B3, 0, none⟩ = some (.int .u64 (hi pa)) := by rw [hV11]; first | (go_simp; done) | (rw [World.cell?_alloc_past _ _ _ (by first | (simp; done) | (simp; omega))]; go_simp)
  have cV110_1 : V11.cell? ⟨B3, 1, none⟩ = some (.int .u64 (lo pa)) := by rw [hV11]; first | (go_simp; done) | (rw [World.cell?_alloc_past _ _ _ (by first | (simp; done) | (simp; omega))]; go_simp)
  have cV110_2 : V11.cell? ⟨B3, 2, none⟩ = some (.int .u64 (hi pb)) := by rw [hV11]; first | (go_simp; done) | (rw [World.cell?_alloc_past _ _ _ (by first | (simp; done) | (simp; omega))]; go_simp)
  have cV110_3 : V11.cell? ⟨B3, 3, none⟩ = some (.int .u64 (lo pb)) := by rw [hV11]; first | (go_simp; done) | (rw [World.cell?_alloc_past _ _ _ (by first | (simp; done) | (simp; omega))]; go_simp)
  have zV111 : B4 < V11.heap.size := by rw [hV11]; first | (simp; done) | (simp; omega)
  have cV111_0 : V11.cell? ⟨B4, 0, none⟩ = some (.int .u64 (hi pa)) := by rw [hV11]; first | (go_simp; done) | (rw [World.cell?_alloc_past _ _ _ (by first | (simp; done) | (simp; omega))]; go_simp)
  have cV111_1 : V11.cell? ⟨B4, 1, none⟩ = some (.int .u64 (lo pa)) := by rw [hV11]; first | (go_simp; done) | (rw [World.cell?_alloc_past _ _ _ (by first | (simp; done) | (simp; omega))]; go_simp)
  have cV111_2 : V11.cell? ⟨B4, 2, none⟩ = some (.int .u64 (hi pb)) := by rw [hV11]; first | (go_simp; done) | (rw [World.cell?_alloc_past _ _ _ (by first | (simp; done) | (simp; omega))]; go_simp)
  have cV111_3 : V11.cell? ⟨B4, 3, none⟩ = some (.int .u64 (lo pb)) := by rw [hV11]; first | (go_simp; done) | (rw [World.cell?_alloc_past _ _ _ (by first | (simp; done) | (simp; omega))]; go_simp)
  have zV112 : B5 < V11.heap.size := by rw [hV11]; first | (simp; done) | (simp; omega)
  have cV112_0 : V11.cell? ⟨B5, 0, none⟩ = some (.int .u64 (hi qa)) := by rw [hV11]; first | (go_simp; done) | (rw [World.cell?_alloc_past _ _ _ (by first | (simp; done) | (simp; omega))]; go_simp)
  have cV112_1 : V11.cell? ⟨B5, 1, none⟩ = some (.int .u64 (lo qa)) := by rw [hV11]; first | (go_simp; done) | (rw [World.cell?_alloc_past _ _ _ (by first | (simp; done) | (simp; omega))]; go_simp)
  have cV112_2 : V11.cell? ⟨B5, 2, none⟩ = some (.int .u64 (hi qb)) := by rw [hV11]; first | (go_simp; done) | (rw [World.cell?_alloc_past _ _ _ (by first | (simp; done) | (simp; omega))]; go_simp)
  have cV112_3 : V11.cell? ⟨B5, 3, none⟩ = some (.int .u64 (lo qb)) := by rw [hV11]; first | (go_simp; done) | (rw [World.cell?_alloc_past _ _ _ (by first | (simp; done) | (simp; omega))]; go_simp)
  have zV113 : B6 < V11.heap.size := by rw [hV11]; first | (simp; done) | (simp; omega)
  have cV113_0 : V11.cell? ⟨B6, 0, none⟩ = some (.int .u64 (hi qa)) := by rw [hV11]; first | (go_simp; done) | (rw [World.cell?_alloc_past _ _ _ (by first | (simp; done) | (simp; omega))]; go_simp)
  have cV113_1 : V11.cell? ⟨B6, 1, none⟩ = some (.int .u64 (lo qa)) := by rw [hV11]; first | (go_simp; done) | (rw [World.cell?_alloc_past _ _ _ (by first | (simp; done) | (simp; omega))]; go_simp)
  have cV113_2 : V11.cell? ⟨B6, 2, none⟩ = some (.int .u64 (hi qb)) := by rw [hV11]; first | (go_simp; done) | (rw [World.cell?_alloc_past _ _ _ (by first | (simp; done) | (simp; omega))]; go_simp)
  have cV113_3 : V11.cell? ⟨B6, 3, none⟩ = some (.int .u64 (lo qb)) := by rw [hV11]; first | (go_simp; done) | (rw [World.cell?_alloc_past _ _ _ (by first | (simp; done) | (simp; omega))]; go_simp)
  have zV114 : B7 < V11.heap.size := by rw [hV11]; first | (simp; done) | (simp; omega)
  have cV114_0 : V11.cell? ⟨B7, 0, none⟩ = some (.int .u64 (hi sa)) := by rw [hV11]; first | (go_simp; done) | (rw [World.cell?_alloc_past _ _ _ (by first | (simp; done) | (simp; omega))]; go_simp)
  have cV114_1 : V11.cell? ⟨B7, 1, none⟩ = some (.int .u64 (lo sa)) := by rw [hV11]; first | (go_simp; done) | (rw [World.cell?_alloc_past _ _ _ (by first | (simp; done) | (simp; omega))]; go_simp)
  have cV114_2 : V11.cell? ⟨B7, 2, none⟩ = some (.int .u64 (hi sb)) := by rw [hV11]; first | (go_simp; done) | (rw [World.cell?_alloc_past _ _ _ (by first | (simp; done) | (simp; omega))]; go_simp)
  have cV114_3 : V11.cell? ⟨B7, 3, none⟩ = some (.int .u64 (lo sb)) := by rw [hV11]; first | (go_simp; done) | (rw [World.cell?_alloc_past _ _ _ (by first | (simp; done) | (simp; omega))]; go_simp)
  have zV115 : B8 < V11.heap.size := by rw [hV11]; first | (simp; done) | (simp; omega)
  have cV115_0 : V11.cell? ⟨B8, 0, none⟩ = some (.int .u64 (hi sa)) := by rw [hV11]; first | (go_simp; done) | (rw [World.cell?_alloc_past _ _ _ (by first | (simp; done) | (simp; omega))]; go_simp)
  have cV115_1 : V11.cell? ⟨B8, 1, none⟩ = some (.int .u64 (lo sa)) := by rw [hV11]; first | (go_simp; done) | (rw [World.cell?_alloc_past _ _ _ (by first | (simp; done) | (simp; omega))]; go_simp)
  have cV115_2 : V11.cell? ⟨B8, 2, none⟩ = some (.int .u64 (hi sb)) := by rw [hV11]; first | (go_simp; done) | (rw [World.cell?_alloc_past _ _ _ (by first | (simp; done) | (simp; omega))]; go_simp)
  have cV115_3 : V11.cell? ⟨B8, 3, none⟩ = some (.int .u64 (lo sb)) := by rw [hV11]; first | (go_simp; done) | (rw [World.cell?_alloc_past _ _ _ (by first | (simp; done) | (simp; omega))]; go_simp)
  have zV116 : V10.heap.size < V11.heap.size := by rw [hV11]; first | (simp; done) | (simp; omega)
  have cV116_0 : V11.cell? ⟨V10.heap.size, 0, none⟩ = some (.int .i64 0) := by rw [hV11]; first | (go_simp; done) | (rw [World.cell?_alloc_past _ _ _ (by first | (simp; done) | (simp; omega))]; go_simp)
  have cV116_1 : V11.cell? ⟨V10.heap.size, 1, none⟩ = some (.slice none 0 0) := by rw [hV11]; first | (go_simp; done) | (rw [World.cell?_alloc_past _ _ _ (by first | (simp; done) | (simp; omega))]; go_simp)
  have cV116_2 : V11.cell? ⟨V10.heap.size, 2, none⟩ = some (.int .i64 u) := by rw [hV11]; first | (go_simp; done) | (rw [World.cell?_alloc_past _ _ _ (by first | (simp; done) | (simp; omega))]; go_simp)
  have cV116_3 : V11.cell? ⟨V10.heap.size, 3, none⟩ = some (.int .i64 l) := by rw [hV11]; first | (go_simp; done) | (rw [World.cell?_alloc_past _ _ _ (by first | (simp; done) | (simp; omega))]; go_simp)
  have cV116_4 : V11.cell? ⟨V10.heap.size, 4, none⟩ = some (.int .i64 0) := by rw [hV11]; first | (go_simp; done) | (rw [World.cell?_alloc_past _ _ _ (by first | (simp; done) | (simp; omega))]; go_simp)
  have cV116_5 : V11.cell? ⟨V10.heap.size, 5, none⟩ = some (.slice none 0 0) := by rw [hV11]; first | (go_simp; done) | (rw [World.cell?_alloc_past _ _ _ (by first | (simp; done) | (simp; omega))]; go_simp)
  have zV117 : V10.heap.size + 1 < V11.heap.size := by rw [hV11]; first | (simp; done) | (simp; omega)
  have cV117_0 : V11.cell? ⟨V10.heap.size + 1, 0, none⟩ = some (.int .i64 0) := by rw [hV11]; first | (go_simp; done) | (rw [World.cell?_alloc_past _ _ _ (by first | (simp; done) | (simp; omega))]; go_simp)
  have cV117_1 : V11.cell? ⟨V10.heap.size + 1, 1, none⟩ = some (.slice none 0 0) := by rw [hV11]; first | (go_simp; done) | (rw [World.cell?_alloc_past _ _ _ (by first | (simp; done) | (simp; omega))]; go_simp)
  have cV117_2 : V11.cell? ⟨V10.heap.size + 1, 2, none⟩ = some (.int .i64 l) := by rw [hV11]; first | (go_simp; done) | (rw [World.cell?_alloc_past _ _ _ (by first | (simp; done) | (simp; omega))]; go_simp)
  have cV117_3 : V11.cell? ⟨V10.heap.size + 1, 3, none⟩ = some (.int .i64 u) := by rw [hV11]; first | (go_simp; done) | (rw [World.cell?_alloc_past _ _ _ (by first | (simp; done) | (simp; omega))]; go_simp)
  have cV117_4 : V11.cell? ⟨V10.heap.size + 1, 4, none⟩ = some (.int .i64 0) := by rw [hV11]; first | (go_simp; done) | (rw [World.cell?_alloc_past _ _ _ (by first | (simp; done) | (simp; omega))]; go_simp)
  have cV117_5 : V11.cell? ⟨V10.heap.size + 1, 5, none⟩ = some (.slice none 0 0) := by rw [hV11]; first | (go_simp; done) | (rw [World.cell?_alloc_past _ _ _ (by first | (simp; done) | (simp; omega))]; go_simp)
  clear hV11
  have hb11a : Below w.heap.size w V11 := hb10a.trans (hbV11.mono hb10a.size)
  generalize V10.heap.size = B10 at *
  refine wp_region_ext (by kernel_rfl) (by kernel_rfl) (fun F hF => ?_)
  have HF := hid hF; clear hF
  repeat (first
    | (apply text_skip; (focus rfl); simp only [Act.put, List.setIfInBounds_toArray, List.set_cons_zero, List.set_cons_succ])
    | (apply text_val; (focus rfl); (focus (intro _ _; go_simp; with_reducible rfl)); simp only [Act.put, List.setIfInBounds_toArray, List.set_cons_zero, List.set_cons_succ])
    | (apply text_call; (focus rfl); (focus (intro _ _; go_simp; exact ⟨rfl, rfl⟩)); (focus (intro _ _; with_reducible (exact g9 _))); simp only [Act.put, List.setIfInBounds_toArray, List.set_cons_zero, List.set_cons_succ])
    | (apply text_call; (focus rfl); (focus (intro _ _; go_simp; exact ⟨rfl, rfl⟩)); (focus (intro _ _; with_reducible (exact r9 _))); simp only [Act.put, List.setIfInBounds_toArray, List.set_cons_zero, List.set_cons_succ])
    | (apply text_call; (focus rfl); (focus (intro _ _; go_simp; exact ⟨rfl, rfl⟩)); (focus (intro _ _; with_reducible (exact known_any _))); simp only [Act.put, List.setIfInBounds_toArray, List.set_cons_zero, List.set_cons_succ])
    | (apply text_if; (focus (first | exact wanted_t rfl rfl | exact wanted_f rfl rfl | exact wanted_gt rfl rfl | exact wanted_gf rfl rfl)); (focus (intro hc _ _; (try simp only [Bool.and_eq_true, Bool.not_eq_true', Bool.true_and] at hc); go_simp; with_reducible rfl)); simp only [Act.put, List.setIfInBounds_toArray, List.set_cons_zero, List.set_cons_succ])
    | (apply text_if_call; (focus (first | exact wanted_t rfl rfl | exact wanted_f rfl rfl | exact wanted_gt rfl rfl | exact wanted_gf rfl rfl)); (focus (intro hc _ _; (try simp only [Bool.and_eq_true, Bool.not_eq_true', Bool.true_and] at hc); go_simp; exact ⟨rfl, rfl⟩)); (focus (intro hc _ _; with_reducible (exact g9 _))); simp only [Act.put, List.setIfInBounds_toArray, List.set_cons_zero, List.set_cons_succ])
    | (apply text_if_call; (focus (first | exact wanted_t rfl rfl | exact wanted_f rfl rfl | exact wanted_gt rfl rfl | exact wanted_gf rfl rfl)); (focus (intro hc _ _; (try simp only [Bool.and_eq_true, Bool.not_eq_true', Bool.true_and] at hc); go_simp; exact ⟨rfl, rfl⟩)); (focus (intro hc _ _; with_reducible (exact r9 _))); simp only [Act.put, List.setIfInBounds_toArray, List.set_cons_zero, List.set_cons_succ])
    | (apply text_if_call; (focus (first | exact wanted_t rfl rfl | exact wanted_f rfl rfl | exact wanted_gt rfl rfl | exact wanted_gf rfl rfl)); (focus (intro hc _ _; (try simp only [Bool.and_eq_true, Bool.not_eq_true', Bool.true_and] at hc); go_simp; exact ⟨rfl, rfl⟩)); (focus (intro hc _ _; with_reducible (exact known_any _))); simp only [Act.put, List.setIfInBounds_toArray, List.set_cons_zero, List.set_cons_succ]))
  refine text_nil (HF.out _ (fun mx dx => ?_))
  clear HF F
  go_wp2_with fail
  go_returns
  exact Pure.of rfl (Below.ext_mk hb11a hb11a.size _ _)
end Go.Proofs.Ytooadmagjpaieaa
