/-
  The document's answers of layer 11 (quillonref11): Agrees, Within, Meet.
-/
import Derived.Test.YtooadmagjpaieaaRefM
set_option linter.unusedVariables false
set_option linter.unusedSimpArgs false
namespace Go.Proofs.Ytooadmagjpaieaa
open Go.RowKit

def agreesF (v m n : BitVec 128) : Nat → Bool := fun i => (bt n i && bt m i) == bt v i
def ragrees (v m n : BitVec 128) : Bool := allB (agreesF v m n) 128
theorem ragrees_any (v m n : BitVec 128) (w : World) : Calls Try.prog 13 #[pv v m, nv n] w (Pure (.bool (ragrees v m n)) w) := by
  go_enter Try.func13, Try.ntmps13
  go_upto_region 1 with (fail)
  refine wp_gen (fun V hV => ?_)
  have hbV : Below w.heap.size w V := by rw [hV]; ((repeat' (first | (with_reducible exact Below.refl _ _) | (with_reducible refine Below.ext_mk ?_ ?_ _ _) | (with_reducible refine Below.alloc ?_ ?_ _) | (with_reducible refine Below.drew ?_) | (with_reducible refine Below.setCell ?_ ?_ _) | go_size)))
  have zV0 : w.heap.size < V.heap.size := by rw [hV]; first | (simp; done) | (simp; omega)
  have cV0_0 : V.cell? ⟨w.heap.size, 0, none⟩ = some (.int .u64 (hi v)) := by rw [hV]; first | (go_simp; done) | (rw [World.cell?_alloc_past _ _ _ (by first | (simp; done) | (simp; omega))]; go_simp)
  have cV0_1 : V.cell? ⟨w.heap.size, 1, none⟩ = some (.int .u64 (lo v)) := by rw [hV]; first | (go_simp; done) | (rw [World.cell?_alloc_past _ _ _ (by first | (simp; done) | (simp; omega))]; go_simp)
  have cV0_2 : V.cell? ⟨w.heap.size, 2, none⟩ = some (.int .u64 (hi m)) := by rw [hV]; first | (go_simp; done) | (rw [World.cell?_alloc_past _ _ _ (by first | (simp; done) | (simp; omega))]; go_simp)
  have cV0_3 : V.cell? ⟨w.heap.size, 3, none⟩ = some (.int .u64 (lo m)) := by rw [hV]; first | (go_simp; done) | (rw [World.cell?_alloc_past _ _ _ (by first | (simp; done) | (simp; omega))]; go_simp)
  have zV1 : w.heap.size + 1 < V.heap.size := by rw [hV]; first | (simp; done) | (simp; omega)
  have cV1_0 : V.cell? ⟨w.heap.size + 1, 0, none⟩ = some (.int .u64 (hi n)) := by rw [hV]; first | (go_simp; done) | (rw [World.cell?_alloc_past _ _ _ (by first | (simp; done) | (simp; omega))]; go_simp)
  have cV1_1 : V.cell? ⟨w.heap.size + 1, 1, none⟩ = some (.int .u64 (lo n)) := by rw [hV]; first | (go_simp; done) | (rw [World.cell?_alloc_past _ _ _ (by first | (simp; done) | (simp; omega))]; go_simp)
  clear hV
  have HR : Hid (ragrees v m n = allB (agreesF v m n) 128) := hid rfl
  go_wp2
  go_loopw [5] (fun i wr => ∃ j : Nat, j ≤ 128 ∧ i = .int .i64 j ∧ Below V.heap.size V wr ∧ Hid (∀ k, k < j → agreesF v m n k = true)) (fun i _ => 128 - (intOf i).toNat)
  case atStart => exact ⟨0, by omega, rfl, by (repeat' (first | (with_reducible exact Below.refl _ _) | (with_reducible refine Below.ext_mk ?_ ?_ _ _) | (with_reducible refine Below.alloc ?_ ?_ _) | (with_reducible refine Below.drew ?_) | (with_reducible refine Below.setCell ?_ ?_ _) | go_size)), hid (fun k hk => absurd hk (by omega))⟩
  case round =>
    obtain ⟨j, hj, rfl, hb, HJ⟩ := hrel
    have q0 := hb.cell (p := ⟨w.heap.size, 0, none⟩) zV0
    have q1 := hb.cell (p := ⟨w.heap.size, 1, none⟩) zV0
    have q2 := hb.cell (p := ⟨w.heap.size, 2, none⟩) zV0
    have q3 := hb.cell (p := ⟨w.heap.size, 3, none⟩) zV0
    have q4 := hb.cell (p := ⟨w.heap.size + 1, 0, none⟩) zV1
    have q5 := hb.cell (p := ⟨w.heap.size + 1, 1, none⟩) zV1
    rw [cV0_0] at q0
    rw [cV0_1] at q1
    rw [cV0_2] at q2
    rw [cV0_3] at q3
    rw [cV1_0] at q4
    rw [cV1_1] at q5
    have hbs := hb.size
    have zr : w.heap.size < wr.heap.size := by omega
    have zs : w.heap.size + 1 < wr.heap.size := by omega
    by_cases hlt : j < 128
    · have hj1 : (j : Int) < 128 := by omega
      have ev : rbit v (j : Int) = bt v j := by unfold rbit; simp
      have em : rbit m (j : Int) = bt m j := by unfold rbit; simp
      have en : rbit n (j : Int) = bt n j := by unfold rbit; simp
      have gv : ∀ w, Calls Try.prog 33 #[nv v, .int .i64 j] w (Pure (.bool (bt v j)) w) := fun w => ev ▸ rbit_any v j w
      have gm : ∀ w, Calls Try.prog 33 #[nv m, .int .i64 j] w (Pure (.bool (bt m j)) w) := fun w => em ▸ rbit_any m j w
      have gn : ∀ w, Calls Try.prog 33 #[nv n, .int .i64 j] w (Pure (.bool (bt n j)) w) := fun w => en ▸ rbit_any n j w
      have HV : Hid (agreesF v m n j = ((bt n j && bt m j) == bt v j)) := hid rfl
      clear ev em en
      cases hx : bt v j <;> cases hy : bt m j <;> cases hz : bt n j
      all_goals
        rw [hx] at gv HV
        rw [hy] at gm HV
        rw [hz] at gn HV
        clear hx hy hz
        go_upto_region 4 with (fail)
        refine wp_region_seq (fun F hF => ?_)
        have HF := hid hF; clear hF
        repeat (first
          | (apply text_skip; (focus rfl); simp only [Act.put, List.setIfInBounds_toArray, List.set_cons_zero, List.set_cons_succ])
          | (apply text_val; (focus rfl); (focus (intro _ _; go_simp; with_reducible rfl)); simp only [Act.put, List.setIfInBounds_toArray, List.set_cons_zero, List.set_cons_succ])
          | (apply text_call; (focus rfl); (focus (intro _ _; go_simp; exact ⟨rfl, rfl⟩)); (focus (intro _ _; with_reducible (exact gn _))); simp only [Act.put, List.setIfInBounds_toArray, List.set_cons_zero, List.set_cons_succ])
          | (apply text_call; (focus rfl); (focus (intro _ _; go_simp; exact ⟨rfl, rfl⟩)); (focus (intro _ _; with_reducible (exact gm _))); simp only [Act.put, List.setIfInBounds_toArray, List.set_cons_zero, List.set_cons_succ])
          | (apply text_if; (focus (first | exact wanted_t rfl rfl | exact wanted_f rfl rfl | exact wanted_gt rfl rfl | exact wanted_gf rfl rfl)); (focus (intro hc _ _; (try simp only [Bool.and_eq_true, Bool.not_eq_true', Bool.true_and] at hc); go_simp; with_reducible rfl)); simp only [Act.put, List.setIfInBounds_toArray, List.set_cons_zero, List.set_cons_succ])
          | (apply text_if_call; (focus (first | exact wanted_t rfl rfl | exact wanted_f rfl rfl | exact wanted_gt rfl rfl | exact wanted_gf rfl rfl)); (focus (intro hc _ _; (try simp only [Bool.and_eq_true, Bool.not_eq_true', Bool.true_and] at hc); go_simp; exact ⟨rfl, rfl⟩)); (focus (intro hc _ _; with_reducible (exact gn _))); simp only [Act.put, List.setIfInBounds_toArray, List.set_cons_zero, List.set_cons_succ])
          | (apply text_if_call; (focus (first | exact wanted_t rfl rfl | exact wanted_f rfl rfl | exact wanted_gt rfl rfl | exact wanted_gf rfl rfl)); (focus (intro hc _ _; (try simp only [Bool.and_eq_true, Bool.not_eq_true', Bool.true_and] at hc); go_simp; exact ⟨rfl, rfl⟩)); (focus (intro hc _ _; with_reducible (exact gm _))); simp only [Act.put, List.setIfInBounds_toArray, List.set_cons_zero, List.set_cons_succ]))
        refine text_nil (HF.out _ (fun mx dx => ?_))
        clear HF F
        go_upto_region 5 with (fail)
        refine wp_region_seq (fun F hF => ?_)
        have HF := hid hF; clear hF
        repeat (first
          | (apply text_skip; (focus rfl); simp only [Act.put, List.setIfInBounds_toArray, List.set_cons_zero, List.set_cons_succ])
          | (apply text_val; (focus rfl); (focus (intro _ _; go_simp; with_reducible rfl)); simp only [Act.put, List.setIfInBounds_toArray, List.set_cons_zero, List.set_cons_succ])
          | (apply text_call; (focus rfl); (focus (intro _ _; go_simp; exact ⟨rfl, rfl⟩)); (focus (intro _ _; with_reducible (exact gv _))); simp only [Act.put, List.setIfInBounds_toArray, List.set_cons_zero, List.set_cons_succ])
          | (apply text_if; (focus (first | exact wanted_t rfl rfl | exact wanted_f rfl rfl | exact wanted_gt rfl rfl | exact wanted_gf rfl rfl)); (focus (intro hc _ _; (try simp only [Bool.and_eq_true, Bool.not_eq_true', Bool.true_and] at hc); go_simp; with_reducible rfl)); simp only [Act.put, List.setIfInBounds_toArray, List.set_cons_zero, List.set_cons_succ])
          | (apply text_if_call; (focus (first | exact wanted_t rfl rfl | exact wanted_f rfl rfl | exact wanted_gt rfl rfl | exact wanted_gf rfl rfl)); (focus (intro hc _ _; (try simp only [Bool.and_eq_true, Bool.not_eq_true', Bool.true_and] at hc); go_simp; exact ⟨rfl, rfl⟩)); (focus (intro hc _ _; with_reducible (exact gv _))); simp only [Act.put, List.setIfInBounds_toArray, List.set_cons_zero, List.set_cons_succ]))
        refine text_nil (HF.out _ (fun mx dx => ?_))
        clear HF F
        go_wp2_with fail
        first
        | (go_returns
           exact Pure.of (by rw [HR.out, allB_false hlt HV.out]; rfl) (hbV.trans (Below.mono (by first | exact Below.ext_mk hb (by omega) _ _ | exact Below.ext_mk (Below.ext_mk hb (by omega) _ _) (by simp; omega) _ _) hbV.size)))
        | (go_roundw
           case rel => exact ⟨j + 1, by omega, by go_num, by first | exact Below.ext_mk hb (by omega) _ _ | exact Below.ext_mk (Below.ext_mk hb (by omega) _ _) (by simp; omega) _ _, hid (upto_next HJ.out HV.out)⟩
           case measure => simp [intOf]; omega)
    · have e : j = 128 := by omega
      subst e
      go_wp2
      go_returns
      exact Pure.of (by rw [HR.out, allB_true HJ.out]; rfl) (hbV.trans (hb.mono hbV.size))

def withinF (v m a b : BitVec 128) : Nat → Bool := fun i => !(bt b i && (!bt m i || bt v i != bt a i))
def meetF (v m a b : BitVec 128) : Nat → Bool := fun i => !(bt m i && bt b i && bt v i != bt a i)
def rwithin (v m a b : BitVec 128) (u : Int) : Bool := rmay v m u && rmay a b u && allB (withinF v m a b) u.toNat
def rmeet (v m a b : BitVec 128) (u : Int) : Bool := rmay v m u && rmay a b u && allB (meetF v m a b) u.toNat
theorem rmay_pos {v m : BitVec 128} {u : Int} (h : rmay v m u = true) : 1 ≤ u ∧ u ≤ 128 := by
  unfold rmay at h
  simp only [Bool.and_eq_true, decide_eq_true_eq] at h
  exact h.1

set_option maxHeartbeats 4000000 in
theorem rwithin_any (v m a b : BitVec 128) (u : Int) (w : World) : Calls Try.prog 14 #[pv v m, pv a b, .int .i64 u] w (Pure (.bool (rwithin v m a b u)) w) := by
  have HR : Hid (rwithin v m a b u = (rmay v m u && rmay a b u && allB (withinF v m a b) u.toNat)) := hid rfl
  have gA := rmay_any v m u
  have gB := rmay_any a b u
  cases hA : rmay v m u
  · rw [hA] at gA HR
    clear hA
    go_enter Try.func14, Try.ntmps14
    go_upto_region 1 with (fail)
    refine wp_region_seq (fun F hF => ?_)
    have HF := hid hF; clear hF
    repeat (first
      | (apply text_skip; (focus rfl); simp only [Act.put, List.setIfInBounds_toArray, List.set_cons_zero, List.set_cons_succ])
      | (apply text_val; (focus rfl); (focus (intro _ _; go_simp; with_reducible rfl)); simp only [Act.put, List.setIfInBounds_toArray, List.set_cons_zero, List.set_cons_succ])
      | (apply text_call; (focus rfl); (focus (intro _ _; go_simp; exact ⟨rfl, rfl⟩)); (focus (intro _ _; with_reducible (exact gA _))); simp only [Act.put, List.setIfInBounds_toArray, List.set_cons_zero, List.set_cons_succ])
      | (apply text_call; (focus rfl); (focus (intro _ _; go_simp; exact ⟨rfl, rfl⟩)); (focus (intro _ _; with_reducible (exact gB _))); simp only [Act.put, List.setIfInBounds_toArray, List.set_cons_zero, List.set_cons_succ])
      | (apply text_if; (focus (first | exact wanted_t rfl rfl | exact wanted_f rfl rfl | exact wanted_gt rfl rfl | exact wanted_gf rfl rfl)); (focus (intro hc _ _; (try simp only [Bool.and_eq_true, Bool.not_eq_true', Bool.true_and] at hc); go_simp; with_reducible rfl)); simp only [Act.put, List.setIfInBounds_toArray, List.set_cons_zero, List.set_cons_succ])
      | (apply text_if_call; (focus (first | exact wanted_t rfl rfl | exact wanted_f rfl rfl | exact wanted_gt rfl rfl | exact wanted_gf rfl rfl)); (focus (intro hc _ _; (try simp only [Bool.and_eq_true, Bool.not_eq_true', Bool.true_and] at hc); go_simp; exact ⟨rfl, rfl⟩)); (focus (intro hc _ _; with_reducible (exact gA _))); simp only [Act.put, List.setIfInBounds_toArray, List.set_cons_zero, List.set_cons_succ])
      | (apply text_if_call; (focus (first | exact wanted_t rfl rfl | exact wanted_f rfl rfl | exact wanted_gt rfl rfl | exact wanted_gf rfl rfl)); (focus (intro hc _ _; (try simp only [Bool.and_eq_true, Bool.not_eq_true', Bool.true_and] at hc); go_simp; exact ⟨rfl, rfl⟩)); (focus (intro hc _ _; with_reducible (exact gB _))); simp only [Act.put, List.setIfInBounds_toArray, List.set_cons_zero, List.set_cons_succ]))
    refine text_nil (HF.out _ (fun mx dx => ?_))
    clear HF F
    go_wp2_with fail
    go_returns
    exact Pure.of (by rw [HR.out]; rfl) (by (repeat' (first | (with_reducible exact Below.refl _ _) | (with_reducible refine Below.ext_mk ?_ ?_ _ _) | (with_reducible refine Below.alloc ?_ ?_ _) | (with_reducible refine Below.drew ?_) | (with_reducible refine Below.setCell ?_ ?_ _) | go_size)))
  · cases hB : rmay a b u
    · rw [hA] at gA HR
      rw [hB] at gB HR
      clear hA hB
      go_enter Try.func14, Try.ntmps14
      go_upto_region 1 with (fail)
      refine wp_region_seq (fun F hF => ?_)
      have HF := hid hF; clear hF
      repeat (first
        | (apply text_skip; (focus rfl); simp only [Act.put, List.setIfInBounds_toArray, List.set_cons_zero, List.set_cons_succ])
        | (apply text_val; (focus rfl); (focus (intro _ _; go_simp; with_reducible rfl)); simp only [Act.put, List.setIfInBounds_toArray, List.set_cons_zero, List.set_cons_succ])
        | (apply text_call; (focus rfl); (focus (intro _ _; go_simp; exact ⟨rfl, rfl⟩)); (focus (intro _ _; with_reducible (exact gA _))); simp only [Act.put, List.setIfInBounds_toArray, List.set_cons_zero, List.set_cons_succ])
        | (apply text_call; (focus rfl); (focus (intro _ _; go_simp; exact ⟨rfl, rfl⟩)); (focus (intro _ _; with_reducible (exact gB _))); simp only [Act.put, List.setIfInBounds_toArray, List.set_cons_zero, List.set_cons_succ])
        | (apply text_if; (focus (first | exact wanted_t rfl rfl | exact wanted_f rfl rfl | exact wanted_gt rfl rfl | exact wanted_gf rfl rfl)); (focus (intro hc _ _; (try simp only [Bool.and_eq_true, Bool.not_eq_true', Bool.true_and] at hc); go_simp; with_reducible rfl)); simp only [Act.put, List.setIfInBounds_toArray, List.set_cons_zero, List.set_cons_succ])
        | (apply text_if_call; (focus (first | exact wanted_t rfl rfl | exact wanted_f rfl rfl | exact wanted_gt rfl rfl | exact wanted_gf rfl rfl)); (focus (intro hc _ _; (try simp only [Bool.and_eq_true, Bool.not_eq_true', Bool.true_and] at hc); go_simp; exact ⟨rfl, rfl⟩)); (focus (intro hc _ _; with_reducible (exact gA _))); simp only [Act.put, List.setIfInBounds_toArray, List.set_cons_zero, List.set_cons_succ])
        | (apply text_if_call; (focus (first | exact wanted_t rfl rfl | exact wanted_f rfl rfl | exact wanted_gt rfl rfl | exact wanted_gf rfl rfl)); (focus (intro hc _ _; (try simp only [Bool.and_eq_true, Bool.not_eq_true', Bool.true_and] at hc); go_simp; exact ⟨rfl, rfl⟩)); (focus (intro hc _ _; with_reducible (exact gB _))); simp only [Act.put, List.setIfInBounds_toArray, List.set_cons_zero, List.set_cons_succ]))
      refine text_nil (HF.out _ (fun mx dx => ?_))
      clear HF F
      go_wp2_with fail
      go_returns
      exact Pure.of (by rw [HR.out]; rfl) (by (repeat' (first | (with_reducible exact Below.refl _ _) | (with_reducible refine Below.ext_mk ?_ ?_ _ _) | (with_reducible refine Below.alloc ?_ ?_ _) | (with_reducible refine Below.drew ?_) | (with_reducible refine Below.setCell ?_ ?_ _) | go_size)))
    · obtain ⟨hu1, hu2⟩ := rmay_pos hA
      rw [hA] at gA HR
      rw [hB] at gB HR
      clear hA hB
      obtain ⟨U, rfl⟩ : ∃ U : Nat, u = (U : Int) := ⟨u.toNat, by omega⟩
      simp only [Int.toNat_natCast] at HR
      go_enter Try.func14, Try.ntmps14
      go_upto_region 1 with (fail)
      refine wp_region_seq (fun F hF => ?_)
      have HF := hid hF; clear hF
      repeat (first
        | (apply text_skip; (focus rfl); simp only [Act.put, List.setIfInBounds_toArray, List.set_cons_zero, List.set_cons_succ])
        | (apply text_val; (focus rfl); (focus (intro _ _; go_simp; with_reducible rfl)); simp only [Act.put, List.setIfInBounds_toArray, List.set_cons_zero, List.set_cons_succ])
        | (apply text_call; (focus rfl); (focus (intro _ _; go_simp; exact ⟨rfl, rfl⟩)); (focus (intro _ _; with_reducible (exact gA _))); simp only [Act.put, List.setIfInBounds_toArray, List.set_cons_zero, List.set_cons_succ])
        | (apply text_call; (focus rfl); (focus (intro _ _; go_simp; exact ⟨rfl, rfl⟩)); (focus (intro _ _; with_reducible (exact gB _))); simp only [Act.put, List.setIfInBounds_toArray, List.set_cons_zero, List.set_cons_succ])
        | (apply text_if; (focus (first | exact wanted_t rfl rfl | exact wanted_f rfl rfl | exact wanted_gt rfl rfl | exact wanted_gf rfl rfl)); (focus (intro hc _ _; (try simp only [Bool.and_eq_true, Bool.not_eq_true', Bool.true_and] at hc); go_simp; with_reducible rfl)); simp only [Act.put, List.setIfInBounds_toArray, List.set_cons_zero, List.set_cons_succ])
        | (apply text_if_call; (focus (first | exact wanted_t rfl rfl | exact wanted_f rfl rfl | exact wanted_gt rfl rfl | exact wanted_gf rfl rfl)); (focus (intro hc _ _; (try simp only [Bool.and_eq_true, Bool.not_eq_true', Bool.true_and] at hc); go_simp; exact ⟨rfl, rfl⟩)); (focus (intro hc _ _; with_reducible (exact gA _))); simp only [Act.put, List.setIfInBounds_toArray, List.set_cons_zero, List.set_cons_succ])
        | (apply text_if_call; (focus (first | exact wanted_t rfl rfl | exact wanted_f rfl rfl | exact wanted_gt rfl rfl | exact wanted_gf rfl rfl)); (focus (intro hc _ _; (try simp only [Bool.and_eq_true, Bool.not_eq_true', Bool.true_and] at hc); go_simp; exact ⟨rfl, rfl⟩)); (focus (intro hc _ _; with_reducible (exact gB _))); simp only [Act.put, List.setIfInBounds_toArray, List.set_cons_zero, List.set_cons_succ]))
      refine text_nil (HF.out _ (fun mx dx => ?_))
      clear HF F
      go_upto_region 3 with (fail)
      refine wp_gen (fun V hV => ?_)
      have hbV : Below w.heap.size w V := by rw [hV]; ((repeat' (first | (with_reducible exact Below.refl _ _) | (with_reducible refine Below.ext_mk ?_ ?_ _ _) | (with_reducible refine Below.alloc ?_ ?_ _) | (with_reducible refine Below.drew ?_) | (with_reducible refine Below.setCell ?_ ?_ _) | go_size)))
      have zV0 : w.heap.size < V.heap.size := by rw [hV]; first | (simp; done) | (simp; omega)
      have cV0_0 : V.cell? ⟨w.heap.size, 0, none⟩ = some (.int .u64 (hi v)) := by rw [hV]; first | (go_simp; done) | (rw [World.cell?_alloc_past _ _ _ (by first | (simp; done) | (simp; omega))]; go_simp)
      have cV0_1 : V.cell? ⟨w.heap.size, 1, none⟩ = some (.int .u64 (lo v)) := by rw [hV]; first | (go_simp; done) | (rw [World.cell?_alloc_past _ _ _ (by first | (simp; done) | (simp; omega))]; go_simp)
      have cV0_2 : V.cell? ⟨w.heap.size, 2, none⟩ = some (.int .u64 (hi m)) := by rw [hV]; first | (go_simp; done) | (rw [World.cell?_alloc_past _ _ _ (by first | (simp; done) | (simp; omega))]; go_simp)
      have cV0_3 : V.cell? ⟨w.heap.size, 3, none⟩ = some (.int .u64 (lo m)) := by rw [hV]; first | (go_simp; done) | (rw [World.cell?_alloc_past _ _ _ (by first | (simp; done) | (simp; omega))]; go_simp)
      have zV1 : w.heap.size + 1 < V.heap.size := by rw [hV]; first | (simp; done) | (simp; omega)
      have cV1_0 : V.cell? ⟨w.heap.size + 1, 0, none⟩ = some (.int .u64 (hi a)) := by rw [hV]; first | (go_simp; done) | (rw [World.cell?_alloc_past _ _ _ (by first | (simp; done) | (simp; omega))]; go_simp)
      have cV1_1 : V.cell? ⟨w.heap.size + 1, 1, none⟩ = some (.int .u64 (lo a)) := by rw [hV]; first | (go_simp; done) | (rw [World.cell?_alloc_past _ _ _ (by first | (simp; done) | (simp; omega))]; go_simp)
      have cV1_2 : V.cell? ⟨w.heap.size + 1, 2, none⟩ = some (.int .u64 (hi b)) := by rw [hV]; first | (go_simp; done) | (rw [World.cell?_alloc_past _ _ _ (by first | (simp; done) | (simp; omega))]; go_simp)
      have cV1_3 : V.cell? ⟨w.heap.size + 1, 3, none⟩ = some (.int .u64 (lo b)) := by rw [hV]; first | (go_simp; done) | (rw [World.cell?_alloc_past _ _ _ (by first | (simp; done) | (simp; omega))]; go_simp)
      clear hV
      go_wp2
      go_loopw [7] (fun i wr => ∃ j : Nat, j ≤ U ∧ i = .int .i64 j ∧ Below V.heap.size V wr ∧ Hid (∀ k, k < j → withinF v m a b k = true)) (fun i _ => U - (intOf i).toNat)
      case atStart => exact ⟨0, by omega, rfl, by (repeat' (first | (with_reducible exact Below.refl _ _) | (with_reducible refine Below.ext_mk ?_ ?_ _ _) | (with_reducible refine Below.alloc ?_ ?_ _) | (with_reducible refine Below.drew ?_) | (with_reducible refine Below.setCell ?_ ?_ _) | go_size)), hid (fun k hk => absurd hk (by omega))⟩
      case round =>
        obtain ⟨j, hj, rfl, hb, HJ⟩ := hrel
        have q0 := hb.cell (p := ⟨w.heap.size, 0, none⟩) zV0
        have q1 := hb.cell (p := ⟨w.heap.size, 1, none⟩) zV0
        have q2 := hb.cell (p := ⟨w.heap.size, 2, none⟩) zV0
        have q3 := hb.cell (p := ⟨w.heap.size, 3, none⟩) zV0
        have q4 := hb.cell (p := ⟨w.heap.size + 1, 0, none⟩) zV1
        have q5 := hb.cell (p := ⟨w.heap.size + 1, 1, none⟩) zV1
        have q6 := hb.cell (p := ⟨w.heap.size + 1, 2, none⟩) zV1
        have q7 := hb.cell (p := ⟨w.heap.size + 1, 3, none⟩) zV1
        rw [cV0_0] at q0
        rw [cV0_1] at q1
        rw [cV0_2] at q2
        rw [cV0_3] at q3
        rw [cV1_0] at q4
        rw [cV1_1] at q5
        rw [cV1_2] at q6
        rw [cV1_3] at q7
        have hbs := hb.size
        have zr : w.heap.size < wr.heap.size := by omega
        have zs : w.heap.size + 1 < wr.heap.size := by omega
        by_cases hlt : j < U
        · have hj1 : (j : Int) < (U : Int) := by omega
          have ev : rbit v (j : Int) = bt v j := by unfold rbit; simp
          have em : rbit m (j : Int) = bt m j := by unfold rbit; simp
          have ea : rbit a (j : Int) = bt a j := by unfold rbit; simp
          have eb : rbit b (j : Int) = bt b j := by unfold rbit; simp
          have gv : ∀ w, Calls Try.prog 33 #[nv v, .int .i64 j] w (Pure (.bool (bt v j)) w) := fun w => ev ▸ rbit_any v j w
          have gm : ∀ w, Calls Try.prog 33 #[nv m, .int .i64 j] w (Pure (.bool (bt m j)) w) := fun w => em ▸ rbit_any m j w
          have ga : ∀ w, Calls Try.prog 33 #[nv a, .int .i64 j] w (Pure (.bool (bt a j)) w) := fun w => ea ▸ rbit_any a j w
          have gb : ∀ w, Calls Try.prog 33 #[nv b, .int .i64 j] w (Pure (.bool (bt b j)) w) := fun w => eb ▸ rbit_any b j w
          have HV : Hid (withinF v m a b j = (!(bt b j && (!bt m j || bt v j != bt a j)))) := hid rfl
          clear ev em ea eb
          cases hx : bt v j <;> cases hy : bt m j <;> cases hz : bt a j <;> cases ht : bt b j
          all_goals
            rw [hx] at gv HV
            rw [hy] at gm HV
            rw [hz] at ga HV
            rw [ht] at gb HV
            clear hx hy hz ht
            go_upto_region 6 with (fail)
            refine wp_region_ext (by kernel_rfl) (by kernel_rfl) (fun F hF => ?_)
            have HF := hid hF; clear hF
            repeat (first
              | (apply text_skip; (focus rfl); simp only [Act.put, List.setIfInBounds_toArray, List.set_cons_zero, List.set_cons_succ])
              | (apply text_val; (focus rfl); (focus (intro _ _; go_simp; with_reducible rfl)); simp only [Act.put, List.setIfInBounds_toArray, List.set_cons_zero, List.set_cons_succ])
              | (apply text_call; (focus rfl); (focus (intro _ _; go_simp; exact ⟨rfl, rfl⟩)); (focus (intro _ _; with_reducible (exact gv _))); simp only [Act.put, List.setIfInBounds_toArray, List.set_cons_zero, List.set_cons_succ])
              | (apply text_call; (focus rfl); (focus (intro _ _; go_simp; exact ⟨rfl, rfl⟩)); (focus (intro _ _; with_reducible (exact gm _))); simp only [Act.put, List.setIfInBounds_toArray, List.set_cons_zero, List.set_cons_succ])
              | (apply text_call; (focus rfl); (focus (intro _ _; go_simp; exact ⟨rfl, rfl⟩)); (focus (intro _ _; with_reducible (exact ga _))); simp only [Act.put, List.setIfInBounds_toArray, List.set_cons_zero, List.set_cons_succ])
              | (apply text_call; (focus rfl); (focus (intro _ _; go_simp; exact ⟨rfl, rfl⟩)); (focus (intro _ _; with_reducible (exact gb _))); simp only [Act.put, List.setIfInBounds_toArray, List.set_cons_zero, List.set_cons_succ])
              | (apply text_if; (focus (first | exact wanted_t rfl rfl | exact wanted_f rfl rfl | exact wanted_gt rfl rfl | exact wanted_gf rfl rfl)); (focus (intro hc _ _; (try simp only [Bool.and_eq_true, Bool.not_eq_true', Bool.true_and] at hc); go_simp; with_reducible rfl)); simp only [Act.put, List.setIfInBounds_toArray, List.set_cons_zero, List.set_cons_succ])
              | (apply text_if_call; (focus (first | exact wanted_t rfl rfl | exact wanted_f rfl rfl | exact wanted_gt rfl rfl | exact wanted_gf rfl rfl)); (focus (intro hc _ _; (try simp only [Bool.and_eq_true, Bool.not_eq_true', Bool.true_and] at hc); go_simp; exact ⟨rfl, rfl⟩)); (focus (intro hc _ _; with_reducible (exact gv _))); simp only [Act.put, List.setIfInBounds_toArray, List.set_cons_zero, List.set_cons_succ])
              | (apply text_if_call; (focus (first | exact wanted_t rfl rfl | exact wanted_f rfl rfl | exact wanted_gt rfl rfl | exact wanted_gf rfl rfl)); (focus (intro hc _ _; (try simp only [Bool.and_eq_true, Bool.not_eq_true', Bool.true_and] at hc); go_simp; exact ⟨rfl, rfl⟩)); (focus (intro hc _ _; with_reducible (exact gm _))); simp only [Act.put, List.setIfInBounds_toArray, List.set_cons_zero, List.set_cons_succ])
              | (apply text_if_call; (focus (first | exact wanted_t rfl rfl | exact wanted_f rfl rfl | exact wanted_gt rfl rfl | exact wanted_gf rfl rfl)); (focus (intro hc _ _; (try simp only [Bool.and_eq_true, Bool.not_eq_true', Bool.true_and] at hc); go_simp; exact ⟨rfl, rfl⟩)); (focus (intro hc _ _; with_reducible (exact ga _))); simp only [Act.put, List.setIfInBounds_toArray, List.set_cons_zero, List.set_cons_succ])
              | (apply text_if_call; (focus (first | exact wanted_t rfl rfl | exact wanted_f rfl rfl | exact wanted_gt rfl rfl | exact wanted_gf rfl rfl)); (focus (intro hc _ _; (try simp only [Bool.and_eq_true, Bool.not_eq_true', Bool.true_and] at hc); go_simp; exact ⟨rfl, rfl⟩)); (focus (intro hc _ _; with_reducible (exact gb _))); simp only [Act.put, List.setIfInBounds_toArray, List.set_cons_zero, List.set_cons_succ]))
            refine text_nil (HF.out _ (fun mx dx => ?_))
            clear HF F
            go_wp2_with fail
            first
            | (go_returns
               exact Pure.of (by rw [HR.out, allB_false hlt HV.out]; rfl) (hbV.trans ((Below.ext_mk hb (by omega) _ _).mono hbV.size)))
            | (go_roundw
               case rel => exact ⟨j + 1, by omega, by go_num, Below.ext_mk hb (by omega) _ _, hid (upto_next HJ.out HV.out)⟩
               case measure => simp [intOf]; omega)
        · have e : j = U := by omega
          subst e
          go_wp2
          go_returns
          exact Pure.of (by rw [HR.out, allB_true HJ.out]; rfl) (hbV.trans (hb.mono hbV.size))
set_option maxHeartbeats 4000000 in
theorem rmeet_any (v m a b : BitVec 128) (u : Int) (w : World) : Calls Try.prog 15 #[pv v m, pv a b, .int .i64 u] w (Pure (.bool (rmeet v m a b u)) w) := by
  have HR : Hid (rmeet v m a b u = (rmay v m u && rmay a b u && allB (meetF v m a b) u.toNat)) := hid rfl
  have gA := rmay_any v m u
  have gB := rmay_any a b u
  cases hA : rmay v m u
  · rw [hA] at gA HR
    clear hA
    go_enter Try.func15, Try.ntmps15
    go_upto_region 1 with (fail)
    refine wp_region_seq (fun F hF => ?_)
    have HF := hid hF; clear hF
    repeat (first
      | (apply text_skip; (focus rfl); simp only [Act.put, List.setIfInBounds_toArray, List.set_cons_zero, List.set_cons_succ])
      | (apply text_val; (focus rfl); (focus (intro _ _; go_simp; with_reducible rfl)); simp only [Act.put, List.setIfInBounds_toArray, List.set_cons_zero, List.set_cons_succ])
      | (apply text_call; (focus rfl); (focus (intro _ _; go_simp; exact ⟨rfl, rfl⟩)); (focus (intro _ _; with_reducible (exact gA _))); simp only [Act.put, List.setIfInBounds_toArray, List.set_cons_zero, List.set_cons_succ])
      | (apply text_call; (focus rfl); (focus (intro _ _; go_simp; exact ⟨rfl, rfl⟩)); (focus (intro _ _; with_reducible (exact gB _))); simp only [Act.put, List.setIfInBounds_toArray, List.set_cons_zero, List.set_cons_succ])
      | (apply text_if; (focus (first | exact wanted_t rfl rfl | exact wanted_f rfl rfl | exact wanted_gt rfl rfl | exact wanted_gf rfl rfl)); (focus (intro hc _ _; (try simp only [Bool.and_eq_true, Bool.not_eq_true', Bool.true_and] at hc); go_simp; with_reducible rfl)); simp only [Act.put, List.setIfInBounds_toArray, List.set_cons_zero, List.set_cons_succ])
      | (apply text_if_call; (focus (first | exact wanted_t rfl rfl | exact wanted_f rfl rfl | exact wanted_gt rfl rfl | exact wanted_gf rfl rfl)); (focus (intro hc _ _; (try simp only [Bool.and_eq_true, Bool.not_eq_true', Bool.true_and] at hc); go_simp; exact ⟨rfl, rfl⟩)); (focus (intro hc _ _; with_reducible (exact gA _))); simp only [Act.put, List.setIfInBounds_toArray, List.set_cons_zero, List.set_cons_succ])
      | (apply text_if_call; (focus (first | exact wanted_t rfl rfl | exact wanted_f rfl rfl | exact wanted_gt rfl rfl | exact wanted_gf rfl rfl)); (focus (intro hc _ _; (try simp only [Bool.and_eq_true, Bool.not_eq_true', Bool.true_and] at hc); go_simp; exact ⟨rfl, rfl⟩)); (focus (intro hc _ _; with_reducible (exact gB _))); simp only [Act.put, List.setIfInBounds_toArray, List.set_cons_zero, List.set_cons_succ]))
    refine text_nil (HF.out _ (fun mx dx => ?_))
    clear HF F
    go_wp2_with fail
    go_returns
    exact Pure.of (by rw [HR.out]; rfl) (by (repeat' (first | (with_reducible exact Below.refl _ _) | (with_reducible refine Below.ext_mk ?_ ?_ _ _) | (with_reducible refine Below.alloc ?_ ?_ _) | (with_reducible refine Below.drew ?_) | (with_reducible refine Below.setCell ?_ ?_ _) | go_size)))
  · cases hB : rmay a b u
    · rw [hA] at gA HR
      rw [hB] at gB HR
      clear hA hB
      go_enter Try.func15, Try.ntmps15
      go_upto_region 1 with (fail)
      refine wp_region_seq (fun F hF => ?_)
      have HF := hid hF; clear hF
      repeat (first
        | (apply text_skip; (focus rfl); simp only [Act.put, List.setIfInBounds_toArray, List.set_cons_zero, List.set_cons_succ])
        | (apply text_val; (focus rfl); (focus (intro _ _; go_simp; with_reducible rfl)); simp only [Act.put, List.setIfInBounds_toArray, List.set_cons_zero, List.set_cons_succ])
        | (apply text_call; (focus rfl); (focus (intro _ _; go_simp; exact ⟨rfl, rfl⟩)); (focus (intro _ _; with_reducible (exact gA _))); simp only [Act.put, List.setIfInBounds_toArray, List.set_cons_zero, List.set_cons_succ])
        | (apply text_call; (focus rfl); (focus (intro _ _; go_simp; exact ⟨rfl, rfl⟩)); (focus (intro _ _; with_reducible (exact gB _))); simp only [Act.put, List.setIfInBounds_toArray, List.set_cons_zero, List.set_cons_succ])
        | (apply text_if; (focus (first | exact wanted_t rfl rfl | exact wanted_f rfl rfl | exact wanted_gt rfl rfl | exact wanted_gf rfl rfl)); (focus (intro hc _ _; (try simp only [Bool.and_eq_true, Bool.not_eq_true', Bool.true_and] at hc); go_simp; with_reducible rfl)); simp only [Act.put, List.setIfInBounds_toArray, List.set_cons_zero, List.set_cons_succ])
        | (apply text_if_call; (focus (first | exact wanted_t rfl rfl | exact wanted_f rfl rfl | exact wanted_gt rfl rfl | exact wanted_gf rfl rfl)); (focus (intro hc _ _; (try simp only [Bool.and_eq_true, Bool.not_eq_true', Bool.true_and] at hc); go_simp; exact ⟨rfl, rfl⟩)); (focus (intro hc _ _; with_reducible (exact gA _))); simp only [Act.put, List.setIfInBounds_toArray, List.set_cons_zero, List.set_cons_succ])
        | (apply text_if_call; (focus (first | exact wanted_t rfl rfl | exact wanted_f rfl rfl | exact wanted_gt rfl rfl | exact wanted_gf rfl rfl)); (focus (intro hc _ _; (try simp only [Bool.and_eq_true, Bool.not_eq_true', Bool.true_and] at hc); go_simp; exact ⟨rfl, rfl⟩)); (focus (intro hc _ _; with_reducible (exact gB _))); simp only [Act.put, List.setIfInBounds_toArray, List.set_cons_zero, List.set_cons_succ]))
      refine text_nil (HF.out _ (fun mx dx => ?_))
      clear HF F
      go_wp2_with fail
      go_returns
      exact Pure.of (by rw [HR.out]; rfl) (by (repeat' (first | (with_reducible exact Below.refl _ _) | (with_reducible refine Below.ext_mk ?_ ?_ _ _) | (with_reducible refine Below.alloc ?_ ?_ _) | (with_reducible refine Below.drew ?_) | (with_reducible refine Below.setCell ?_ ?_ _) | go_size)))
    · obtain ⟨hu1, hu2⟩ := rmay_pos hA
      rw [hA] at gA HR
      rw [hB] at gB HR
      clear hA hB
      obtain ⟨U, rfl⟩ : ∃ U : Nat, u = (U : Int) := ⟨u.toNat, by omega⟩
      simp only [Int.toNat_natCast] at HR
      go_enter Try.func15, Try.ntmps15
      go_upto_region 1 with (fail)
      refine wp_region_seq (fun F hF => ?_)
      have HF := hid hF; clear hF
      repeat (first
        | (apply text_skip; (focus rfl); simp only [Act.put, List.setIfInBounds_toArray, List.set_cons_zero, List.set_cons_succ])
        | (apply text_val; (focus rfl); (focus (intro _ _; go_simp; with_reducible rfl)); simp only [Act.put, List.setIfInBounds_toArray, List.set_cons_zero, List.set_cons_succ])
        | (apply text_call; (focus rfl); (focus (intro _ _; go_simp; exact ⟨rfl, rfl⟩)); (focus (intro _ _; with_reducible (exact gA _))); simp only [Act.put, List.setIfInBounds_toArray, List.set_cons_zero, List.set_cons_succ])
        | (apply text_call; (focus rfl); (focus (intro _ _; go_simp; exact ⟨rfl, rfl⟩)); (focus (intro _ _; with_reducible (exact gB _))); simp only [Act.put, List.setIfInBounds_toArray, List.set_cons_zero, List.set_cons_succ])
        | (apply text_if; (focus (first | exact wanted_t rfl rfl | exact wanted_f rfl rfl | exact wanted_gt rfl rfl | exact wanted_gf rfl rfl)); (focus (intro hc _ _; (try simp only [Bool.and_eq_true, Bool.not_eq_true', Bool.true_and] at hc); go_simp; with_reducible rfl)); simp only [Act.put, List.setIfInBounds_toArray, List.set_cons_zero, List.set_cons_succ])
        | (apply text_if_call; (focus (first | exact wanted_t rfl rfl | exact wanted_f rfl rfl | exact wanted_gt rfl rfl | exact wanted_gf rfl rfl)); (focus (intro hc _ _; (try simp only [Bool.and_eq_true, Bool.not_eq_true', Bool.true_and] at hc); go_simp; exact ⟨rfl, rfl⟩)); (focus (intro hc _ _; with_reducible (exact gA _))); simp only [Act.put, List.setIfInBounds_toArray, List.set_cons_zero, List.set_cons_succ])
        | (apply text_if_call; (focus (first | exact wanted_t rfl rfl | exact wanted_f rfl rfl | exact wanted_gt rfl rfl | exact wanted_gf rfl rfl)); (focus (intro hc _ _; (try simp only [Bool.and_eq_true, Bool.not_eq_true', Bool.true_and] at hc); go_simp; exact ⟨rfl, rfl⟩)); (focus (intro hc _ _; with_reducible (exact gB _))); simp only [Act.put, List.setIfInBounds_toArray, List.set_cons_zero, List.set_cons_succ]))
      refine text_nil (HF.out _ (fun mx dx => ?_))
      clear HF F
      go_upto_region 3 with (fail)
      refine wp_gen (fun V hV => ?_)
      have hbV : Below w.heap.size w V := by rw [hV]; ((repeat' (first | (with_reducible exact Below.refl _ _) | (with_reducible refine Below.ext_mk ?_ ?_ _ _) | (with_reducible refine Below.alloc ?_ ?_ _) | (with_reducible refine Below.drew ?_) | (with_reducible refine Below.setCell ?_ ?_ _) | go_size)))
      have zV0 : w.heap.size < V.heap.size := by rw [hV]; first | (simp; done) | (simp; omega)
      have cV0_0 : V.cell? ⟨w.heap.size, 0, none⟩ = some (.int .u64 (hi v)) := by rw [hV]; first | (go_simp; done) | (rw [World.cell?_alloc_past _ _ _ (by first | (simp; done) | (simp; omega))]; go_simp)
      have cV0_1 : V.cell? ⟨w.heap.size, 1, none⟩ = some (.int .u64 (lo v)) := by rw [hV]; first | (go_simp; done) | (rw [World.cell?_alloc_past _ _ _ (by first | (simp; done) | (simp; omega))]; go_simp)
      have cV0_2 : V.cell? ⟨w.heap.size, 2, none⟩ = some (.int .u64 (hi m)) := by rw [hV]; first | (go_simp; done) | (rw [World.cell?_alloc_past _ _ _ (by first | (simp; done) | (simp; omega))]; go_simp)
      have cV0_3 : V.cell? ⟨w.heap.size, 3, none⟩ = some (.int .u64 (lo m)) := by rw [hV]; first | (go_simp; done) | (rw [World.cell?_alloc_past _ _ _ (by first | (simp; done) | (simp; omega))]; go_simp)
      have zV1 : w.heap.size + 1 < V.heap.size := by rw [hV]; first | (simp; done) | (simp; omega)
      have cV1_0 : V.cell? ⟨w.heap.size + 1, 0, none⟩ = some (.int .u64 (hi a)) := by rw [hV]; first | (go_simp; done) | (rw [World.cell?_alloc_past _ _ _ (by first | (simp; done) | (simp; omega))]; go_simp)
      have cV1_1 : V.cell? ⟨w.heap.size + 1, 1, none⟩ = some (.int .u64 (lo a)) := by rw [hV]; first | (go_simp; done) | (rw [World.cell?_alloc_past _ _ _ (by first | (simp; done) | (simp; omega))]; go_simp)
      have cV1_2 : V.cell? ⟨w.heap.size + 1, 2, none⟩ = some (.int .u64 (hi b)) := by rw [hV]; first | (go_simp; done) | (rw [World.cell?_alloc_past _ _ _ (by first | (simp; done) | (simp; omega))]; go_simp)
      have cV1_3 : V.cell? ⟨w.heap.size + 1, 3, none⟩ = some (.int .u64 (lo b)) := by rw [hV]; first | (go_simp; done) | (rw [World.cell?_alloc_past _ _ _ (by first | (simp; done) | (simp; omega))]; go_simp)
      clear hV
      go_wp2
      go_loopw [7] (fun i wr => ∃ j : Nat, j ≤ U ∧ i = .int .i64 j ∧ Below V.heap.size V wr ∧ Hid (∀ k, k < j → meetF v m a b k = true)) (fun i _ => U - (intOf i).toNat)
      case atStart => exact ⟨0, by omega, rfl, by (repeat' (first | (with_reducible exact Below.refl _ _) | (with_reducible refine Below.ext_mk ?_ ?_ _ _) | (with_reducible refine Below.alloc ?_ ?_ _) | (with_reducible refine Below.drew ?_) | (with_reducible refine Below.setCell ?_ ?_ _) | go_size)), hid (fun k hk => absurd hk (by omega))⟩
      case round =>
        obtain ⟨j, hj, rfl, hb, HJ⟩ := hrel
        have q0 := hb.cell (p := ⟨w.heap.size, 0, none⟩) zV0
        have q1 := hb.cell (p := ⟨w.heap.size, 1, none⟩) zV0
        have q2 := hb.cell (p := ⟨w.heap.size, 2, none⟩) zV0
        have q3 := hb.cell (p := ⟨w.heap.size, 3, none⟩) zV0
        have q4 := hb.cell (p := ⟨w.heap.size + 1, 0, none⟩) zV1
        have q5 := hb.cell (p := ⟨w.heap.size + 1, 1, none⟩) zV1
        have q6 := hb.cell (p := ⟨w.heap.size + 1, 2, none⟩) zV1
        have q7 := hb.cell (p := ⟨w.heap.size + 1, 3, none⟩) zV1
        rw [cV0_0] at q0
        rw [cV0_1] at q1
        rw [cV0_2] at q2
        rw [cV0_3] at q3
        rw [cV1_0] at q4
        rw [cV1_1] at q5
        rw [cV1_2] at q6
        rw [cV1_3] at q7
        have hbs := hb.size
        have zr : w.heap.size < wr.heap.size := by omega
        have zs : w.heap.size + 1 < wr.heap.size := by omega
        by_cases hlt : j < U
        · have hj1 : (j : Int) < (U : Int) := by omega
          have ev : rbit v (j : Int) = bt v j := by unfold rbit; simp
          have em : rbit m (j : Int) = bt m j := by unfold rbit; simp
          have ea : rbit a (j : Int) = bt a j := by unfold rbit; simp
          have eb : rbit b (j : Int) = bt b j := by unfold rbit; simp
          have gv : ∀ w, Calls Try.prog 33 #[nv v, .int .i64 j] w (Pure (.bool (bt v j)) w) := fun w => ev ▸ rbit_any v j w
          have gm : ∀ w, Calls Try.prog 33 #[nv m, .int .i64 j] w (Pure (.bool (bt m j)) w) := fun w => em ▸ rbit_any m j w
          have ga : ∀ w, Calls Try.prog 33 #[nv a, .int .i64 j] w (Pure (.bool (bt a j)) w) := fun w => ea ▸ rbit_any a j w
          have gb : ∀ w, Calls Try.prog 33 #[nv b, .int .i64 j] w (Pure (.bool (bt b j)) w) := fun w => eb ▸ rbit_any b j w
          have HV : Hid (meetF v m a b j = (!(bt m j && bt b j && bt v j != bt a j))) := hid rfl
          clear ev em ea eb
          cases hx : bt v j <;> cases hy : bt m j <;> cases hz : bt a j <;> cases ht : bt b j
          all_goals
            rw [hx] at gv HV
            rw [hy] at gm HV
            rw [hz] at ga HV
            rw [ht] at gb HV
            clear hx hy hz ht
            go_upto_region 6 with (fail)
            refine wp_region_ext (by kernel_rfl) (by kernel_rfl) (fun F hF => ?_)
            have HF := hid hF; clear hF
            repeat (first
              | (apply text_skip; (focus rfl); simp only [Act.put, List.setIfInBounds_toArray, List.set_cons_zero, List.set_cons_succ])
              | (apply text_val; (focus rfl); (focus (intro _ _; go_simp; with_reducible rfl)); simp only [Act.put, List.setIfInBounds_toArray, List.set_cons_zero, List.set_cons_succ])
              | (apply text_call; (focus rfl); (focus (intro _ _; go_simp; exact ⟨rfl, rfl⟩)); (focus (intro _ _; with_reducible (exact gv _))); simp only [Act.put, List.setIfInBounds_toArray, List.set_cons_zero, List.set_cons_succ])
              | (apply text_call; (focus rfl); (focus (intro _ _; go_simp; exact ⟨rfl, rfl⟩)); (focus (intro _ _; with_reducible (exact gm _))); simp only [Act.put, List.setIfInBounds_toArray, List.set_cons_zero, List.set_cons_succ])
              | (apply text_call; (focus rfl); (focus (intro _ _; go_simp; exact ⟨rfl, rfl⟩)); (focus (intro _ _; with_reducible (exact ga _))); simp only [Act.put, List.setIfInBounds_toArray, List.set_cons_zero, List.set_cons_succ])
              | (apply text_call; (focus rfl); (focus (intro _ _; go_simp; exact ⟨rfl, rfl⟩)); (focus (intro _ _; with_reducible (exact gb _))); simp only [Act.put, List.setIfInBounds_toArray, List.set_cons_zero, List.set_cons_succ])
              | (apply text_if; (focus (first | exact wanted_t rfl rfl | exact wanted_f rfl rfl | exact wanted_gt rfl rfl | exact wanted_gf rfl rfl)); (focus (intro hc _ _; (try simp only [Bool.and_eq_true, Bool.not_eq_true', Bool.true_and] at hc); go_simp; with_reducible rfl)); simp only [Act.put, List.setIfInBounds_toArray, List.set_cons_zero, List.set_cons_succ])
              | (apply text_if_call; (focus (first | exact wanted_t rfl rfl | exact wanted_f rfl rfl | exact wanted_gt rfl rfl | exact wanted_gf rfl rfl)); (focus (intro hc _ _; (try simp only [Bool.and_eq_true, Bool.not_eq_true', Bool.true_and] at hc); go_simp; exact ⟨rfl, rfl⟩)); (focus (intro hc _ _; with_reducible (exact gv _))); simp only [Act.put, List.setIfInBounds_toArray, List.set_cons_zero, List.set_cons_succ])
              | (apply text_if_call; (focus (first | exact wanted_t rfl rfl | exact wanted_f rfl rfl | exact wanted_gt rfl rfl | exact wanted_gf rfl rfl)); (focus (intro hc _ _; (try simp only [Bool.and_eq_true, Bool.not_eq_true', Bool.true_and] at hc); go_simp; exact ⟨rfl, rfl⟩)); (focus (intro hc _ _; with_reducible (exact gm _))); simp only [Act.put, List.setIfInBounds_toArray, List.set_cons_zero, List.set_cons_succ])
              | (apply text_if_call; (focus (first | exact wanted_t rfl rfl | exact wanted_f rfl rfl | exact wanted_gt rfl rfl | exact wanted_gf rfl rfl)); (focus (intro hc _ _; (try simp only [Bool.and_eq_true, Bool.not_eq_true', Bool.true_and] at hc); go_simp; exact ⟨rfl, rfl⟩)); (focus (intro hc _ _; with_reducible (exact ga _))); simp only [Act.put, List.setIfInBounds_toArray, List.set_cons_zero, List.set_cons_succ])
              | (apply text_if_call; (focus (first | exact wanted_t rfl rfl | exact wanted_f rfl rfl | exact wanted_gt rfl rfl | exact wanted_gf rfl rfl)); (focus (intro hc _ _; (try simp only [Bool.and_eq_true, Bool.not_eq_true', Bool.true_and] at hc); go_simp; exact ⟨rfl, rfl⟩)); (focus (intro hc _ _; with_reducible (exact gb _))); simp only [Act.put, List.setIfInBounds_toArray, List.set_cons_zero, List.set_cons_succ]))
            refine text_nil (HF.out _ (fun mx dx => ?_))
            clear HF F
            go_wp2_with fail
            first
            | (go_returns
               exact Pure.of (by rw [HR.out, allB_false hlt HV.out]; rfl) (hbV.trans ((Below.ext_mk hb (by omega) _ _).mono hbV.size)))
            | (go_roundw
               case rel => exact ⟨j + 1, by omega, by go_num, Below.ext_mk hb (by omega) _ _, hid (upto_next HJ.out HV.out)⟩
               case measure => simp [intOf]; omega)
        · have e : j = U := by omega
          subst e
          go_wp2
          go_returns
          exact Pure.of (by rw [HR.out, allB_true HJ.out]; rfl) (hbV.trans (hb.mono hbV.size))
end Go.Proofs.Ytooadmagjpaieaa
