/-
  Contracts of layer 11 (match), more of them.
-/
import Derived.Test.YtooadmagjpaieaaMatch
set_option linter.unusedVariables false
set_option linter.unusedSimpArgs false
namespace Go.Proofs.Ytooadmagjpaieaa
open Go.RowKit

set_option maxHeartbeats 400000 in
theorem meet1_any (v m a b : BitVec 128) (p q : Nat) (w : World) (hp0 : w.cell? ⟨p, 0, none⟩ = some (.int .u64 (hi v))) (hp1 : w.cell? ⟨p, 1, none⟩ = some (.int .u64 (lo v)))
    (hp2 : w.cell? ⟨p, 2, none⟩ = some (.int .u64 (hi m))) (hp3 : w.cell? ⟨p, 3, none⟩ = some (.int .u64 (lo m)))
    (hq0 : w.cell? ⟨q, 0, none⟩ = some (.int .u64 (hi a))) (hq1 : w.cell? ⟨q, 1, none⟩ = some (.int .u64 (lo a)))
    (hq2 : w.cell? ⟨q, 2, none⟩ = some (.int .u64 (hi b))) (hq3 : w.cell? ⟨q, 3, none⟩ = some (.int .u64 (lo b))) :
    Calls Try.prog 28 #[.pointer (some ⟨p, 0, none⟩), .pointer (some ⟨q, 0, none⟩)] w (Pure (.bool (meetB v m a b)) w) := by
  have lp := World.block_lt_of_cell? w _ hp0
  have lq := World.block_lt_of_cell? w _ hq0
  dsimp only at lp lq
  go_enter Try.func28, Try.ntmps28
  go_wp2
  refine wp_region_ext (by kernel_rfl) (by kernel_rfl) (fun F hF => ?_)
  have HF := hid hF; clear hF
  repeat (first
    | (apply text_skip; (focus rfl); simp only [Act.put, List.setIfInBounds_toArray, List.set_cons_zero, List.set_cons_succ])
    | (apply text_val; (focus rfl); (focus (intro _ _; go_simp; with_reducible rfl)); simp only [Act.put, List.setIfInBounds_toArray, List.set_cons_zero, List.set_cons_succ])
    | (apply text_call; (focus rfl); (focus (intro _ _; go_simp; exact ⟨rfl, rfl⟩)); (focus (intro _ _; with_reducible (exact and_any _ _ _))); simp only [Act.put, List.setIfInBounds_toArray, List.set_cons_zero, List.set_cons_succ])
    | (apply text_call; (focus rfl); (focus (intro _ _; go_simp; exact ⟨rfl, rfl⟩)); (focus (intro _ _; with_reducible (exact xor_any _ _ _))); simp only [Act.put, List.setIfInBounds_toArray, List.set_cons_zero, List.set_cons_succ])
    | (apply text_if; (focus (first | exact wanted_t rfl rfl | exact wanted_f rfl rfl | exact wanted_gt rfl rfl | exact wanted_gf rfl rfl)); (focus (intro hc _ _; (try simp only [Bool.and_eq_true, Bool.not_eq_true', Bool.true_and] at hc); go_simp; with_reducible rfl)); simp only [Act.put, List.setIfInBounds_toArray, List.set_cons_zero, List.set_cons_succ])
    | (apply text_if_call; (focus (first | exact wanted_t rfl rfl | exact wanted_f rfl rfl | exact wanted_gt rfl rfl | exact wanted_gf rfl rfl)); (focus (intro hc _ _; (try simp only [Bool.and_eq_true, Bool.not_eq_true', Bool.true_and] at hc); go_simp; exact ⟨rfl, rfl⟩)); (focus (intro hc _ _; with_reducible (exact and_any _ _ _))); simp only [Act.put, List.setIfInBounds_toArray, List.set_cons_zero, List.set_cons_succ])
    | (apply text_if_call; (focus (first | exact wanted_t rfl rfl | exact wanted_f rfl rfl | exact wanted_gt rfl rfl | exact wanted_gf rfl rfl)); (focus (intro hc _ _; (try simp only [Bool.and_eq_true, Bool.not_eq_true', Bool.true_and] at hc); go_simp; exact ⟨rfl, rfl⟩)); (focus (intro hc _ _; with_reducible (exact xor_any _ _ _))); simp only [Act.put, List.setIfInBounds_toArray, List.set_cons_zero, List.set_cons_succ]))
  refine text_nil (HF.out _ (fun mx dx => ?_))
  clear HF F
  go_wp2
  go_returns
  exact Pure.of (by simp [meetB]) (by (repeat' (first | (with_reducible exact Below.refl _ _) | (with_reducible refine Below.ext_mk ?_ ?_ _ _) | (with_reducible refine Below.alloc ?_ ?_ _) | (with_reducible refine Below.drew ?_) | (with_reducible refine Below.setCell ?_ ?_ _) | go_size)))

theorem both_any' (k : Nat) (cap : Array Value) (hk : ∀ args w, (callFunc k args).run Try.prog w = .ok (.enter k args) w) (v m a b : BitVec 128) (u : Int) (h1 : -9223372036854775808 ≤ u) (h2 : u ≤ 9223372036854775807) (r : Bool) (w : World)
    (hc : ∀ w', Below w.heap.size w w' → Calls Try.prog k cap w' (Pure (.bool r) w')) :
    Calls Try.prog 25 #[pv v m, pv a b, .int .i64 u, .func (.func k) #[] cap] w (Pure (.bool (mayB v m u && mayB a b u && r)) w) := by
  cases e1 : mayB v m u
  · have c1 : ∀ w, Calls Try.prog 9 #[pv v m, .int .i64 u] w (Pure (.bool false) w) := fun w => e1 ▸ may_any v m u h1 h2 w
    have Hc := hid hc; clear hc
    go_enter Try.func25, Try.ntmps25
    go_wp2_with (first | ((with_reducible refine (c1 _).mono ?_); rintro e w' ⟨rfl, m1, d1, rfl⟩))
    go_returns
    exact Pure.of rfl (by (repeat' (first | (with_reducible exact Below.refl _ _) | (with_reducible refine Below.ext_mk ?_ ?_ _ _) | (with_reducible refine Below.alloc ?_ ?_ _) | (with_reducible refine Below.drew ?_) | (with_reducible refine Below.setCell ?_ ?_ _) | go_size)))
  · have c1 : ∀ w, Calls Try.prog 9 #[pv v m, .int .i64 u] w (Pure (.bool true) w) := fun w => e1 ▸ may_any v m u h1 h2 w
    cases e2 : mayB a b u
    · have c2 : ∀ w, Calls Try.prog 9 #[pv a b, .int .i64 u] w (Pure (.bool false) w) := fun w => e2 ▸ may_any a b u h1 h2 w
      have Hc := hid hc; clear hc
      go_enter Try.func25, Try.ntmps25
      go_wp2_with (first | ((with_reducible refine (c1 _).mono ?_); rintro e w' ⟨rfl, m1, d1, rfl⟩) | ((with_reducible refine (c2 _).mono ?_); rintro e w' ⟨rfl, m1, d1, rfl⟩))
      go_returns
      exact Pure.of rfl (by (repeat' (first | (with_reducible exact Below.refl _ _) | (with_reducible refine Below.ext_mk ?_ ?_ _ _) | (with_reducible refine Below.alloc ?_ ?_ _) | (with_reducible refine Below.drew ?_) | (with_reducible refine Below.setCell ?_ ?_ _) | go_size)))
    · have c2 : ∀ w, Calls Try.prog 9 #[pv a b, .int .i64 u] w (Pure (.bool true) w) := fun w => e2 ▸ may_any a b u h1 h2 w
      have Hc := hid hc; clear hc
      go_enter Try.func25, Try.ntmps25
      go_wp2_with (first | ((with_reducible refine (c1 _).mono ?_); rintro e w' ⟨rfl, m1, d1, rfl⟩) | ((with_reducible refine (c2 _).mono ?_); rintro e w' ⟨rfl, m1, d1, rfl⟩) | ((with_reducible refine (Hc.out _ ?_).mono ?_); (focus (repeat' (first | (with_reducible exact Below.refl _ _) | (with_reducible refine Below.ext_mk ?_ ?_ _ _) | (with_reducible refine Below.alloc ?_ ?_ _) | (with_reducible refine Below.drew ?_) | (with_reducible refine Below.setCell ?_ ?_ _) | go_size))); rintro e w' ⟨rfl, m1, d1, rfl⟩))
      go_returns
      exact Pure.of rfl (by (repeat' (first | (with_reducible exact Below.refl _ _) | (with_reducible refine Below.ext_mk ?_ ?_ _ _) | (with_reducible refine Below.alloc ?_ ?_ _) | (with_reducible refine Below.drew ?_) | (with_reducible refine Below.setCell ?_ ?_ _) | go_size)))

theorem within_any (v m a b : BitVec 128) (u : Int) (h1 : -9223372036854775808 ≤ u) (h2 : u ≤ 9223372036854775807) (w : World) :
    Calls Try.prog 6 #[pv v m, pv a b, .int .i64 u] w (Pure (.bool (mayB v m u && mayB a b u && withinB v m a b)) w) := by
  go_enter Try.func6, Try.ntmps6
  go_wp2_with (go_at_call 25; refine (both_any' 26 _ (fun _ _ => by kernel_rfl) v m a b u h1 h2 (withinB v m a b) _ ?_).mono ?_; (focus (intro w' hb; refine within1_any v m a b _ _ _ ?_ ?_ ?_ ?_ ?_ ?_ ?_ ?_ <;> (rw [hb.cell (by simp)]; go_simp))); rintro e w' ⟨rfl, m1, d1, rfl⟩)
  go_returns
  exact Pure.of rfl (by (repeat' (first | (with_reducible exact Below.refl _ _) | (with_reducible refine Below.ext_mk ?_ ?_ _ _) | (with_reducible refine Below.alloc ?_ ?_ _) | (with_reducible refine Below.drew ?_) | (with_reducible refine Below.setCell ?_ ?_ _) | go_size)))
theorem meet_any (v m a b : BitVec 128) (u : Int) (h1 : -9223372036854775808 ≤ u) (h2 : u ≤ 9223372036854775807) (w : World) :
    Calls Try.prog 7 #[pv v m, pv a b, .int .i64 u] w (Pure (.bool (mayB v m u && mayB a b u && meetB v m a b)) w) := by
  go_enter Try.func7, Try.ntmps7
  go_wp2_with (go_at_call 25; refine (both_any' 28 _ (fun _ _ => by kernel_rfl) v m a b u h1 h2 (meetB v m a b) _ ?_).mono ?_; (focus (intro w' hb; refine meet1_any v m a b _ _ _ ?_ ?_ ?_ ?_ ?_ ?_ ?_ ?_ <;> (rw [hb.cell (by simp)]; go_simp))); rintro e w' ⟨rfl, m1, d1, rfl⟩)
  go_returns
  exact Pure.of rfl (by (repeat' (first | (with_reducible exact Below.refl _ _) | (with_reducible refine Below.ext_mk ?_ ?_ _ _) | (with_reducible refine Below.alloc ?_ ?_ _) | (with_reducible refine Below.drew ?_) | (with_reducible refine Below.setCell ?_ ?_ _) | go_size)))

/-- The mask of a width's highest bits. -/
def highOf (l u : Int) : BitVec 128 := (maskOf l <<< (sh (wrap64 (u - l))).toNat) &&& maskOf u
theorem high_any (l u : Int) (h1 : -9223372036854775808 ≤ l) (h2 : l ≤ 9223372036854775807) (h3 : -9223372036854775808 ≤ u) (h4 : u ≤ 9223372036854775807) (w : World) :
    Calls Try.prog 36 #[.int .i64 l, .int .i64 u] w (Pure (nv (highOf l u)) w) := by
  have hw1 : -9223372036854775808 ≤ wrap64 (u - l) := by unfold wrap64; omega
  have hw2 : wrap64 (u - l) ≤ 9223372036854775807 := by unfold wrap64; omega
  go_enter Try.func36, Try.ntmps36
  go_wp2_with (first
    | (go_at_call 34; refine (mask_any _ h1 h2 _).mono ?_; rintro e w' ⟨rfl, m, d, rfl⟩)
    | (go_at_call 47; refine (shl_any _ _ _ hw1 hw2 h3 h4 _).mono ?_; rintro e w' ⟨rfl, m, d, rfl⟩))
  go_returns
  exact Pure.of rfl (by (repeat' (first | (with_reducible exact Below.refl _ _) | (with_reducible refine Below.ext_mk ?_ ?_ _ _) | (with_reducible refine Below.alloc ?_ ?_ _) | (with_reducible refine Below.drew ?_) | (with_reducible refine Below.setCell ?_ ?_ _) | go_size)))

def prefixV (n : BitVec 128) (l u : Int) : Value :=
  if isW u && (decide (l < 0) || decide (u < l)) then .tuple #[pv 0#128 0#128, .int .i64 5] else madeV n (highOf l u) u
theorem pref_neg {l u : Int} (h : isW u = false ∨ 0 ≤ l ∧ l ≤ u) : ¬ ((isW u && (decide (l < 0) || decide (u < l))) = true) := by
  rcases h with h | h
  · simp [h]
  · simp; intro _; omega
theorem prefix_any (n : BitVec 128) (l u : Int) (h1 : -9223372036854775808 ≤ l) (h2 : l ≤ 9223372036854775807) (h3 : -9223372036854775808 ≤ u) (h4 : u ≤ 9223372036854775807) (w : World) :
    Calls Try.prog 18 #[nv n, .int .i64 l, .int .i64 u] w (Pure (prefixV n l u) w) := by
  obtain ⟨a, b, c, hv⟩ := madeV_form n (highOf l u) u
  have c1 : ∀ w, Calls Try.prog 32 #[nv n, nv (highOf l u), .int .i64 u] w (Pure (.tuple #[pv a b, .int .i64 c]) w) := fun w => hv ▸ made_any n (highOf l u) u h3 h4 w
  have Hv := hid hv; clear hv
  go_enter Try.func18, Try.ntmps18
  go_upto_region 1 with (fail)
  refine wp_region_seq (fun F hF => ?_)
  have HF := hid hF; clear hF
  repeat (first
    | (apply text_skip; (focus rfl); simp only [Act.put, List.setIfInBounds_toArray, List.set_cons_zero, List.set_cons_succ])
    | (apply text_val; (focus rfl); (focus (intro _ _; go_simp; with_reducible rfl)); simp only [Act.put, List.setIfInBounds_toArray, List.set_cons_zero, List.set_cons_succ])
    | (apply text_call; (focus rfl); (focus (intro _ _; go_simp; exact ⟨rfl, rfl⟩)); (focus (intro _ _; with_reducible (exact isWidth_any _ _))); simp only [Act.put, List.setIfInBounds_toArray, List.set_cons_zero, List.set_cons_succ])
    | (apply text_if; (focus (first | exact wanted_t rfl rfl | exact wanted_f rfl rfl | exact wanted_gt rfl rfl | exact wanted_gf rfl rfl)); (focus (intro hc _ _; (try simp only [Bool.and_eq_true, Bool.not_eq_true', Bool.true_and] at hc); go_simp; with_reducible rfl)); simp only [Act.put, List.setIfInBounds_toArray, List.set_cons_zero, List.set_cons_succ])
    | (apply text_if_call; (focus (first | exact wanted_t rfl rfl | exact wanted_f rfl rfl | exact wanted_gt rfl rfl | exact wanted_gf rfl rfl)); (focus (intro hc _ _; (try simp only [Bool.and_eq_true, Bool.not_eq_true', Bool.true_and] at hc); go_simp; exact ⟨rfl, rfl⟩)); (focus (intro hc _ _; with_reducible (exact isWidth_any _ _))); simp only [Act.put, List.setIfInBounds_toArray, List.set_cons_zero, List.set_cons_succ]))
  refine text_nil (HF.out _ (fun mx dx => ?_))
  clear HF F
  go_wp2_with fail
  · go_returns
    exact Pure.of (by unfold prefixV; rw [if_pos (by simp; assumption)]; rfl) (by (repeat' (first | (with_reducible exact Below.refl _ _) | (with_reducible refine Below.ext_mk ?_ ?_ _ _) | (with_reducible refine Below.alloc ?_ ?_ _) | (with_reducible refine Below.drew ?_) | (with_reducible refine Below.setCell ?_ ?_ _) | go_size)))
  · have hn : isW u = false ∨ 0 ≤ l ∧ l ≤ u := by assumption
    have Hn := hid (pref_neg hn); clear hn
    refine wp_region_store 8 (by kernel_rfl) (by kernel_rfl) (by kernel_rfl) rfl (fun F hF G hG => ?_)
    simp only [List.take_succ_cons, List.take_zero, List.drop_succ_cons, List.drop_zero] at hG ⊢
    have HF := hid hF; clear hF
    have HG := hid hG; clear hG
    repeat (first
      | (apply text_skip; (focus rfl); simp only [Act.put, List.setIfInBounds_toArray, List.set_cons_zero, List.set_cons_succ])
      | (apply text_val; (focus rfl); (focus (intro _ _; go_simp; with_reducible rfl)); simp only [Act.put, List.setIfInBounds_toArray, List.set_cons_zero, List.set_cons_succ])
      | (apply text_call; (focus rfl); (focus (intro _ _; go_simp; exact ⟨rfl, rfl⟩)); (focus (intro _ _; with_reducible (exact high_any _ _ h1 h2 h3 h4 _))); simp only [Act.put, List.setIfInBounds_toArray, List.set_cons_zero, List.set_cons_succ])
      | (apply text_call; (focus rfl); (focus (intro _ _; go_simp; exact ⟨rfl, rfl⟩)); (focus (intro _ _; with_reducible (exact c1 _))); simp only [Act.put, List.setIfInBounds_toArray, List.set_cons_zero, List.set_cons_succ])
      | (apply text_if; (focus (first | exact wanted_t rfl rfl | exact wanted_f rfl rfl | exact wanted_gt rfl rfl | exact wanted_gf rfl rfl)); (focus (intro hc _ _; (try simp only [Bool.and_eq_true, Bool.not_eq_true', Bool.true_and] at hc); go_simp; with_reducible rfl)); simp only [Act.put, List.setIfInBounds_toArray, List.set_cons_zero, List.set_cons_succ])
      | (apply text_if_call; (focus (first | exact wanted_t rfl rfl | exact wanted_f rfl rfl | exact wanted_gt rfl rfl | exact wanted_gf rfl rfl)); (focus (intro hc _ _; (try simp only [Bool.and_eq_true, Bool.not_eq_true', Bool.true_and] at hc); go_simp; exact ⟨rfl, rfl⟩)); (focus (intro hc _ _; with_reducible (exact high_any _ _ h1 h2 h3 h4 _))); simp only [Act.put, List.setIfInBounds_toArray, List.set_cons_zero, List.set_cons_succ])
      | (apply text_if_call; (focus (first | exact wanted_t rfl rfl | exact wanted_f rfl rfl | exact wanted_gt rfl rfl | exact wanted_gf rfl rfl)); (focus (intro hc _ _; (try simp only [Bool.and_eq_true, Bool.not_eq_true', Bool.true_and] at hc); go_simp; exact ⟨rfl, rfl⟩)); (focus (intro hc _ _; with_reducible (exact c1 _))); simp only [Act.put, List.setIfInBounds_toArray, List.set_cons_zero, List.set_cons_succ]))
    refine text_nil (HG.out _ ?_)
    clear HG G
    apply store_step; (focus rfl); (focus (intro _ _; apply Exists.intro; apply Exists.intro; go_simp; with_reducible rfl))
    try simp only [Act.put, List.setIfInBounds_toArray, List.set_cons_zero, List.set_cons_succ]
    repeat (apply both_val; (focus rfl); (focus (intro _; go_simp; with_reducible rfl)); simp only [Act.put, List.setIfInBounds_toArray, List.set_cons_zero, List.set_cons_succ])
    refine both_nil (HF.out _ _ (fun mx dx => ?_))
    clear HF F
    go_wp2_with fail
    go_returns
    exact Pure.of (by unfold prefixV; rw [if_neg Hn.out]; exact Hv.out.symm) (by (repeat' (first | (with_reducible exact Below.refl _ _) | (with_reducible refine Below.ext_mk ?_ ?_ _ _) | (with_reducible refine Below.alloc ?_ ?_ _) | (with_reducible refine Below.drew ?_) | (with_reducible refine Below.setCell ?_ ?_ _) | go_size)))

end Go.Proofs.Ytooadmagjpaieaa
