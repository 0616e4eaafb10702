/-
  Contracts of layer 11 (match).
-/
import Derived.Test.YtooadmagjpaieaaNum
set_option linter.unusedVariables false
set_option linter.unusedSimpArgs false
namespace Go.Proofs.Ytooadmagjpaieaa
open Go.RowKit

/-- A pattern as Go holds it. -/
abbrev pv (v m : BitVec 128) : Value := .agg #[.int .u64 (hi v), .int .u64 (lo v), .int .u64 (hi m), .int .u64 (lo m)]
theorem pv_inj {a b c d : BitVec 128} : (hi a = hi c ∧ lo a = lo c ∧ hi b = hi d ∧ lo b = lo d) ↔ (a = c ∧ b = d) :=
  ⟨fun ⟨h1, h2, h3, h4⟩ => ⟨nv_ext h1 h2, nv_ext h3 h4⟩, fun ⟨h1, h2⟩ => by subst h1; subst h2; exact ⟨rfl, rfl, rfl, rfl⟩⟩

def isW (k : Int) : Bool := decide (1 ≤ k) && decide (k ≤ 128)
theorem isWidth_any (k : Int) (w : World) :
    Calls Try.prog 30 #[.int .i64 k] w (Pure (.bool (isW k)) w) := by
  by_cases h : 1 ≤ k
  · go_enter Try.func30, Try.ntmps30
    go_wp2
    go_returns
    exact Pure.of (by simp [isW, h]) (by (repeat' (first | (with_reducible exact Below.refl _ _) | (with_reducible refine Below.ext_mk ?_ ?_ _ _) | (with_reducible refine Below.alloc ?_ ?_ _) | (with_reducible refine Below.drew ?_) | (with_reducible refine Below.setCell ?_ ?_ _) | go_size)))
  · go_enter Try.func30, Try.ntmps30
    go_wp2
    go_returns
    exact Pure.of (by simp [isW]; omega) (by (repeat' (first | (with_reducible exact Below.refl _ _) | (with_reducible refine Below.ext_mk ?_ ?_ _ _) | (with_reducible refine Below.alloc ?_ ?_ _) | (with_reducible refine Below.drew ?_) | (with_reducible refine Below.setCell ?_ ?_ _) | go_size)))

def mayB (v m : BitVec 128) (k : Int) : Bool := isW k && fits v k && fits m k && decide (v = v &&& m)

theorem may_any (v m : BitVec 128) (k : Int) (h1 : -9223372036854775808 ≤ k) (h2 : k ≤ 9223372036854775807) (w : World) :
    Calls Try.prog 9 #[pv v m, .int .i64 k] w (Pure (.bool (mayB v m k)) w) := by
  go_enter Try.func9, Try.ntmps9
  go_wp2
  refine wp_region_ext (by kernel_rfl) (by kernel_rfl) (fun F hF => ?_)
  have HF := hid hF; clear hF
  repeat (first
    | (apply text_skip; (focus rfl); simp only [Act.put, List.setIfInBounds_toArray, List.set_cons_zero, List.set_cons_succ])
    | (apply text_val; (focus rfl); (focus (intro _ _; go_simp; with_reducible rfl)); simp only [Act.put, List.setIfInBounds_toArray, List.set_cons_zero, List.set_cons_succ])
    | (apply text_call; (focus rfl); (focus (intro _ _; go_simp; exact ⟨rfl, rfl⟩)); (focus (intro _ _; with_reducible (exact isWidth_any _ _))); simp only [Act.put, List.setIfInBounds_toArray, List.set_cons_zero, List.set_cons_succ])
    | (apply text_call; (focus rfl); (focus (intro _ _; go_simp; exact ⟨rfl, rfl⟩)); (focus (intro _ _; with_reducible (exact fits_any _ _ h1 h2 _))); simp only [Act.put, List.setIfInBounds_toArray, List.set_cons_zero, List.set_cons_succ])
    | (apply text_call; (focus rfl); (focus (intro _ _; go_simp; exact ⟨rfl, rfl⟩)); (focus (intro _ _; with_reducible (exact and_any _ _ _))); simp only [Act.put, List.setIfInBounds_toArray, List.set_cons_zero, List.set_cons_succ])
    | (apply text_if; (focus (first | exact wanted_t rfl rfl | exact wanted_f rfl rfl | exact wanted_gt rfl rfl | exact wanted_gf rfl rfl)); (focus (intro hc _ _; (try simp only [Bool.and_eq_true, Bool.not_eq_true', Bool.true_and] at hc); go_simp; with_reducible rfl)); simp only [Act.put, List.setIfInBounds_toArray, List.set_cons_zero, List.set_cons_succ])
    | (apply text_if_call; (focus (first | exact wanted_t rfl rfl | exact wanted_f rfl rfl | exact wanted_gt rfl rfl | exact wanted_gf rfl rfl)); (focus (intro hc _ _; (try simp only [Bool.and_eq_true, Bool.not_eq_true', Bool.true_and] at hc); go_simp; exact ⟨rfl, rfl⟩)); (focus (intro hc _ _; with_reducible (exact isWidth_any _ _))); simp only [Act.put, List.setIfInBounds_toArray, List.set_cons_zero, List.set_cons_succ])
    | (apply text_if_call; (focus (first | exact wanted_t rfl rfl | exact wanted_f rfl rfl | exact wanted_gt rfl rfl | exact wanted_gf rfl rfl)); (focus (intro hc _ _; (try simp only [Bool.and_eq_true, Bool.not_eq_true', Bool.true_and] at hc); go_simp; exact ⟨rfl, rfl⟩)); (focus (intro hc _ _; with_reducible (exact fits_any _ _ h1 h2 _))); simp only [Act.put, List.setIfInBounds_toArray, List.set_cons_zero, List.set_cons_succ])
    | (apply text_if_call; (focus (first | exact wanted_t rfl rfl | exact wanted_f rfl rfl | exact wanted_gt rfl rfl | exact wanted_gf rfl rfl)); (focus (intro hc _ _; (try simp only [Bool.and_eq_true, Bool.not_eq_true', Bool.true_and] at hc); go_simp; exact ⟨rfl, rfl⟩)); (focus (intro hc _ _; with_reducible (exact and_any _ _ _))); simp only [Act.put, List.setIfInBounds_toArray, List.set_cons_zero, List.set_cons_succ]))
  refine text_nil (HF.out _ (fun mx dx => ?_))
  clear HF F
  go_wp2
  go_returns
  exact Pure.of rfl (by (repeat' (first | (with_reducible exact Below.refl _ _) | (with_reducible refine Below.ext_mk ?_ ?_ _ _) | (with_reducible refine Below.alloc ?_ ?_ _) | (with_reducible refine Below.drew ?_) | (with_reducible refine Below.setCell ?_ ?_ _) | go_size)))

def agreesB (v m n : BitVec 128) : Bool := decide (n &&& m = v)
theorem agrees_any (v m n : BitVec 128) (w : World) :
    Calls Try.prog 8 #[pv v m, nv n] w (Pure (.bool (agreesB v m n)) w) := by
  go_enter Try.func8, Try.ntmps8
  go_wp2
  refine wp_region_ext (by kernel_rfl) (by kernel_rfl) (fun F hF => ?_)
  have HF := hid hF; clear hF
  repeat (first
    | (apply text_skip; (focus rfl); simp only [Act.put, List.setIfInBounds_toArray, List.set_cons_zero, List.set_cons_succ])
    | (apply text_val; (focus rfl); (focus (intro _ _; go_simp; with_reducible rfl)); simp only [Act.put, List.setIfInBounds_toArray, List.set_cons_zero, List.set_cons_succ])
    | (apply text_call; (focus rfl); (focus (intro _ _; go_simp; exact ⟨rfl, rfl⟩)); (focus (intro _ _; with_reducible (exact and_any _ _ _))); simp only [Act.put, List.setIfInBounds_toArray, List.set_cons_zero, List.set_cons_succ])
    | (apply text_if; (focus (first | exact wanted_t rfl rfl | exact wanted_f rfl rfl | exact wanted_gt rfl rfl | exact wanted_gf rfl rfl)); (focus (intro hc _ _; (try simp only [Bool.and_eq_true, Bool.not_eq_true', Bool.true_and] at hc); go_simp; with_reducible rfl)); simp only [Act.put, List.setIfInBounds_toArray, List.set_cons_zero, List.set_cons_succ])
    | (apply text_if_call; (focus (first | exact wanted_t rfl rfl | exact wanted_f rfl rfl | exact wanted_gt rfl rfl | exact wanted_gf rfl rfl)); (focus (intro hc _ _; (try simp only [Bool.and_eq_true, Bool.not_eq_true', Bool.true_and] at hc); go_simp; exact ⟨rfl, rfl⟩)); (focus (intro hc _ _; with_reducible (exact and_any _ _ _))); simp only [Act.put, List.setIfInBounds_toArray, List.set_cons_zero, List.set_cons_succ]))
  refine text_nil (HF.out _ (fun mx dx => ?_))
  clear HF F
  go_wp2
  go_returns
  exact Pure.of rfl (by (repeat' (first | (with_reducible exact Below.refl _ _) | (with_reducible refine Below.ext_mk ?_ ?_ _ _) | (with_reducible refine Below.alloc ?_ ?_ _) | (with_reducible refine Below.drew ?_) | (with_reducible refine Below.setCell ?_ ?_ _) | go_size)))

/-- A pattern that is made, or why it is none. -/
def madeV (n m : BitVec 128) (k : Int) : Value :=
  if isW k then (if fits n k && fits m k then .tuple #[pv (n &&& m) m, .int .i64 0] else .tuple #[pv 0#128 0#128, .int .i64 5]) else .tuple #[pv 0#128 0#128, .int .i64 2]

theorem made_any (n m : BitVec 128) (k : Int) (h1 : -9223372036854775808 ≤ k) (h2 : k ≤ 9223372036854775807) (w : World) :
    Calls Try.prog 32 #[nv n, nv m, .int .i64 k] w (Pure (madeV n m k) w) := by
  cases e1 : isW k
  · have c1 : ∀ w, Calls Try.prog 30 #[.int .i64 k] w (Pure (.bool false) w) := fun w => e1 ▸ isWidth_any k w
    go_enter Try.func32, Try.ntmps32
    go_wp2_with (go_at_call 30; refine (c1 _).mono ?_; rintro e w' ⟨rfl, m1, d1, rfl⟩)
    go_returns
    exact Pure.of (by unfold madeV; rw [e1]; rfl) (by (repeat' (first | (with_reducible exact Below.refl _ _) | (with_reducible refine Below.ext_mk ?_ ?_ _ _) | (with_reducible refine Below.alloc ?_ ?_ _) | (with_reducible refine Below.drew ?_) | (with_reducible refine Below.setCell ?_ ?_ _) | go_size)))
  · have c1 : ∀ w, Calls Try.prog 30 #[.int .i64 k] w (Pure (.bool true) w) := fun w => e1 ▸ isWidth_any k w
    cases e2 : fits n k
    · have c2 : ∀ w, Calls Try.prog 31 #[nv n, .int .i64 k] w (Pure (.bool false) w) := fun w => e2 ▸ fits_any n k h1 h2 w
      go_enter Try.func32, Try.ntmps32
      go_wp2_with (first | ((with_reducible refine (c1 _).mono ?_); rintro e w' ⟨rfl, m1, d1, rfl⟩) | ((with_reducible refine (c2 _).mono ?_); rintro e w' ⟨rfl, m1, d1, rfl⟩))
      go_returns
      exact Pure.of (by unfold madeV; rw [e1, e2]; rfl) (by (repeat' (first | (with_reducible exact Below.refl _ _) | (with_reducible refine Below.ext_mk ?_ ?_ _ _) | (with_reducible refine Below.alloc ?_ ?_ _) | (with_reducible refine Below.drew ?_) | (with_reducible refine Below.setCell ?_ ?_ _) | go_size)))
    · have c2 : ∀ w, Calls Try.prog 31 #[nv n, .int .i64 k] w (Pure (.bool true) w) := fun w => e2 ▸ fits_any n k h1 h2 w
      cases e3 : fits m k
      · have c3 : ∀ w, Calls Try.prog 31 #[nv m, .int .i64 k] w (Pure (.bool false) w) := fun w => e3 ▸ fits_any m k h1 h2 w
        go_enter Try.func32, Try.ntmps32
        go_wp2_with (first | ((with_reducible refine (c1 _).mono ?_); rintro e w' ⟨rfl, m1, d1, rfl⟩) | ((with_reducible refine (c2 _).mono ?_); rintro e w' ⟨rfl, m1, d1, rfl⟩) | ((with_reducible refine (c3 _).mono ?_); rintro e w' ⟨rfl, m1, d1, rfl⟩))
        go_returns
        exact Pure.of (by unfold madeV; rw [e1, e2, e3]; rfl) (by (repeat' (first | (with_reducible exact Below.refl _ _) | (with_reducible refine Below.ext_mk ?_ ?_ _ _) | (with_reducible refine Below.alloc ?_ ?_ _) | (with_reducible refine Below.drew ?_) | (with_reducible refine Below.setCell ?_ ?_ _) | go_size)))
      · have c3 : ∀ w, Calls Try.prog 31 #[nv m, .int .i64 k] w (Pure (.bool true) w) := fun w => e3 ▸ fits_any m k h1 h2 w
        go_enter Try.func32, Try.ntmps32
        go_wp2_with (first | ((with_reducible refine (c1 _).mono ?_); rintro e w' ⟨rfl, m1, d1, rfl⟩) | ((with_reducible refine (c2 _).mono ?_); rintro e w' ⟨rfl, m1, d1, rfl⟩) | ((with_reducible refine (c3 _).mono ?_); rintro e w' ⟨rfl, m1, d1, rfl⟩))
        refine wp_region_store 5 (by kernel_rfl) (by kernel_rfl) (by kernel_rfl) rfl (fun F hF G hG => ?_)
        simp only [List.take_succ_cons, List.take_zero, List.drop_succ_cons, List.drop_zero] at hG ⊢
        have HF := hid hF; clear hF
        have HG := hid hG; clear hG
        repeat (first
          | (apply text_skip; (focus rfl); simp only [Act.put, List.setIfInBounds_toArray, List.set_cons_zero, List.set_cons_succ])
          | (apply text_val; (focus rfl); (focus (intro _ _; go_simp; with_reducible rfl)); simp only [Act.put, List.setIfInBounds_toArray, List.set_cons_zero, List.set_cons_succ])
          | (apply text_call; (focus rfl); (focus (intro _ _; go_simp; exact ⟨rfl, rfl⟩)); (focus (intro _ _; with_reducible (exact and_any _ _ _))); simp only [Act.put, List.setIfInBounds_toArray, List.set_cons_zero, List.set_cons_succ])
          | (apply text_if; (focus (first | exact wanted_t rfl rfl | exact wanted_f rfl rfl | exact wanted_gt rfl rfl | exact wanted_gf rfl rfl)); (focus (intro hc _ _; (try simp only [Bool.and_eq_true, Bool.not_eq_true', Bool.true_and] at hc); go_simp; with_reducible rfl)); simp only [Act.put, List.setIfInBounds_toArray, List.set_cons_zero, List.set_cons_succ])
          | (apply text_if_call; (focus (first | exact wanted_t rfl rfl | exact wanted_f rfl rfl | exact wanted_gt rfl rfl | exact wanted_gf rfl rfl)); (focus (intro hc _ _; (try simp only [Bool.and_eq_true, Bool.not_eq_true', Bool.true_and] at hc); go_simp; exact ⟨rfl, rfl⟩)); (focus (intro hc _ _; with_reducible (exact and_any _ _ _))); simp only [Act.put, List.setIfInBounds_toArray, List.set_cons_zero, List.set_cons_succ]))
        refine text_nil (HG.out _ ?_)
        clear HG G
        apply store_step; (focus rfl); (focus (intro _ _; apply Exists.intro; apply Exists.intro; go_simp; with_reducible rfl))
        try simp only [Act.put, List.setIfInBounds_toArray, List.set_cons_zero, List.set_cons_succ]
        repeat (apply both_val; (focus rfl); (focus (intro _; go_simp; with_reducible rfl)); simp only [Act.put, List.setIfInBounds_toArray, List.set_cons_zero, List.set_cons_succ])
        refine both_nil (HF.out _ _ (fun mx dx => ?_))
        clear HF F
        go_wp2
        go_returns
        exact Pure.of (by unfold madeV; rw [e1, e2, e3]; rfl) (by (repeat' (first | (with_reducible exact Below.refl _ _) | (with_reducible refine Below.ext_mk ?_ ?_ _ _) | (with_reducible refine Below.alloc ?_ ?_ _) | (with_reducible refine Below.drew ?_) | (with_reducible refine Below.setCell ?_ ?_ _) | go_size)))

/-- What 'made' tells lies in a tuple of a pattern and a number. -/
theorem madeV_form (n m : BitVec 128) (k : Int) : ∃ (a b : BitVec 128) (c : Int), madeV n m k = .tuple #[pv a b, .int .i64 c] := by
  unfold madeV
  split
  · split
    · exact ⟨_, _, _, rfl⟩
    · exact ⟨_, _, _, rfl⟩
  · exact ⟨_, _, _, rfl⟩

theorem masked_any (n m : BitVec 128) (k : Int) (h1 : -9223372036854775808 ≤ k) (h2 : k ≤ 9223372036854775807) (w : World) :
    Calls Try.prog 10 #[nv n, nv m, .int .i64 k] w (Pure (madeV n m k) w) := by
  obtain ⟨a, b, c, hv⟩ := madeV_form n m k
  have c1 : ∀ w, Calls Try.prog 32 #[nv n, nv m, .int .i64 k] w (Pure (.tuple #[pv a b, .int .i64 c]) w) := fun w => hv ▸ made_any n m k h1 h2 w
  have Hv := hid hv; clear hv
  go_enter Try.func10, Try.ntmps10
  go_wp2_with ((with_reducible refine (c1 _).mono ?_); rintro e w' ⟨rfl, m1, d1, rfl⟩)
  go_returns
  exact Pure.of (Hv.out.symm) (by (repeat' (first | (with_reducible exact Below.refl _ _) | (with_reducible refine Below.ext_mk ?_ ?_ _ _) | (with_reducible refine Below.alloc ?_ ?_ _) | (with_reducible refine Below.drew ?_) | (with_reducible refine Below.setCell ?_ ?_ _) | go_size)))

def withinB (v m a b : BitVec 128) : Bool := decide (m &&& b = b) && decide (v &&& b = a)
def meetB (v m a b : BitVec 128) : Bool := decide ((v ^^^ a) &&& (m &&& b) = 0#128)

set_option maxHeartbeats 400000 in
theorem within1_any (v m a b : BitVec 128) (p q : Nat) (w : World) (hp0 : w.cell? ⟨p, 0, none⟩ = some (.int .u64 (hi v))) (hp1 : w.cell? ⟨p, 1, none⟩ = some (.int .u64 (lo v)))
    (hp2 : w.cell? ⟨p, 2, none⟩ = some (.int .u64 (hi m))) (hp3 : w.cell? ⟨p, 3, none⟩ = some (.int .u64 (lo m)))
    (hq0 : w.cell? ⟨q, 0, none⟩ = some (.int .u64 (hi a))) (hq1 : w.cell? ⟨q, 1, none⟩ = some (.int .u64 (lo a)))
    (hq2 : w.cell? ⟨q, 2, none⟩ = some (.int .u64 (hi b))) (hq3 : w.cell? ⟨q, 3, none⟩ = some (.int .u64 (lo b))) :
    Calls Try.prog 26 #[.pointer (some ⟨p, 0, none⟩), .pointer (some ⟨q, 0, none⟩)] w (Pure (.bool (withinB v m a b)) w) := by
  have lp := World.block_lt_of_cell? w _ hp0
  have lq := World.block_lt_of_cell? w _ hq0
  dsimp only at lp lq
  by_cases e1 : m &&& b = b
  · go_enter Try.func26, Try.ntmps26
    go_wp2
    have E1 : decide (m &&& b = b) = true := by simpa using e1
    clear e1
    refine wp_region_ext (by kernel_rfl) (by kernel_rfl) (fun F hF => ?_)
    have HF := hid hF; clear hF
    repeat (first
      | (apply text_skip; (focus rfl); simp only [Act.put, List.setIfInBounds_toArray, List.set_cons_zero, List.set_cons_succ])
      | (apply text_val; (focus rfl); (focus (intro _ _; go_simp; with_reducible rfl)); simp only [Act.put, List.setIfInBounds_toArray, List.set_cons_zero, List.set_cons_succ])
      | (apply text_call; (focus rfl); (focus (intro _ _; go_simp; exact ⟨rfl, rfl⟩)); (focus (intro _ _; with_reducible (exact and_any _ _ _))); simp only [Act.put, List.setIfInBounds_toArray, List.set_cons_zero, List.set_cons_succ])
      | (apply text_if; (focus (first | exact wanted_t rfl rfl | exact wanted_f rfl rfl | exact wanted_gt rfl rfl | exact wanted_gf rfl rfl)); (focus (intro hc _ _; (try simp only [Bool.and_eq_true, Bool.not_eq_true', Bool.true_and] at hc); go_simp; with_reducible rfl)); simp only [Act.put, List.setIfInBounds_toArray, List.set_cons_zero, List.set_cons_succ])
      | (apply text_if_call; (focus (first | exact wanted_t rfl rfl | exact wanted_f rfl rfl | exact wanted_gt rfl rfl | exact wanted_gf rfl rfl)); (focus (intro hc _ _; (try simp only [Bool.and_eq_true, Bool.not_eq_true', Bool.true_and] at hc); go_simp; exact ⟨rfl, rfl⟩)); (focus (intro hc _ _; with_reducible (exact and_any _ _ _))); simp only [Act.put, List.setIfInBounds_toArray, List.set_cons_zero, List.set_cons_succ]))
    refine text_nil (HF.out _ (fun mx dx => ?_))
    clear HF F
    go_wp2
    go_returns
    exact Pure.of (by simp [withinB, E1]) (by (repeat' (first | (with_reducible exact Below.refl _ _) | (with_reducible refine Below.ext_mk ?_ ?_ _ _) | (with_reducible refine Below.alloc ?_ ?_ _) | (with_reducible refine Below.drew ?_) | (with_reducible refine Below.setCell ?_ ?_ _) | go_size)))
  · go_enter Try.func26, Try.ntmps26
    go_wp2
    have E1 : decide (m &&& b = b) = false := by simpa using e1
    clear e1
    refine wp_region_ext (by kernel_rfl) (by kernel_rfl) (fun F hF => ?_)
    have HF := hid hF; clear hF
    repeat (first
      | (apply text_skip; (focus rfl); simp only [Act.put, List.setIfInBounds_toArray, List.set_cons_zero, List.set_cons_succ])
      | (apply text_val; (focus rfl); (focus (intro _ _; go_simp; with_reducible rfl)); simp only [Act.put, List.setIfInBounds_toArray, List.set_cons_zero, List.set_cons_succ])
      | (apply text_call; (focus rfl); (focus (intro _ _; go_simp; exact ⟨rfl, rfl⟩)); (focus (intro _ _; with_reducible (exact and_any _ _ _))); simp only [Act.put, List.setIfInBounds_toArray, List.set_cons_zero, List.set_cons_succ])
      | (apply text_if; (focus (first | exact wanted_t rfl rfl | exact wanted_f rfl rfl | exact wanted_gt rfl rfl | exact wanted_gf rfl rfl)); (focus (intro hc _ _; (try simp only [Bool.and_eq_true, Bool.not_eq_true', Bool.true_and] at hc); go_simp; with_reducible rfl)); simp only [Act.put, List.setIfInBounds_toArray, List.set_cons_zero, List.set_cons_succ])
      | (apply text_if_call; (focus (first | exact wanted_t rfl rfl | exact wanted_f rfl rfl | exact wanted_gt rfl rfl | exact wanted_gf rfl rfl)); (focus (intro hc _ _; (try simp only [Bool.and_eq_true, Bool.not_eq_true', Bool.true_and] at hc); go_simp; exact ⟨rfl, rfl⟩)); (focus (intro hc _ _; with_reducible (exact and_any _ _ _))); simp only [Act.put, List.setIfInBounds_toArray, List.set_cons_zero, List.set_cons_succ]))
    refine text_nil (HF.out _ (fun mx dx => ?_))
    clear HF F
    go_wp2
    go_returns
    exact Pure.of (by simp [withinB, E1]) (by (repeat' (first | (with_reducible exact Below.refl _ _) | (with_reducible refine Below.ext_mk ?_ ?_ _ _) | (with_reducible refine Below.alloc ?_ ?_ _) | (with_reducible refine Below.drew ?_) | (with_reducible refine Below.setCell ?_ ?_ _) | go_size)))

end Go.Proofs.Ytooadmagjpaieaa
