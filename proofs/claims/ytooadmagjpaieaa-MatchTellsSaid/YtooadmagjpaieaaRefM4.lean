/-
  Length and Ahead, of both tellings.
-/
import Derived.Test.YtooadmagjpaieaaRefM
set_option linter.unusedVariables false
set_option linter.unusedSimpArgs false
namespace Go.Proofs.Ytooadmagjpaieaa
open Go.RowKit

/-- The first below a bound that serves, as Length answers. -/
def lenV (f : Nat → Bool) (n : Nat) : Value :=
  match (List.range n).find? f with
  | some l => .tuple #[.int .i64 (l : Int), .bool true]
  | none => .tuple #[.int .i64 0, .bool false]
theorem lenV_none {f : Nat → Bool} {n : Nat} (h : ∀ l, l < n → f l = false) : lenV f n = .tuple #[.int .i64 0, .bool false] := by
  have e : (List.range n).find? f = none := List.find?_eq_none.2 (fun x hx => by rw [h x (List.mem_range.1 hx)]; simp)
  unfold lenV; rw [e]
theorem find_first {f : Nat → Bool} {j : Nat} (hj : f j = true) (h : ∀ l, l < j → f l = false) (n : Nat) (hn : j < n) : (List.range n).find? f = some j := by
  obtain ⟨k, rfl⟩ : ∃ k, n = j + 1 + k := ⟨n - (j + 1), by omega⟩
  rw [List.range_add, List.find?_append, List.range_succ, List.find?_append]
  have e : (List.range j).find? f = none := List.find?_eq_none.2 (fun x hx => by rw [h x (List.mem_range.1 hx)]; simp)
  rw [e]
  simp [hj]
theorem lenV_some {f : Nat → Bool} {j n : Nat} (hj : f j = true) (h : ∀ l, l < j → f l = false) (hn : j < n) : lenV f n = .tuple #[.int .i64 (j : Int), .bool true] := by
  unfold lenV; rw [find_first hj h n hn]
theorem lenV_form (f : Nat → Bool) (n : Nat) : ∃ l b, lenV f n = .tuple #[.int .i64 l, .bool b] := by
  unfold lenV
  split
  · exact ⟨_, _, rfl⟩
  · exact ⟨_, _, rfl⟩
theorem lenV_congr {f g : Nat → Bool} {n : Nat} (h : ∀ l, l < n → f l = g l) : lenV f n = lenV g n := by
  have e : (List.range n).find? f = (List.range n).find? g := by
    induction n with
    | zero => rfl
    | succ k ih =>
      rw [List.range_succ, List.find?_append, List.find?_append, ih (fun l hl => h l (by omega))]
      simp [h k (by omega)]
  unfold lenV; rw [e]

def mlen (v m : BitVec 128) (u : Int) : Value :=
  if mayB v m u then lenV (fun l => decide (highOf (l : Int) u = m)) (u.toNat + 1) else .tuple #[.int .i64 0, .bool false]
theorem mayB_pos {v m : BitVec 128} {u : Int} (h : mayB v m u = true) : 1 ≤ u ∧ u ≤ 128 := by
  unfold mayB isW at h
  simp only [Bool.and_eq_true, decide_eq_true_eq] at h
  exact h.1.1.1

set_option maxHeartbeats 2000000 in
theorem mlength_any (v m : BitVec 128) (u : Int) (h1 : -9223372036854775808 ≤ u) (h2 : u ≤ 9223372036854775807) (w : World) : Calls Try.prog 21 #[pv v m, .int .i64 u] w (Pure (mlen v m u) w) := by
  have gA := may_any v m u h1 h2
  cases hA : mayB v m u
  · have HR : Hid (mlen v m u = .tuple #[.int .i64 0, .bool false]) := hid (by unfold mlen; rw [hA]; rfl)
    rw [hA] at gA
    clear hA
    go_enter Try.func21, Try.ntmps21
    go_upto_region 1 with (fail)
    refine wp_region_seq (fun F hF => ?_)
    have HF := hid hF; clear hF
    repeat (first
      | (apply text_skip; (focus rfl); simp only [Act.put, List.setIfInBounds_toArray, List.set_cons_zero, List.set_cons_succ])
      | (apply text_val; (focus rfl); (focus (intro _ _; go_simp; with_reducible rfl)); simp only [Act.put, List.setIfInBounds_toArray, List.set_cons_zero, List.set_cons_succ])
      | (apply text_call; (focus rfl); (focus (intro _ _; go_simp; exact ⟨rfl, rfl⟩)); (focus (intro _ _; with_reducible (exact gA _))); simp only [Act.put, List.setIfInBounds_toArray, List.set_cons_zero, List.set_cons_succ])
      | (apply text_if; (focus (first | exact wanted_t rfl rfl | exact wanted_f rfl rfl | exact wanted_gt rfl rfl | exact wanted_gf rfl rfl)); (focus (intro hc _ _; (try simp only [Bool.and_eq_true, Bool.not_eq_true', Bool.true_and] at hc); go_simp; with_reducible rfl)); simp only [Act.put, List.setIfInBounds_toArray, List.set_cons_zero, List.set_cons_succ])
      | (apply text_if_call; (focus (first | exact wanted_t rfl rfl | exact wanted_f rfl rfl | exact wanted_gt rfl rfl | exact wanted_gf rfl rfl)); (focus (intro hc _ _; (try simp only [Bool.and_eq_true, Bool.not_eq_true', Bool.true_and] at hc); go_simp; exact ⟨rfl, rfl⟩)); (focus (intro hc _ _; with_reducible (exact gA _))); simp only [Act.put, List.setIfInBounds_toArray, List.set_cons_zero, List.set_cons_succ]))
    refine text_nil (HF.out _ (fun mx dx => ?_))
    clear HF F
    go_wp2_with fail
    go_returns
    exact Pure.of HR.out.symm (by (repeat' (first | (with_reducible exact Below.refl _ _) | (with_reducible refine Below.ext_mk ?_ ?_ _ _) | (with_reducible refine Below.alloc ?_ ?_ _) | (with_reducible refine Below.drew ?_) | (with_reducible refine Below.setCell ?_ ?_ _) | go_size)))
  · obtain ⟨hu1, hu2⟩ := mayB_pos hA
    have HR : Hid (mlen v m u = lenV (fun l => decide (highOf (l : Int) u = m)) (u.toNat + 1)) := hid (by unfold mlen; rw [hA, if_pos rfl])
    rw [hA] at gA
    clear hA
    obtain ⟨U, rfl⟩ : ∃ U : Nat, u = (U : Int) := ⟨u.toNat, by omega⟩
    simp only [Int.toNat_natCast] at HR
    generalize hf : (fun l : Nat => decide (highOf (l : Int) (U : Int) = m)) = f at HR
    have HF := hid hf
    clear hf
    go_enter Try.func21, Try.ntmps21
    go_upto_region 1 with (fail)
    refine wp_region_seq (fun F hF => ?_)
    have HF := hid hF; clear hF
    repeat (first
      | (apply text_skip; (focus rfl); simp only [Act.put, List.setIfInBounds_toArray, List.set_cons_zero, List.set_cons_succ])
      | (apply text_val; (focus rfl); (focus (intro _ _; go_simp; with_reducible rfl)); simp only [Act.put, List.setIfInBounds_toArray, List.set_cons_zero, List.set_cons_succ])
      | (apply text_call; (focus rfl); (focus (intro _ _; go_simp; exact ⟨rfl, rfl⟩)); (focus (intro _ _; with_reducible (exact gA _))); simp only [Act.put, List.setIfInBounds_toArray, List.set_cons_zero, List.set_cons_succ])
      | (apply text_if; (focus (first | exact wanted_t rfl rfl | exact wanted_f rfl rfl | exact wanted_gt rfl rfl | exact wanted_gf rfl rfl)); (focus (intro hc _ _; (try simp only [Bool.and_eq_true, Bool.not_eq_true', Bool.true_and] at hc); go_simp; with_reducible rfl)); simp only [Act.put, List.setIfInBounds_toArray, List.set_cons_zero, List.set_cons_succ])
      | (apply text_if_call; (focus (first | exact wanted_t rfl rfl | exact wanted_f rfl rfl | exact wanted_gt rfl rfl | exact wanted_gf rfl rfl)); (focus (intro hc _ _; (try simp only [Bool.and_eq_true, Bool.not_eq_true', Bool.true_and] at hc); go_simp; exact ⟨rfl, rfl⟩)); (focus (intro hc _ _; with_reducible (exact gA _))); simp only [Act.put, List.setIfInBounds_toArray, List.set_cons_zero, List.set_cons_succ]))
    refine text_nil (HF.out _ (fun mx dx => ?_))
    clear HF F
    go_upto_region 3 with (fail)
    refine wp_gen (fun V hV => ?_)
    have hbV : Below w.heap.size w V := by rw [hV]; ((repeat' (first | (with_reducible exact Below.refl _ _) | (with_reducible refine Below.ext_mk ?_ ?_ _ _) | (with_reducible refine Below.alloc ?_ ?_ _) | (with_reducible refine Below.drew ?_) | (with_reducible refine Below.setCell ?_ ?_ _) | go_size)))
    have zV0 : w.heap.size < V.heap.size := by rw [hV]; first | (simp; done) | (simp; omega)
    have cV0_0 : V.cell? ⟨w.heap.size, 0, none⟩ = some (.int .u64 (hi v)) := by rw [hV]; first | (go_simp; done) | (rw [World.cell?_alloc_past _ _ _ (by first | (simp; done) | (simp; omega))]; go_simp)
    have cV0_1 : V.cell? ⟨w.heap.size, 1, none⟩ = some (.int .u64 (lo v)) := by rw [hV]; first | (go_simp; done) | (rw [World.cell?_alloc_past _ _ _ (by first | (simp; done) | (simp; omega))]; go_simp)
    have cV0_2 : V.cell? ⟨w.heap.size, 2, none⟩ = some (.int .u64 (hi m)) := by rw [hV]; first | (go_simp; done) | (rw [World.cell?_alloc_past _ _ _ (by first | (simp; done) | (simp; omega))]; go_simp)
    have cV0_3 : V.cell? ⟨w.heap.size, 3, none⟩ = some (.int .u64 (lo m)) := by rw [hV]; first | (go_simp; done) | (rw [World.cell?_alloc_past _ _ _ (by first | (simp; done) | (simp; omega))]; go_simp)
    clear hV
    go_wp2
    go_loopw [13] (fun i wr => ∃ j : Nat, j ≤ U + 1 ∧ i = .int .i64 j ∧ Below V.heap.size V wr ∧ Hid (∀ l, l < j → f l = false)) (fun i _ => U + 1 - (intOf i).toNat)
    case atStart => exact ⟨0, by omega, rfl, by (repeat' (first | (with_reducible exact Below.refl _ _) | (with_reducible refine Below.ext_mk ?_ ?_ _ _) | (with_reducible refine Below.alloc ?_ ?_ _) | (with_reducible refine Below.drew ?_) | (with_reducible refine Below.setCell ?_ ?_ _) | go_size)), hid (fun k hk => absurd hk (by omega))⟩
    case round =>
      obtain ⟨j, hj, rfl, hb, HJ⟩ := hrel
      have q0 := hb.cell (p := ⟨w.heap.size, 0, none⟩) zV0
      have q1 := hb.cell (p := ⟨w.heap.size, 1, none⟩) zV0
      have q2 := hb.cell (p := ⟨w.heap.size, 2, none⟩) zV0
      have q3 := hb.cell (p := ⟨w.heap.size, 3, none⟩) zV0
      rw [cV0_0] at q0
      rw [cV0_1] at q1
      rw [cV0_2] at q2
      rw [cV0_3] at q3
      have hbs := hb.size
      have zr : w.heap.size < wr.heap.size := by omega
      by_cases hlt : j < U + 1
      · have hj1 : (j : Int) < (U : Int) + 1 := by omega
        have gh := high_any (j : Int) (U : Int) (by omega) (by omega) h1 h2
        have HV : Hid (f j = decide (highOf (j : Int) (U : Int) = m)) := hid (by rw [← HF.out])
        generalize highOf (j : Int) (U : Int) = N at *
        by_cases hN : N = m
        · subst hN
          have HW : Hid (f j = true) := hid (by rw [HV.out]; simp)
          clear HV
          go_upto_region 6 with (fail)
          refine wp_region_ext (by kernel_rfl) (by kernel_rfl) (fun F hF => ?_)
          have HF := hid hF; clear hF
          repeat (first
            | (apply text_skip; (focus rfl); simp only [Act.put, List.setIfInBounds_toArray, List.set_cons_zero, List.set_cons_succ])
            | (apply text_val; (focus rfl); (focus (intro _ _; go_simp; with_reducible rfl)); simp only [Act.put, List.setIfInBounds_toArray, List.set_cons_zero, List.set_cons_succ])
            | (apply text_call; (focus rfl); (focus (intro _ _; go_simp; exact ⟨rfl, rfl⟩)); (focus (intro _ _; with_reducible (exact gh _))); simp only [Act.put, List.setIfInBounds_toArray, List.set_cons_zero, List.set_cons_succ])
            | (apply text_if; (focus (first | exact wanted_t rfl rfl | exact wanted_f rfl rfl | exact wanted_gt rfl rfl | exact wanted_gf rfl rfl)); (focus (intro hc _ _; (try simp only [Bool.and_eq_true, Bool.not_eq_true', Bool.true_and] at hc); go_simp; with_reducible rfl)); simp only [Act.put, List.setIfInBounds_toArray, List.set_cons_zero, List.set_cons_succ])
            | (apply text_if_call; (focus (first | exact wanted_t rfl rfl | exact wanted_f rfl rfl | exact wanted_gt rfl rfl | exact wanted_gf rfl rfl)); (focus (intro hc _ _; (try simp only [Bool.and_eq_true, Bool.not_eq_true', Bool.true_and] at hc); go_simp; exact ⟨rfl, rfl⟩)); (focus (intro hc _ _; with_reducible (exact gh _))); simp only [Act.put, List.setIfInBounds_toArray, List.set_cons_zero, List.set_cons_succ]))
          refine text_nil (HF.out _ (fun mx dx => ?_))
          clear HF F
          go_wp2_with fail
          go_returns
          exact Pure.of (by rw [HR.out, lenV_some HW.out HJ.out hlt]; rfl) (hbV.trans (Below.mono (by first | exact Below.ext_mk hb (by omega) _ _ | exact Below.ext_mk (Below.ext_mk hb (by omega) _ _) (by simp; omega) _ _) hbV.size))
        · have HW : Hid (f j = false) := hid (by rw [HV.out]; simp [hN])
          clear HV
          go_upto_region 6 with (fail)
          refine wp_region_ext (by kernel_rfl) (by kernel_rfl) (fun F hF => ?_)
          have HF := hid hF; clear hF
          repeat (first
            | (apply text_skip; (focus rfl); simp only [Act.put, List.setIfInBounds_toArray, List.set_cons_zero, List.set_cons_succ])
            | (apply text_val; (focus rfl); (focus (intro _ _; go_simp; with_reducible rfl)); simp only [Act.put, List.setIfInBounds_toArray, List.set_cons_zero, List.set_cons_succ])
            | (apply text_call; (focus rfl); (focus (intro _ _; go_simp; exact ⟨rfl, rfl⟩)); (focus (intro _ _; with_reducible (exact gh _))); simp only [Act.put, List.setIfInBounds_toArray, List.set_cons_zero, List.set_cons_succ])
            | (apply text_if; (focus (first | exact wanted_t rfl rfl | exact wanted_f rfl rfl | exact wanted_gt rfl rfl | exact wanted_gf rfl rfl)); (focus (intro hc _ _; (try simp only [Bool.and_eq_true, Bool.not_eq_true', Bool.true_and] at hc); go_simp; with_reducible rfl)); simp only [Act.put, List.setIfInBounds_toArray, List.set_cons_zero, List.set_cons_succ])
            | (apply text_if_call; (focus (first | exact wanted_t rfl rfl | exact wanted_f rfl rfl | exact wanted_gt rfl rfl | exact wanted_gf rfl rfl)); (focus (intro hc _ _; (try simp only [Bool.and_eq_true, Bool.not_eq_true', Bool.true_and] at hc); go_simp; exact ⟨rfl, rfl⟩)); (focus (intro hc _ _; with_reducible (exact gh _))); simp only [Act.put, List.setIfInBounds_toArray, List.set_cons_zero, List.set_cons_succ]))
          refine text_nil (HF.out _ (fun mx dx => ?_))
          clear HF F
          go_wp2_with fail
          go_roundw
          case rel =>
            refine ⟨j + 1, by omega, by go_num, by first | exact Below.ext_mk hb (by omega) _ _ | exact Below.ext_mk (Below.ext_mk hb (by omega) _ _) (by simp; omega) _ _, hid (fun k hk => ?_)⟩
            by_cases e : k = j
            · exact e ▸ HW.out
            · exact HJ.out k (by omega)
          case measure => simp [intOf]; omega
      · have e : j = U + 1 := by omega
        subst e
        go_wp2
        go_returns
        exact Pure.of (by rw [HR.out, lenV_none HJ.out]; rfl) (hbV.trans (hb.mono hbV.size))

/-- So many ones from the highest bit down, then noughts. -/
def isTop (m : BitVec 128) (U l : Nat) : Bool := allB (fun k => bt m (U - 1 - k) == decide (k < l)) U
theorem isTop_iff {m : BitVec 128} {U l : Nat} : isTop m U l = true ↔ ∀ k, k < U → bt m (U - 1 - k) = decide (k < l) := by
  unfold isTop; rw [allB_iff]; simp
def rlen (v m : BitVec 128) (u : Int) : Value :=
  if rmay v m u then lenV (isTop m u.toNat) (u.toNat + 1) else .tuple #[.int .i64 0, .bool false]
theorem rmay_pos' {v m : BitVec 128} {u : Int} (h : rmay v m u = true) : 1 ≤ u ∧ u ≤ 128 := by
  unfold rmay at h
  simp only [Bool.and_eq_true, decide_eq_true_eq] at h
  exact h.1
theorem isTop_small {m : BitVec 128} {U j l : Nat} (hj : j ≤ U) (h : ∀ k, k < j → bt m (U - 1 - k) = true) (hl : l < j) : isTop m U l = false := by
  cases e : isTop m U l
  · rfl
  · have := isTop_iff.1 e l (by omega)
    rw [h l hl] at this
    simp at this

theorem rbit_top {m : BitVec 128} {U j : Nat} (h : j < U) (w : World) : Calls Try.prog 33 #[nv m, .int .i64 ((U : Int) - 1 - j)] w (Pure (.bool (bt m (U - 1 - j))) w) := by
  have e : rbit m ((U : Int) - 1 - j) = bt m (U - 1 - j) := by
    unfold rbit
    have e1 : ((U : Int) - 1 - j).toNat = U - 1 - j := by omega
    rw [e1]; simp; omega
  exact e ▸ rbit_any m _ w
theorem rbit_topw {m : BitVec 128} {U j : Nat} (hU : (U : Int) ≤ 128) (h : j < U) (w : World) : Calls Try.prog 33 #[nv m, .int .i64 (IntKind.i64.wrap (IntKind.i64.wrap ((U : Int) - 1) - j))] w (Pure (.bool (bt m (U - 1 - j))) w) := by
  have e : IntKind.i64.wrap (IntKind.i64.wrap ((U : Int) - 1) - j) = (U : Int) - 1 - j := by simp [IntKind.wrap, IntKind.bits, IntKind.signed]; omega
  rw [e]; exact rbit_top h w
theorem notTop {m : BitVec 128} {U j : Nat} (hj : j ≤ U) (h : ∀ k, k < j → bt m (U - 1 - k) = true) (h0 : j < U → bt m (U - 1 - j) = false) : ∀ l, l ≤ U → l ≠ j → isTop m U l = false := fun l hl hne => by
  by_cases hlj : l < j
  · exact isTop_small hj h hlj
  · cases e : isTop m U l
    · rfl
    · have := isTop_iff.1 e j (by omega)
      rw [h0 (by omega)] at this
      simp at this
      omega
theorem upto_bit {m : BitVec 128} {U j : Nat} (h : ∀ k, k < j → bt m (U - 1 - k) = true) (h0 : bt m (U - 1 - j) = true) : ∀ k, k < j + 1 → bt m (U - 1 - k) = true := fun k hk => by
  by_cases e : k = j
  · exact e ▸ h0
  · exact h k (by omega)
theorem from_bit {m : BitVec 128} {U j n : Nat} (h : ∀ i, j ≤ i → i < n → bt m (U - 1 - i) = false) (h0 : bt m (U - 1 - n) = false) : ∀ i, j ≤ i → i < n + 1 → bt m (U - 1 - i) = false := fun k hj hk => by
  by_cases e : k = n
  · exact e ▸ h0
  · exact h k hj (by omega)
theorem len_none {m : BitVec 128} {U j k : Nat} (h : ∀ l, l ≤ U → l ≠ j → isTop m U l = false) (hk : j ≤ k) (hk2 : k < U) (h0 : bt m (U - 1 - k) = true) : ∀ l, l < U + 1 → isTop m U l = false := fun l hl => by
  by_cases e : l = j
  · subst e
    cases e : isTop m U l
    · rfl
    · have := isTop_iff.1 e k hk2
      rw [h0] at this
      simp at this
      omega
  · exact h l (by omega) e
theorem isTop_done {m : BitVec 128} {U j : Nat} (h : ∀ k, k < j → bt m (U - 1 - k) = true) (h' : ∀ i, j ≤ i → i < U → bt m (U - 1 - i) = false) : isTop m U j = true := isTop_iff.2 (fun k hk => by
  by_cases e : k < j
  · rw [h k e]; simp [e]
  · rw [h' k (by omega) hk]; simp [e])

theorem ahead_any (t p r s t' p' r' s' : Value) (L R L' R' : Int) (w : World) : Calls Try.prog 23 #[.agg #[t, p, .int .i64 L, .int .i64 R, r, s], .agg #[t', p', .int .i64 L', .int .i64 R', r', s']] w (Pure (.bool (decide (R' < R) || decide (R = R') && decide (L' < L))) w) := by
  by_cases h1 : R = R'
  · subst h1
    go_enter Try.func23, Try.ntmps23
    go_wp2
    go_returns
    exact Pure.of (by simp) (by (repeat' (first | (with_reducible exact Below.refl _ _) | (with_reducible refine Below.ext_mk ?_ ?_ _ _) | (with_reducible refine Below.alloc ?_ ?_ _) | (with_reducible refine Below.drew ?_) | (with_reducible refine Below.setCell ?_ ?_ _) | go_size)))
  · go_enter Try.func23, Try.ntmps23
    go_wp2
    go_returns
    exact Pure.of (by simp [h1]) (by (repeat' (first | (with_reducible exact Below.refl _ _) | (with_reducible refine Below.ext_mk ?_ ?_ _ _) | (with_reducible refine Below.alloc ?_ ?_ _) | (with_reducible refine Below.drew ?_) | (with_reducible refine Below.setCell ?_ ?_ _) | go_size)))
theorem rahead_any (t p r s t' p' r' s' : Value) (L R L' R' : Int) (w : World) : Calls Try.prog 24 #[.agg #[t, p, .int .i64 L, .int .i64 R, r, s], .agg #[t', p', .int .i64 L', .int .i64 R', r', s']] w (Pure (.bool (decide (R' < R) || decide (R = R') && decide (L' < L))) w) := by
  go_enter Try.func24, Try.ntmps24
  go_upto_region 1 with (fail)
  refine wp_region_seq (fun F hF => ?_)
  have HF := hid hF; clear hF
  repeat (first
    | (apply text_skip; (focus rfl); simp only [Act.put, List.setIfInBounds_toArray, List.set_cons_zero, List.set_cons_succ])
    | (apply text_val; (focus rfl); (focus (intro _ _; go_simp; with_reducible rfl)); simp only [Act.put, List.setIfInBounds_toArray, List.set_cons_zero, List.set_cons_succ])
    | (apply text_if; (focus (first | exact wanted_t rfl rfl | exact wanted_f rfl rfl | exact wanted_gt rfl rfl | exact wanted_gf rfl rfl)); (focus (intro hc _ _; (try simp only [Bool.and_eq_true, Bool.not_eq_true', Bool.true_and] at hc); go_simp; with_reducible rfl)); simp only [Act.put, List.setIfInBounds_toArray, List.set_cons_zero, List.set_cons_succ]))
  refine text_nil (HF.out _ (fun mx dx => ?_))
  clear HF F
  go_wp2_with fail
  go_returns
  exact Pure.of rfl (by (repeat' (first | (with_reducible exact Below.refl _ _) | (with_reducible refine Below.ext_mk ?_ ?_ _ _) | (with_reducible refine Below.alloc ?_ ?_ _) | (with_reducible refine Below.drew ?_) | (with_reducible refine Below.setCell ?_ ?_ _) | go_size)))
end Go.Proofs.Ytooadmagjpaieaa
