/-
  The walk of a diagram with a variable's bit told.
-/
import Derived.Test.YtboekafmplomhaaZUnP
import Derived.Test.YtboekafmplomhaaZCallsB
set_option linter.unusedVariables false
set_option linter.unusedSimpArgs false
namespace Go.Proofs.Ytboekafmplomhaa
open Go.RowKit

abbrev ki (n : Int) : Value := .int .i64 n
theorem key_int : KeyOk Try.prog 3 (.int .i64) ki where
  und := by kernel_rfl
  check em n w := check_int em 9999 n w
  now a b := .inr (by unfold Instr.sameNow; simp; rfl)
  eq a b w := by
    unfold Op.equal
    rw [show Op.maxDepth = 9999 + 1 from rfl]
    simp [go_sem]
    rfl
  same a := by unfold Instr.sameBits; simp [Instr.sameBits]

theorem below64 {S : Sto} (h : Wf S) : Below' S 64 := fun i n hn => (h.node i n hn).v64
def UnPost (w : World) (p km : Nat) (F : List Nat) (R : Sto × List (Int × Int) × Option Int) (e : Ending) (w' : World) : Prop :=
  e = endOf R.2.2 ∧ ∃ F', StoIs w' p F' R.1 ∧ MapIs ki w' km R.2.1 ∧ km ∉ F' ∧ StoStep w w' (km :: F) (km :: F')

theorem MapIs.lt {α : Type} {Kv : α → Value} {w : World} {b : Nat} {l : List (α × Int)} (h : MapIs Kv w b l) : b < w.heap.size := by
  obtain ⟨_, _, q, _⟩ := h; exact (Array.getElem?_eq_some_iff.1 q).1
theorem MapIs.ext {α : Type} {Kv : α → Value} {w : World} {b : Nat} {l : List (α × Int)} (h : MapIs Kv w b l) (m : Array Obj) (d : Nat) : MapIs Kv (w.ext m d) b l := MapIs.keep h (World.heap_ext _ _ _ (MapIs.lt h))
theorem StoStep.wide {w w' : World} {F F' : List Nat} (h : StoStep w w' F F') (k : Nat) : StoStep w w' (k :: F) (k :: F') :=
  ⟨h.os, h.tape, h.output, h.size, fun i hi hn => h.block i hi (fun hm => hn (List.mem_cons_of_mem _ hm)), fun i hi => by
    rcases List.mem_cons.1 hi with rfl | hi
    · exact .inl (List.mem_cons_self ..)
    · rcases h.fresh i hi with q | q
      · exact .inl (List.mem_cons_of_mem _ q)
      · exact .inr q⟩
theorem UnPost.quiet {w : World} {p km : Nat} {F : List Nat} {S : Sto} {K : List (Int × Int)} {r : Int} (h : StoIs w p F S) (hm : MapIs ki w km K) (hk : km ∉ F) (m : Array Obj) (d : Nat) :
    UnPost w p km F (S, K, some r) (.returned (.int .i64 r)) (w.ext m d) := ⟨rfl, F, h.ext m d, MapIs.ext hm m d, hk, (StoStep.refl w _).ext m d⟩

section
variable {n : Nat} {S S1 S2 S3 : Sto} {K K1 K2 : List (Int × Int)} {a v l hh r : Int} {on : Bool}
theorem underN_0 (e1 : a < 2 ∨ v < topOf S a) : underN v on (n + 1) S K a = (S, K, some a) := by simp only [underN, if_pos e1]
theorem underN_k (e1 : ¬ (a < 2 ∨ v < topOf S a)) (hk : aget K a = some r) : underN v on (n + 1) S K a = (S, K, some r) := by simp only [underN, if_neg e1, hk]
theorem underN_v (e1 : ¬ (a < 2 ∨ v < topOf S a)) (hk : aget K a = none) (e2 : topOf S a = v) : underN v on (n + 1) S K a = (S, K, some (if on then (nodeOf S a).2.2 else (nodeOf S a).2.1)) := by
  simp only [underN, if_neg e1, hk, if_pos e2]
theorem underN_1 (e1 : ¬ (a < 2 ∨ v < topOf S a)) (hk : aget K a = none) (e2 : ¬ topOf S a = v) (h1 : underN v on n S K (nodeOf S a).2.1 = (S1, K1, none)) : underN v on (n + 1) S K a = (S1, K1, none) := by
  simp only [underN, if_neg e1, hk, if_neg e2, h1]
theorem underN_2 (e1 : ¬ (a < 2 ∨ v < topOf S a)) (hk : aget K a = none) (e2 : ¬ topOf S a = v) (h1 : underN v on n S K (nodeOf S a).2.1 = (S1, K1, some l))
    (h2 : underN v on n S1 K1 (nodeOf S a).2.2 = (S2, K2, none)) : underN v on (n + 1) S K a = (S2, K2, none) := by
  simp only [underN, if_neg e1, hk, if_neg e2, h1, h2]
theorem underN_3 (e1 : ¬ (a < 2 ∨ v < topOf S a)) (hk : aget K a = none) (e2 : ¬ topOf S a = v) (h1 : underN v on n S K (nodeOf S a).2.1 = (S1, K1, some l))
    (h2 : underN v on n S1 K1 (nodeOf S a).2.2 = (S2, K2, some hh)) (h3 : mkN S2 (topOf S a) l hh = (S3, none)) : underN v on (n + 1) S K a = (S3, K2, none) := by
  simp only [underN, if_neg e1, hk, if_neg e2, h1, h2, h3]
theorem underN_4 (e1 : ¬ (a < 2 ∨ v < topOf S a)) (hk : aget K a = none) (e2 : ¬ topOf S a = v) (h1 : underN v on n S K (nodeOf S a).2.1 = (S1, K1, some l))
    (h2 : underN v on n S1 K1 (nodeOf S a).2.2 = (S2, K2, some hh)) (h3 : mkN S2 (topOf S a) l hh = (S3, some r)) : underN v on (n + 1) S K a = (S3, aput K2 a r, some r) := by
  simp only [underN, if_neg e1, hk, if_neg e2, h1, h2, h3]
end

/-- The ways that end before a node is made. -/
theorem under_early {n : Nat} {w : World} {p : Nat} {F : List Nat} {S : Sto} {km : Nat} {K : List (Int × Int)} {a v : Int} {on : Bool} (h : StoIs w p F S) (hm : MapIs ki w km K) (hk : km ∉ F) (hW : Wf S) (ha : S.has a)
    (e : (a < 2 ∨ v < topOf S a) ∨ aget K a ≠ none ∨ topOf S a = v) :
    Calls Try.prog 90 #[.pointer (some ⟨p, 0, none⟩), .int .i64 a, .int .i64 v, .bool on, .map (some km)] w (UnPost w p km F (underN v on (n + 1) S K a)) := by
  have hl1 : S.nodes.length ≤ 1048576 := by have := hW.len; have := hW.cap; omega
  have hT := fun W (h : StoIs W p F S) => top_any h hl1 a ha.2
  have H := hid h
  have Q := fun r m d => UnPost.quiet (r := r) h hm hk m d
  by_cases e0 : a < 2
  · rw [underN_0 (.inl e0)]
    clear e h hm hW ha
    go_enter Try.func90, Try.ntmps90
    go_upto_region 1 with (fail)
    refine wp_region_seq (fun F hF => ?_)
    have HF := hid hF; clear hF
    repeat (first
      | (apply text_skip; (focus rfl); simp only [Act.put, List.setIfInBounds_toArray, List.set_cons_zero, List.set_cons_succ])
      | (apply text_val; (focus rfl); (focus (intro _ _; go_simp; with_reducible rfl)); simp only [Act.put, List.setIfInBounds_toArray, List.set_cons_zero, List.set_cons_succ])
      | (apply text_call; (focus rfl); (focus (intro _ _; go_simp; exact ⟨rfl, rfl⟩)); (focus (intro _ _; with_reducible (exact hT _ (by have h := H.out; (repeat' (first | (with_reducible exact h) | (with_reducible refine StoIs.ext ?_ _ _))))))); simp only [Act.put, List.setIfInBounds_toArray, List.set_cons_zero, List.set_cons_succ])
      | (apply text_if; (focus (first | exact wanted_t rfl rfl | exact wanted_f rfl rfl | exact wanted_gt rfl rfl | exact wanted_gf rfl rfl)); (focus (intro hc _ _; (try simp only [Bool.and_eq_true, Bool.not_eq_true', Bool.true_and] at hc); go_simp; with_reducible rfl)); simp only [Act.put, List.setIfInBounds_toArray, List.set_cons_zero, List.set_cons_succ])
      | (apply text_if_call; (focus (first | exact wanted_t rfl rfl | exact wanted_f rfl rfl | exact wanted_gt rfl rfl | exact wanted_gf rfl rfl)); (focus (intro hc _ _; (try simp only [Bool.and_eq_true, Bool.not_eq_true', Bool.true_and] at hc); go_simp; exact ⟨rfl, rfl⟩)); (focus (intro hc _ _; with_reducible (exact hT _ (by have h := H.out; (repeat' (first | (with_reducible exact h) | (with_reducible refine StoIs.ext ?_ _ _))))))); simp only [Act.put, List.setIfInBounds_toArray, List.set_cons_zero, List.set_cons_succ]))
    refine text_nil (HF.out _ (fun mx dx => ?_))
    clear HF F
    go_wp2
    go_returns
    exact Q _ _ _
  · by_cases e1 : v < topOf S a
    · rw [underN_0 (.inr e1)]
      clear e h hm hW ha
      go_enter Try.func90, Try.ntmps90
      go_upto_region 1 with (fail)
      refine wp_region_seq (fun F hF => ?_)
      have HF := hid hF; clear hF
      repeat (first
        | (apply text_skip; (focus rfl); simp only [Act.put, List.setIfInBounds_toArray, List.set_cons_zero, List.set_cons_succ])
        | (apply text_val; (focus rfl); (focus (intro _ _; go_simp; with_reducible rfl)); simp only [Act.put, List.setIfInBounds_toArray, List.set_cons_zero, List.set_cons_succ])
        | (apply text_call; (focus rfl); (focus (intro _ _; go_simp; exact ⟨rfl, rfl⟩)); (focus (intro _ _; with_reducible (exact hT _ (by have h := H.out; (repeat' (first | (with_reducible exact h) | (with_reducible refine StoIs.ext ?_ _ _))))))); simp only [Act.put, List.setIfInBounds_toArray, List.set_cons_zero, List.set_cons_succ])
        | (apply text_if; (focus (first | exact wanted_t rfl rfl | exact wanted_f rfl rfl | exact wanted_gt rfl rfl | exact wanted_gf rfl rfl)); (focus (intro hc _ _; (try simp only [Bool.and_eq_true, Bool.not_eq_true', Bool.true_and] at hc); go_simp; with_reducible rfl)); simp only [Act.put, List.setIfInBounds_toArray, List.set_cons_zero, List.set_cons_succ])
        | (apply text_if_call; (focus (first | exact wanted_t rfl rfl | exact wanted_f rfl rfl | exact wanted_gt rfl rfl | exact wanted_gf rfl rfl)); (focus (intro hc _ _; (try simp only [Bool.and_eq_true, Bool.not_eq_true', Bool.true_and] at hc); go_simp; exact ⟨rfl, rfl⟩)); (focus (intro hc _ _; with_reducible (exact hT _ (by have h := H.out; (repeat' (first | (with_reducible exact h) | (with_reducible refine StoIs.ext ?_ _ _))))))); simp only [Act.put, List.setIfInBounds_toArray, List.set_cons_zero, List.set_cons_succ]))
      refine text_nil (HF.out _ (fun mx dx => ?_))
      clear HF F
      go_wp2
      go_returns
      exact Q _ _ _
    · have e2 : ¬ (a < 2 ∨ v < topOf S a) := by omega
      have E2 := hid e2
      obtain ⟨i, nd, rfl, hn⟩ := has_node ha e0
      obtain ⟨g, cap', bm, tm, hp, hg, c0, c1, c2, c3, c4, hmx, n0, n1, n2⟩ := StoNode h hn
      have hi1 : (i : Int) < (S.nodes.length : Int) := by have := (List.getElem?_eq_some_iff.1 hn).1; omega
      have hi2 : (0 : Int) ≤ (i : Int) := by omega
      have hb : IntKind.i64.wrap (i : Int) = (i : Int) := IntWalk.i64_in _ (by omega)
      have hNd := hid (nodeOf_is hn)
      clear hn
      have hlook : ∀ m d, (Instr.lookup 115 (.map (some km)) (.int .i64 ((i : Int) + 2)) true).run Try.prog (w.ext m d) = .ok (.tuple #[.int .i64 ((aget K ((i : Int) + 2)).getD 0), .bool (aget K ((i : Int) + 2)).isSome]) (w.ext m d) := fun m d =>
        lookup_run (w := w.ext m d) key_int Try.underlying115 (zero_int _) (MapIs.ext hm m d) ((i : Int) + 2) true
      cases hK : aget K ((i : Int) + 2) with
      | some r =>
        rw [underN_k E2.out hK]
        simp only [hK, Option.getD_some, Option.isSome_some] at hlook
        clear e h hm hW ha e2 hK
        go_enter Try.func90, Try.ntmps90
        go_upto_region 1 with (fail)
        refine wp_region_seq (fun F hF => ?_)
        have HF := hid hF; clear hF
        repeat (first
          | (apply text_skip; (focus rfl); simp only [Act.put, List.setIfInBounds_toArray, List.set_cons_zero, List.set_cons_succ])
          | (apply text_val; (focus rfl); (focus (intro _ _; go_simp; with_reducible rfl)); simp only [Act.put, List.setIfInBounds_toArray, List.set_cons_zero, List.set_cons_succ])
          | (apply text_call; (focus rfl); (focus (intro _ _; go_simp; exact ⟨rfl, rfl⟩)); (focus (intro _ _; with_reducible (exact hT _ (by have h := H.out; (repeat' (first | (with_reducible exact h) | (with_reducible refine StoIs.ext ?_ _ _))))))); simp only [Act.put, List.setIfInBounds_toArray, List.set_cons_zero, List.set_cons_succ])
          | (apply text_if; (focus (first | exact wanted_t rfl rfl | exact wanted_f rfl rfl | exact wanted_gt rfl rfl | exact wanted_gf rfl rfl)); (focus (intro hc _ _; (try simp only [Bool.and_eq_true, Bool.not_eq_true', Bool.true_and] at hc); go_simp; with_reducible rfl)); simp only [Act.put, List.setIfInBounds_toArray, List.set_cons_zero, List.set_cons_succ])
          | (apply text_if_call; (focus (first | exact wanted_t rfl rfl | exact wanted_f rfl rfl | exact wanted_gt rfl rfl | exact wanted_gf rfl rfl)); (focus (intro hc _ _; (try simp only [Bool.and_eq_true, Bool.not_eq_true', Bool.true_and] at hc); go_simp; exact ⟨rfl, rfl⟩)); (focus (intro hc _ _; with_reducible (exact hT _ (by have h := H.out; (repeat' (first | (with_reducible exact h) | (with_reducible refine StoIs.ext ?_ _ _))))))); simp only [Act.put, List.setIfInBounds_toArray, List.set_cons_zero, List.set_cons_succ]))
        refine text_nil (HF.out _ (fun mx dx => ?_))
        clear HF F
        go_upto_region 3 with (fail)
        refine wp_region_ext (by kernel_rfl) (by kernel_rfl) (fun F hF => ?_)
        have HF := hid hF; clear hF
        repeat (first
          | (apply text_skip; (focus rfl); simp only [Act.put, List.setIfInBounds_toArray, List.set_cons_zero, List.set_cons_succ])
          | (apply text_val; (focus rfl); (focus (intro _ _; go_simp; with_reducible rfl)); simp only [Act.put, List.setIfInBounds_toArray, List.set_cons_zero, List.set_cons_succ])
          | (apply text_if; (focus (first | exact wanted_t rfl rfl | exact wanted_f rfl rfl | exact wanted_gt rfl rfl | exact wanted_gf rfl rfl)); (focus (intro hc _ _; (try simp only [Bool.and_eq_true, Bool.not_eq_true', Bool.true_and] at hc); go_simp; with_reducible rfl)); simp only [Act.put, List.setIfInBounds_toArray, List.set_cons_zero, List.set_cons_succ]))
        refine text_nil (HF.out _ (fun mx dx => ?_))
        clear HF F
        go_upto_region 4 with (fail)
        refine wp_region_seq (fun F hF => ?_)
        have HF := hid hF; clear hF
        repeat (first
          | (apply text_skip; (focus rfl); simp only [Act.put, List.setIfInBounds_toArray, List.set_cons_zero, List.set_cons_succ])
          | (apply text_val; (focus rfl); (focus (intro _ _; go_simp; with_reducible rfl)); simp only [Act.put, List.setIfInBounds_toArray, List.set_cons_zero, List.set_cons_succ])
          | (apply text_if; (focus (first | exact wanted_t rfl rfl | exact wanted_f rfl rfl | exact wanted_gt rfl rfl | exact wanted_gf rfl rfl)); (focus (intro hc _ _; (try simp only [Bool.and_eq_true, Bool.not_eq_true', Bool.true_and] at hc); go_simp; with_reducible rfl)); simp only [Act.put, List.setIfInBounds_toArray, List.set_cons_zero, List.set_cons_succ]))
        refine text_nil (HF.out _ (fun mx dx => ?_))
        clear HF F
        go_wp2
        go_returns
        exact Q _ _ _
      | none =>
        have e3 : topOf S ((i : Int) + 2) = v := by rcases e with e | e | e; exact (e2 e).elim; exact (e hK).elim; exact e
        rw [underN_v E2.out hK e3]
        simp only [hK, Option.getD_none, Option.isSome_none] at hlook
        simp only [e3] at hT
        clear e h hm hW ha e2 hK e1 e3
        cases on with
        | true =>
          rw [hNd.out]
          go_enter Try.func90, Try.ntmps90
          go_upto_region 1 with (fail)
          refine wp_region_seq (fun F hF => ?_)
          have HF := hid hF; clear hF
          repeat (first
            | (apply text_skip; (focus rfl); simp only [Act.put, List.setIfInBounds_toArray, List.set_cons_zero, List.set_cons_succ])
            | (apply text_val; (focus rfl); (focus (intro _ _; go_simp; with_reducible rfl)); simp only [Act.put, List.setIfInBounds_toArray, List.set_cons_zero, List.set_cons_succ])
            | (apply text_call; (focus rfl); (focus (intro _ _; go_simp; exact ⟨rfl, rfl⟩)); (focus (intro _ _; with_reducible (exact hT _ (by have h := H.out; (repeat' (first | (with_reducible exact h) | (with_reducible refine StoIs.ext ?_ _ _))))))); simp only [Act.put, List.setIfInBounds_toArray, List.set_cons_zero, List.set_cons_succ])
            | (apply text_if; (focus (first | exact wanted_t rfl rfl | exact wanted_f rfl rfl | exact wanted_gt rfl rfl | exact wanted_gf rfl rfl)); (focus (intro hc _ _; (try simp only [Bool.and_eq_true, Bool.not_eq_true', Bool.true_and] at hc); go_simp; with_reducible rfl)); simp only [Act.put, List.setIfInBounds_toArray, List.set_cons_zero, List.set_cons_succ])
            | (apply text_if_call; (focus (first | exact wanted_t rfl rfl | exact wanted_f rfl rfl | exact wanted_gt rfl rfl | exact wanted_gf rfl rfl)); (focus (intro hc _ _; (try simp only [Bool.and_eq_true, Bool.not_eq_true', Bool.true_and] at hc); go_simp; exact ⟨rfl, rfl⟩)); (focus (intro hc _ _; with_reducible (exact hT _ (by have h := H.out; (repeat' (first | (with_reducible exact h) | (with_reducible refine StoIs.ext ?_ _ _))))))); simp only [Act.put, List.setIfInBounds_toArray, List.set_cons_zero, List.set_cons_succ]))
          refine text_nil (HF.out _ (fun mx dx => ?_))
          clear HF F
          go_upto_region 3 with (fail)
          refine wp_region_ext (by kernel_rfl) (by kernel_rfl) (fun F hF => ?_)
          have HF := hid hF; clear hF
          repeat (first
            | (apply text_skip; (focus rfl); simp only [Act.put, List.setIfInBounds_toArray, List.set_cons_zero, List.set_cons_succ])
            | (apply text_val; (focus rfl); (focus (intro _ _; go_simp; with_reducible rfl)); simp only [Act.put, List.setIfInBounds_toArray, List.set_cons_zero, List.set_cons_succ])
            | (apply text_if; (focus (first | exact wanted_t rfl rfl | exact wanted_f rfl rfl | exact wanted_gt rfl rfl | exact wanted_gf rfl rfl)); (focus (intro hc _ _; (try simp only [Bool.and_eq_true, Bool.not_eq_true', Bool.true_and] at hc); go_simp; with_reducible rfl)); simp only [Act.put, List.setIfInBounds_toArray, List.set_cons_zero, List.set_cons_succ]))
          refine text_nil (HF.out _ (fun mx dx => ?_))
          clear HF F
          go_upto_region 4 with (fail)
          refine wp_region_seq (fun F hF => ?_)
          have HF := hid hF; clear hF
          repeat (first
            | (apply text_skip; (focus rfl); simp only [Act.put, List.setIfInBounds_toArray, List.set_cons_zero, List.set_cons_succ])
            | (apply text_val; (focus rfl); (focus (intro _ _; go_simp; with_reducible rfl)); simp only [Act.put, List.setIfInBounds_toArray, List.set_cons_zero, List.set_cons_succ])
            | (apply text_if; (focus (first | exact wanted_t rfl rfl | exact wanted_f rfl rfl | exact wanted_gt rfl rfl | exact wanted_gf rfl rfl)); (focus (intro hc _ _; (try simp only [Bool.and_eq_true, Bool.not_eq_true', Bool.true_and] at hc); go_simp; with_reducible rfl)); simp only [Act.put, List.setIfInBounds_toArray, List.set_cons_zero, List.set_cons_succ]))
          refine text_nil (HF.out _ (fun mx dx => ?_))
          clear HF F
          go_upto_region 7 with (fail)
          refine wp_region_seq (fun F hF => ?_)
          have HF := hid hF; clear hF
          repeat (first
            | (apply text_skip; (focus rfl); simp only [Act.put, List.setIfInBounds_toArray, List.set_cons_zero, List.set_cons_succ])
            | (apply text_val; (focus rfl); (focus (intro _ _; go_simp; with_reducible rfl)); simp only [Act.put, List.setIfInBounds_toArray, List.set_cons_zero, List.set_cons_succ])
            | (apply text_call; (focus rfl); (focus (intro _ _; go_simp; exact ⟨rfl, rfl⟩)); (focus (intro _ _; with_reducible (exact hT _ (by have h := H.out; (repeat' (first | (with_reducible exact h) | (with_reducible refine StoIs.ext ?_ _ _))))))); simp only [Act.put, List.setIfInBounds_toArray, List.set_cons_zero, List.set_cons_succ])
            | (apply text_if; (focus (first | exact wanted_t rfl rfl | exact wanted_f rfl rfl | exact wanted_gt rfl rfl | exact wanted_gf rfl rfl)); (focus (intro hc _ _; (try simp only [Bool.and_eq_true, Bool.not_eq_true', Bool.true_and] at hc); go_simp; with_reducible rfl)); simp only [Act.put, List.setIfInBounds_toArray, List.set_cons_zero, List.set_cons_succ])
            | (apply text_if_call; (focus (first | exact wanted_t rfl rfl | exact wanted_f rfl rfl | exact wanted_gt rfl rfl | exact wanted_gf rfl rfl)); (focus (intro hc _ _; (try simp only [Bool.and_eq_true, Bool.not_eq_true', Bool.true_and] at hc); go_simp; exact ⟨rfl, rfl⟩)); (focus (intro hc _ _; with_reducible (exact hT _ (by have h := H.out; (repeat' (first | (with_reducible exact h) | (with_reducible refine StoIs.ext ?_ _ _))))))); simp only [Act.put, List.setIfInBounds_toArray, List.set_cons_zero, List.set_cons_succ]))
          refine text_nil (HF.out _ (fun mx dx => ?_))
          clear HF F
          go_wp2
          go_returns
          exact Q _ _ _
        | false =>
          rw [hNd.out]
          go_enter Try.func90, Try.ntmps90
          go_upto_region 1 with (fail)
          refine wp_region_seq (fun F hF => ?_)
          have HF := hid hF; clear hF
          repeat (first
            | (apply text_skip; (focus rfl); simp only [Act.put, List.setIfInBounds_toArray, List.set_cons_zero, List.set_cons_succ])
            | (apply text_val; (focus rfl); (focus (intro _ _; go_simp; with_reducible rfl)); simp only [Act.put, List.setIfInBounds_toArray, List.set_cons_zero, List.set_cons_succ])
            | (apply text_call; (focus rfl); (focus (intro _ _; go_simp; exact ⟨rfl, rfl⟩)); (focus (intro _ _; with_reducible (exact hT _ (by have h := H.out; (repeat' (first | (with_reducible exact h) | (with_reducible refine StoIs.ext ?_ _ _))))))); simp only [Act.put, List.setIfInBounds_toArray, List.set_cons_zero, List.set_cons_succ])
            | (apply text_if; (focus (first | exact wanted_t rfl rfl | exact wanted_f rfl rfl | exact wanted_gt rfl rfl | exact wanted_gf rfl rfl)); (focus (intro hc _ _; (try simp only [Bool.and_eq_true, Bool.not_eq_true', Bool.true_and] at hc); go_simp; with_reducible rfl)); simp only [Act.put, List.setIfInBounds_toArray, List.set_cons_zero, List.set_cons_succ])
            | (apply text_if_call; (focus (first | exact wanted_t rfl rfl | exact wanted_f rfl rfl | exact wanted_gt rfl rfl | exact wanted_gf rfl rfl)); (focus (intro hc _ _; (try simp only [Bool.and_eq_true, Bool.not_eq_true', Bool.true_and] at hc); go_simp; exact ⟨rfl, rfl⟩)); (focus (intro hc _ _; with_reducible (exact hT _ (by have h := H.out; (repeat' (first | (with_reducible exact h) | (with_reducible refine StoIs.ext ?_ _ _))))))); simp only [Act.put, List.setIfInBounds_toArray, List.set_cons_zero, List.set_cons_succ]))
          refine text_nil (HF.out _ (fun mx dx => ?_))
          clear HF F
          go_upto_region 3 with (fail)
          refine wp_region_ext (by kernel_rfl) (by kernel_rfl) (fun F hF => ?_)
          have HF := hid hF; clear hF
          repeat (first
            | (apply text_skip; (focus rfl); simp only [Act.put, List.setIfInBounds_toArray, List.set_cons_zero, List.set_cons_succ])
            | (apply text_val; (focus rfl); (focus (intro _ _; go_simp; with_reducible rfl)); simp only [Act.put, List.setIfInBounds_toArray, List.set_cons_zero, List.set_cons_succ])
            | (apply text_if; (focus (first | exact wanted_t rfl rfl | exact wanted_f rfl rfl | exact wanted_gt rfl rfl | exact wanted_gf rfl rfl)); (focus (intro hc _ _; (try simp only [Bool.and_eq_true, Bool.not_eq_true', Bool.true_and] at hc); go_simp; with_reducible rfl)); simp only [Act.put, List.setIfInBounds_toArray, List.set_cons_zero, List.set_cons_succ]))
          refine text_nil (HF.out _ (fun mx dx => ?_))
          clear HF F
          go_upto_region 4 with (fail)
          refine wp_region_seq (fun F hF => ?_)
          have HF := hid hF; clear hF
          repeat (first
            | (apply text_skip; (focus rfl); simp only [Act.put, List.setIfInBounds_toArray, List.set_cons_zero, List.set_cons_succ])
            | (apply text_val; (focus rfl); (focus (intro _ _; go_simp; with_reducible rfl)); simp only [Act.put, List.setIfInBounds_toArray, List.set_cons_zero, List.set_cons_succ])
            | (apply text_if; (focus (first | exact wanted_t rfl rfl | exact wanted_f rfl rfl | exact wanted_gt rfl rfl | exact wanted_gf rfl rfl)); (focus (intro hc _ _; (try simp only [Bool.and_eq_true, Bool.not_eq_true', Bool.true_and] at hc); go_simp; with_reducible rfl)); simp only [Act.put, List.setIfInBounds_toArray, List.set_cons_zero, List.set_cons_succ]))
          refine text_nil (HF.out _ (fun mx dx => ?_))
          clear HF F
          go_upto_region 7 with (fail)
          refine wp_region_seq (fun F hF => ?_)
          have HF := hid hF; clear hF
          repeat (first
            | (apply text_skip; (focus rfl); simp only [Act.put, List.setIfInBounds_toArray, List.set_cons_zero, List.set_cons_succ])
            | (apply text_val; (focus rfl); (focus (intro _ _; go_simp; with_reducible rfl)); simp only [Act.put, List.setIfInBounds_toArray, List.set_cons_zero, List.set_cons_succ])
            | (apply text_call; (focus rfl); (focus (intro _ _; go_simp; exact ⟨rfl, rfl⟩)); (focus (intro _ _; with_reducible (exact hT _ (by have h := H.out; (repeat' (first | (with_reducible exact h) | (with_reducible refine StoIs.ext ?_ _ _))))))); simp only [Act.put, List.setIfInBounds_toArray, List.set_cons_zero, List.set_cons_succ])
            | (apply text_if; (focus (first | exact wanted_t rfl rfl | exact wanted_f rfl rfl | exact wanted_gt rfl rfl | exact wanted_gf rfl rfl)); (focus (intro hc _ _; (try simp only [Bool.and_eq_true, Bool.not_eq_true', Bool.true_and] at hc); go_simp; with_reducible rfl)); simp only [Act.put, List.setIfInBounds_toArray, List.set_cons_zero, List.set_cons_succ])
            | (apply text_if_call; (focus (first | exact wanted_t rfl rfl | exact wanted_f rfl rfl | exact wanted_gt rfl rfl | exact wanted_gf rfl rfl)); (focus (intro hc _ _; (try simp only [Bool.and_eq_true, Bool.not_eq_true', Bool.true_and] at hc); go_simp; exact ⟨rfl, rfl⟩)); (focus (intro hc _ _; with_reducible (exact hT _ (by have h := H.out; (repeat' (first | (with_reducible exact h) | (with_reducible refine StoIs.ext ?_ _ _))))))); simp only [Act.put, List.setIfInBounds_toArray, List.set_cons_zero, List.set_cons_succ]))
          refine text_nil (HF.out _ (fun mx dx => ?_))
          clear HF F
          go_upto_region 9 with (fail)
          refine wp_region_seq (fun F hF => ?_)
          have HF := hid hF; clear hF
          repeat (first
            | (apply text_skip; (focus rfl); simp only [Act.put, List.setIfInBounds_toArray, List.set_cons_zero, List.set_cons_succ])
            | (apply text_val; (focus rfl); (focus (intro _ _; go_simp; with_reducible rfl)); simp only [Act.put, List.setIfInBounds_toArray, List.set_cons_zero, List.set_cons_succ])
            | (apply text_call; (focus rfl); (focus (intro _ _; go_simp; exact ⟨rfl, rfl⟩)); (focus (intro _ _; with_reducible (exact hT _ (by have h := H.out; (repeat' (first | (with_reducible exact h) | (with_reducible refine StoIs.ext ?_ _ _))))))); simp only [Act.put, List.setIfInBounds_toArray, List.set_cons_zero, List.set_cons_succ])
            | (apply text_if; (focus (first | exact wanted_t rfl rfl | exact wanted_f rfl rfl | exact wanted_gt rfl rfl | exact wanted_gf rfl rfl)); (focus (intro hc _ _; (try simp only [Bool.and_eq_true, Bool.not_eq_true', Bool.true_and] at hc); go_simp; with_reducible rfl)); simp only [Act.put, List.setIfInBounds_toArray, List.set_cons_zero, List.set_cons_succ])
            | (apply text_if_call; (focus (first | exact wanted_t rfl rfl | exact wanted_f rfl rfl | exact wanted_gt rfl rfl | exact wanted_gf rfl rfl)); (focus (intro hc _ _; (try simp only [Bool.and_eq_true, Bool.not_eq_true', Bool.true_and] at hc); go_simp; exact ⟨rfl, rfl⟩)); (focus (intro hc _ _; with_reducible (exact hT _ (by have h := H.out; (repeat' (first | (with_reducible exact h) | (with_reducible refine StoIs.ext ?_ _ _))))))); simp only [Act.put, List.setIfInBounds_toArray, List.set_cons_zero, List.set_cons_succ]))
          refine text_nil (HF.out _ (fun mx dx => ?_))
          clear HF F
          go_wp2
          go_returns
          exact Q _ _ _
end Go.Proofs.Ytboekafmplomhaa
