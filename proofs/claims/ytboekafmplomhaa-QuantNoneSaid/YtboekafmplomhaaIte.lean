/-
  Ite's walk, whole.
-/
import Derived.Test.YtboekafmplomhaaIteW
set_option linter.unusedVariables false
set_option linter.unusedSimpArgs false
namespace Go.Proofs.Ytboekafmplomhaa
open Go.RowKit

theorem ite_any : ∀ (n : Nat) (w : World) (p : Nat) (F : List Nat) (S : Sto) (c a b : Int), StoIs w p F S → Wf S → S.has c → S.has a → S.has b → 64 - low S c a b < n →
    Calls Try.prog 88 #[.pointer (some ⟨p, 0, none⟩), .int .i64 c, .int .i64 a, .int .i64 b] w
      (fun e w' => e = endOf (iteN n S c a b).2 ∧ Turned w p F (iteN n S c a b).1 w') := by
  intro n
  induction n with
  | zero => intro w p F S c a b h hW hc ha hb hn; have := (low_le S c a b).1; have := topOf_le hW hc; omega
  | succ n ih =>
    intro w p F S c a b h hW hc ha hb hn
    have hT : Turned w p F S w := ⟨F, h, StoStep.refl w F⟩
    by_cases e1 : c = 1 ∨ a = b
    · rw [show iteN (n + 1) S c a b = (S, some a) by simp only [iteN, if_pos e1]]
      clear ih
      by_cases e0 : c = 1
      · clear e1
        subst e0
        go_enter Try.func88, Try.ntmps88
        go_wp2
        go_returns
        exact ⟨rfl, hT⟩
      · have e2 : a = b := by simpa [e0] using e1
        have e0' : (c == 1) = false := by simpa using e0
        clear e1
        subst e2
        go_enter Try.func88, Try.ntmps88
        go_wp2
        go_returns
        exact ⟨rfl, hT⟩
    · skip
      have f1 : (c == 1) = false := by simp at e1; simpa using e1.1
      have f2 : (a == b) = false := by simp at e1; simpa using e1.2
      by_cases e2 : c = 0
      · rw [show iteN (n + 1) S c a b = (S, some b) by simp only [iteN, if_neg e1, if_pos e2]]
        clear ih e1
        subst e2
        go_enter Try.func88, Try.ntmps88
        go_wp2
        go_returns
        exact ⟨rfl, hT⟩
      · skip
        have f3 : (c == 0) = false := by simpa using e2
        by_cases e3 : a = 1 ∧ b = 0
        · rw [show iteN (n + 1) S c a b = (S, some c) by simp only [iteN, if_neg e1, if_neg e2, if_pos e3]]
          obtain ⟨rfl, rfl⟩ := e3
          clear ih e1
          go_enter Try.func88, Try.ntmps88
          go_wp2
          go_returns
          exact ⟨rfl, hT⟩
        · cases ht : aget S.told (c, a, b) with
          | none =>
            by_cases q : a = 1
            · exact ite_work2 n ih h hW hc ha hb hn e1 e2 q (fun q' => e3 ⟨q, q'⟩) ht
            · exact ite_work1 n ih h hW hc ha hb hn e1 e2 q ht
          | some r =>
          rw [show iteN (n + 1) S c a b = (S, some r) by simp only [iteN, if_neg e1, if_neg e2, if_neg e3, ht]]
          have f4 : (a == 1) = false ∨ ((a == 1) = true ∧ (b == 0) = false) := by
            by_cases q : a = 1
            · exact .inr ⟨by simpa using q, by simpa [q] using e3⟩
            · exact .inl (by simpa using q)
          obtain ⟨sv, G, bm, tm, hA, rfl⟩ := h.at
          obtain ⟨_, _, _, d3, _, _⟩ := hA.cells
          have dp := hA.lt.1
          have hlook : ∀ m d, (Instr.lookup 45 (.map (some tm)) (kv (c, a, b)) true).run Try.prog (w.ext m d) = .ok (.tuple #[.int .i64 ((aget S.told (c, a, b)).getD 0), .bool (aget S.told (c, a, b)).isSome]) (w.ext m d) := fun m d =>
            lookup_run (w := w.ext m d) key_three Try.underlying45 (zero_int _) (MapIs.keep hA.told (World.heap_ext _ _ _ hA.lt.2.2.1)) (c, a, b) true
          clear hA
          have hl1 : S.nodes.length ≤ 1048576 := by have := hW.len; have := hW.cap; omega
          · simp only [ht, Option.getD_some, Option.isSome_some] at hlook
            clear ih e1 e2 e3 hn hc ha hb ht hW hl1
            go_enter Try.func88, Try.ntmps88
            rcases f4 with f4 | ⟨f4, f5⟩
            all_goals
              go_upto_region 7 with (fail)
              refine wp_region_seq (fun F hF => ?_)
              have HF := hid hF; clear hF
              repeat (first
                | (apply text_skip; (focus rfl); simp only [Act.put, List.setIfInBounds_toArray, List.set_cons_zero, List.set_cons_succ])
                | (apply text_val; (focus rfl); (focus (intro _ _; go_simp; with_reducible rfl)); simp only [Act.put, List.setIfInBounds_toArray, List.set_cons_zero, List.set_cons_succ])
                | (apply text_if; (focus (first | exact wanted_t rfl rfl | exact wanted_f rfl rfl | exact wanted_gt rfl rfl | exact wanted_gf rfl rfl)); (focus (intro hc _ _; (try simp only [Bool.and_eq_true, Bool.not_eq_true', Bool.true_and] at hc); go_simp; with_reducible rfl)); simp only [Act.put, List.setIfInBounds_toArray, List.set_cons_zero, List.set_cons_succ]))
              refine text_nil (HF.out _ (fun mx dx => ?_))
              clear HF F
              go_wp2
              go_returns
              exact ⟨rfl, Turned.refl h _ _⟩

end Go.Proofs.Ytboekafmplomhaa
