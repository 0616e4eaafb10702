/-
  The store's calls that only read.
-/
import Derived.Test.YtboekafmplomhaaZSto
set_option linter.unusedVariables false
set_option linter.unusedSimpArgs false
namespace Go.Proofs.Ytboekafmplomhaa
open Go.RowKit

theorem full_any {w : World} {p : Nat} {F : List Nat} {S : Sto} (h : StoIs w p F S) (hc : S.cap ≠ 0) :
    Calls Try.prog 22 #[.pointer (some ⟨p, 0, none⟩)] w (Pure (.bool S.full) w) := by
  obtain ⟨a, cap', bm, tm, hp, c0, c1, c2, c3, c4, hm⟩ := h.cells
  have hn : ∀ m d, Calls Try.prog 82 #[.pointer (some ⟨p, 0, none⟩)] (w.ext m d) (Pure (.bool false) (w.ext m d)) := fun m d => none_any (h.ext m d) hc
  go_enter Try.func22, Try.ntmps22
  go_upto_region 1 with (fail)
  refine wp_region_seq (fun F hF => ?_)
  have HF := hid hF; clear hF
  repeat (first
    | (apply text_skip; (focus rfl); simp only [Act.put, List.setIfInBounds_toArray, List.set_cons_zero, List.set_cons_succ])
    | (apply text_val; (focus rfl); (focus (intro _ _; go_simp; with_reducible rfl)); simp only [Act.put, List.setIfInBounds_toArray, List.set_cons_zero, List.set_cons_succ])
    | (apply text_call; (focus rfl); (focus (intro _ _; go_simp; exact ⟨rfl, rfl⟩)); (focus (intro _ _; with_reducible (exact hn _ _))); simp only [Act.put, List.setIfInBounds_toArray, List.set_cons_zero, List.set_cons_succ])
    | (apply text_if; (focus (first | exact wanted_t rfl rfl | exact wanted_f rfl rfl | exact wanted_gt rfl rfl | exact wanted_gf rfl rfl)); (focus (intro hc _ _; (try simp only [Bool.and_eq_true, Bool.not_eq_true', Bool.true_and] at hc); go_simp; with_reducible rfl)); simp only [Act.put, List.setIfInBounds_toArray, List.set_cons_zero, List.set_cons_succ])
    | (apply text_if_call; (focus (first | exact wanted_t rfl rfl | exact wanted_f rfl rfl | exact wanted_gt rfl rfl | exact wanted_gf rfl rfl)); (focus (intro hc _ _; (try simp only [Bool.and_eq_true, Bool.not_eq_true', Bool.true_and] at hc); go_simp; exact ⟨rfl, rfl⟩)); (focus (intro hc _ _; with_reducible (exact hn _ _))); simp only [Act.put, List.setIfInBounds_toArray, List.set_cons_zero, List.set_cons_succ]))
  refine text_nil (HF.out _ (fun mx dx => ?_))
  clear HF F
  go_wp2
  go_returns
  exact Pure.of rfl (by (repeat' (first | (with_reducible exact Below.refl _ _) | (with_reducible refine Below.ext_mk ?_ ?_ _ _) | (with_reducible refine Below.alloc ?_ ?_ _) | (with_reducible refine Below.drew ?_) | (with_reducible refine Below.setCell ?_ ?_ _) | go_size)))

theorem len_any {w : World} {p : Nat} {F : List Nat} {S : Sto} (h : StoIs w p F S) (hc : S.cap ≠ 0) :
    Calls Try.prog 20 #[.pointer (some ⟨p, 0, none⟩)] w (Pure (.int .i64 S.nodes.length) w) := by
  obtain ⟨a, cap', bm, tm, hp, c0, c1, c2, c3, c4, hm⟩ := h.cells
  have hn := none_any h hc
  go_enter Try.func20, Try.ntmps20
  go_wp2_with (go_at_call 82; refine hn.mono ?_; rintro e w' ⟨rfl, m1, d1, rfl⟩)
  go_returns
  exact Pure.of rfl (by (repeat' (first | (with_reducible exact Below.refl _ _) | (with_reducible refine Below.ext_mk ?_ ?_ _ _) | (with_reducible refine Below.alloc ?_ ?_ _) | (with_reducible refine Below.drew ?_) | (with_reducible refine Below.setCell ?_ ?_ _) | go_size)))

/-- A diagram; what is none is 0. -/
def rightOf (S : Sto) (a : Int) : Int := if a < 0 ∨ (S.nodes.length : Int) + 2 ≤ a then 0 else a
theorem right_any {w : World} {p : Nat} {F : List Nat} {S : Sto} (h : StoIs w p F S) (hl : S.nodes.length ≤ 1048576) (x : Int) :
    Calls Try.prog 83 #[.pointer (some ⟨p, 0, none⟩), .int .i64 x] w (Pure (.int .i64 (rightOf S x)) w) := by
  obtain ⟨a, cap', bm, tm, hp, c0, c1, c2, c3, c4, hm⟩ := h.cells
  have hw : IntKind.i64.wrap ((S.nodes.length : Int) + 2) = (S.nodes.length : Int) + 2 := IntWalk.i64_in _ (by omega)
  go_enter Try.func83, Try.ntmps83
  go_upto_region 1 with (fail)
  refine wp_region_seq (fun F hF => ?_)
  have HF := hid hF; clear hF
  repeat (first
    | (apply text_skip; (focus rfl); simp only [Act.put, List.setIfInBounds_toArray, List.set_cons_zero, List.set_cons_succ])
    | (apply text_val; (focus rfl); (focus (intro _ _; go_simp; with_reducible rfl)); simp only [Act.put, List.setIfInBounds_toArray, List.set_cons_zero, List.set_cons_succ])
    | (apply text_if; (focus (first | exact wanted_t rfl rfl | exact wanted_f rfl rfl | exact wanted_gt rfl rfl | exact wanted_gf rfl rfl)); (focus (intro hc _ _; (try simp only [Bool.and_eq_true, Bool.not_eq_true', Bool.true_and] at hc); go_simp; with_reducible rfl)); simp only [Act.put, List.setIfInBounds_toArray, List.set_cons_zero, List.set_cons_succ]))
  refine text_nil (HF.out _ (fun mx dx => ?_))
  clear HF F
  go_wp2
  · go_returns
    exact Pure.of (by unfold rightOf; rw [if_pos (by assumption)]; rfl) (by (repeat' (first | (with_reducible exact Below.refl _ _) | (with_reducible refine Below.ext_mk ?_ ?_ _ _) | (with_reducible refine Below.alloc ?_ ?_ _) | (with_reducible refine Below.drew ?_) | (with_reducible refine Below.setCell ?_ ?_ _) | go_size)))
  · go_returns
    exact Pure.of (by unfold rightOf; rw [if_neg (by omega)]; rfl) (by (repeat' (first | (with_reducible exact Below.refl _ _) | (with_reducible refine Below.ext_mk ?_ ?_ _ _) | (with_reducible refine Below.alloc ?_ ?_ _) | (with_reducible refine Below.drew ?_) | (with_reducible refine Below.setCell ?_ ?_ _) | go_size)))

/-- A node's cells. -/
theorem StoNode {w : World} {p : Nat} {F : List Nat} {S : Sto} (h : StoIs w p F S) {i : Nat} {n : Nd} (hi : S.nodes[i]? = some n) :
    ∃ (g cap' bm tm : Nat), p < w.heap.size ∧ g < w.heap.size ∧ w.cell? ⟨p, 0, none⟩ = some (.int .i64 S.cap) ∧ w.cell? ⟨p, 1, none⟩ = some (.slice (some ⟨g, 0, none⟩) S.nodes.length cap') ∧
      w.cell? ⟨p, 2, none⟩ = some (.map (some bm)) ∧ w.cell? ⟨p, 3, none⟩ = some (.map (some tm)) ∧ w.cell? ⟨p, 4, none⟩ = some (.bool S.full) ∧ S.nodes.length ≤ 9223372036854775807 ∧
      w.cell? ⟨g, i * 3, none⟩ = some (.int .i64 n.1) ∧ w.cell? ⟨g, i * 3 + 1, none⟩ = some (.int .i64 n.2.1) ∧ w.cell? ⟨g, i * 3 + 2, none⟩ = some (.int .i64 n.2.2) := by
  have hlt : i < S.nodes.length := (List.getElem?_eq_some_iff.1 hi).1
  obtain ⟨f0, f1, f2⟩ := flat_at S.nodes i n hi
  obtain ⟨sv, G, bm, tm, h1, h2, h3, h4, h5, _⟩ := h
  obtain ⟨_, _, _, hm⟩ := h2.form
  obtain ⟨g, cap', rfl, rfl, e0, _⟩ := h2.at (j := 0) hlt (by omega)
  obtain ⟨g1, cap1, q1, q2, e1, _⟩ := h2.at (j := 1) hlt (by omega)
  obtain ⟨g2, cap2, q3, q4, e2, _⟩ := h2.at (j := 2) hlt (by omega)
  cases q2; cases q4
  unfold maxLen at hm
  refine ⟨g, cap', bm, tm, (Array.getElem?_eq_some_iff.1 h1).1, h2.lt g rfl, ?_, ?_, ?_, ?_, ?_, hm, by rw [← f0]; simpa using e0, by rw [← f1]; exact e1, by rw [← f2]; exact e2⟩ <;> simp [World.cell?, h1]

/-- A diagram's variable. -/
def topOf (S : Sto) (a : Int) : Int := if a < 2 then 64 else ((S.nodes[(a - 2).toNat]?).getD (0, 0, 0)).1
theorem top_any {w : World} {p : Nat} {F : List Nat} {S : Sto} (h : StoIs w p F S) (hl : S.nodes.length ≤ 1048576) (x : Int) (hx : x < S.nodes.length + 2) :
    Calls Try.prog 134 #[.pointer (some ⟨p, 0, none⟩), .int .i64 x] w (Pure (.int .i64 (topOf S x)) w) := by
  by_cases h2 : x < 2
  · go_enter Try.func134, Try.ntmps134
    go_wp2
    go_returns
    exact Pure.of (by unfold topOf; rw [if_pos h2]; rfl) (by (repeat' (first | (with_reducible exact Below.refl _ _) | (with_reducible refine Below.ext_mk ?_ ?_ _ _) | (with_reducible refine Below.alloc ?_ ?_ _) | (with_reducible refine Below.drew ?_) | (with_reducible refine Below.setCell ?_ ?_ _) | go_size)))
  · obtain ⟨i, rfl⟩ : ∃ i : Nat, x = (i : Int) + 2 := ⟨(x - 2).toNat, by omega⟩
    have hi : i < S.nodes.length := by omega
    obtain ⟨n, hn⟩ : ∃ n, S.nodes[i]? = some n := ⟨S.nodes[i], by simp [hi]⟩
    obtain ⟨g, cap', bm, tm, hp, hg, c0, c1, c2, c3, c4, hm, n0, n1, n2⟩ := StoNode h hn
    have Hn := hid hn; clear hn
    go_enter Try.func134, Try.ntmps134
    go_wp2
    go_returns
    exact Pure.of (by unfold topOf; rw [if_neg (by omega), show ((i : Int) + 2 - 2).toNat = i by omega, Hn.out]; rfl) (by (repeat' (first | (with_reducible exact Below.refl _ _) | (with_reducible refine Below.ext_mk ?_ ?_ _ _) | (with_reducible refine Below.alloc ?_ ?_ _) | (with_reducible refine Below.drew ?_) | (with_reducible refine Below.setCell ?_ ?_ _) | go_size)))

theorem topOf_node {S : Sto} {i : Nat} {n : Nd} (h : S.nodes[i]? = some n) : topOf S ((i : Int) + 2) = n.1 := by
  unfold topOf; rw [if_neg (by omega), show ((i : Int) + 2 - 2).toNat = i by omega, h]; rfl
/-- A diagram where a variable is false, and true. -/
def splitOf (S : Sto) (a v : Int) : Int × Int :=
  if topOf S a = v then ((S.nodes[(a - 2).toNat]?).getD (0, 0, 0)).2 else (a, a)
theorem split_any {w : World} {p : Nat} {F : List Nat} {S : Sto} (h : StoIs w p F S) (hl : S.nodes.length ≤ 1048576) (x v : Int) (hx : x < S.nodes.length + 2) (hv : v < 64) :
    Calls Try.prog 135 #[.pointer (some ⟨p, 0, none⟩), .int .i64 x, .int .i64 v] w (Pure (.tuple #[.int .i64 (splitOf S x v).1, .int .i64 (splitOf S x v).2]) w) := by
  have ht := top_any h hl x hx
  by_cases hv' : topOf S x = v
  · have h2 : ¬ x < 2 := fun h2 => by unfold topOf at hv'; rw [if_pos h2] at hv'; omega
    obtain ⟨i, rfl⟩ : ∃ i : Nat, x = (i : Int) + 2 := ⟨(x - 2).toNat, by omega⟩
    have hi : i < S.nodes.length := by omega
    obtain ⟨n, hn⟩ : ∃ n, S.nodes[i]? = some n := ⟨S.nodes[i], by simp [hi]⟩
    obtain ⟨g, cap', bm, tm, hp, hg, c0, c1, c2, c3, c4, hm, n0, n1, n2⟩ := StoNode h hn
    have es : splitOf S ((i : Int) + 2) v = (n.2.1, n.2.2) := by
      unfold splitOf; rw [if_pos hv', show ((i : Int) + 2 - 2).toNat = i by omega, hn]; rfl
    rw [es]
    rw [hv'] at ht
    have Hn := hid hn; clear hn
    have Hv := hid hv'; clear hv'
    have hb : IntKind.i64.wrap (i : Int) = (i : Int) := IntWalk.i64_in _ (by omega)
    have hi1 : (i : Int) < (S.nodes.length : Int) := by omega
    have hi2 : (0 : Int) ≤ (i : Int) := by omega
    clear es
    go_enter Try.func135, Try.ntmps135
    go_wp2_with (go_at_call 134; refine ht.mono ?_; rintro e w' ⟨rfl, m1, d1, rfl⟩)
    refine wp_region_ext (by kernel_rfl) (by kernel_rfl) (fun F hF => ?_)
    have HF := hid hF; clear hF
    repeat (first
      | (apply text_skip; (focus rfl); simp only [Act.put, List.setIfInBounds_toArray, List.set_cons_zero, List.set_cons_succ])
      | (apply text_val; (focus rfl); (focus (intro _ _; go_simp; with_reducible rfl)); simp only [Act.put, List.setIfInBounds_toArray, List.set_cons_zero, List.set_cons_succ])
      | (apply text_if; (focus (first | exact wanted_t rfl rfl | exact wanted_f rfl rfl | exact wanted_gt rfl rfl | exact wanted_gf rfl rfl)); (focus (intro hc _ _; (try simp only [Bool.and_eq_true, Bool.not_eq_true', Bool.true_and] at hc); go_simp; with_reducible rfl)); simp only [Act.put, List.setIfInBounds_toArray, List.set_cons_zero, List.set_cons_succ]))
    refine text_nil (HF.out _ (fun mx dx => ?_))
    clear HF F
    go_wp2
    go_returns
    exact Pure.of rfl (by (repeat' (first | (with_reducible exact Below.refl _ _) | (with_reducible refine Below.ext_mk ?_ ?_ _ _) | (with_reducible refine Below.alloc ?_ ?_ _) | (with_reducible refine Below.drew ?_) | (with_reducible refine Below.setCell ?_ ?_ _) | go_size)))
  · have es : splitOf S x v = (x, x) := by unfold splitOf; rw [if_neg hv']
    rw [es]
    clear es
    go_enter Try.func135, Try.ntmps135
    go_wp2_with (go_at_call 134; refine ht.mono ?_; rintro e w' ⟨rfl, m1, d1, rfl⟩)
    go_returns
    exact Pure.of rfl (by (repeat' (first | (with_reducible exact Below.refl _ _) | (with_reducible refine Below.ext_mk ?_ ?_ _ _) | (with_reducible refine Below.alloc ?_ ?_ _) | (with_reducible refine Below.drew ?_) | (with_reducible refine Below.setCell ?_ ?_ _) | go_size)))

end Go.Proofs.Ytboekafmplomhaa
