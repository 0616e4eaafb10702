/-
  What calls mean, as the statements of layer 15 reckon it.
-/
import Derived.Test.YtboekafmplomhaaZDoes
set_option linter.unusedVariables false
set_option linter.unusedSimpArgs false
namespace Go.Proofs.Ytboekafmplomhaa
open Go.RowKit

/-- Truths as cells. -/
def bools (l : List Bool) : List Value := l.map Value.bool
theorem bools_length (l : List Bool) : (bools l).length = l.length := by simp [bools]
/-- Calls as cells. -/
def flatO : List OpD → List Value
  | [] => []
  | o :: r => .int .i64 o.k :: .int .i64 o.a :: .int .i64 o.b :: .int .i64 o.c :: .bool o.on :: flatO r
theorem flatO_length : ∀ l, (flatO l).length = l.length * 5
  | [] => rfl
  | o :: r => by simp only [flatO, List.length_cons, flatO_length r]; omega
theorem flatO_at : ∀ (l : List OpD) (i : Nat) (o : OpD), l[i]? = some o → (flatO l)[i * 5]? = some (.int .i64 o.k) ∧ (flatO l)[i * 5 + 1]? = some (.int .i64 o.a) ∧ (flatO l)[i * 5 + 2]? = some (.int .i64 o.b) ∧ (flatO l)[i * 5 + 3]? = some (.int .i64 o.c) ∧ (flatO l)[i * 5 + 4]? = some (.bool o.on)
  | [], i, n, h => by simp at h
  | x :: r, 0, n, h => by simp at h; subst h; simp [flatO]
  | x :: r, i + 1, n, h => by
    have := flatO_at r i n (by simpa using h)
    have e : (i + 1) * 5 = i * 5 + 5 := by omega
    rw [e]
    simpa [flatO] using this
theorem flatO_len {w : World} {sv : Value} {l : List OpD} (h : Rd w 5 sv (flatO l)) : ∃ a cap, sv = .slice a l.length cap ∧ l.length ≤ cap ∧ l.length ≤ 9223372036854775807 := by
  obtain ⟨a, n, cap, h1, h2, h3, h4, _⟩ := h
  rw [flatO_length] at h4
  have : n = l.length := by omega
  subst this
  exact ⟨a, cap, h1, h2, h3⟩
/-- One call's cells. -/
theorem Rd.op {w : World} {a : Option Addr} {cap : Nat} {l : List OpD} (h : Rd w 5 (.slice a l.length cap) (flatO l)) {i : Nat} {o : OpD} (hi : l[i]? = some o) :
    ∃ b off, a = some ⟨b, off, none⟩ ∧ b < w.heap.size ∧ w.cell? ⟨b, off + i * 5, none⟩ = some (.int .i64 o.k) ∧ w.cell? ⟨b, off + i * 5 + 1, none⟩ = some (.int .i64 o.a) ∧ w.cell? ⟨b, off + i * 5 + 2, none⟩ = some (.int .i64 o.b) ∧
      w.cell? ⟨b, off + i * 5 + 3, none⟩ = some (.int .i64 o.c) ∧ w.cell? ⟨b, off + i * 5 + 4, none⟩ = some (.bool o.on) := by
  have hlt : i < l.length := (List.getElem?_eq_some_iff.1 hi).1
  obtain ⟨a', n, cap', h1, h2, h3, h4, h5⟩ := h
  simp only [Value.slice.injEq] at h1
  obtain ⟨rfl, rfl, rfl⟩ := h1
  obtain ⟨b, off, e1, e2, e3⟩ := h5 (by omega)
  obtain ⟨q0, q1, q2, q3, q4⟩ := flatO_at l i o hi
  exact ⟨b, off, e1, e2, e3 _ _ q0, by have := e3 _ _ q1; rw [← Nat.add_assoc] at this; exact this, by have := e3 _ _ q2; rw [← Nat.add_assoc] at this; exact this,
    by have := e3 _ _ q3; rw [← Nat.add_assoc] at this; exact this, by have := e3 _ _ q4; rw [← Nat.add_assoc] at this; exact this⟩

/-- A row of our own reads as its cells. -/
theorem RowIs.rd {w : World} {sv : Value} {G : Option Nat} {e : TypeId} {size n : Nat} {xs : List Value} (h : RowIs w sv G e size n xs) : Rd w size sv xs := by
  obtain ⟨h0, ⟨rfl, rfl, _⟩ | ⟨g, cap, cur, rfl, rfl, h3, h4, h5, h6, h7⟩⟩ := h
  · exact ⟨none, 0, 0, rfl, Nat.le_refl _, by omega, h0, fun h => by omega⟩
  · refine ⟨some ⟨g, 0, none⟩, n, cap, rfl, h4, by unfold maxLen at h5; omega, h0, fun hn => ⟨g, 0, rfl, (Array.getElem?_eq_some_iff.1 h3).1, fun j u hu => ?_⟩⟩
    have hj : j < n * size := by rw [← h0]; exact (List.getElem?_eq_some_iff.1 hu).1
    rw [← h7, List.getElem?_take_of_lt hj] at hu
    simp only [World.cell?, h3, Nat.zero_add]
    simpa using hu

theorem lund1_any {w : World} {all : List Bool} {sv : Value} (h : Rd w 1 sv (bools all)) (hlen : all.length ≤ 1000000) (b : Nat) (hb : b < w.heap.size) (cb : w.cell? ⟨b, 0, none⟩ = some sv) (i : Int) :
    Calls Try.prog 81 #[.int .i64 i, .pointer (some ⟨b, 0, none⟩)] w (Pure (.bool (backAt false all i)) w) := by
  obtain ⟨a, n, cap, rfl, h2, h3, h4, h5⟩ := h
  rw [bools_length, Nat.mul_one] at h4
  subst h4
  by_cases h0 : i < 0
  · have e : backAt false all i = false := by unfold backAt; rw [if_pos (.inl h0)]
    rw [e]
    clear e
    go_enter Try.func81, Try.ntmps81
    go_upto_region 1 with (fail)
    refine wp_region_seq (fun F hF => ?_)
    have HF := hid hF; clear hF
    repeat (first
      | (apply text_skip; (focus rfl); simp only [Act.put, List.setIfInBounds_toArray, List.set_cons_zero, List.set_cons_succ])
      | (apply text_val; (focus rfl); (focus (intro _ _; go_simp; with_reducible rfl)); simp only [Act.put, List.setIfInBounds_toArray, List.set_cons_zero, List.set_cons_succ])
      | (apply text_if; (focus (first | exact wanted_t rfl rfl | exact wanted_f rfl rfl | exact wanted_gt rfl rfl | exact wanted_gf rfl rfl)); (focus (intro hc _ _; (try simp only [Bool.and_eq_true, Bool.not_eq_true', Bool.true_and] at hc); go_simp; with_reducible rfl)); simp only [Act.put, List.setIfInBounds_toArray, List.set_cons_zero, List.set_cons_succ]))
    refine text_nil (HF.out _ (fun mx dx => ?_))
    clear HF F
    go_wp2
    go_returns
    exact Pure.of rfl (by (repeat' (first | (with_reducible exact Below.refl _ _) | (with_reducible refine Below.ext_mk ?_ ?_ _ _) | (with_reducible refine Below.alloc ?_ ?_ _) | (with_reducible refine Below.drew ?_) | (with_reducible refine Below.setCell ?_ ?_ _) | go_size)))
  · by_cases hz : all.length = 0
    · have e : backAt false all i = false := by unfold backAt; rw [if_pos (.inr hz)]
      rw [e]
      clear e
      rw [hz] at cb
      clear h5 hlen h2 h3
      go_enter Try.func81, Try.ntmps81
      go_upto_region 1 with (fail)
      refine wp_region_seq (fun F hF => ?_)
      have HF := hid hF; clear hF
      repeat (first
        | (apply text_skip; (focus rfl); simp only [Act.put, List.setIfInBounds_toArray, List.set_cons_zero, List.set_cons_succ])
        | (apply text_val; (focus rfl); (focus (intro _ _; go_simp; with_reducible rfl)); simp only [Act.put, List.setIfInBounds_toArray, List.set_cons_zero, List.set_cons_succ])
        | (apply text_if; (focus (first | exact wanted_t rfl rfl | exact wanted_f rfl rfl | exact wanted_gt rfl rfl | exact wanted_gf rfl rfl)); (focus (intro hc _ _; (try simp only [Bool.and_eq_true, Bool.not_eq_true', Bool.true_and] at hc); go_simp; with_reducible rfl)); simp only [Act.put, List.setIfInBounds_toArray, List.set_cons_zero, List.set_cons_succ]))
      refine text_nil (HF.out _ (fun mx dx => ?_))
      clear HF F
      go_wp2
      go_returns
      exact Pure.of rfl (by (repeat' (first | (with_reducible exact Below.refl _ _) | (with_reducible refine Below.ext_mk ?_ ?_ _ _) | (with_reducible refine Below.alloc ?_ ?_ _) | (with_reducible refine Below.drew ?_) | (with_reducible refine Below.setCell ?_ ?_ _) | go_size)))
    · obtain ⟨b', off, rfl, e2, e3⟩ := h5 (by omega)
      have hm : i.toNat % all.length < all.length := Nat.mod_lt _ (by omega)
      have hj : all.length - 1 - i.toNat % all.length < all.length := by omega
      have hcell := e3 (all.length - 1 - i.toNat % all.length) (.bool (backAt false all i)) (by
        unfold backAt bools
        rw [if_neg (by omega), List.getElem?_map, List.getElem?_eq_getElem hj]; rfl)
      obtain ⟨k, rfl⟩ : ∃ k : Nat, i = (k : Int) := ⟨i.toNat, by omega⟩
      simp only [Int.toNat_natCast] at hm hj hcell ⊢
      obtain ⟨j, hjd⟩ : ∃ j, j = all.length - 1 - k % all.length := ⟨_, rfl⟩
      rw [← hjd] at hcell hj
      have ew : IntKind.i64.wrap ((all.length : Int) - 1) = (all.length : Int) - 1 := IntWalk.i64_in _ (by omega)
      have et : (k : Int).tmod (all.length : Int) = (k : Int) % (all.length : Int) := rfl
      have em : ((k % all.length : Nat) : Int) = (k : Int) % (all.length : Int) := by simp
      have es : IntKind.i64.wrap ((all.length : Int) - 1 - (k : Int) % (all.length : Int)) = (j : Int) := by
        rw [← em, IntWalk.i64_in _ (by omega)]; omega
      have hz2 : ((all.length : Int) == 0) = false := by simp; intro e; exact hz (by rw [e]; rfl)
      have hz' : (all = []) = False := by simp; intro e; exact hz (by rw [e]; rfl)
      have hj1 : (j : Int) < (all.length : Int) := by omega
      have hj0 : (0 : Int) ≤ (j : Int) := by omega
      clear hjd h0 hz em e3 hm hj h3 h2 hlen h5
      go_enter Try.func81, Try.ntmps81
      go_upto_region 1 with (fail)
      refine wp_region_seq (fun F hF => ?_)
      have HF := hid hF; clear hF
      repeat (first
        | (apply text_skip; (focus rfl); simp only [Act.put, List.setIfInBounds_toArray, List.set_cons_zero, List.set_cons_succ])
        | (apply text_val; (focus rfl); (focus (intro _ _; go_simp; with_reducible rfl)); simp only [Act.put, List.setIfInBounds_toArray, List.set_cons_zero, List.set_cons_succ])
        | (apply text_if; (focus (first | exact wanted_t rfl rfl | exact wanted_f rfl rfl | exact wanted_gt rfl rfl | exact wanted_gf rfl rfl)); (focus (intro hc _ _; (try simp only [Bool.and_eq_true, Bool.not_eq_true', Bool.true_and] at hc); go_simp; with_reducible rfl)); simp only [Act.put, List.setIfInBounds_toArray, List.set_cons_zero, List.set_cons_succ]))
      refine text_nil (HF.out _ (fun mx dx => ?_))
      clear HF F
      go_upto_region 3 with (fail)
      refine wp_region_ext (by kernel_rfl) (by kernel_rfl) (fun F hF => ?_)
      have HF := hid hF; clear hF
      repeat (first
        | (apply text_skip; (focus rfl); simp only [Act.put, List.setIfInBounds_toArray, List.set_cons_zero, List.set_cons_succ])
        | (apply text_val; (focus rfl); (focus (intro _ _; go_simp; with_reducible rfl)); simp only [Act.put, List.setIfInBounds_toArray, List.set_cons_zero, List.set_cons_succ])
        | (apply text_if; (focus (first | exact wanted_t rfl rfl | exact wanted_f rfl rfl | exact wanted_gt rfl rfl | exact wanted_gf rfl rfl)); (focus (intro hc _ _; (try simp only [Bool.and_eq_true, Bool.not_eq_true', Bool.true_and] at hc); go_simp; with_reducible rfl)); simp only [Act.put, List.setIfInBounds_toArray, List.set_cons_zero, List.set_cons_succ]))
      refine text_nil (HF.out _ (fun mx dx => ?_))
      clear HF F
      go_wp2
      go_returns
      exact Pure.of rfl (by (repeat' (first | (with_reducible exact Below.refl _ _) | (with_reducible refine Below.ext_mk ?_ ?_ _ _) | (with_reducible refine Below.alloc ?_ ?_ _) | (with_reducible refine Below.drew ?_) | (with_reducible refine Below.setCell ?_ ?_ _) | go_size)))

end Go.Proofs.Ytboekafmplomhaa
