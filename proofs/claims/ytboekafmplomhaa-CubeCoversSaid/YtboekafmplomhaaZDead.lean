/-
  Stores that are not there, were not made, or are full: all calls that make diagrams tell 0.
-/
import Derived.Test.YtboekafmplomhaaZCallsB
set_option linter.unusedVariables false
set_option linter.unusedSimpArgs false
namespace Go.Proofs.Ytboekafmplomhaa
open Go.RowKit

/-- A pointer to no store: nil, or one that was not made. -/
def NoSto (w : World) (q : Option Addr) : Prop := q = none ∨ ∃ z, q = some ⟨z, 0, none⟩ ∧ z < w.heap.size ∧ w.cell? ⟨z, 0, none⟩ = some (.int .i64 0)
theorem NoSto.below {w w' : World} {q : Option Addr} (h : NoSto w q) (hb : Below w.heap.size w w') : NoSto w' q := by
  rcases h with h | ⟨z, h1, h2, h3⟩
  · exact .inl h
  · exact .inr ⟨z, h1, Nat.lt_of_lt_of_le h2 hb.size, (hb.cell (p := ⟨z, 0, none⟩) h2).trans h3⟩

theorem none_no {w : World} {q : Option Addr} (h : NoSto w q) : Calls Try.prog 82 #[.pointer q] w (Pure (.bool true) w) := by
  rcases h with rfl | ⟨z, rfl, hz, c0⟩
  · go_enter Try.func82, Try.ntmps82
    go_wp2
    go_returns
    exact Pure.of rfl (by (repeat' (first | (with_reducible exact Below.refl _ _) | (with_reducible refine Below.ext_mk ?_ ?_ _ _) | (with_reducible refine Below.alloc ?_ ?_ _) | (with_reducible refine Below.drew ?_) | (with_reducible refine Below.setCell ?_ ?_ _) | go_size)))
  · go_enter Try.func82, Try.ntmps82
    go_wp2
    go_returns
    exact Pure.of rfl (by (repeat' (first | (with_reducible exact Below.refl _ _) | (with_reducible refine Below.ext_mk ?_ ?_ _ _) | (with_reducible refine Below.alloc ?_ ?_ _) | (with_reducible refine Below.drew ?_) | (with_reducible refine Below.setCell ?_ ?_ _) | go_size)))

theorem full_no {w : World} {q : Option Addr} (h : NoSto w q) : Calls Try.prog 22 #[.pointer q] w (Pure (.bool true) w) := by
  have hn : ∀ m d, Calls Try.prog 82 #[.pointer q] (w.ext m d) (Pure (.bool true) (w.ext m d)) := fun m d => none_no (h.below (Below.ext_mk (Below.refl _ _) (Nat.le_refl _) m d))
  clear h
  go_enter Try.func22, Try.ntmps22
  go_upto_region 1 with (fail)
  refine wp_region_seq (fun F hF => ?_)
  have HF := hid hF; clear hF
  repeat (first
    | (apply text_skip; (focus rfl); simp only [Act.put, List.setIfInBounds_toArray, List.set_cons_zero, List.set_cons_succ])
    | (apply text_val; (focus rfl); (focus (intro _ _; go_simp; with_reducible rfl)); simp only [Act.put, List.setIfInBounds_toArray, List.set_cons_zero, List.set_cons_succ])
    | (apply text_call; (focus rfl); (focus (intro _ _; go_simp; exact ⟨rfl, rfl⟩)); (focus (intro _ _; with_reducible (exact hn _ _))); simp only [Act.put, List.setIfInBounds_toArray, List.set_cons_zero, List.set_cons_succ])
    | (apply text_if; (focus (first | exact wanted_t rfl rfl | exact wanted_f rfl rfl | exact wanted_gt rfl rfl | exact wanted_gf rfl rfl)); (focus (intro hc _ _; (try simp only [Bool.and_eq_true, Bool.not_eq_true', Bool.true_and] at hc); go_simp; with_reducible rfl)); simp only [Act.put, List.setIfInBounds_toArray, List.set_cons_zero, List.set_cons_succ])
    | (apply text_if_call; (focus (first | exact wanted_t rfl rfl | exact wanted_f rfl rfl | exact wanted_gt rfl rfl | exact wanted_gf rfl rfl)); (focus (intro hc _ _; (try simp only [Bool.and_eq_true, Bool.not_eq_true', Bool.true_and] at hc); go_simp; exact ⟨rfl, rfl⟩)); (focus (intro hc _ _; with_reducible (exact hn _ _))); simp only [Act.put, List.setIfInBounds_toArray, List.set_cons_zero, List.set_cons_succ]))
  refine text_nil (HF.out _ (fun mx dx => ?_))
  clear HF F
  go_wp2
  go_returns
  exact Pure.of rfl (by (repeat' (first | (with_reducible exact Below.refl _ _) | (with_reducible refine Below.ext_mk ?_ ?_ _ _) | (with_reducible refine Below.alloc ?_ ?_ _) | (with_reducible refine Below.drew ?_) | (with_reducible refine Below.setCell ?_ ?_ _) | go_size)))

theorem len_no {w : World} {q : Option Addr} (h : NoSto w q) : Calls Try.prog 20 #[.pointer q] w (Pure (.int .i64 0) w) := by
  have hn := none_no h
  clear h
  go_enter Try.func20, Try.ntmps20
  go_wp2_with (go_at_call 82; refine hn.mono ?_; rintro e w' ⟨rfl, m1, d1, rfl⟩)
  go_returns
  exact Pure.of rfl (by (repeat' (first | (with_reducible exact Below.refl _ _) | (with_reducible refine Below.ext_mk ?_ ?_ _ _) | (with_reducible refine Below.alloc ?_ ?_ _) | (with_reducible refine Below.drew ?_) | (with_reducible refine Below.setCell ?_ ?_ _) | go_size)))

theorem made_no {w : World} {q : Option Addr} (h : NoSto w q) (k : FuncId) (cap : Array Value) :
    Calls Try.prog 84 #[.pointer q, .func (.func k) #[] cap] w (Pure (.int .i64 0) w) := by
  go_enter_defers Try.func84, Try.ntmps84
  go_upto_region 1 with (fail)
  refine wp_gen (fun V hV => ?_)
  have hbV : Below w.heap.size w V := by rw [hV]; ((repeat' (first | (with_reducible exact Below.refl _ _) | (with_reducible refine Below.ext_mk ?_ ?_ _ _) | (with_reducible refine Below.alloc ?_ ?_ _) | (with_reducible refine Below.drew ?_) | (with_reducible refine Below.setCell ?_ ?_ _) | go_size)))
  have zV0 : w.heap.size < V.heap.size := by rw [hV]; first | (simp; done) | (simp; omega)
  have cV0_0 : V.cell? ⟨w.heap.size, 0, none⟩ = some (.int .i64 0) := by rw [hV]; first | (go_simp; done) | (rw [World.cell?_alloc_past _ _ _ (by first | (simp; done) | (simp; omega))]; go_simp)
  have fV0_0 : V.frozen? ⟨w.heap.size, 0, none⟩ = false := by rw [hV]; go_simp
  clear hV
  have hV := h.below hbV
  have hn : ∀ m d, Calls Try.prog 82 #[.pointer q] (V.ext m d) (Pure (.bool true) (V.ext m d)) := fun m d => none_no (hV.below (Below.ext_mk (Below.refl _ _) (Nat.le_refl _) m d))
  clear h hV
  refine wp_region_seq (fun F hF => ?_)
  have HF := hid hF; clear hF
  repeat (first
    | (apply text_skip; (focus rfl); simp only [Act.put, List.setIfInBounds_toArray, List.set_cons_zero, List.set_cons_succ])
    | (apply text_val; (focus rfl); (focus (intro _ _; go_simp; with_reducible rfl)); simp only [Act.put, List.setIfInBounds_toArray, List.set_cons_zero, List.set_cons_succ])
    | (apply text_call; (focus rfl); (focus (intro _ _; go_simp; exact ⟨rfl, rfl⟩)); (focus (intro _ _; with_reducible (exact hn _ _))); simp only [Act.put, List.setIfInBounds_toArray, List.set_cons_zero, List.set_cons_succ])
    | (apply text_if; (focus (first | exact wanted_t rfl rfl | exact wanted_f rfl rfl | exact wanted_gt rfl rfl | exact wanted_gf rfl rfl)); (focus (intro hc _ _; (try simp only [Bool.and_eq_true, Bool.not_eq_true', Bool.true_and] at hc); go_simp; with_reducible rfl)); simp only [Act.put, List.setIfInBounds_toArray, List.set_cons_zero, List.set_cons_succ])
    | (apply text_if_call; (focus (first | exact wanted_t rfl rfl | exact wanted_f rfl rfl | exact wanted_gt rfl rfl | exact wanted_gf rfl rfl)); (focus (intro hc _ _; (try simp only [Bool.and_eq_true, Bool.not_eq_true', Bool.true_and] at hc); go_simp; exact ⟨rfl, rfl⟩)); (focus (intro hc _ _; with_reducible (exact hn _ _))); simp only [Act.put, List.setIfInBounds_toArray, List.set_cons_zero, List.set_cons_succ]))
  refine text_nil (HF.out _ (fun mx dx => ?_))
  clear HF F
  go_wp2
  simp [bodyPostD, Leaves, settle, results, Try.results84, go_sem, zV0, cV0_0]
  exact Pure.of rfl (by (repeat' (first | (with_reducible exact Below.refl _ _) | (with_reducible refine Below.ext_mk ?_ ?_ _ _) | (with_reducible refine Below.alloc ?_ ?_ _) | (with_reducible refine Below.drew ?_) | (with_reducible refine Below.setCell ?_ ?_ _) | go_size)))

theorem at_no {w : World} {q : Option Addr} (h : NoSto w q) (x : Int) :
    Calls Try.prog 21 #[.pointer q, .int .i64 x] w (Pure (.tuple #[.agg #[.int .i64 0, .int .i64 0, .int .i64 0], .bool false]) w) := by
  go_enter Try.func21, Try.ntmps21
  go_upto_region 1 with (fail)
  have hn := fun W (hb : Below w.heap.size w W) => none_no (h.below hb)
  clear h
  refine wp_region_seq (fun F hF => ?_)
  have HF := hid hF; clear hF
  repeat (first
    | (apply text_skip; (focus rfl); simp only [Act.put, List.setIfInBounds_toArray, List.set_cons_zero, List.set_cons_succ])
    | (apply text_val; (focus rfl); (focus (intro _ _; go_simp; with_reducible rfl)); simp only [Act.put, List.setIfInBounds_toArray, List.set_cons_zero, List.set_cons_succ])
    | (apply text_call; (focus rfl); (focus (intro _ _; go_simp; exact ⟨rfl, rfl⟩)); (focus (intro _ _; with_reducible (exact hn _ (by (repeat' (first | (with_reducible exact Below.refl _ _) | (with_reducible refine Below.ext_mk ?_ ?_ _ _) | (with_reducible refine Below.alloc ?_ ?_ _) | (with_reducible refine Below.drew ?_) | (with_reducible refine Below.setCell ?_ ?_ _) | go_size)))))); simp only [Act.put, List.setIfInBounds_toArray, List.set_cons_zero, List.set_cons_succ])
    | (apply text_if; (focus (first | exact wanted_t rfl rfl | exact wanted_f rfl rfl | exact wanted_gt rfl rfl | exact wanted_gf rfl rfl)); (focus (intro hc _ _; (try simp only [Bool.and_eq_true, Bool.not_eq_true', Bool.true_and] at hc); go_simp; with_reducible rfl)); simp only [Act.put, List.setIfInBounds_toArray, List.set_cons_zero, List.set_cons_succ])
    | (apply text_if_call; (focus (first | exact wanted_t rfl rfl | exact wanted_f rfl rfl | exact wanted_gt rfl rfl | exact wanted_gf rfl rfl)); (focus (intro hc _ _; (try simp only [Bool.and_eq_true, Bool.not_eq_true', Bool.true_and] at hc); go_simp; exact ⟨rfl, rfl⟩)); (focus (intro hc _ _; with_reducible (exact hn _ (by (repeat' (first | (with_reducible exact Below.refl _ _) | (with_reducible refine Below.ext_mk ?_ ?_ _ _) | (with_reducible refine Below.alloc ?_ ?_ _) | (with_reducible refine Below.drew ?_) | (with_reducible refine Below.setCell ?_ ?_ _) | go_size)))))); simp only [Act.put, List.setIfInBounds_toArray, List.set_cons_zero, List.set_cons_succ]))
  refine text_nil (HF.out _ (fun mx dx => ?_))
  clear HF F
  go_wp2
  go_returns
  exact Pure.of rfl (by (repeat' (first | (with_reducible exact Below.refl _ _) | (with_reducible refine Below.ext_mk ?_ ?_ _ _) | (with_reducible refine Below.alloc ?_ ?_ _) | (with_reducible refine Below.drew ?_) | (with_reducible refine Below.setCell ?_ ?_ _) | go_size)))
theorem size_no {w : World} {q : Option Addr} (h : NoSto w q) (x : Int) : Calls Try.prog 31 #[.pointer q, .int .i64 x] w (Pure (.int .i64 0) w) := by
  go_enter Try.func31, Try.ntmps31
  go_wp2_with (go_at_call 82; refine (none_no (h.below (by (repeat' (first | (with_reducible exact Below.refl _ _) | (with_reducible refine Below.ext_mk ?_ ?_ _ _) | (with_reducible refine Below.alloc ?_ ?_ _) | (with_reducible refine Below.drew ?_) | (with_reducible refine Below.setCell ?_ ?_ _) | go_size))))).mono ?_; rintro e w' ⟨rfl, m1, d1, rfl⟩)
  go_returns
  exact Pure.of rfl (by (repeat' (first | (with_reducible exact Below.refl _ _) | (with_reducible refine Below.ext_mk ?_ ?_ _ _) | (with_reducible refine Below.alloc ?_ ?_ _) | (with_reducible refine Below.drew ?_) | (with_reducible refine Below.setCell ?_ ?_ _) | go_size)))
theorem least_no {w : World} {q : Option Addr} (h : NoSto w q) (x y : Int) : Calls Try.prog 23 #[.pointer q, .int .i64 x, .int .i64 y] w (Pure (.tuple #[.slice none 0 0, .bool false]) w) := by
  have hn : ∀ m d, Calls Try.prog 82 #[.pointer q] (w.ext m d) (Pure (.bool true) (w.ext m d)) := fun m d => none_no (h.below (Below.ext_mk (Below.refl _ _) (Nat.le_refl _) m d))
  clear h
  go_enter Try.func23, Try.ntmps23
  go_upto_region 1 with (fail)
  refine wp_region_seq (fun F hF => ?_)
  have HF := hid hF; clear hF
  repeat (first
    | (apply text_skip; (focus rfl); simp only [Act.put, List.setIfInBounds_toArray, List.set_cons_zero, List.set_cons_succ])
    | (apply text_val; (focus rfl); (focus (intro _ _; go_simp; with_reducible rfl)); simp only [Act.put, List.setIfInBounds_toArray, List.set_cons_zero, List.set_cons_succ])
    | (apply text_call; (focus rfl); (focus (intro _ _; go_simp; exact ⟨rfl, rfl⟩)); (focus (intro _ _; with_reducible (exact hn _ _))); simp only [Act.put, List.setIfInBounds_toArray, List.set_cons_zero, List.set_cons_succ])
    | (apply text_if; (focus (first | exact wanted_t rfl rfl | exact wanted_f rfl rfl | exact wanted_gt rfl rfl | exact wanted_gf rfl rfl)); (focus (intro hc _ _; (try simp only [Bool.and_eq_true, Bool.not_eq_true', Bool.true_and] at hc); go_simp; with_reducible rfl)); simp only [Act.put, List.setIfInBounds_toArray, List.set_cons_zero, List.set_cons_succ])
    | (apply text_if_call; (focus (first | exact wanted_t rfl rfl | exact wanted_f rfl rfl | exact wanted_gt rfl rfl | exact wanted_gf rfl rfl)); (focus (intro hc _ _; (try simp only [Bool.and_eq_true, Bool.not_eq_true', Bool.true_and] at hc); go_simp; exact ⟨rfl, rfl⟩)); (focus (intro hc _ _; with_reducible (exact hn _ _))); simp only [Act.put, List.setIfInBounds_toArray, List.set_cons_zero, List.set_cons_succ]))
  refine text_nil (HF.out _ (fun mx dx => ?_))
  clear HF F
  go_wp2
  go_returns
  exact Pure.of rfl (by (repeat' (first | (with_reducible exact Below.refl _ _) | (with_reducible refine Below.ext_mk ?_ ?_ _ _) | (with_reducible refine Below.alloc ?_ ?_ _) | (with_reducible refine Below.drew ?_) | (with_reducible refine Below.setCell ?_ ?_ _) | go_size)))
theorem holds_no {w : World} {q : Option Addr} (h : NoSto w q) (x : Int) (v : Value) : Calls Try.prog 19 #[.pointer q, .int .i64 x, v] w (Pure (.bool false) w) := by
  have hn := none_no h
  clear h
  go_enter Try.func19, Try.ntmps19
  go_wp2_with (go_at_call 82; refine hn.mono ?_; rintro e w' ⟨rfl, m1, d1, rfl⟩)
  go_returns
  exact Pure.of rfl (by (repeat' (first | (with_reducible exact Below.refl _ _) | (with_reducible refine Below.ext_mk ?_ ?_ _ _) | (with_reducible refine Below.alloc ?_ ?_ _) | (with_reducible refine Below.drew ?_) | (with_reducible refine Below.setCell ?_ ?_ _) | go_size)))

/-- A store that tells nothing. -/
structure Dead (w : World) (q : Option Addr) : Prop where
  made : ∀ w', Below w.heap.size w w' → ∀ k cap, Calls Try.prog 84 #[.pointer q, .func (.func k) #[] cap] w' (Pure (.int .i64 0) w')
  full : ∀ w', Below w.heap.size w w' → Calls Try.prog 22 #[.pointer q] w' (Pure (.bool true) w')
  at_ : ∀ w', Below w.heap.size w w' → ∀ x, ∃ n1 n2 n3 is, Calls Try.prog 21 #[.pointer q, .int .i64 x] w' (Pure (.tuple #[.agg #[.int .i64 n1, .int .i64 n2, .int .i64 n3], .bool is]) w')
theorem Dead.below {w w' : World} {q : Option Addr} (h : Dead w q) (hb : Below w.heap.size w w') : Dead w' q :=
  ⟨fun w'' h' => h.made w'' (hb.trans (h'.mono hb.size)), fun w'' h' => h.full w'' (hb.trans (h'.mono hb.size)), fun w'' h' => h.at_ w'' (hb.trans (h'.mono hb.size))⟩
theorem NoSto.dead {w : World} {q : Option Addr} (h : NoSto w q) : Dead w q :=
  ⟨fun w' hb k cap => made_no (h.below hb) k cap, fun w' hb => full_no (h.below hb), fun w' hb x => ⟨_, _, _, _, at_no (h.below hb) x⟩⟩
theorem StoIs.dead {w : World} {p : Nat} {F : List Nat} {S : Sto} (h : StoIs w p F S) (hW : Wf S) (hf : S.full = true) : Dead w (some ⟨p, 0, none⟩) :=
  have hc : S.cap ≠ 0 := by have := hW.cap2; omega
  ⟨fun w' hb k cap => made_full (h.below hb) hc hf k cap, fun w' hb => by have := full_any (h.below hb) hc; rw [hf] at this; exact this, fun w' hb x => ⟨_, _, _, _, at_call (h.below hb) hW x⟩⟩

section
variable {w : World} {q : Option Addr} (h : Dead w q)
include h
theorem var_dead (v : Int) : Calls Try.prog 24 #[.pointer q, .int .i64 v] w (Pure (.int .i64 0) w) := by
  have hmf : ∀ (fn : Fn) (first cap : Array Value) (w : World), (Instr.makeFunc fn first cap).run Try.prog w = .ok (.func fn first cap) w := fun _ _ _ _ => rfl
  by_cases h0 : v < 0
  · go_enter Try.func24, Try.ntmps24
    go_wp2
    go_returns
    exact Pure.of rfl (by (repeat' (first | (with_reducible exact Below.refl _ _) | (with_reducible refine Below.ext_mk ?_ ?_ _ _) | (with_reducible refine Below.alloc ?_ ?_ _) | (with_reducible refine Below.drew ?_) | (with_reducible refine Below.setCell ?_ ?_ _) | go_size)))
  · by_cases h1 : 64 ≤ v
    · go_enter Try.func24, Try.ntmps24
      go_wp2
      go_returns
      exact Pure.of rfl (by (repeat' (first | (with_reducible exact Below.refl _ _) | (with_reducible refine Below.ext_mk ?_ ?_ _ _) | (with_reducible refine Below.alloc ?_ ?_ _) | (with_reducible refine Below.drew ?_) | (with_reducible refine Below.setCell ?_ ?_ _) | go_size)))
    · go_enter Try.func24, Try.ntmps24
      go_upto_region 3 with (fail)
      refine wp_gen (fun V hV => ?_)
      have hbV : Below w.heap.size w V := by rw [hV]; ((repeat' (first | (with_reducible exact Below.refl _ _) | (with_reducible refine Below.ext_mk ?_ ?_ _ _) | (with_reducible refine Below.alloc ?_ ?_ _) | (with_reducible refine Below.drew ?_) | (with_reducible refine Below.setCell ?_ ?_ _) | go_size)))
      have zV0 : w.heap.size < V.heap.size := by rw [hV]; first | (simp; done) | (simp; omega)
      have cV0_0 : V.cell? ⟨w.heap.size, 0, none⟩ = some (.pointer q) := by rw [hV]; first | (go_simp; done) | (rw [World.cell?_alloc_past _ _ _ (by first | (simp; done) | (simp; omega))]; go_simp)
      clear hV
      have M := fun k cap => h.made V hbV k cap
      clear h
      go_wp2_with (go_at_call 84; refine (M _ _).mono ?_; rintro e w' ⟨rfl, m1, d1, rfl⟩)
      go_returns
      exact Pure.of rfl (Below.ext_mk hbV (by omega) _ _)
theorem ite_dead (x y z : Int) : Calls Try.prog 25 #[.pointer q, .int .i64 x, .int .i64 y, .int .i64 z] w (Pure (.int .i64 0) w) := by
  have hmf : ∀ (fn : Fn) (first cap : Array Value) (w : World), (Instr.makeFunc fn first cap).run Try.prog w = .ok (.func fn first cap) w := fun _ _ _ _ => rfl
  go_enter Try.func25, Try.ntmps25
  go_upto_region 1 with (fail)
  refine wp_gen (fun V hV => ?_)
  have hbV : Below w.heap.size w V := by rw [hV]; ((repeat' (first | (with_reducible exact Below.refl _ _) | (with_reducible refine Below.ext_mk ?_ ?_ _ _) | (with_reducible refine Below.alloc ?_ ?_ _) | (with_reducible refine Below.drew ?_) | (with_reducible refine Below.setCell ?_ ?_ _) | go_size)))
  have zV0 : w.heap.size < V.heap.size := by rw [hV]; first | (simp; done) | (simp; omega)
  have cV0_0 : V.cell? ⟨w.heap.size, 0, none⟩ = some (.pointer q) := by rw [hV]; first | (go_simp; done) | (rw [World.cell?_alloc_past _ _ _ (by first | (simp; done) | (simp; omega))]; go_simp)
  clear hV
  have M := fun k cap => h.made V hbV k cap
  clear h
  go_wp2_with (go_at_call 84; refine (M _ _).mono ?_; rintro e w' ⟨rfl, m1, d1, rfl⟩)
  go_returns
  exact Pure.of rfl (Below.ext_mk hbV (by omega) _ _)
theorem under_dead (x v : Int) (on : Bool) : Calls Try.prog 30 #[.pointer q, .int .i64 x, .int .i64 v, .bool on] w (Pure (.int .i64 0) w) := by
  have hmf : ∀ (fn : Fn) (first cap : Array Value) (w : World), (Instr.makeFunc fn first cap).run Try.prog w = .ok (.func fn first cap) w := fun _ _ _ _ => rfl
  go_enter Try.func30, Try.ntmps30
  go_upto_region 1 with (fail)
  refine wp_gen (fun V hV => ?_)
  have hbV : Below w.heap.size w V := by rw [hV]; ((repeat' (first | (with_reducible exact Below.refl _ _) | (with_reducible refine Below.ext_mk ?_ ?_ _ _) | (with_reducible refine Below.alloc ?_ ?_ _) | (with_reducible refine Below.drew ?_) | (with_reducible refine Below.setCell ?_ ?_ _) | go_size)))
  have zV0 : w.heap.size < V.heap.size := by rw [hV]; first | (simp; done) | (simp; omega)
  have cV0_0 : V.cell? ⟨w.heap.size, 0, none⟩ = some (.pointer q) := by rw [hV]; first | (go_simp; done) | (rw [World.cell?_alloc_past _ _ _ (by first | (simp; done) | (simp; omega))]; go_simp)
  clear hV
  have M := fun k cap => h.made V hbV k cap
  clear h
  go_wp2_with (go_at_call 84; refine (M _ _).mono ?_; rintro e w' ⟨rfl, m1, d1, rfl⟩)
  go_returns
  exact Pure.of rfl (Below.ext_mk hbV (by omega) _ _)
theorem not_dead (x : Int) : Calls Try.prog 26 #[.pointer q, .int .i64 x] w (Pure (.int .i64 0) w) := by
  have M := ite_dead h x 0 1
  clear h
  go_enter Try.func26, Try.ntmps26
  go_wp2_with (go_at_call 25; refine M.mono ?_; rintro e w' ⟨rfl, m1, d1, rfl⟩)
  go_returns
  exact Pure.of rfl (by (repeat' (first | (with_reducible exact Below.refl _ _) | (with_reducible refine Below.ext_mk ?_ ?_ _ _) | (with_reducible refine Below.alloc ?_ ?_ _) | (with_reducible refine Below.drew ?_) | (with_reducible refine Below.setCell ?_ ?_ _) | go_size)))
theorem and_dead (x y : Int) : Calls Try.prog 27 #[.pointer q, .int .i64 x, .int .i64 y] w (Pure (.int .i64 0) w) := by
  have M := ite_dead h x y 0
  clear h
  go_enter Try.func27, Try.ntmps27
  go_wp2_with (go_at_call 25; refine M.mono ?_; rintro e w' ⟨rfl, m1, d1, rfl⟩)
  go_returns
  exact Pure.of rfl (by (repeat' (first | (with_reducible exact Below.refl _ _) | (with_reducible refine Below.ext_mk ?_ ?_ _ _) | (with_reducible refine Below.alloc ?_ ?_ _) | (with_reducible refine Below.drew ?_) | (with_reducible refine Below.setCell ?_ ?_ _) | go_size)))
theorem or_dead (x y : Int) : Calls Try.prog 28 #[.pointer q, .int .i64 x, .int .i64 y] w (Pure (.int .i64 0) w) := by
  have M := ite_dead h x 1 y
  clear h
  go_enter Try.func28, Try.ntmps28
  go_wp2_with (go_at_call 25; refine M.mono ?_; rintro e w' ⟨rfl, m1, d1, rfl⟩)
  go_returns
  exact Pure.of rfl (by (repeat' (first | (with_reducible exact Below.refl _ _) | (with_reducible refine Below.ext_mk ?_ ?_ _ _) | (with_reducible refine Below.alloc ?_ ?_ _) | (with_reducible refine Below.drew ?_) | (with_reducible refine Below.setCell ?_ ?_ _) | go_size)))
theorem xor_dead (x y : Int) : Calls Try.prog 29 #[.pointer q, .int .i64 x, .int .i64 y] w (Pure (.int .i64 0) w) := by
  have N := not_dead h y
  have M := fun m d => ite_dead (h.below (Below.ext_mk (Below.refl _ _) (Nat.le_refl _) m d)) x 0 y
  clear h
  go_enter Try.func29, Try.ntmps29
  go_wp2_with (first
    | (go_at_call 26; refine N.mono ?_; rintro e w' ⟨rfl, m1, d1, rfl⟩)
    | (go_at_call 25; refine (M _ _).mono ?_; rintro e w' ⟨rfl, m2, d2, rfl⟩))
  go_returns
  exact Pure.of rfl (by (repeat' (first | (with_reducible exact Below.refl _ _) | (with_reducible refine Below.ext_mk ?_ ?_ _ _) | (with_reducible refine Below.alloc ?_ ?_ _) | (with_reducible refine Below.drew ?_) | (with_reducible refine Below.setCell ?_ ?_ _) | go_size)))
end
end Go.Proofs.Ytboekafmplomhaa
