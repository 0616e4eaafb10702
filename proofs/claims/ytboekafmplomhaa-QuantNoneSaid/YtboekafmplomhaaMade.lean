/-
  A diagram that is made, or 0 if the store is full: the deferred closure, and the call around it.
-/
import Derived.Test.YtboekafmplomhaaIte
import Derived.Defers
import Derived.Recover
set_option linter.unusedVariables false
set_option linter.unusedSimpArgs false
namespace Go.Proofs.Ytboekafmplomhaa
open Go.RowKit

theorem assert_overflow (w : World) : (Instr.typeAssert (.iface 159 (.agg #[])) 20 159 true).run Try.prog w = .ok (.tuple #[.agg #[], .bool true]) w := by kernel_rfl
theorem catch_panicking (b : Nat) (x : Int) (w : World) (hb : b < w.heap.size) (hc : w.cell? ⟨b, 0, none⟩ = some (.int .i64 x)) (hz : w.frozen? ⟨b, 0, none⟩ = false) :
    CallsD Try.prog 133 #[.pointer (some ⟨b, 0, none⟩)] (.panicking overflow) w fun e u' w' =>
      e = .returned (.tuple #[]) ∧ u' = .panicking [{ v := .iface 159 (.agg #[]), recovered := true }] ∧ ∃ m d, w' = (w.setCell ⟨b, 0, none⟩ (.int .i64 0)).ext m d := by
  refine callsD_of_wpS Try.func133 rfl fun c₀ cs hu => ?_
  apply wpS_seq
  apply wpS_region
  simp [wpOpsS, go_sem, recoverD, hu, Try.ntmps133, Exit.thenS]
  refine wpS_of_wp ?_
  simp only [List.replicate, Array.replicate]
  go_upto_region 2 with (fail)
  refine wp_region_do (fun F hF => ?_)
  have HF := hid hF
  clear hF
  refine do_val rfl (by go_simp; exact ⟨rfl, rfl⟩) ?_
  simp only [Act.put, List.setIfInBounds_toArray, List.set_cons_zero, List.set_cons_succ]
  refine do_val (v := .tuple #[.agg #[], .bool true]) (W1 := w) rfl (by kernel_rfl) ?_
  simp only [Act.put, List.setIfInBounds_toArray, List.set_cons_zero, List.set_cons_succ]
  repeat (refine do_val rfl (by go_simp; exact ⟨rfl, rfl⟩) ?_; simp only [Act.put, List.setIfInBounds_toArray, List.set_cons_zero, List.set_cons_succ])
  refine do_skip (W1 := w.alloc (Obj.cells #[] 159)) rfl (by first | (go_simp; done) | (go_simp; with_reducible rfl) | kernel_rfl) ?_
  simp only [Act.put, List.setIfInBounds_toArray, List.set_cons_zero, List.set_cons_succ]
  refine do_val rfl (by go_simp; exact ⟨rfl, rfl⟩) ?_
  simp only [Act.put, List.setIfInBounds_toArray, List.set_cons_zero, List.set_cons_succ]
  refine do_end (HF.out _ _ ?_)
  clear HF F
  go_wp2
  simp [bodyPostS, results, Try.results133]
  exact ⟨_, _, World.alloc_is_ext _ _⟩
theorem catch_idle (p : Addr) (w : World) :
    CallsD Try.prog 133 #[.pointer (some p)] .returning w fun e u' w' => e = .returned (.tuple #[]) ∧ u' = .returning ∧ w' = w := by
  refine callsD_of_wpS Try.func133 rfl fun c₀ cs hu => ?_
  apply wpS_seq
  apply wpS_region
  simp [wpOpsS, go_sem, recoverD, hu, Try.ntmps133, Exit.thenS]
  refine wpS_of_wp ?_
  simp only [List.replicate, Array.replicate]
  go_wp2
  cases c₀
  simp_all [bodyPostS, results, Try.results133]

/-- What a call of a closure, with no arguments, does. -/
def Acts (fn : FuncId) (cap : Array Value) (w : World) (p : Nat) (F : List Nat) (R : Sto × Option Int) : Prop :=
  Calls Try.prog fn cap w (fun e w' => e = endOf R.2 ∧ Turned w p F R.1 w')

theorem made_full {w : World} {p : Nat} {F : List Nat} {S : Sto} (h : StoIs w p F S) (hc : S.cap ≠ 0) (hf : S.full = true) (k : FuncId) (cap : Array Value) :
    Calls Try.prog 84 #[.pointer (some ⟨p, 0, none⟩), .func (.func k) #[] cap] w (Pure (.int .i64 0) w) := by
  go_enter_defers Try.func84, Try.ntmps84
  go_upto_region 1 with (fail)
  refine wp_gen (fun V hV => ?_)
  have hbV : Below w.heap.size w V := by rw [hV]; ((repeat' (first | (with_reducible exact Below.refl _ _) | (with_reducible refine Below.ext_mk ?_ ?_ _ _) | (with_reducible refine Below.alloc ?_ ?_ _) | (with_reducible refine Below.drew ?_) | (with_reducible refine Below.setCell ?_ ?_ _) | go_size)))
  have zV0 : w.heap.size < V.heap.size := by rw [hV]; first | (simp; done) | (simp; omega)
  have cV0_0 : V.cell? ⟨w.heap.size, 0, none⟩ = some (.int .i64 0) := by rw [hV]; first | (go_simp; done) | (rw [World.cell?_alloc_past _ _ _ (by first | (simp; done) | (simp; omega))]; go_simp)
  have fV0_0 : V.frozen? ⟨w.heap.size, 0, none⟩ = false := by rw [hV]; go_simp
  clear hV
  have hV := h.below hbV
  have hn : ∀ m d, Calls Try.prog 82 #[.pointer (some ⟨p, 0, none⟩)] (V.ext m d) (Pure (.bool false) (V.ext m d)) := fun m d => none_any (hV.ext m d) hc
  obtain ⟨a, cap', bm, tm, hp, c0, c1, c2, c3, c4, hm⟩ := hV.cells
  rw [hf] at c4
  refine wp_region_seq (fun F hF => ?_)
  have HF := hid hF; clear hF
  repeat (first
    | (apply text_skip; (focus rfl); simp only [Act.put, List.setIfInBounds_toArray, List.set_cons_zero, List.set_cons_succ])
    | (apply text_val; (focus rfl); (focus (intro _ _; go_simp; with_reducible rfl)); simp only [Act.put, List.setIfInBounds_toArray, List.set_cons_zero, List.set_cons_succ])
    | (apply text_call; (focus rfl); (focus (intro _ _; go_simp; exact ⟨rfl, rfl⟩)); (focus (intro _ _; with_reducible (exact hn _ _))); simp only [Act.put, List.setIfInBounds_toArray, List.set_cons_zero, List.set_cons_succ])
    | (apply text_if; (focus (first | exact wanted_t rfl rfl | exact wanted_f rfl rfl | exact wanted_gt rfl rfl | exact wanted_gf rfl rfl)); (focus (intro hc _ _; (try simp only [Bool.and_eq_true, Bool.not_eq_true', Bool.true_and] at hc); go_simp; with_reducible rfl)); simp only [Act.put, List.setIfInBounds_toArray, List.set_cons_zero, List.set_cons_succ])
    | (apply text_if_call; (focus (first | exact wanted_t rfl rfl | exact wanted_f rfl rfl | exact wanted_gt rfl rfl | exact wanted_gf rfl rfl)); (focus (intro hc _ _; (try simp only [Bool.and_eq_true, Bool.not_eq_true', Bool.true_and] at hc); go_simp; exact ⟨rfl, rfl⟩)); (focus (intro hc _ _; with_reducible (exact hn _ _))); simp only [Act.put, List.setIfInBounds_toArray, List.set_cons_zero, List.set_cons_succ]))
  refine text_nil (HF.out _ (fun mx dx => ?_))
  clear HF F
  go_wp2
  simp [bodyPostD, Leaves, settle, results, Try.results84, go_sem, zV0, cV0_0]
  exact Pure.of rfl (by (repeat' (first | (with_reducible exact Below.refl _ _) | (with_reducible refine Below.ext_mk ?_ ?_ _ _) | (with_reducible refine Below.alloc ?_ ?_ _) | (with_reducible refine Below.drew ?_) | (with_reducible refine Below.setCell ?_ ?_ _) | go_size)))

theorem StoStep.poke {w w' : World} {F F' : List Nat} (h : StoStep w w' F F') {b : Nat} (hb : w.heap.size ≤ b) (i : Nat) (v : Value) : StoStep w (w'.setCell ⟨b, i, none⟩ v) F F' :=
  ⟨h.os, h.tape, h.output, by simpa using h.size, fun k hk hn => by rw [Below.heap_setCell _ _ _ _ (show k ≠ b by omega)]; exact h.block k hk hn, fun k hk => by simpa using h.fresh k hk⟩
theorem StoIs.poke {w : World} {p : Nat} {F : List Nat} {S : Sto} (h : StoIs w p F S) {b : Nat} (hb : b ∉ F) (i : Nat) (v : Value) : StoIs (w.setCell ⟨b, i, none⟩ v) p F S :=
  h.keep (fun k hk => Below.heap_setCell _ _ _ _ (fun e => hb (by have e' : k = b := e; rw [← e']; exact hk)))

theorem made_run {w : World} {p : Nat} {F : List Nat} {S : Sto} (h : StoIs w p F S) (hc : S.cap ≠ 0) (hf : S.full = false) (k : FuncId) (cap : Array Value) (hk : ∀ w : World, (callFunc k cap).run Try.prog w = .ok (.enter k cap) w) (R : Sto × Option Int)
    (hcall : ∀ w', Below w.heap.size w w' → StoIs w' p F S → Calls Try.prog k cap w' (fun e w'' => e = endOf R.2 ∧ Turned w' p F R.1 w'')) :
    Calls Try.prog 84 #[.pointer (some ⟨p, 0, none⟩), .func (.func k) #[] cap] w (fun e w' => e = .returned (.int .i64 (R.2.getD 0)) ∧ Turned w p F R.1 w') := by
  have hmf : ∀ (fn : Fn) (first cap : Array Value) (w : World), (Instr.makeFunc fn first cap).run Try.prog w = .ok (.func fn first cap) w := fun _ _ _ _ => rfl
  have hlt := h.lt
  go_enter_defers Try.func84, Try.ntmps84
  go_upto_region 1 with (fail)
  refine wp_gen (fun V hV => ?_)
  have hbV : Below w.heap.size w V := by rw [hV]; ((repeat' (first | (with_reducible exact Below.refl _ _) | (with_reducible refine Below.ext_mk ?_ ?_ _ _) | (with_reducible refine Below.alloc ?_ ?_ _) | (with_reducible refine Below.drew ?_) | (with_reducible refine Below.setCell ?_ ?_ _) | go_size)))
  have zV0 : w.heap.size < V.heap.size := by rw [hV]; first | (simp; done) | (simp; omega)
  have cV0_0 : V.cell? ⟨w.heap.size, 0, none⟩ = some (.int .i64 0) := by rw [hV]; first | (go_simp; done) | (rw [World.cell?_alloc_past _ _ _ (by first | (simp; done) | (simp; omega))]; go_simp)
  have fV0_0 : V.frozen? ⟨w.heap.size, 0, none⟩ = false := by rw [hV]; go_simp
  clear hV
  have hV := h.below hbV
  have hn : ∀ m d, Calls Try.prog 82 #[.pointer (some ⟨p, 0, none⟩)] (V.ext m d) (Pure (.bool false) (V.ext m d)) := fun m d => none_any (hV.ext m d) hc
  obtain ⟨a, cap', bm, tm, hp, c0, c1, c2, c3, c4, hm⟩ := hV.cells
  rw [hf] at c4
  refine wp_region_seq (fun F hF => ?_)
  have HF := hid hF; clear hF
  repeat (first
    | (apply text_skip; (focus rfl); simp only [Act.put, List.setIfInBounds_toArray, List.set_cons_zero, List.set_cons_succ])
    | (apply text_val; (focus rfl); (focus (intro _ _; go_simp; with_reducible rfl)); simp only [Act.put, List.setIfInBounds_toArray, List.set_cons_zero, List.set_cons_succ])
    | (apply text_call; (focus rfl); (focus (intro _ _; go_simp; exact ⟨rfl, rfl⟩)); (focus (intro _ _; with_reducible (exact hn _ _))); simp only [Act.put, List.setIfInBounds_toArray, List.set_cons_zero, List.set_cons_succ])
    | (apply text_if; (focus (first | exact wanted_t rfl rfl | exact wanted_f rfl rfl | exact wanted_gt rfl rfl | exact wanted_gf rfl rfl)); (focus (intro hc _ _; (try simp only [Bool.and_eq_true, Bool.not_eq_true', Bool.true_and] at hc); go_simp; with_reducible rfl)); simp only [Act.put, List.setIfInBounds_toArray, List.set_cons_zero, List.set_cons_succ])
    | (apply text_if_call; (focus (first | exact wanted_t rfl rfl | exact wanted_f rfl rfl | exact wanted_gt rfl rfl | exact wanted_gf rfl rfl)); (focus (intro hc _ _; (try simp only [Bool.and_eq_true, Bool.not_eq_true', Bool.true_and] at hc); go_simp; exact ⟨rfl, rfl⟩)); (focus (intro hc _ _; with_reducible (exact hn _ _))); simp only [Act.put, List.setIfInBounds_toArray, List.set_cons_zero, List.set_cons_succ]))
  refine text_nil (HF.out _ (fun mx dx => ?_))
  clear HF F
  go_upto_region 3 with (fail)
  refine wp_gen (fun V2 hV2 => ?_)
  have hbV2 : Below w.heap.size w V2 := by rw [hV2]; ((repeat' (first | (with_reducible exact Below.refl _ _) | (with_reducible refine Below.ext_mk ?_ ?_ _ _) | (with_reducible refine Below.alloc ?_ ?_ _) | (with_reducible refine Below.drew ?_) | (with_reducible refine Below.setCell ?_ ?_ _) | go_size)))
  have zV20 : w.heap.size < V2.heap.size := by rw [hV2]; first | (simp; done) | (simp; omega)
  have cV20_0 : V2.cell? ⟨w.heap.size, 0, none⟩ = some (.int .i64 0) := by rw [hV2]; first | (go_simp; done) | (rw [World.cell?_alloc_past _ _ _ (by first | (simp; done) | (simp; omega))]; go_simp)
  have fV20_0 : V2.frozen? ⟨w.heap.size, 0, none⟩ = false := by rw [hV2]; go_simp
  clear hV2
  have hV2 := h.below hbV2
  have hcV := hcall V2 hbV2 hV2
  clear hn hV c0 c1 c2 c3 c4 hcall cV0_0 fV0_0 zV0 hp hbV
  obtain ⟨S', o⟩ := R
  cases o with
  | none =>
    simp only [endOf] at hcV
    go_upto_region 4 with (fail)
    go_wp2_with (refine hcV.mono ?_; rintro e w' ⟨rfl, F', hS', hst'⟩)
    have hb0 : w.heap.size ∉ F := fun hm => Nat.lt_irrefl _ (hlt _ hm)
    have hb1 : w.heap.size ∉ F' := fun hm => by rcases hst'.fresh _ hm with q | q; exact hb0 q; omega
    have hk0 := hst'.block _ zV20 hb0
    have y0 := (cell_of_heap 0 hk0).trans cV20_0
    have y1 : w'.frozen? ⟨w.heap.size, 0, none⟩ = false := by simpa [World.frozen?, hk0] using fV20_0
    have y2 : w.heap.size < w'.heap.size := Nat.lt_of_lt_of_le zV20 hst'.size
    have step := (StoStep.of_below (F := F) hbV2).trans hst'
    refine leaves_cons (f := 133) (args := #[.pointer (some ⟨w.heap.size, 0, none⟩)]) (by simp) (by simp [go_sem]) ?_
    refine (catch_panicking w.heap.size 0 _ y2 y0 y1).mono ?_
    rintro e u' w'' ⟨rfl, rfl, m, d, rfl⟩
    simp [Leaves, settle, results, Try.results84, go_sem, y0, y2]
    exact ⟨F', (hS'.poke hb1 0 _).ext m d, (step.poke (Nat.le_refl _) 0 _).ext m d⟩
  | some r =>
    simp only [endOf] at hcV
    go_upto_region 4 with (fail)
    have hb0 : w.heap.size ∉ F := fun hm => Nat.lt_irrefl _ (hlt _ hm)
    go_wp2_with (
      refine hcV.mono ?_
      rintro e w' ⟨rfl, F', hS', hst'⟩
      have hk0 := hst'.block _ zV20 hb0
      have y0 := (cell_of_heap 0 hk0).trans cV20_0
      have y1 : w'.frozen? ⟨w.heap.size, 0, none⟩ = false := by simpa [World.frozen?, hk0] using fV20_0
      have y2 : w.heap.size < w'.heap.size := Nat.lt_of_lt_of_le zV20 hst'.size)
    have hb1 : w.heap.size ∉ F' := fun hm => by rcases hst'.fresh _ hm with q | q; exact hb0 q; omega
    have step := (StoStep.of_below (F := F) hbV2).trans hst'
    refine leaves_cons (f := 133) (args := #[.pointer (some ⟨w.heap.size, 0, none⟩)]) (by simp) (by simp [go_sem]) ?_
    refine (catch_idle _ _).mono ?_
    rintro e u' w'' ⟨rfl, rfl, rfl⟩
    simp [Leaves, settle, results, Try.results84, go_sem, y0, y2]
    exact ⟨F', (hS'.poke hb1 0 _), (step.poke (Nat.le_refl _) 0 _)⟩
end Go.Proofs.Ytboekafmplomhaa
