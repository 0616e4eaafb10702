/-
  The node of a variable, a lo and a hi.
-/
import Derived.Test.YtboekafmplomhaaStoB
set_option linter.unusedVariables false
set_option linter.unusedSimpArgs false
namespace Go.Proofs.Ytboekafmplomhaa
open Go.RowKit

theorem node_same {w : World} {p : Nat} (v lo : Int) :
    Calls Try.prog 86 #[.pointer (some ⟨p, 0, none⟩), .int .i64 v, .int .i64 lo, .int .i64 lo] w (Pure (.int .i64 lo) w) := by
  go_enter Try.func86, Try.ntmps86
  go_wp2
  go_returns
  exact Pure.of rfl (by (repeat' (first | (with_reducible exact Below.refl _ _) | (with_reducible refine Below.ext_mk ?_ ?_ _ _) | (with_reducible refine Below.alloc ?_ ?_ _) | (with_reducible refine Below.drew ?_) | (with_reducible refine Below.setCell ?_ ?_ _) | go_size)))

/-- The zero of the maps' elements. -/
theorem zero_int (w : World) : (zeroValue 3).run Try.prog w = .ok (.int .i64 0) w := by kernel_rfl

theorem node_found {w : World} {p : Nat} {F : List Nat} {S : Sto} (h : StoIs w p F S) (v lo hi r : Int) (hne : lo ≠ hi) (hr : aget S.byn (v, lo, hi) = some r) :
    Calls Try.prog 86 #[.pointer (some ⟨p, 0, none⟩), .int .i64 v, .int .i64 lo, .int .i64 hi] w (Pure (.int .i64 r) w) := by
  have hne' : (lo == hi) = false := by simpa using hne
  clear hne
  go_enter Try.func86, Try.ntmps86
  go_upto_region 4 with (fail)
  refine wp_gen (fun W hW => ?_)
  have hbW : Below w.heap.size w W := by rw [hW]; ((repeat' (first | (with_reducible exact Below.refl _ _) | (with_reducible refine Below.ext_mk ?_ ?_ _ _) | (with_reducible refine Below.alloc ?_ ?_ _) | (with_reducible refine Below.drew ?_) | (with_reducible refine Below.setCell ?_ ?_ _) | go_size)))
  have zW0 : w.heap.size < W.heap.size := by rw [hW]; first | (simp; done) | (simp; omega)
  have cW0_0 : W.cell? ⟨w.heap.size, 0, none⟩ = some (.int .i64 v) := by rw [hW]; first | (go_simp; done) | (rw [World.cell?_alloc_past _ _ _ (by first | (simp; done) | (simp; omega))]; go_simp)
  have cW0_1 : W.cell? ⟨w.heap.size, 1, none⟩ = some (.int .i64 lo) := by rw [hW]; first | (go_simp; done) | (rw [World.cell?_alloc_past _ _ _ (by first | (simp; done) | (simp; omega))]; go_simp)
  have cW0_2 : W.cell? ⟨w.heap.size, 2, none⟩ = some (.int .i64 hi) := by rw [hW]; first | (go_simp; done) | (rw [World.cell?_alloc_past _ _ _ (by first | (simp; done) | (simp; omega))]; go_simp)
  clear hW
  have hS := h.below hbW
  obtain ⟨sv, G, bm, tm, s1, s2, s3, s4, s5, _⟩ := hS
  have d2 : W.cell? ⟨p, 2, none⟩ = some (.map (some bm)) := by simp [World.cell?, s1]
  have dp : p < W.heap.size := (Array.getElem?_eq_some_iff.1 s1).1
  have hlook : ∀ m d, (Instr.lookup 44 (.map (some bm)) (kv (v, lo, hi)) true).run Try.prog (W.ext m d) = .ok (.tuple #[.int .i64 r, .bool true]) (W.ext m d) := fun m d => by
    have e := lookup_run (w := W.ext m d) key_node Try.underlying44 (zero_int _) (l := S.byn) (b := bm) (by obtain ⟨es, cl, q1, q2⟩ := s3; exact ⟨es, cl, by rw [World.heap_ext _ _ _ (Array.getElem?_eq_some_iff.1 q1).1]; exact q1, q2⟩) (v, lo, hi) true
    rw [hr] at e
    exact e
  clear s1 s2 s3 s4 s5
  refine wp_region_ext (by kernel_rfl) (by kernel_rfl) (fun F hF => ?_)
  have HF := hid hF; clear hF
  repeat (first
    | (apply text_skip; (focus rfl); simp only [Act.put, List.setIfInBounds_toArray, List.set_cons_zero, List.set_cons_succ])
    | (apply text_val; (focus rfl); (focus (intro _ _; go_simp; with_reducible rfl)); simp only [Act.put, List.setIfInBounds_toArray, List.set_cons_zero, List.set_cons_succ])
    | (apply text_if; (focus (first | exact wanted_t rfl rfl | exact wanted_f rfl rfl | exact wanted_gt rfl rfl | exact wanted_gf rfl rfl)); (focus (intro hc _ _; (try simp only [Bool.and_eq_true, Bool.not_eq_true', Bool.true_and] at hc); go_simp; with_reducible rfl)); simp only [Act.put, List.setIfInBounds_toArray, List.set_cons_zero, List.set_cons_succ]))
  refine text_nil (HF.out _ (fun mx dx => ?_))
  clear HF F
  go_wp2
  go_returns
  exact Pure.of rfl (by (repeat' (first | (with_reducible exact Below.refl _ _) | (with_reducible refine Below.ext_mk ?_ ?_ _ _) | (with_reducible refine Below.alloc ?_ ?_ _) | (with_reducible refine Below.drew ?_) | (with_reducible refine Below.setCell ?_ ?_ _) | go_size)))

/-- What a full store gives up with. -/
abbrev overflow : List PanicEntry := [{ v := .iface 159 (.agg #[]), recovered := false }]
/-- A call that made a store another one. -/
def Turned (w : World) (p : Nat) (F : List Nat) (S' : Sto) (w' : World) : Prop := ∃ F', StoIs w' p F' S' ∧ StoStep w w' F F'

theorem StoStep.set {w : World} {F : List Nat} {p : Nat} (hp : p ∈ F) (i : Nat) (v : Value) : StoStep w (w.setCell ⟨p, i, none⟩ v) F F :=
  ⟨rfl, rfl, rfl, by simp, fun k _ hk => Below.heap_setCell _ _ _ _ (fun e => hk (by rw [e]; exact hp)), fun _ h => .inl h⟩
theorem StoStep.ext {w w' : World} {F F' : List Nat} (h : StoStep w w' F F') (m : Array Obj) (d : Nat) : StoStep w (w'.ext m d) F F' :=
  h.trans (StoStep.of_below (Below.ext_mk (Below.refl _ _) (Nat.le_refl _) m d))
theorem StoIs.mem {w : World} {p : Nat} {F : List Nat} {S : Sto} (h : StoIs w p F S) : p ∈ F := by
  obtain ⟨_, _, _, _, _, _, _, _, rfl, _⟩ := h; simp
theorem StoIs.set_full {w : World} {p : Nat} {F : List Nat} {S : Sto} (h : StoIs w p F S) (b : Bool) : StoIs (w.setCell ⟨p, 4, none⟩ (.bool b)) p F { S with full := b } := by
  obtain ⟨sv, G, bm, tm, h1, h2, ⟨es, cl, h3, h3'⟩, ⟨fs, dl, h4, h4'⟩, rfl, h5⟩ := h
  have hb : ∀ k, k ≠ p → (w.setCell ⟨p, 4, none⟩ (.bool b)).heap[k]? = w.heap[k]? := fun k hk => Below.heap_setCell _ _ _ _ hk
  simp only [List.nodup_cons, List.mem_cons, not_or, Option.mem_toList] at h5
  refine ⟨sv, G, bm, tm, ?_, h2.keep (fun g hg => hb g (fun e => h5.1.2.2 (by subst hg; rw [e]))), ⟨es, cl, by rw [hb bm (fun e => h5.1.1 e.symm)]; exact h3, h3'⟩, ⟨fs, dl, by rw [hb tm (fun e => h5.1.2.1 e.symm)]; exact h4, h4'⟩, rfl, ?_⟩
  · simp [World.setCell, Array.getElem?_modify, h1]
  · simp only [List.nodup_cons, List.mem_cons, not_or, Option.mem_toList]
    exact h5

theorem node_full {w : World} {p : Nat} {F : List Nat} {S : Sto} (h : StoIs w p F S) (v lo hi : Int) (hne : lo ≠ hi) (hr : aget S.byn (v, lo, hi) = none) (hl : (S.nodes.length : Int) = S.cap) :
    Calls Try.prog 86 #[.pointer (some ⟨p, 0, none⟩), .int .i64 v, .int .i64 lo, .int .i64 hi] w
      (fun e w' => e = .panicked overflow ∧ Turned w p F { S with full := true } w') := by
  have hne' : (lo == hi) = false := by simpa using hne
  clear hne
  go_enter Try.func86, Try.ntmps86
  go_upto_region 4 with (fail)
  refine wp_gen (fun W hW => ?_)
  have hbW : Below w.heap.size w W := by rw [hW]; ((repeat' (first | (with_reducible exact Below.refl _ _) | (with_reducible refine Below.ext_mk ?_ ?_ _ _) | (with_reducible refine Below.alloc ?_ ?_ _) | (with_reducible refine Below.drew ?_) | (with_reducible refine Below.setCell ?_ ?_ _) | go_size)))
  have zW0 : w.heap.size < W.heap.size := by rw [hW]; first | (simp; done) | (simp; omega)
  have cW0_0 : W.cell? ⟨w.heap.size, 0, none⟩ = some (.int .i64 v) := by rw [hW]; first | (go_simp; done) | (rw [World.cell?_alloc_past _ _ _ (by first | (simp; done) | (simp; omega))]; go_simp)
  have cW0_1 : W.cell? ⟨w.heap.size, 1, none⟩ = some (.int .i64 lo) := by rw [hW]; first | (go_simp; done) | (rw [World.cell?_alloc_past _ _ _ (by first | (simp; done) | (simp; omega))]; go_simp)
  have cW0_2 : W.cell? ⟨w.heap.size, 2, none⟩ = some (.int .i64 hi) := by rw [hW]; first | (go_simp; done) | (rw [World.cell?_alloc_past _ _ _ (by first | (simp; done) | (simp; omega))]; go_simp)
  clear hW
  have hS := h.below hbW
  have HS := hid hS
  obtain ⟨sv, G, bm, tm, s1, s2, s3, s4, s5, _⟩ := hS
  obtain ⟨sa, sc, rfl, _⟩ := s2.form
  have d0 : W.cell? ⟨p, 0, none⟩ = some (.int .i64 S.cap) := by simp [World.cell?, s1]
  have d1 : W.cell? ⟨p, 1, none⟩ = some (.slice sa S.nodes.length sc) := by simp [World.cell?, s1]
  have d2 : W.cell? ⟨p, 2, none⟩ = some (.map (some bm)) := by simp [World.cell?, s1]
  have d4 : W.cell? ⟨p, 4, none⟩ = some (.bool S.full) := by simp [World.cell?, s1]
  have f4 : W.frozen? ⟨p, 4, none⟩ = false := by simp [World.frozen?, s1]
  have dp : p < W.heap.size := (Array.getElem?_eq_some_iff.1 s1).1
  have hlook : ∀ m d, (Instr.lookup 44 (.map (some bm)) (kv (v, lo, hi)) true).run Try.prog (W.ext m d) = .ok (.tuple #[.int .i64 0, .bool false]) (W.ext m d) := fun m d => by
    have e := lookup_run (w := W.ext m d) key_node Try.underlying44 (zero_int _) (l := S.byn) (b := bm) (by obtain ⟨es, cl, q1, q2⟩ := s3; exact ⟨es, cl, by rw [World.heap_ext _ _ _ (Array.getElem?_eq_some_iff.1 q1).1]; exact q1, q2⟩) (v, lo, hi) true
    rw [hr] at e
    exact e
  have hl' : ((S.nodes.length : Int) == S.cap) = true := by simpa using hl
  clear s1 s2 s3 s4 s5 hr hl
  refine wp_region_ext (by kernel_rfl) (by kernel_rfl) (fun F hF => ?_)
  have HF := hid hF; clear hF
  repeat (first
    | (apply text_skip; (focus rfl); simp only [Act.put, List.setIfInBounds_toArray, List.set_cons_zero, List.set_cons_succ])
    | (apply text_val; (focus rfl); (focus (intro _ _; go_simp; with_reducible rfl)); simp only [Act.put, List.setIfInBounds_toArray, List.set_cons_zero, List.set_cons_succ])
    | (apply text_if; (focus (first | exact wanted_t rfl rfl | exact wanted_f rfl rfl | exact wanted_gt rfl rfl | exact wanted_gf rfl rfl)); (focus (intro hc _ _; (try simp only [Bool.and_eq_true, Bool.not_eq_true', Bool.true_and] at hc); go_simp; with_reducible rfl)); simp only [Act.put, List.setIfInBounds_toArray, List.set_cons_zero, List.set_cons_succ]))
  refine text_nil (HF.out _ (fun mx dx => ?_))
  clear HF F
  go_upto_region 7 with (fail)
  refine wp_region_ext (by kernel_rfl) (by kernel_rfl) (fun F hF => ?_)
  have HF := hid hF; clear hF
  repeat (first
    | (apply text_skip; (focus rfl); simp only [Act.put, List.setIfInBounds_toArray, List.set_cons_zero, List.set_cons_succ])
    | (apply text_val; (focus rfl); (focus (intro _ _; go_simp; with_reducible rfl)); simp only [Act.put, List.setIfInBounds_toArray, List.set_cons_zero, List.set_cons_succ])
    | (apply text_if; (focus (first | exact wanted_t rfl rfl | exact wanted_f rfl rfl | exact wanted_gt rfl rfl | exact wanted_gf rfl rfl)); (focus (intro hc _ _; (try simp only [Bool.and_eq_true, Bool.not_eq_true', Bool.true_and] at hc); go_simp; with_reducible rfl)); simp only [Act.put, List.setIfInBounds_toArray, List.set_cons_zero, List.set_cons_succ]))
  refine text_nil (HF.out _ (fun mx dx => ?_))
  clear HF F
  go_wp2
  exact ⟨rfl, rfl, F, (HS.out.set_full true).ext _ _, ((StoStep.of_below hbW).trans (StoStep.set HS.out.mem 4 _)).ext _ _⟩

end Go.Proofs.Ytboekafmplomhaa
