/-
  The store of diagrams in memory.
-/
import Derived.Test.YtboekafmplomhaaRow
set_option linter.unusedVariables false
set_option linter.unusedSimpArgs false
namespace Go.Proofs.Ytboekafmplomhaa
open Go.RowKit

/-- A node: its variable, its lo, its hi; three numbers. -/
abbrev Nd := Int × Int × Int
structure Sto where
  cap : Int
  nodes : List Nd
  byn : List (Nd × Int)
  told : List (Nd × Int)
  full : Bool

abbrev kv (n : Nd) : Value := .agg #[.int .i64 n.1, .int .i64 n.2.1, .int .i64 n.2.2]
def flat : List Nd → List Value
  | [] => []
  | n :: r => .int .i64 n.1 :: .int .i64 n.2.1 :: .int .i64 n.2.2 :: flat r
theorem flat_length : ∀ l, (flat l).length = l.length * 3
  | [] => rfl
  | n :: r => by simp only [flat, List.length_cons, flat_length r]; omega
theorem flat_append : ∀ l m, flat (l ++ m) = flat l ++ flat m
  | [], m => rfl
  | n :: r, m => by simp only [List.cons_append, flat, flat_append r m]
theorem flat_at : ∀ (l : List Nd) (i : Nat) (n : Nd), l[i]? = some n → (flat l)[i * 3]? = some (.int .i64 n.1) ∧ (flat l)[i * 3 + 1]? = some (.int .i64 n.2.1) ∧ (flat l)[i * 3 + 2]? = some (.int .i64 n.2.2)
  | [], i, n, h => by simp at h
  | x :: r, 0, n, h => by simp at h; subst h; simp [flat]
  | x :: r, i + 1, n, h => by
    have := flat_at r i n (by simpa using h)
    have e : (i + 1) * 3 = i * 3 + 3 := by omega
    rw [e]
    simpa [flat] using this

theorem check_int (em : Bool) (m : Nat) (x : Int) (w : World) : (Instr.checkKey em (m + 1) 3 (.int .i64 x)).run Try.prog w = .ok () w := by
  unfold Instr.checkKey; simp [go_sem]
theorem key_node : KeyOk Try.prog 39 (.struct (Try.prog.fieldsOf 39)) kv where
  und := by kernel_rfl
  check em n w := by
    unfold Instr.checkKey
    simp [go_sem]
    rw [show (9999 : Nat) = 9998 + 1 from rfl, check_int, Result.andThen, check_int, Result.andThen, check_int]
  now a b := .inl rfl
  eq a b w := by
    unfold Op.equal
    rw [show Op.maxDepth = 9999 + 1 from rfl]
    simp [go_sem]
    obtain ⟨a1, a2, a3⟩ := a
    obtain ⟨b1, b2, b3⟩ := b
    by_cases h1 : a1 = b1 <;> by_cases h2 : a2 = b2 <;> by_cases h3 : a3 = b3 <;> simp [h1, h2, h3]
  same a := by unfold Instr.sameBits; simp [Instr.sameBits]
theorem key_three : KeyOk Try.prog 163 (.struct (Try.prog.fieldsOf 163)) kv where
  und := by kernel_rfl
  check em n w := by
    unfold Instr.checkKey
    simp [go_sem]
    rw [show (9999 : Nat) = 9998 + 1 from rfl, check_int, Result.andThen, check_int, Result.andThen, check_int]
  now a b := .inl rfl
  eq a b w := by
    unfold Op.equal
    rw [show Op.maxDepth = 9999 + 1 from rfl]
    simp [go_sem]
    obtain ⟨a1, a2, a3⟩ := a
    obtain ⟨b1, b2, b3⟩ := b
    by_cases h1 : a1 = b1 <;> by_cases h2 : a2 = b2 <;> by_cases h3 : a3 = b3 <;> simp [h1, h2, h3]
  same a := by unfold Instr.sameBits; simp [Instr.sameBits]

/-- Block p is a store, S; F are the blocks that it stands on. -/
def StoIs (w : World) (p : Nat) (F : List Nat) (S : Sto) : Prop :=
  ∃ sv G bm tm, w.heap[p]? = some (.cells #[.int .i64 S.cap, sv, .map (some bm), .map (some tm), .bool S.full] 47 (0, 0)) ∧
    RowIs w sv G 39 3 S.nodes.length (flat S.nodes) ∧ MapIs kv w bm S.byn ∧ MapIs kv w tm S.told ∧
    F = p :: bm :: tm :: G.toList ∧ F.Nodup

/-- What a call that works on a store does to the rest: nothing. -/
structure StoStep (w w' : World) (F F' : List Nat) : Prop where
  os : w'.os = w.os
  tape : w'.tape = w.tape
  output : w'.output = w.output
  size : w.heap.size ≤ w'.heap.size
  block : ∀ k, k < w.heap.size → k ∉ F → w'.heap[k]? = w.heap[k]?
  fresh : ∀ k ∈ F', k ∈ F ∨ (w.heap.size ≤ k ∧ k < w'.heap.size)

theorem StoStep.refl (w : World) (F : List Nat) : StoStep w w F F := ⟨rfl, rfl, rfl, Nat.le_refl _, fun _ _ _ => rfl, fun _ h => .inl h⟩
theorem StoStep.trans {a b c : World} {F F' F'' : List Nat} (h : StoStep a b F F') (k : StoStep b c F' F'') : StoStep a c F F'' :=
  ⟨k.os.trans h.os, k.tape.trans h.tape, k.output.trans h.output, Nat.le_trans h.size k.size,
   fun i hi hn => (k.block i (Nat.lt_of_lt_of_le hi h.size) (fun hm => (h.fresh i hm).elim hn (fun h' => by omega))).trans (h.block i hi hn),
   fun i hi => (k.fresh i hi).elim (fun h' => (h.fresh i h').elim .inl (fun h'' => .inr ⟨h''.1, Nat.lt_of_lt_of_le h''.2 k.size⟩)) (fun h' => .inr ⟨Nat.le_trans h.size h'.1, h'.2⟩)⟩
theorem StoStep.below {w w' : World} {F F' : List Nat} {B : Nat} (h : StoStep w w' F F') (hF : ∀ k ∈ F, B ≤ k) (hB : B ≤ w.heap.size) : Below B w w' :=
  ⟨h.os, h.tape, h.output, h.size, fun k hk => h.block k (by omega) (fun hm => by have := hF k hm; omega)⟩
theorem StoStep.of_below {w w' : World} {F : List Nat} (h : Below w.heap.size w w') : StoStep w w' F F :=
  ⟨h.os, h.tape, h.output, h.size, fun k hk _ => h.block k hk, fun _ h => .inl h⟩

theorem StoIs.lt {w : World} {p : Nat} {F : List Nat} {S : Sto} (h : StoIs w p F S) : ∀ k ∈ F, k < w.heap.size := by
  obtain ⟨sv, G, bm, tm, h1, h2, h3, h4, rfl, _⟩ := h
  intro k hk
  simp only [List.mem_cons, Option.mem_toList] at hk
  rcases hk with rfl | rfl | rfl | hk
  · exact (Array.getElem?_eq_some_iff.1 h1).1
  · obtain ⟨_, _, h3, _⟩ := h3; exact (Array.getElem?_eq_some_iff.1 h3).1
  · obtain ⟨_, _, h4, _⟩ := h4; exact (Array.getElem?_eq_some_iff.1 h4).1
  · exact h2.lt k hk
/-- A store stays while its blocks stay. -/
theorem StoIs.keep {w w' : World} {p : Nat} {F : List Nat} {S : Sto} (h : StoIs w p F S) (hk : ∀ k ∈ F, w'.heap[k]? = w.heap[k]?) : StoIs w' p F S := by
  obtain ⟨sv, G, bm, tm, h1, h2, ⟨es, cl, h3, h3'⟩, ⟨fs, dl, h4, h4'⟩, rfl, h5⟩ := h
  refine ⟨sv, G, bm, tm, by rw [hk p (by simp)]; exact h1, h2.keep (fun g hg => hk g (by simp [hg])), ⟨es, cl, by rw [hk bm (by simp)]; exact h3, h3'⟩, ⟨fs, dl, by rw [hk tm (by simp)]; exact h4, h4'⟩, rfl, h5⟩
theorem StoIs.ext {w : World} {p : Nat} {F : List Nat} {S : Sto} (h : StoIs w p F S) (m : Array Obj) (d : Nat) : StoIs (w.ext m d) p F S :=
  h.keep (fun k hk => World.heap_ext _ _ _ (h.lt k hk))
theorem StoIs.below {w w' : World} {p : Nat} {F : List Nat} {S : Sto} (h : StoIs w p F S) (hb : Below w.heap.size w w') : StoIs w' p F S :=
  h.keep (fun k hk => hb.block k (h.lt k hk))

/-- The store's five cells. -/
theorem StoIs.cells {w : World} {p : Nat} {F : List Nat} {S : Sto} (h : StoIs w p F S) :
    ∃ (a : Option Addr) (cap' bm tm : Nat), p < w.heap.size ∧ w.cell? ⟨p, 0, none⟩ = some (.int .i64 S.cap) ∧ w.cell? ⟨p, 1, none⟩ = some (.slice a S.nodes.length cap') ∧
      w.cell? ⟨p, 2, none⟩ = some (.map (some bm)) ∧ w.cell? ⟨p, 3, none⟩ = some (.map (some tm)) ∧ w.cell? ⟨p, 4, none⟩ = some (.bool S.full) ∧ S.nodes.length ≤ 9223372036854775807 := by
  obtain ⟨sv, G, bm, tm, h1, h2, h3, h4, h5, _⟩ := h
  obtain ⟨a, cap', rfl, hm⟩ := h2.form
  unfold maxLen at hm
  refine ⟨a, cap', bm, tm, (Array.getElem?_eq_some_iff.1 h1).1, ?_, ?_, ?_, ?_, ?_, hm⟩ <;> simp [World.cell?, h1]

theorem none_any {w : World} {p : Nat} {F : List Nat} {S : Sto} (h : StoIs w p F S) (hc : S.cap ≠ 0) :
    Calls Try.prog 82 #[.pointer (some ⟨p, 0, none⟩)] w (Pure (.bool false) w) := by
  obtain ⟨a, cap', bm, tm, hp, c0, c1, c2, c3, c4, hm⟩ := h.cells
  have hc' : (S.cap == 0) = false := by simpa using hc
  clear hc
  go_enter Try.func82, Try.ntmps82
  go_wp2
  go_returns
  exact Pure.of rfl (by (repeat' (first | (with_reducible exact Below.refl _ _) | (with_reducible refine Below.ext_mk ?_ ?_ _ _) | (with_reducible refine Below.alloc ?_ ?_ _) | (with_reducible refine Below.drew ?_) | (with_reducible refine Below.setCell ?_ ?_ _) | go_size)))

end Go.Proofs.Ytboekafmplomhaa
