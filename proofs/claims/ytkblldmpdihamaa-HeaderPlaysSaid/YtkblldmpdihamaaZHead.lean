/-
  Package header: programs and packets as values; slices that are read.
-/
import Derived.Test.YtkblldmpdihamaaZNumB
import Derived.Test.YtkblldmpdihamaaZArr
import Derived.Test.YtkblldmpdihamaaZStage
set_option linter.unusedVariables false
set_option linter.unusedSimpArgs false
namespace Go.Proofs.Ytkblldmpdihamaa
open Go.RowKit

/-- A slice's three parts. -/
structure SL where
  a : Option Addr
  n : Nat
  c : Nat
abbrev SL.v (s : SL) : Value := .slice s.a s.n s.c
@[simp, go_sem] theorem SL.v_mk (a : Option Addr) (n c : Nat) : (SL.mk a n c).v = .slice a n c := rfl
def slNil : SL := ⟨none, 0, 0⟩
/-- A program's slices. -/
structure PG where
  heads : SL
  metas : SL
  steps : SL
  acts : SL
  tabs : SL
  control : SL
  emit : SL
  n0 : SL
  n1 : SL
  n2 : SL
  n3 : SL
  n4 : SL
abbrev PG.v (p : PG) : Value := .agg #[p.heads.v, p.metas.v, p.steps.v, p.acts.v, p.tabs.v, p.control.v, p.emit.v, p.n0.v, p.n1.v, p.n2.v, p.n3.v, p.n4.v]
/-- A packet's parts. -/
structure PK where
  port : Int
  rest : SL
  valid : SL
  fields : SL
  metas : SL
  dropped : Bool
  sent : Bool
  egress : Int
  access : Bool
abbrev PK.cs (s : PK) : List Value := [.int .i64 s.port, s.rest.v, s.valid.v, s.fields.v, s.metas.v, .bool s.dropped, .bool s.sent, .int .i64 s.egress, .bool s.access]
abbrev PK.v (s : PK) : Value := .agg s.cs.toArray

/-- The slice reads as these cells, 'size' of them an element. -/
def RdS (w : World) (size : Nat) (s : SL) (xs : List Value) : Prop :=
  s.n ≤ s.c ∧ s.n ≤ 9223372036854775807 ∧ xs.length = s.n * size ∧ (0 < s.n → ∃ b off, s.a = some ⟨b, off, none⟩ ∧ b < w.heap.size ∧ ∀ j u, xs[j]? = some u → w.cell? ⟨b, off + j, none⟩ = some u)
theorem RdS.keep {w w' : World} {size : Nat} {s : SL} {xs : List Value} (h : RdS w size s xs) (hz : w.heap.size ≤ w'.heap.size) (hk : ∀ b off, s.a = some ⟨b, off, none⟩ → b < w.heap.size → w'.heap[b]? = w.heap[b]?) : RdS w' size s xs := by
  obtain ⟨h1, h2, h3, h4⟩ := h
  refine ⟨h1, h2, h3, fun hn => ?_⟩
  obtain ⟨b, off, e1, e2, e3⟩ := h4 hn
  refine ⟨b, off, e1, Nat.lt_of_lt_of_le e2 hz, fun j u hu => ?_⟩
  have := hk b off e1 e2
  have e4 := e3 j u hu
  simp only [World.cell?] at e4 ⊢
  rw [this]; exact e4
theorem RdS.below {w w' : World} {size : Nat} {s : SL} {xs : List Value} (h : RdS w size s xs) (hb : Below w.heap.size w w') : RdS w' size s xs :=
  h.keep hb.size (fun b _ _ hz => hb.block b hz)
theorem rdNil {w : World} {size : Nat} : RdS w size slNil [] := ⟨Nat.le_refl _, by simp [slNil], by simp [slNil], fun h => by simp [slNil] at h⟩
/-- An element of one cell. -/
theorem RdS.one {w : World} {s : SL} {xs : List Value} (h : RdS w 1 s xs) {i : Nat} {u : Value} (hu : xs[i]? = some u) :
    ∃ b off, s.a = some ⟨b, off, none⟩ ∧ b < w.heap.size ∧ i < s.n ∧ w.cell? ⟨b, off + i, none⟩ = some u := by
  obtain ⟨h1, h2, h3, h4⟩ := h
  have hi : i < s.n := by have := (List.getElem?_eq_some_iff.1 hu).1; omega
  obtain ⟨b, off, e1, e2, e3⟩ := h4 (by omega)
  exact ⟨b, off, e1, e2, hi, e3 i u hu⟩
/-- Numbers as cells. -/
def nums : List (BitVec 128) → List Value
  | [] => []
  | n :: r => .int .u64 (hi n) :: .int .u64 (lo n) :: nums r
theorem nums_length : ∀ l, (nums l).length = l.length * 2
  | [] => rfl
  | n :: r => by simp only [nums, List.length_cons, nums_length r]; omega
theorem nums_at : ∀ (l : List (BitVec 128)) (i : Nat) (n : BitVec 128), l[i]? = some n → (nums l)[i * 2]? = some (.int .u64 (hi n)) ∧ (nums l)[i * 2 + 1]? = some (.int .u64 (lo n))
  | [], i, n, h => by simp at h
  | x :: r, 0, n, h => by simp at h; subst h; simp [nums]
  | x :: r, i + 1, n, h => by
    have := nums_at r i n (by simpa using h)
    have e : (i + 1) * 2 = i * 2 + 2 := by omega
    rw [e]
    simpa [nums] using this
/-- An element that is a number. -/
theorem RdS.num {w : World} {s : SL} {l : List (BitVec 128)} (h : RdS w 2 s (nums l)) {i : Nat} {n : BitVec 128} (hn : l[i]? = some n) :
    ∃ b off, s.a = some ⟨b, off, none⟩ ∧ b < w.heap.size ∧ i < s.n ∧ w.cell? ⟨b, off + i * 2, none⟩ = some (.int .u64 (hi n)) ∧ w.cell? ⟨b, off + i * 2 + 1, none⟩ = some (.int .u64 (lo n)) := by
  obtain ⟨h1, h2, h3, h4⟩ := h
  rw [nums_length] at h3
  have hi : i < s.n := by have := (List.getElem?_eq_some_iff.1 hn).1; omega
  obtain ⟨b, off, e1, e2, e3⟩ := h4 (by omega)
  obtain ⟨q0, q1⟩ := nums_at l i n hn
  exact ⟨b, off, e1, e2, hi, e3 _ _ q0, by have := e3 _ _ q1; rw [← Nat.add_assoc] at this; exact this⟩
/-- Whole numbers as cells. -/
def ints (l : List Int) : List Value := l.map (Value.int .i64)
theorem ints_length (l : List Int) : (ints l).length = l.length := by simp [ints]
theorem RdS.int {w : World} {s : SL} {l : List Int} (h : RdS w 1 s (ints l)) : s.n = l.length := by have := h.2.2.1; rw [ints_length] at this; omega
def bools (l : List Bool) : List Value := l.map Value.bool
theorem bools_length (l : List Bool) : (bools l).length = l.length := by simp [bools]
/-- Bytes as cells. -/
def byts (l : List Nat) : List Value := l.map fun (x : Nat) => Value.int .u8 (x : Int)
theorem byts_length (l : List Nat) : (byts l).length = l.length := by simp [byts]

/-- A program's headers: their widths. -/
structure HeadsAre (w : World) (s : SL) (hs : List (SL × List Int)) : Prop where
  row : RdS w 1 s (hs.map fun x => x.1.v)
  each : ∀ x ∈ hs, RdS w 1 x.1 (ints x.2)
theorem HeadsAre.below {w w' : World} {s : SL} {hs : List (SL × List Int)} (h : HeadsAre w s hs) (hb : Below w.heap.size w w') : HeadsAre w' s hs :=
  ⟨h.row.below hb, fun x hx => (h.each x hx).below hb⟩
theorem HeadsAre.len {w : World} {s : SL} {hs : List (SL × List Int)} (h : HeadsAre w s hs) : s.n = hs.length := by have := h.row.2.2.1; simp at this; omega
def headAt (hs : List (SL × List Int)) (h : Int) : SL × List Int := if h < 0 then (slNil, []) else (hs[h.toNat]?).getD (slNil, [])
theorem HeadsAre.at {w : World} {s : SL} {hs : List (SL × List Int)} (H : HeadsAre w s hs) (h : Int) : RdS w 1 (headAt hs h).1 (ints (headAt hs h).2) := by
  unfold headAt
  by_cases h0 : h < 0
  · rw [if_pos h0]; exact rdNil
  · rw [if_neg h0]
    cases hx : hs[h.toNat]? with
    | none => exact rdNil
    | some x => exact H.each x (List.mem_of_getElem? hx)

set_option maxRecDepth 100000 in
theorem widths_any {p : PG} {hs : List (SL × List Int)} {w : World} (H : HeadsAre w p.heads hs) (h : Int) : Calls Try.prog 35 #[p.v, .int .i64 h] w (Pure (headAt hs h).1.v w) := by
  have hl := H.len
  by_cases h0 : h < 0
  · rw [show headAt hs h = (slNil, []) by unfold headAt; rw [if_pos h0]]
    go_enter Try.func35, Try.ntmps35
    go_upto_region 1 with (fail)
    refine wp_region_seq (fun F hF => ?_)
    have HF := hid hF; clear hF
    repeat (first
      | (apply text_skip; (focus rfl); simp only [Act.put, List.setIfInBounds_toArray, List.set_cons_zero, List.set_cons_succ])
      | (apply text_val; (focus rfl); (focus (intro _ _; go_simp; with_reducible rfl)); simp only [Act.put, List.setIfInBounds_toArray, List.set_cons_zero, List.set_cons_succ])
      | (apply text_if; (focus (first | exact wanted_t rfl rfl | exact wanted_f rfl rfl | exact wanted_gt rfl rfl | exact wanted_gf rfl rfl)); (focus (intro hc _ _; (try simp only [Bool.and_eq_true, Bool.not_eq_true', Bool.true_and] at hc); go_simp; with_reducible rfl)); simp only [Act.put, List.setIfInBounds_toArray, List.set_cons_zero, List.set_cons_succ]))
    refine text_nil (HF.out _ (fun mx dx => ?_))
    clear HF F
    go_wp2_with fail
    go_returns
    exact Pure.of rfl (by (repeat' (first | (with_reducible exact Below.refl _ _) | (with_reducible refine Below.ext_mk ?_ ?_ _ _) | (with_reducible refine Below.alloc ?_ ?_ _) | (with_reducible refine Below.drew ?_) | (with_reducible refine Below.setCell ?_ ?_ _) | go_size)))
  · by_cases h1 : (p.heads.n : Int) ≤ h
    · rw [show headAt hs h = (slNil, []) by unfold headAt; rw [if_neg h0, List.getElem?_eq_none (by omega)]; rfl]
      go_enter Try.func35, Try.ntmps35
      go_upto_region 1 with (fail)
      refine wp_region_seq (fun F hF => ?_)
      have HF := hid hF; clear hF
      repeat (first
        | (apply text_skip; (focus rfl); simp only [Act.put, List.setIfInBounds_toArray, List.set_cons_zero, List.set_cons_succ])
        | (apply text_val; (focus rfl); (focus (intro _ _; go_simp; with_reducible rfl)); simp only [Act.put, List.setIfInBounds_toArray, List.set_cons_zero, List.set_cons_succ])
        | (apply text_if; (focus (first | exact wanted_t rfl rfl | exact wanted_f rfl rfl | exact wanted_gt rfl rfl | exact wanted_gf rfl rfl)); (focus (intro hc _ _; (try simp only [Bool.and_eq_true, Bool.not_eq_true', Bool.true_and] at hc); go_simp; with_reducible rfl)); simp only [Act.put, List.setIfInBounds_toArray, List.set_cons_zero, List.set_cons_succ]))
      refine text_nil (HF.out _ (fun mx dx => ?_))
      clear HF F
      go_wp2_with fail
      go_returns
      exact Pure.of rfl (by (repeat' (first | (with_reducible exact Below.refl _ _) | (with_reducible refine Below.ext_mk ?_ ?_ _ _) | (with_reducible refine Below.alloc ?_ ?_ _) | (with_reducible refine Below.drew ?_) | (with_reducible refine Below.setCell ?_ ?_ _) | go_size)))
    · obtain ⟨k, rfl⟩ : ∃ k : Nat, h = (k : Int) := ⟨h.toNat, by omega⟩
      have hk : k < hs.length := by omega
      obtain ⟨b, off, e1, e2, e3, e4⟩ := H.row.one (i := k) (u := hs[k].1.v) (by simp [hk])
      have ex : headAt hs (k : Int) = hs[k] := by unfold headAt; rw [if_neg h0]; simp [hk]
      rw [ex]
      generalize hs[k] = x at *
      have hk0 : (0 : Int) ≤ (k : Int) := by omega
      have hk1 : (k : Int) < (p.heads.n : Int) := by omega
      obtain ⟨⟨a, n, c⟩, _, _, _, _, _, _, _, _, _, _, _⟩ := p
      simp only at e1 e3 hk1 h1 hl
      subst e1
      clear ex hl H hk
      go_enter Try.func35, Try.ntmps35
      go_upto_region 1 with (fail)
      refine wp_region_seq (fun F hF => ?_)
      have HF := hid hF; clear hF
      repeat (first
        | (apply text_skip; (focus rfl); simp only [Act.put, List.setIfInBounds_toArray, List.set_cons_zero, List.set_cons_succ])
        | (apply text_val; (focus rfl); (focus (intro _ _; go_simp; with_reducible rfl)); simp only [Act.put, List.setIfInBounds_toArray, List.set_cons_zero, List.set_cons_succ])
        | (apply text_if; (focus (first | exact wanted_t rfl rfl | exact wanted_f rfl rfl | exact wanted_gt rfl rfl | exact wanted_gf rfl rfl)); (focus (intro hc _ _; (try simp only [Bool.and_eq_true, Bool.not_eq_true', Bool.true_and] at hc); go_simp; with_reducible rfl)); simp only [Act.put, List.setIfInBounds_toArray, List.set_cons_zero, List.set_cons_succ]))
      refine text_nil (HF.out _ (fun mx dx => ?_))
      clear HF F
      go_wp2_with fail
      go_returns
      exact Pure.of rfl (by (repeat' (first | (with_reducible exact Below.refl _ _) | (with_reducible refine Below.ext_mk ?_ ?_ _ _) | (with_reducible refine Below.alloc ?_ ?_ _) | (with_reducible refine Below.drew ?_) | (with_reducible refine Below.setCell ?_ ?_ _) | go_size)))
end Go.Proofs.Ytkblldmpdihamaa
