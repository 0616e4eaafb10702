/-
  Package header: Size, whole, has.
-/
import Derived.Test.YtkblldmpdihamaaZHead
set_option linter.unusedVariables false
set_option linter.unusedSimpArgs false
namespace Go.Proofs.Ytkblldmpdihamaa
open Go.RowKit

/-- Widths that are whole numbers, not too many bits together. -/
structure Few (ws : List Int) : Prop where
  pos : ∀ x ∈ ws, 0 ≤ x
  sum : ws.sum ≤ 100000
theorem sum_snoc (ws : List Int) {j : Nat} (hj : j < ws.length) : (ws.take (j + 1)).sum = (ws.take j).sum + ws[j] := by
  rw [List.take_add_one, List.sum_append]
  simp [hj]
theorem sum_mono {ws : List Int} (h : ∀ x ∈ ws, 0 ≤ x) : ∀ j, 0 ≤ (ws.take j).sum ∧ (ws.take j).sum ≤ ws.sum := by
  induction ws with
  | nil => intro j; simp
  | cons x r ih =>
    intro j
    cases j with
    | zero =>
      have := ih (fun y hy => h y (List.mem_cons_of_mem _ hy)) 0
      have h0 := h x (List.mem_cons_self ..)
      simp at this ⊢
      omega
    | succ j =>
      have := ih (fun y hy => h y (List.mem_cons_of_mem _ hy)) j
      have h0 := h x (List.mem_cons_self ..)
      simp at this ⊢
      omega
theorem RdS.intAt {w : World} {s : SL} {l : List Int} (h : RdS w 1 s (ints l)) {i : Nat} (hi : i < l.length) :
    ∃ b off, s.a = some ⟨b, off, none⟩ ∧ b < w.heap.size ∧ w.cell? ⟨b, off + i, none⟩ = some (.int .i64 l[i]) := by
  obtain ⟨b, off, h1, h2, h3, h4⟩ := h.one (i := i) (u := .int .i64 l[i]) (by simp [ints, hi])
  exact ⟨b, off, h1, h2, h4⟩

set_option maxRecDepth 100000 in
theorem size_any {p : PG} {hs : List (SL × List Int)} {w : World} (H : HeadsAre w p.heads hs) (h : Int) (hF : Few (headAt hs h).2) :
    Calls Try.prog 21 #[p.v, .int .i64 h] w (Pure (.int .i64 ((headAt hs h).2.sum / 8)) w) := by
  have W := hid (fun V (hb : Below w.heap.size w V) => widths_any (H.below hb) h)
  have A := H.at h
  have hl := A.int
  have hm := A.2.1
  have HA := hid A
  clear A H
  generalize headAt hs h = x at *
  obtain ⟨⟨sa, n, c⟩, ws⟩ := x
  simp only at hl hF hm
  subst hl
  go_enter Try.func21, Try.ntmps21
  go_wp2_with (go_at_call 35; refine (W.out _ (by (repeat' (first | (with_reducible exact Below.refl _ _) | (with_reducible refine Below.ext_mk ?_ ?_ _ _) | (with_reducible refine Below.alloc ?_ ?_ _) | (with_reducible refine Below.drew ?_) | (with_reducible refine Below.setCell ?_ ?_ _) | go_size)))).mono ?_; rintro e w' ⟨rfl, m2, d2, rfl⟩)
  go_loopw [5, 12] (fun y i wr => ∃ j : Nat, j ≤ ws.length ∧ y = .int .i64 (ws.take j).sum ∧ i = .int .i64 j ∧ Below w.heap.size w wr) (fun _ i _ => ws.length - (intOf i).toNat)
  case atStart => exact ⟨0, by omega, by simp, rfl, by (repeat' (first | (with_reducible exact Below.refl _ _) | (with_reducible refine Below.ext_mk ?_ ?_ _ _) | (with_reducible refine Below.alloc ?_ ?_ _) | (with_reducible refine Below.drew ?_) | (with_reducible refine Below.setCell ?_ ?_ _) | go_size))⟩
  case round =>
    obtain ⟨j, hj, rfl, rfl, hb⟩ := hrel
    have hbs := hb.size
    have sm := sum_mono hF.pos j
    have s0 := hF.sum
    by_cases hlt : j < ws.length
    · have hj1 : (j : Int) < (ws.length : Int) := by omega
      obtain ⟨b, off, e1, zb, c1⟩ := RdS.intAt HA.out hlt
      simp only at e1
      subst e1
      have c2 := (hb.cell (p := ⟨b, off + j, none⟩) zb).trans c1
      have zb' : b < wr.heap.size := by omega
      have sm1 := sum_mono hF.pos (j + 1)
      have hsn := sum_snoc ws hlt
      have HS := hid hsn
      have w1 : IntKind.i64.wrap ((ws.take j).sum + ws[j]) = (ws.take (j + 1)).sum := by rw [hsn] at sm1 ⊢; exact IntWalk.i64_in _ (by omega)
      clear hsn sm sm1 c1
      generalize ws[j] = x at *
      generalize (ws.take j).sum = y at *
      generalize hz : (ws.take (j + 1)).sum = z at *
      have HZ := hid hz
      clear hz
      go_wp2_with fail
      go_roundw
      case rel => exact ⟨j + 1, by omega, by rw [HZ.out], by go_num, hb⟩
      case measure => simp [intOf]; omega
    · have e : ws.take j = ws := List.take_of_length_le (by omega)
      rw [e] at sm ⊢
      generalize ws.sum = y at *
      go_wp2_with fail
      go_returns
      exact Pure.of rfl hb

set_option maxRecDepth 100000 in
theorem whole_any {s : SL} {ws : List Int} {w : World} (A : RdS w 1 s (ints ws)) (hF : Few ws) :
    Calls Try.prog 34 #[s.v] w (Pure (.bool (ws.sum % 8 == 0)) w) := by
  have hl := A.int
  have hm := A.2.1
  have HA := hid A
  clear A
  obtain ⟨sa, n, c⟩ := s
  simp only at hl hm
  subst hl
  go_enter Try.func34, Try.ntmps34
  go_wp2_with fail
  go_loopw [3, 4, 9] (fun y z i wr => ∃ j : Nat, j ≤ ws.length ∧ y = .int .i64 (ws.take j).sum ∧ z = .int .i64 0 ∧ i = .int .i64 j ∧ Below w.heap.size w wr) (fun _ _ i _ => ws.length - (intOf i).toNat)
  case atStart => exact ⟨0, by omega, by simp, rfl, rfl, by (repeat' (first | (with_reducible exact Below.refl _ _) | (with_reducible refine Below.ext_mk ?_ ?_ _ _) | (with_reducible refine Below.alloc ?_ ?_ _) | (with_reducible refine Below.drew ?_) | (with_reducible refine Below.setCell ?_ ?_ _) | go_size))⟩
  case round =>
    obtain ⟨j, hj, rfl, rfl, rfl, hb⟩ := hrel
    have hbs := hb.size
    have sm := sum_mono hF.pos j
    have s0 := hF.sum
    by_cases hlt : j < ws.length
    · have hj1 : (j : Int) < (ws.length : Int) := by omega
      obtain ⟨b, off, e1, zb, c1⟩ := RdS.intAt HA.out hlt
      simp only at e1
      subst e1
      have c2 := (hb.cell (p := ⟨b, off + j, none⟩) zb).trans c1
      have zb' : b < wr.heap.size := by omega
      have sm1 := sum_mono hF.pos (j + 1)
      have hsn := sum_snoc ws hlt
      have w1 : IntKind.i64.wrap ((ws.take j).sum + ws[j]) = (ws.take (j + 1)).sum := by rw [hsn] at sm1 ⊢; exact IntWalk.i64_in _ (by omega)
      have x0 := hF.pos ws[j] (List.getElem_mem _)
      clear hsn sm sm1 c1
      generalize ws[j] = x at *
      have hmin : min 0 x = 0 := by omega
      generalize (ws.take j).sum = y at *
      generalize hz : (ws.take (j + 1)).sum = z at *
      have HZ := hid hz
      clear hz
      go_wp2_with fail
      go_roundw
      case rel => exact ⟨j + 1, by omega, by rw [HZ.out], rfl, by go_num, hb⟩
      case measure => simp [intOf]; omega
    · have e : ws.take j = ws := List.take_of_length_le (by omega)
      rw [e] at sm ⊢
      generalize ws.sum = y at *
      by_cases h8 : y % 8 = 0
      · have h8' : (y % 8 == 0) = true := by simpa using h8
        clear h8
        go_wp2_with fail
        go_returns
        exact Pure.of (by simp [h8']) hb
      · have h8' : (y % 8 == 0) = false := by simpa using h8
        clear h8
        go_wp2_with fail
        go_returns
        exact Pure.of (by simp [h8']) hb

def hasB (k : PK) (h : Int) : Bool := decide (0 ≤ h) && (decide (h < k.valid.n) && decide (h < k.fields.n))
theorem has_any {k : PK} {b : Nat} {w : World} (B : Blk w b 39 k.cs) (h : Int) :
    Calls Try.prog 33 #[.pointer (some ⟨b, 0, none⟩), .int .i64 h] w (Pure (.bool (hasB k h)) w) := by
  have c2 := B.cell 2
  have c3 := B.cell 3
  simp only [List.getElem?_cons_zero, List.getElem?_cons_succ] at c2 c3
  have zb := B.lt
  unfold hasB
  clear B
  by_cases h0 : 0 ≤ h <;> by_cases h1 : h < (k.valid.n : Int) <;> by_cases h2 : h < (k.fields.n : Int)
  all_goals
    go_enter Try.func33, Try.ntmps33
    go_upto_region 1 with (fail)
    refine wp_region_seq (fun F hF => ?_)
    have HF := hid hF; clear hF
    repeat (first
      | (apply text_skip; (focus rfl); simp only [Act.put, List.setIfInBounds_toArray, List.set_cons_zero, List.set_cons_succ])
      | (apply text_val; (focus rfl); (focus (intro _ _; go_simp; with_reducible rfl)); simp only [Act.put, List.setIfInBounds_toArray, List.set_cons_zero, List.set_cons_succ])
      | (apply text_if; (focus (first | exact wanted_t rfl rfl | exact wanted_f rfl rfl | exact wanted_gt rfl rfl | exact wanted_gf rfl rfl)); (focus (intro hc _ _; (try simp only [Bool.and_eq_true, Bool.not_eq_true', Bool.true_and] at hc); go_simp; with_reducible rfl)); simp only [Act.put, List.setIfInBounds_toArray, List.set_cons_zero, List.set_cons_succ]))
    refine text_nil (HF.out _ (fun mx dx => ?_))
    clear HF F
    go_wp2_with fail
    go_returns
    exact Pure.of (by simp [h0, h1, h2]) (by (repeat' (first | (with_reducible exact Below.refl _ _) | (with_reducible refine Below.ext_mk ?_ ?_ _ _) | (with_reducible refine Below.alloc ?_ ?_ _) | (with_reducible refine Below.drew ?_) | (with_reducible refine Below.setCell ?_ ?_ _) | go_size)))
theorem has_nil (h : Int) (w : World) : Calls Try.prog 33 #[.pointer none, .int .i64 h] w (Pure (.bool false) w) := by
  go_enter Try.func33, Try.ntmps33
  go_upto_region 1 with (fail)
  refine wp_region_seq (fun F hF => ?_)
  have HF := hid hF; clear hF
  repeat (first
    | (apply text_skip; (focus rfl); simp only [Act.put, List.setIfInBounds_toArray, List.set_cons_zero, List.set_cons_succ])
    | (apply text_val; (focus rfl); (focus (intro _ _; go_simp; with_reducible rfl)); simp only [Act.put, List.setIfInBounds_toArray, List.set_cons_zero, List.set_cons_succ])
    | (apply text_if; (focus (first | exact wanted_t rfl rfl | exact wanted_f rfl rfl | exact wanted_gt rfl rfl | exact wanted_gf rfl rfl)); (focus (intro hc _ _; (try simp only [Bool.and_eq_true, Bool.not_eq_true', Bool.true_and] at hc); go_simp; with_reducible rfl)); simp only [Act.put, List.setIfInBounds_toArray, List.set_cons_zero, List.set_cons_succ]))
  refine text_nil (HF.out _ (fun mx dx => ?_))
  clear HF F
  go_wp2_with fail
  go_returns
  exact Pure.of rfl (by (repeat' (first | (with_reducible exact Below.refl _ _) | (with_reducible refine Below.ext_mk ?_ ?_ _ _) | (with_reducible refine Below.alloc ?_ ?_ _) | (with_reducible refine Below.drew ?_) | (with_reducible refine Below.setCell ?_ ?_ _) | go_size)))
end Go.Proofs.Ytkblldmpdihamaa
