/-
  The document's example of layer 31.
-/
import Derived.Test.YtboekafmplomhaaZSupB
import Derived.Test.YtboekafmplomhaaZMeansR
set_option linter.unusedVariables false
set_option linter.unusedSimpArgs false
namespace Go.Proofs.Ytboekafmplomhaa
open Go.RowKit

theorem equal_ints {w : World} {l1 l2 : List Int} {s1 s2 : Value} (h1 : Rd w 1 s1 (ints l1)) (h2 : Rd w 1 s2 (ints l2)) :
    Calls Try.prog 45 #[s1, s2] w (Pure (.bool (decide (l1 = l2))) w) := by
  obtain ⟨a1, c1, rfl, hc1, hm1⟩ := h1.len
  obtain ⟨a2, c2, rfl, hc2, hm2⟩ := h2.len
  have L1 := hid h1
  have L2 := hid h2
  clear h1 h2
  by_cases hl : l1.length = l2.length
  · have hl' : (l1.length : Int) = (l2.length : Int) := by omega
    have HL := hid hl
    clear hl
    go_enter Try.func45, Try.ntmps45
    go_wp2_with fail
    go_loopw [13] (fun i wr => ∃ j : Nat, j ≤ l1.length ∧ i = .int .i64 j ∧ (∀ k, k < j → l1[k]? = l2[k]?) ∧ Below w.heap.size w wr) (fun i _ => l1.length - (intOf i).toNat)
    case atStart => exact ⟨0, by omega, rfl, fun k hk => by omega, by (repeat' (first | (with_reducible exact Below.refl _ _) | (with_reducible refine Below.ext_mk ?_ ?_ _ _) | (with_reducible refine Below.alloc ?_ ?_ _) | (with_reducible refine Below.drew ?_) | (with_reducible refine Below.setCell ?_ ?_ _) | go_size))⟩
    case round =>
      obtain ⟨j, hj, rfl, hpre, hb⟩ := hrel
      have hbs := hb.size
      have HP := hid hpre
      clear hpre
      by_cases hlt : j < l1.length
      · have hj1 : (j : Int) < (l1.length : Int) := by omega
        have hj2 : (j : Int) < (l2.length : Int) := by omega
        have hlt2 : j < l2.length := by omega
        obtain ⟨b1, o1, rfl, zb1, cc1⟩ := Rd.intAt L1.out hlt
        obtain ⟨b2, o2, rfl, zb2, cc2⟩ := Rd.intAt L2.out hlt2
        have d1 := (hb.cell (p := ⟨b1, o1 + j, none⟩) zb1).trans cc1
        have d2 := (hb.cell (p := ⟨b2, o2 + j, none⟩) zb2).trans cc2
        have y1 : b1 < wr.heap.size := by omega
        have y2 : b2 < wr.heap.size := by omega
        obtain ⟨x1, hx1⟩ : ∃ x, x = l1[j] := ⟨_, rfl⟩
        obtain ⟨x2, hx2⟩ : ∃ x, x = l2[j] := ⟨_, rfl⟩
        rw [← hx1] at d1
        rw [← hx2] at d2
        have X := hid (And.intro hx1 hx2)
        clear hx1 hx2 cc1 cc2 hl'
        by_cases hx : x1 = x2
        · have HX := hid hx
          have hx' : (x1 == x2) = true := by simpa using hx
          clear hx
          go_upto_region 6 with (fail)
          refine wp_region_ext (by kernel_rfl) (by kernel_rfl) (fun F hF => ?_)
          have HF := hid hF; clear hF
          repeat (first
            | (apply text_skip; (focus rfl); simp only [Act.put, List.setIfInBounds_toArray, List.set_cons_zero, List.set_cons_succ])
            | (apply text_val; (focus rfl); (focus (intro _ _; go_simp; with_reducible rfl)); simp only [Act.put, List.setIfInBounds_toArray, List.set_cons_zero, List.set_cons_succ])
            | (apply text_if; (focus (first | exact wanted_t rfl rfl | exact wanted_f rfl rfl | exact wanted_gt rfl rfl | exact wanted_gf rfl rfl)); (focus (intro hc _ _; (try simp only [Bool.and_eq_true, Bool.not_eq_true', Bool.true_and] at hc); go_simp; with_reducible rfl)); simp only [Act.put, List.setIfInBounds_toArray, List.set_cons_zero, List.set_cons_succ]))
          refine text_nil (HF.out _ (fun mx dx => ?_))
          clear HF F
          go_wp2_with fail
          go_roundw
          case rel =>
            refine ⟨j + 1, by omega, by go_num, fun k hk => ?_, Below.ext_mk hb hbs _ _⟩
            by_cases hk' : k < j
            · exact HP.out k hk'
            · obtain rfl : k = j := by omega
              rw [List.getElem?_eq_getElem hlt, List.getElem?_eq_getElem hlt2, ← X.out.1, ← X.out.2, HX.out]
          case measure => simp [intOf]; omega
        · have HX := hid hx
          have hx' : (x1 == x2) = false := by simpa using hx
          clear hx
          go_upto_region 6 with (fail)
          refine wp_region_ext (by kernel_rfl) (by kernel_rfl) (fun F hF => ?_)
          have HF := hid hF; clear hF
          repeat (first
            | (apply text_skip; (focus rfl); simp only [Act.put, List.setIfInBounds_toArray, List.set_cons_zero, List.set_cons_succ])
            | (apply text_val; (focus rfl); (focus (intro _ _; go_simp; with_reducible rfl)); simp only [Act.put, List.setIfInBounds_toArray, List.set_cons_zero, List.set_cons_succ])
            | (apply text_if; (focus (first | exact wanted_t rfl rfl | exact wanted_f rfl rfl | exact wanted_gt rfl rfl | exact wanted_gf rfl rfl)); (focus (intro hc _ _; (try simp only [Bool.and_eq_true, Bool.not_eq_true', Bool.true_and] at hc); go_simp; with_reducible rfl)); simp only [Act.put, List.setIfInBounds_toArray, List.set_cons_zero, List.set_cons_succ]))
          refine text_nil (HF.out _ (fun mx dx => ?_))
          clear HF F
          go_wp2_with fail
          go_returns
          refine Pure.of ?_ (Below.ext_mk hb hbs _ _)
          have : ¬ l1 = l2 := fun e => HX.out (by rw [X.out.1, X.out.2]; subst e; rfl)
          simp [this]
      · go_wp2_with fail
        go_returns
        refine Pure.of ?_ hb
        have : l1 = l2 := List.ext_getElem? (fun k => by
          by_cases hk : k < j
          · exact HP.out k hk
          · rw [List.getElem?_eq_none (by omega), List.getElem?_eq_none (by have := HL.out; omega)])
        simp [this]
  · have hl' : ¬ (l1.length : Int) = (l2.length : Int) := by omega
    have hl2 : ¬ l1 = l2 := fun e => hl (by rw [e])
    have hd : decide (l1 = l2) = false := by simp [hl2]
    rw [hd]
    clear hd hl2 hl
    go_enter Try.func45, Try.ntmps45
    go_wp2_with fail
    go_returns
    exact Pure.of rfl (by (repeat' (first | (with_reducible exact Below.refl _ _) | (with_reducible refine Below.ext_mk ?_ ?_ _ _) | (with_reducible refine Below.alloc ?_ ?_ _) | (with_reducible refine Below.drew ?_) | (with_reducible refine Below.setCell ?_ ?_ _) | go_size)))

end Go.Proofs.Ytboekafmplomhaa
set_option linter.unusedVariables false
set_option linter.unusedSimpArgs false
namespace Go.Proofs.Ytboekafmplomhaa
open Go.RowKit

/-- A row of numbers, written out. -/
theorem lit_ints (w : World) (x : Int) (l : List Int) : Rd (w.alloc (.cells (ints (x :: l)).toArray 3)) 1 (.slice (some ⟨w.heap.size, 0, none⟩) (l.length + 1) (l.length + 1)) (ints (x :: l)) ∨ 9223372036854775807 < l.length + 1 := by
  by_cases hl : 9223372036854775807 < l.length + 1
  · exact .inr hl
  · refine .inl ⟨_, _, _, rfl, Nat.le_refl _, by omega, by simp [ints], fun _ => ⟨w.heap.size, 0, rfl, by simp, fun j u hu => ?_⟩⟩
    have h := (Blk.new w 3 (ints (x :: l))).cell j
    rw [Nat.zero_add, h]
    exact hu
theorem lit_one (w : World) (x : Int) : Rd (w.alloc (.cells #[.int .i64 x] 3)) 1 (.slice (some ⟨w.heap.size, 0, none⟩) 1 1) (ints [x]) := by
  rcases lit_ints w x [] with h | h
  · exact h
  · simp at h
section
variable {w : World} {p : Nat} {F : List Nat} {S : Sto}
end

end Go.Proofs.Ytboekafmplomhaa
