/-
  Package header: Fits.
-/
import Derived.Test.YtkblldmpdihamaaZHeadC
set_option linter.unusedVariables false
set_option linter.unusedSimpArgs false
namespace Go.Proofs.Ytkblldmpdihamaa
open Go.RowKit

/-- Whether numbers fit widths; no number where nothing is on. -/
def fitsL : List (BitVec 128) → List Int → Bool → Bool
  | [], ws, _ => decide (ws.length = 0)
  | _ :: _, [], _ => false
  | n :: r, x :: ws, on => fits n x && ((on || decide (n = 0#128)) && fitsL r ws on)
def InI64 (ws : List Int) : Prop := ∀ x ∈ ws, -9223372036854775808 ≤ x ∧ x ≤ 9223372036854775807

theorem fitsL_step {ns : List (BitVec 128)} {ws : List Int} {on : Bool} {j : Nat} (h1 : j < ns.length) (h2 : j < ws.length) :
    fitsL (ns.drop j) (ws.drop j) on = (fits ns[j] ws[j] && ((on || decide (ns[j] = 0#128)) && fitsL (ns.drop (j + 1)) (ws.drop (j + 1)) on)) := by
  rw [List.drop_eq_getElem_cons h1, List.drop_eq_getElem_cons h2, fitsL]
theorem fitsL_out {ns : List (BitVec 128)} {ws : List Int} {on : Bool} {j : Nat} (h1 : j < ns.length) (h2 : ws.length ≤ j) : fitsL (ns.drop j) (ws.drop j) on = false := by
  rw [List.drop_eq_getElem_cons h1, List.drop_eq_nil_of_le h2, fitsL]
theorem fitsL_end {ns : List (BitVec 128)} {ws : List Int} {on : Bool} : fitsL (ns.drop ns.length) (ws.drop ns.length) on = decide (ws.length ≤ ns.length) := by
  rw [List.drop_length, fitsL, List.length_drop]
  rw [Bool.eq_iff_iff]; simp; omega

set_option maxRecDepth 100000 in
set_option maxHeartbeats 4000000 in
theorem fits1_any {w : World} {s t : SL} {ns : List (BitVec 128)} {ws : List Int} (S : RdS w 2 s (nums ns)) (T : RdS w 1 t (ints ws)) (hi64 : InI64 ws) (on : Bool) :
    Calls Try.prog 28 #[s.v, t.v, .bool on] w (Pure (.bool (fitsL ns ws on)) w) := by
  have hsn : s.n = ns.length := by have := S.2.2.1; rw [nums_length] at this; omega
  have htn := T.int
  have hsm := S.2.1
  have htm := T.2.1
  have HS := hid S
  have HT := hid T
  clear S T
  obtain ⟨sa, sn, sc⟩ := s
  obtain ⟨ta, tn, tc⟩ := t
  simp only at hsn htn hsm htm
  subst hsn htn
  go_enter Try.func28, Try.ntmps28
  go_wp2_with fail
  go_loopw [11] (fun i wr => ∃ j : Nat, j ≤ ns.length ∧ j ≤ ws.length ∧ i = .int .i64 j ∧ fitsL ns ws on = fitsL (ns.drop j) (ws.drop j) on ∧ Below w.heap.size w wr) (fun i _ => ns.length - (intOf i).toNat)
  case atStart => exact ⟨0, by omega, by omega, rfl, rfl, by (repeat' (first | (with_reducible exact Below.refl _ _) | (with_reducible refine Below.ext_mk ?_ ?_ _ _) | (with_reducible refine Below.alloc ?_ ?_ _) | (with_reducible refine Below.drew ?_) | (with_reducible refine Below.setCell ?_ ?_ _) | go_size))⟩
  case round =>
    obtain ⟨j, hj, hjw, rfl, hfit, hb⟩ := hrel
    have hbs := hb.size
    have HFit := hid hfit
    clear hfit
    by_cases hlt : j < ns.length
    · have hj1 : (j : Int) < (ns.length : Int) := by omega
      obtain ⟨b, off, e1, zb, _, c0, c1⟩ := HS.out.num (i := j) (n := ns[j]) (by simp [hlt])
      simp only at e1
      subst e1
      have d0 := (hb.cell (p := ⟨b, off + j * 2, none⟩) zb).trans c0
      have d1 := (hb.cell (p := ⟨b, off + j * 2 + 1, none⟩) zb).trans c1
      have zb' : b < wr.heap.size := by omega
      clear c0 c1
      by_cases hw : j < ws.length
      · have hst := hid (fitsL_step (on := on) hlt hw)
        obtain ⟨b2, off2, e2, zb2, c2⟩ := RdS.intAt HT.out hw
        simp only at e2
        subst e2
        have d2 := (hb.cell (p := ⟨b2, off2 + j, none⟩) zb2).trans c2
        have zb2' : b2 < wr.heap.size := by omega
        have hr := hi64 ws[j] (List.getElem_mem _)
        have FT := hid (fun W => fits_any ns[j] ws[j] hr.1 hr.2 W)
        have hw1 : (j : Int) < (ws.length : Int) := by omega
        have hw2 : ¬ (ws.length : Int) ≤ (j : Int) := by omega
        generalize ns[j] = n at *
        generalize ws[j] = x at *
        clear c2 hr
        generalize fits n x = fb at *
        have hz0 : decide (n = 0#128) = (decide (hi n = 0) && decide (lo n = 0)) := (nv_beq0 n).symm
        rw [hz0] at hst
        clear hz0
        cases fb <;> cases on <;> by_cases hh : hi n = 0 <;> by_cases hl : lo n = 0
        all_goals
          simp only [hh, hl, decide_true, decide_false, Bool.and_true, Bool.and_false, Bool.true_and, Bool.false_and, Bool.or_true, Bool.or_false, Bool.true_or, Bool.false_or] at hst
          try simp only [nv, hh, hl] at FT
          go_upto_region 4 with (fail)
          refine wp_region_ext (by kernel_rfl) (by kernel_rfl) (fun F hF => ?_)
          have HF := hid hF; clear hF
          repeat (first
            | (apply text_skip; (focus rfl); simp only [Act.put, List.setIfInBounds_toArray, List.set_cons_zero, List.set_cons_succ])
            | (apply text_val; (focus rfl); (focus (intro _ _; go_simp; with_reducible rfl)); simp only [Act.put, List.setIfInBounds_toArray, List.set_cons_zero, List.set_cons_succ])
            | (apply text_call; (focus rfl); (focus (intro _ _; go_simp; exact ⟨rfl, rfl⟩)); (focus (intro _ _; with_reducible (exact FT.out _))); simp only [Act.put, List.setIfInBounds_toArray, List.set_cons_zero, List.set_cons_succ])
            | (apply text_if; (focus (first | exact wanted_t rfl rfl | exact wanted_f rfl rfl | exact wanted_gt rfl rfl | exact wanted_gf rfl rfl)); (focus (intro hc _ _; (try simp only [Bool.and_eq_true, Bool.not_eq_true', Bool.true_and] at hc); go_simp; with_reducible rfl)); simp only [Act.put, List.setIfInBounds_toArray, List.set_cons_zero, List.set_cons_succ])
            | (apply text_if_call; (focus (first | exact wanted_t rfl rfl | exact wanted_f rfl rfl | exact wanted_gt rfl rfl | exact wanted_gf rfl rfl)); (focus (intro hc _ _; (try simp only [Bool.and_eq_true, Bool.not_eq_true', Bool.true_and] at hc); go_simp; exact ⟨rfl, rfl⟩)); (focus (intro hc _ _; with_reducible (exact FT.out _))); simp only [Act.put, List.setIfInBounds_toArray, List.set_cons_zero, List.set_cons_succ]))
          refine text_nil (HF.out _ (fun mx dx => ?_))
          clear HF F
          first
            | (go_wp2_with fail
               go_returns
               exact Pure.of (by rw [HFit.out, hst.out]; rfl) (Below.ext_mk (Below.alloc hb hbs _) (by first | (simp; done) | (simp; omega)) _ _))
            | (go_wp2_with fail
               go_roundw
               case rel => exact ⟨j + 1, hlt, hw, by go_num, by first | (rw [HFit.out, hst.out]; done) | (rw [HFit.out, hst.out]; simp), Below.ext_mk (Below.alloc hb hbs _) (by first | (simp; done) | (simp; omega)) _ _⟩
               case measure => simp [intOf]; omega)
      · have hw1 : (ws.length : Int) ≤ (j : Int) := by omega
        have hst := hid (fitsL_out (on := on) hlt (by omega : ws.length ≤ j))
        generalize ns[j] = n at *
        go_upto_region 4 with (fail)
        refine wp_region_ext (by kernel_rfl) (by kernel_rfl) (fun F hF => ?_)
        have HF := hid hF; clear hF
        repeat (first
          | (apply text_skip; (focus rfl); simp only [Act.put, List.setIfInBounds_toArray, List.set_cons_zero, List.set_cons_succ])
          | (apply text_val; (focus rfl); (focus (intro _ _; go_simp; with_reducible rfl)); simp only [Act.put, List.setIfInBounds_toArray, List.set_cons_zero, List.set_cons_succ])
          | (apply text_if; (focus (first | exact wanted_t rfl rfl | exact wanted_f rfl rfl | exact wanted_gt rfl rfl | exact wanted_gf rfl rfl)); (focus (intro hc _ _; (try simp only [Bool.and_eq_true, Bool.not_eq_true', Bool.true_and] at hc); go_simp; with_reducible rfl)); simp only [Act.put, List.setIfInBounds_toArray, List.set_cons_zero, List.set_cons_succ]))
        refine text_nil (HF.out _ (fun mx dx => ?_))
        clear HF F
        go_wp2_with fail
        go_returns
        exact Pure.of (by rw [HFit.out, hst.out]; rfl) (Below.ext_mk (Below.alloc hb hbs _) (by first | (simp; done) | (simp; omega)) _ _)
    · obtain rfl : j = ns.length := by omega
      have hst := hid (fitsL_end (ns := ns) (ws := ws) (on := on))
      by_cases he : ns.length = ws.length
      · have he' : (ns.length : Int) = (ws.length : Int) := by omega
        have HE := hid he
        clear he
        go_wp2_with fail
        go_returns
        exact Pure.of (by rw [HFit.out, hst.out]; have hE := HE.out; first | (simp; omega) | (have hd : decide (ws.length ≤ ns.length) = false := by { simp; omega }; rw [hd]; simp; omega) | (have hd : decide (ws.length ≤ ns.length) = true := by { simp; omega }; rw [hd]; simp; omega)) hb
      · have he' : ¬ (ns.length : Int) = (ws.length : Int) := by omega
        have HE := hid he
        clear he
        go_wp2_with fail
        go_returns
        exact Pure.of (by rw [HFit.out, hst.out]; have hE := HE.out; first | (simp; omega) | (have hd : decide (ws.length ≤ ns.length) = false := by { simp; omega }; rw [hd]; simp; omega) | (have hd : decide (ws.length ≤ ns.length) = true := by { simp; omega }; rw [hd]; simp; omega)) hb
end Go.Proofs.Ytkblldmpdihamaa
