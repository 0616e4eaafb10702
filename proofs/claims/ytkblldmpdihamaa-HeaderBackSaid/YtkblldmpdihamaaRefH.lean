/-
  The document's headers (quillonref19): widths, how many bits a header has, numbers.
-/
import Derived.Test.YtkblldmpdihamaaRefN2
import Derived.Test.YtkblldmpdihamaaHeadB
set_option linter.unusedVariables false
set_option linter.unusedSimpArgs false
namespace Go.Proofs.Ytkblldmpdihamaa
open Go.RowKit

theorem bt_and (x y : BitVec 128) (i : Nat) : bt (x &&& y) i = (bt x i && bt y i) := by unfold bt; exact BitVec.getLsbD_and
theorem ones_all : (340282366920938463463374607431768211455#128 : BitVec 128) = BitVec.allOnes 128 := by decide
theorem bt_mask (k : Int) {i : Nat} (hi : i < 128) : bt (maskOf k) i = decide ((i : Int) < k) := by
  unfold maskOf bt
  split
  · simp; omega
  · rw [ones_all, BitVec.getLsbD_ushiftRight, BitVec.getLsbD_allOnes]
    by_cases h : (i : Int) < k
    · simp only [h, decide_true, decide_eq_true_eq]; omega
    · simp only [h, decide_false, decide_eq_false_iff_not]; omega
theorem bt_zero (i : Nat) : bt 0#128 i = false := by unfold bt; simp
theorem nOf_cut (n : BitVec 128) (k : Int) : nOf (cutF n k) = n &&& maskOf k := bt_ext fun i h => by rw [bt_nOf _ h, bt_and, bt_mask k h]; rfl
theorem rfits_fits (n : BitVec 128) (k : Int) : rfits n k = fits n k := by unfold rfits fits; rw [nOf_cut]

/-- A width that may be. -/
def wokB (x : Int) : Bool := decide (1 ≤ x) && decide (x ≤ 128)
set_option maxRecDepth 100000 in
theorem rwidths_any {w : World} {s : SL} {ws : List Int} (S : RdS w 1 s (ints ws)) : Calls Try.prog 25 #[s.v] w (Pure (.bool (ws.all wokB)) w) := by
  have hsn := S.int
  have hsm := S.2.1
  have HS := hid S
  clear S
  obtain ⟨sa, sn, sc⟩ := s
  simp only at hsn hsm
  subst hsn
  go_enter Try.func25, Try.ntmps25
  go_wp2_with fail
  go_loopw [3] (fun i wr => ∃ j : Nat, j ≤ ws.length ∧ i = .int .i64 j ∧ (ws.take j).all wokB = true ∧ Below w.heap.size w wr) (fun i _ => ws.length - (intOf i).toNat)
  case atStart => exact ⟨0, by omega, rfl, rfl, by (repeat' (first | (with_reducible exact Below.refl _ _) | (with_reducible refine Below.ext_mk ?_ ?_ _ _) | (with_reducible refine Below.alloc ?_ ?_ _) | (with_reducible refine Below.drew ?_) | (with_reducible refine Below.setCell ?_ ?_ _) | go_size))⟩
  case round =>
    obtain ⟨j, hj, rfl, hall, hb⟩ := hrel
    have hbs := hb.size
    by_cases hlt : j < ws.length
    · have hj1 : (j : Int) < (ws.length : Int) := by omega
      obtain ⟨b, off, e1, zb, c0⟩ := RdS.intAt HS.out hlt
      simp only at e1
      subst e1
      have d0 := (hb.cell (p := ⟨b, off + j, none⟩) zb).trans c0
      have zb' : b < wr.heap.size := by omega
      have hnext : (ws.take (j + 1)).all wokB = wokB ws[j] := by
        rw [List.take_succ_eq_append_getElem hlt, List.all_append, hall]; simp
      have hno : wokB ws[j] = false → ws.all wokB = false := fun h => by
        rw [Bool.eq_false_iff]
        intro ha
        rw [List.all_eq_true] at ha
        rw [ha _ (List.getElem_mem hlt)] at h
        cases h
      have HN := hid hnext
      have HO := hid hno
      clear c0 hnext hno
      generalize ws[j] = x at *
      by_cases k1 : x < 1
      · have HW : Hid (wokB x = false) := hid (by unfold wokB; simp; omega)
        go_wp2_with fail
        go_returns
        exact Pure.of (by rw [HO.out HW.out]; rfl) hb
      · by_cases k2 : 128 < x
        · have HW : Hid (wokB x = false) := hid (by unfold wokB; simp; omega)
          go_wp2_with fail
          go_returns
          exact Pure.of (by rw [HO.out HW.out]; rfl) hb
        · have HW : Hid (wokB x = true) := hid (by unfold wokB; simp; omega)
          go_wp2_with fail
          go_roundw
          case rel => exact ⟨j + 1, hlt, by go_num, by rw [HN.out, HW.out], hb⟩
          case measure => simp [intOf]; omega
    · obtain rfl : j = ws.length := by omega
      rw [List.take_length] at hall
      have HA := hid hall
      go_wp2_with fail
      go_returns
      exact Pure.of (by rw [HA.out]; rfl) hb

/-- Whether all numbers fit. -/
def rfitsL : List (BitVec 128) → List Int → Bool
  | [], ws => decide (ws.length = 0)
  | _ :: _, [] => false
  | n :: r, x :: ws => rfits n x && rfitsL r ws
theorem rfitsL_step {ns : List (BitVec 128)} {ws : List Int} {j : Nat} (h1 : j < ns.length) (h2 : j < ws.length) :
    rfitsL (ns.drop j) (ws.drop j) = (rfits ns[j] ws[j] && rfitsL (ns.drop (j + 1)) (ws.drop (j + 1))) := by
  rw [List.drop_eq_getElem_cons h1, List.drop_eq_getElem_cons h2, rfitsL]
theorem rfitsL_len : ∀ (ns : List (BitVec 128)) (ws : List Int), ns.length ≠ ws.length → rfitsL ns ws = false
  | [], ws, h => by simp [rfitsL] at h ⊢; intro e; exact h (by rw [e]; rfl)
  | _ :: _, [], _ => rfl
  | n :: r, x :: ws, h => by rw [rfitsL, rfitsL_len r ws (by simpa using h), Bool.and_false]
set_option maxRecDepth 100000 in
theorem rnumbers_any {w : World} {s t : SL} {ns : List (BitVec 128)} {ws : List Int} (S : RdS w 2 s (nums ns)) (T : RdS w 1 t (ints ws)) :
    Calls Try.prog 30 #[s.v, t.v] w (Pure (.bool (rfitsL ns ws)) w) := by
  have hsn : s.n = ns.length := by have := S.2.2.1; rw [nums_length] at this; omega
  have htn := T.int
  have hsm := S.2.1
  have htm := T.2.1
  have HS := hid S
  have HT := hid T
  clear S T
  obtain ⟨sa, sn, sc⟩ := s
  obtain ⟨ta, tn, tc⟩ := t
  simp only at hsn htn hsm htm
  subst hsn htn
  by_cases hlen : ns.length = ws.length
  · have hl1 : ((ns.length : Int) != (ws.length : Int)) = false := by simp [hlen]
    have HLen := hid hlen
    clear hlen
    go_enter Try.func30, Try.ntmps30
    go_wp2_with fail
    go_loopw [5] (fun i wr => ∃ j : Nat, j ≤ ns.length ∧ i = .int .i64 j ∧ rfitsL ns ws = rfitsL (ns.drop j) (ws.drop j) ∧ Below w.heap.size w wr) (fun i _ => ns.length - (intOf i).toNat)
    case atStart => exact ⟨0, by omega, rfl, rfl, by (repeat' (first | (with_reducible exact Below.refl _ _) | (with_reducible refine Below.ext_mk ?_ ?_ _ _) | (with_reducible refine Below.alloc ?_ ?_ _) | (with_reducible refine Below.drew ?_) | (with_reducible refine Below.setCell ?_ ?_ _) | go_size))⟩
    case round =>
      obtain ⟨j, hj, rfl, hfit, hb⟩ := hrel
      have hbs := hb.size
      have HFit := hid hfit
      clear hfit
      by_cases hlt : j < ns.length
      · have hj1 : (j : Int) < (ns.length : Int) := by omega
        have hw : j < ws.length := by have := HLen.out; omega
        have hj2 : (j : Int) < (ws.length : Int) := by omega
        obtain ⟨b, off, e1, zb, _, c0, c1⟩ := HS.out.num (i := j) (n := ns[j]) (by simp [hlt])
        simp only at e1
        subst e1
        have d0 := (hb.cell (p := ⟨b, off + j * 2, none⟩) zb).trans c0
        have d1 := (hb.cell (p := ⟨b, off + j * 2 + 1, none⟩) zb).trans c1
        have zb' : b < wr.heap.size := by omega
        clear c0 c1
        have hst := hid (rfitsL_step hlt hw)
        obtain ⟨b2, off2, e2, zb2, c2⟩ := RdS.intAt HT.out hw
        simp only at e2
        subst e2
        have d2 := (hb.cell (p := ⟨b2, off2 + j, none⟩) zb2).trans c2
        have zb2' : b2 < wr.heap.size := by omega
        have FT := hid (fun W => rfits_any ns[j] ws[j] W)
        generalize ns[j] = n at *
        generalize ws[j] = x at *
        clear c2
        generalize rfits n x = fb at *
        cases fb
        · go_upto_region 6 with (fail)
          refine wp_region_ext (by kernel_rfl) (by kernel_rfl) (fun F hF => ?_)
          have HF := hid hF; clear hF
          repeat (first
            | (apply text_skip; (focus rfl); simp only [Act.put, List.setIfInBounds_toArray, List.set_cons_zero, List.set_cons_succ])
            | (apply text_val; (focus rfl); (focus (intro _ _; go_simp; with_reducible rfl)); simp only [Act.put, List.setIfInBounds_toArray, List.set_cons_zero, List.set_cons_succ])
            | (apply text_call; (focus rfl); (focus (intro _ _; go_simp; exact ⟨rfl, rfl⟩)); (focus (intro _ _; with_reducible (exact FT.out _))); simp only [Act.put, List.setIfInBounds_toArray, List.set_cons_zero, List.set_cons_succ])
            | (apply text_if; (focus (first | exact wanted_t rfl rfl | exact wanted_f rfl rfl | exact wanted_gt rfl rfl | exact wanted_gf rfl rfl)); (focus (intro hc _ _; (try simp only [Bool.and_eq_true, Bool.not_eq_true', Bool.true_and] at hc); go_simp; with_reducible rfl)); simp only [Act.put, List.setIfInBounds_toArray, List.set_cons_zero, List.set_cons_succ])
            | (apply text_if_call; (focus (first | exact wanted_t rfl rfl | exact wanted_f rfl rfl | exact wanted_gt rfl rfl | exact wanted_gf rfl rfl)); (focus (intro hc _ _; (try simp only [Bool.and_eq_true, Bool.not_eq_true', Bool.true_and] at hc); go_simp; exact ⟨rfl, rfl⟩)); (focus (intro hc _ _; with_reducible (exact FT.out _))); simp only [Act.put, List.setIfInBounds_toArray, List.set_cons_zero, List.set_cons_succ]))
          refine text_nil (HF.out _ (fun mx dx => ?_))
          clear HF F
          go_wp2_with fail
          go_returns
          exact Pure.of (by rw [HFit.out, hst.out]; rfl) (Below.ext_mk hb hbs _ _)
        · go_upto_region 6 with (fail)
          refine wp_region_ext (by kernel_rfl) (by kernel_rfl) (fun F hF => ?_)
          have HF := hid hF; clear hF
          repeat (first
            | (apply text_skip; (focus rfl); simp only [Act.put, List.setIfInBounds_toArray, List.set_cons_zero, List.set_cons_succ])
            | (apply text_val; (focus rfl); (focus (intro _ _; go_simp; with_reducible rfl)); simp only [Act.put, List.setIfInBounds_toArray, List.set_cons_zero, List.set_cons_succ])
            | (apply text_call; (focus rfl); (focus (intro _ _; go_simp; exact ⟨rfl, rfl⟩)); (focus (intro _ _; with_reducible (exact FT.out _))); simp only [Act.put, List.setIfInBounds_toArray, List.set_cons_zero, List.set_cons_succ])
            | (apply text_if; (focus (first | exact wanted_t rfl rfl | exact wanted_f rfl rfl | exact wanted_gt rfl rfl | exact wanted_gf rfl rfl)); (focus (intro hc _ _; (try simp only [Bool.and_eq_true, Bool.not_eq_true', Bool.true_and] at hc); go_simp; with_reducible rfl)); simp only [Act.put, List.setIfInBounds_toArray, List.set_cons_zero, List.set_cons_succ])
            | (apply text_if_call; (focus (first | exact wanted_t rfl rfl | exact wanted_f rfl rfl | exact wanted_gt rfl rfl | exact wanted_gf rfl rfl)); (focus (intro hc _ _; (try simp only [Bool.and_eq_true, Bool.not_eq_true', Bool.true_and] at hc); go_simp; exact ⟨rfl, rfl⟩)); (focus (intro hc _ _; with_reducible (exact FT.out _))); simp only [Act.put, List.setIfInBounds_toArray, List.set_cons_zero, List.set_cons_succ]))
          refine text_nil (HF.out _ (fun mx dx => ?_))
          clear HF F
          go_wp2_with fail
          go_roundw
          case rel => exact ⟨j + 1, hlt, by go_num, by rw [HFit.out, hst.out]; simp, Below.ext_mk hb hbs _ _⟩
          case measure => simp [intOf]; omega
      · obtain rfl : j = ns.length := by omega
        have HE : Hid (rfitsL ns ws = true) := hid (by
          rw [HFit.out, List.drop_length, List.drop_eq_nil_of_le (by have := HLen.out; omega)]; rfl)
        go_wp2_with fail
        go_returns
        exact Pure.of (by rw [HE.out]; rfl) hb
  · have hl1 : ((ns.length : Int) != (ws.length : Int)) = true := by simp; omega
    have HE := hid (rfitsL_len ns ws hlen)
    clear hlen
    go_enter Try.func30, Try.ntmps30
    go_wp2_with fail
    go_returns
    exact Pure.of (by rw [HE.out]; rfl) (by (repeat' (first | (with_reducible exact Below.refl _ _) | (with_reducible refine Below.ext_mk ?_ ?_ _ _) | (with_reducible refine Below.alloc ?_ ?_ _) | (with_reducible refine Below.drew ?_) | (with_reducible refine Below.setCell ?_ ?_ _) | go_size)))
end Go.Proofs.Ytkblldmpdihamaa
